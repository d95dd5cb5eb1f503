/- Part of the walks and plain laws behind the claim: it proves helpers, under no condition beyond their own. -/
import Derived.Test.YtjfiedidpiopbaaGreatLsWk3
set_option linter.unusedVariables false
set_option maxRecDepth 100000
namespace Go.Proofs
open Go.Mr Go.Pu Go.PF Go.RowKit

set_option maxHeartbeats 4000000 in
theorem zdY {Ha:GH} {wa:World} (hs:Sl Ha wa) (v0:Value) (a0:List Int) (p0:RSl Ha eI 1 v0 a0) (v1:Value) (a1:List Int) (p1:RSl Ha eI 1 v1 a1) (v2:Value) (a2:Int→Int→Option Int) (p2:zcN Tryz.prog Ha v2 a2) {r:Int} (hp:(PF.zcC a0 a1 a2)=some r) :
  Calls Tryz.prog 108 #[v0,v1,v2] wa (Sc Ha wa (Value.int .i64 r)):=by
 unfold PF.zcC at hp
 have S0:=St.init hs
 refine zag (N:=39) (args:=[v0,v1,v2]) Tryz.func108 rfl rfl rfl ?_
 refine FW.seq (FW.region ?_)
 refine FL.v (E.assign (v:=Value.int .i64 0) rfl) ?_
 refine FL.nil (FW.seq (FW.seq (FW.region ?_)))
 refine FL.v (E.move (v:=v0) rfl) ?_
 refine FL.v (E.lenP te45 rfl p0) ?_
 refine FL.v (E.move (v:=Value.int .i64 0) rfl) ?_
 refine FL.nil ?_
 obtain ⟨q22,hq,hp⟩:=bndR hp
 refine FW.block ?_
 refine FW.mono (FW.forL (S:=Unit) (X:=Int) (fun (i22:Nat) (s22:Unit) f w=>∃ H:GH,St Ha wa H w []∧Inc Ha H∧f 13=Value.int .i64 ((i22:Nat):Int)∧f 0=v0∧f 1=v1∧f 2=v2∧f 11=v0∧f 12=Value.int .i64 (len a0)) (fun q e f w=>match q with|.go s22=>e=Exit.exit 0∧(∃ H:GH,St Ha wa H w []∧Inc Ha H∧f 0=v0∧f 1=v1)|.rt x=>((e=Exit.ret)∧(fun e f w=>(e=Exit.normal∨e=Exit.ret)∧∀ a,Fr (δ:=[]) 39 a f→∃ v,(results Tryz.f108 a.tmps).run Tryz.prog w=.ok v w∧(Sc Ha wa (Value.int .i64 x)) (.returned v) w) e f w)) hq ⟨_,S0,(Inc.rfl _),rfl,rfl,rfl,rfl,rfl,rfl⟩ ?_ ?_) ?_
 ·
  clear hp hq
  rintro i22 y21 s22 f64 w63 ⟨H60,S61,i62,k65,k66,k67,k68,k69,k70⟩ hx22 o97 hp
  refine FW.seq (FW.region ?_)
  refine FL.v (E.lssT k65 k70 (zaq hx22)) ?_
  refine FL.nil (FW.seq ?_)
  refine FW.condT rfl rfl ?_
  refine FW.skip (FW.seq (FW.block (FW.seq (FW.region ?_))))
  refine FL.v (E.move k65) ?_
  obtain ⟨p71,cs72,pt73,l74,at75,rel76⟩:=p0.at (zak hx22)
  obtain rfl:=eI_open rel76
  refine FL.v (E.indexAddr te45 k69 k65 pt73) ?_
  refine FL.v (E.load rfl (zae Tryz.isAgg3 ((at75.mono i62).now S61.sl) rfl)) ?_
  refine FL.v (E.assign (v:=Value.int .i64 ((i22:Nat):Int)) rfl) ?_
  refine FL.v (E.assign (v:=Value.int .i64 y21) rfl) ?_
  refine FL.nil (FW.seq (FW.seq (FW.region ?_)))
  refine FL.v (E.move (v:=Value.int .i64 ((i22:Nat):Int)) rfl) ?_
  refine FL.v (E.move k67) ?_
  refine FL.v (E.lenP te45 rfl p1) ?_
  refine FL.v (E.geq rfl rfl) ?_
  refine FL.nil ?_
  rcases ifB hp with ⟨c77,hp⟩|⟨c77,hp⟩
  ·
   refine FW.condT rfl c77 ?_
   refine FW.seq (FW.region ?_)
   refine FL.v (E.assign (v:=Value.int .i64 1) rfl) ?_
   refine FL.nil ?_
   refine FW.ret ?_
   obtain rfl:=Option.some.inj hp
   exact ⟨nofun,rfl,⟨.inr rfl,res1 rfl rfl ⟨rfl,S61.back⟩⟩⟩
  ·
   refine FW.condF rfl c77 ?_
   refine FW.skip (FW.seq (FW.region ?_))
   refine FL.v (E.move k67) ?_
   refine FL.v (E.move (v:=Value.int .i64 ((i22:Nat):Int)) rfl) ?_
   obtain ⟨x84,hx85,hp⟩:=bnd hp
   obtain ⟨p78,cs79,pt80,l81,at82,rel83⟩:=p1.at hx85
   obtain rfl:=eI_open rel83
   refine FL.v (E.indexAddr te45 rfl rfl pt80) ?_
   refine FL.v (E.load rfl (zae Tryz.isAgg3 ((at82.mono i62).now S61.sl) rfl)) ?_
   refine FL.v (E.assign (v:=Value.int .i64 x84) rfl) ?_
   refine FL.nil (FW.seq (FW.region ?_))
   refine FL.v (E.move k68) ?_
   refine FL.v (E.move (v:=Value.int .i64 y21) rfl) ?_
   refine FL.v (E.move (v:=Value.int .i64 x84) rfl) ?_
   obtain ⟨r86,hr87,hp⟩:=bnd hp
   obtain ⟨fi91,cs92,hv93,he94,hc95⟩:=(p2.mono i62) H60 w63 (Inc.rfl _) S61.sl y21 x84 r86 hr87
   refine FL.call rfl rfl rfl (E.callV he94 (Eq.trans rfl hv93) (appA (A2 rfl rfl) cs92)) hc95 ?_
   rintro e w88 ⟨rfl,r89⟩
   refine ⟨_,rfl,?_⟩
   have S90:=S61.call r89
   refine FL.v (E.assign (v:=Value.int .i64 r86) rfl) ?_
   refine FL.nil (FW.seq (FW.region ?_))
   refine FL.v (E.move (v:=Value.int .i64 r86) rfl) ?_
   refine FL.v (E.neq rfl rfl) ?_
   refine FL.nil ?_
   rcases ifB hp with ⟨c96,hp⟩|⟨c96,hp⟩
   ·
    refine FW.condT rfl c96 ?_
    refine FW.seq (FW.region ?_)
    refine FL.v (E.move (v:=Value.int .i64 r86) rfl) ?_
    refine FL.v (E.assign (v:=Value.int .i64 r86) rfl) ?_
    refine FL.nil ?_
    refine FW.ret ?_
    obtain rfl:=Option.some.inj hp
    exact ⟨nofun,rfl,⟨.inr rfl,res1 rfl rfl ⟨rfl,S90.back⟩⟩⟩
   ·
    refine FW.condF rfl c96 ?_
    refine FW.skip (FW.region ?_)
    refine FL.v (E.add k65 rfl) ?_
    refine FL.v (E.move (v:=Value.int .i64 (wr (((i22:Nat):Int) + 1))) rfl) ?_
    refine FL.nil ?_
    obtain rfl:=Option.some.inj hp
    exact ⟨rfl,⟨_,S90,i62,(zam rfl (zal hx22) (p0.mono i62).le),k66,k67,k68,k69,k70⟩⟩
 ·
  clear hp hq
  rintro s22 fAa wA9 ⟨HA6,SA7,iA8,kAb,kAc,kAd,kAe,kAf,kAg⟩
  refine FW.seq (FW.region ?_)
  refine FL.v (E.lss kAb kAg) ?_
  refine FL.nil (FW.seq ?_)
  refine FW.condF rfl zar ?_
  refine FW.exit ?_
  exact ⟨nofun,rfl,⟨_,SA7,iA8,kAc,kAd⟩⟩
 ·
  clear hq
  intro e fA2 wA1 hD
  rcases q22 with s22|x22
  ·
   obtain ⟨rfl,hD⟩:=hD
   obtain ⟨H98,S99,iA0,kA3,kA4⟩:=hD
   replace hp:=el_go hp
   refine FW.seq (FW.seq (FW.region ?_))
   refine FL.v (E.move kA3) ?_
   refine FL.v (E.lenP te45 rfl p0) ?_
   refine FL.v (E.move kA4) ?_
   refine FL.v (E.lenP te45 rfl p1) ?_
   refine FL.v (E.lss rfl rfl) ?_
   refine FL.nil ?_
   rcases ifB hp with ⟨cA5,hp⟩|⟨cA5,hp⟩
   ·
    refine FW.condT rfl cA5 ?_
    refine FW.seq (FW.region ?_)
    refine FL.v (E.assign (v:=Value.int .i64 (-1)) rfl) ?_
    refine FL.nil ?_
    refine FW.ret ?_
    obtain rfl:=Option.some.inj hp
    exact ⟨.inr rfl,res1 rfl rfl ⟨rfl,S99.back⟩⟩
   ·
    refine FW.condF rfl cA5 ?_
    refine FW.skip (FW.seq (FW.region ?_))
    refine FL.v (E.assign (v:=Value.int .i64 0) rfl) ?_
    refine FL.nil ?_
    refine FW.ret ?_
    obtain rfl:=Option.some.inj hp
    exact ⟨.inr rfl,res1 rfl rfl ⟨rfl,S99.back⟩⟩
  ·
   obtain ⟨he,hL⟩:=hD
   replace hp:=el_rt hp
   obtain rfl:=Option.some.inj hp
   subst he
   exact hL

theorem w_cmp_Or_int {Ha:GH} {wa:World} (hs:Sl Ha wa) (v0:Value) (a0:List Int) (p0:RSl Ha eI 1 v0 a0) {r:Int} (hp:(PF.zb5 a0)=some r) :
  Calls Tryz.prog 106 #[v0] wa (Sc Ha wa (Value.int .i64 r)):=by
 unfold PF.zb5 at hp
 have S0:=St.init hs
 refine zag (N:=18) (args:=[v0]) Tryz.func106 rfl rfl rfl ?_
 refine FW.seq (FW.region ?_)
 refine FL.v (E.assign (v:=Value.int .i64 0) rfl) ?_
 refine FL.nil (FW.seq (FW.region ?_))
 refine FL.v (E.assign (v:=Value.int .i64 0) rfl) ?_
 refine FL.nil (FW.seq (FW.seq (FW.region ?_)))
 refine FL.v (E.move (v:=v0) rfl) ?_
 refine FL.v (E.lenP te45 rfl p0) ?_
 refine FL.v (E.move (v:=Value.int .i64 0) rfl) ?_
 refine FL.nil ?_
 obtain ⟨q22,hq,hp⟩:=bndR hp
 refine FW.block ?_
 refine FW.mono (FW.forL (S:=Unit) (X:=Int) (fun (i22:Nat) (s22:Unit) f w=>∃ H:GH,St Ha wa H w []∧Inc Ha H∧f 8=Value.int .i64 ((i22:Nat):Int)∧f 3=Value.int .i64 0∧f 6=v0∧f 7=Value.int .i64 (len a0)) (fun q e f w=>match q with|.go s22=>e=Exit.exit 0∧(∃ H:GH,St Ha wa H w []∧Inc Ha H∧f 3=Value.int .i64 0)|.rt x=>((e=Exit.ret)∧(fun e f w=>(e=Exit.normal∨e=Exit.ret)∧∀ a,Fr (δ:=[]) 18 a f→∃ v,(results Tryz.f106 a.tmps).run Tryz.prog w=.ok v w∧(Sc Ha wa (Value.int .i64 x)) (.returned v) w) e f w)) hq ⟨_,S0,(Inc.rfl _),rfl,rfl,rfl,rfl⟩ ?_ ?_) ?_
 ·
  clear hp hq
  rintro i22 y21 s22 f43 w42 ⟨H39,S40,i41,k44,k45,k46,k47⟩ hx22 o55 hp
  refine FW.seq (FW.region ?_)
  refine FL.v (E.lssT k44 k47 (zaq hx22)) ?_
  refine FL.nil (FW.seq ?_)
  refine FW.condT rfl rfl ?_
  refine FW.skip (FW.seq (FW.block (FW.seq (FW.region ?_))))
  obtain ⟨p48,cs49,pt50,l51,at52,rel53⟩:=p0.at (zak hx22)
  obtain rfl:=eI_open rel53
  refine FL.v (E.indexAddr te45 k46 k44 pt50) ?_
  refine FL.v (E.load rfl (zae Tryz.isAgg3 ((at52.mono i41).now S40.sl) rfl)) ?_
  refine FL.v (E.assign (v:=Value.int .i64 y21) rfl) ?_
  refine FL.nil (FW.seq (FW.region ?_))
  refine FL.v (E.move (v:=Value.int .i64 y21) rfl) ?_
  refine FL.v (E.move k45) ?_
  refine FL.v (E.neq rfl rfl) ?_
  refine FL.nil ?_
  rcases ifB hp with ⟨c54,hp⟩|⟨c54,hp⟩
  ·
   refine FW.condT rfl c54 ?_
   refine FW.seq (FW.region ?_)
   refine FL.v (E.move (v:=Value.int .i64 y21) rfl) ?_
   refine FL.v (E.assign (v:=Value.int .i64 y21) rfl) ?_
   refine FL.nil ?_
   refine FW.ret ?_
   obtain rfl:=Option.some.inj hp
   exact ⟨nofun,rfl,⟨.inr rfl,res1 rfl rfl ⟨rfl,S40.back⟩⟩⟩
  ·
   refine FW.condF rfl c54 ?_
   refine FW.skip (FW.region ?_)
   refine FL.v (E.add k44 rfl) ?_
   refine FL.v (E.move (v:=Value.int .i64 (wr (((i22:Nat):Int) + 1))) rfl) ?_
   refine FL.nil ?_
   obtain rfl:=Option.some.inj hp
   exact ⟨rfl,⟨_,S40,i41,(zam rfl (zal hx22) (p0.mono i41).le),k45,k46,k47⟩⟩
 ·
  clear hp hq
  rintro s22 f66 w65 ⟨H62,S63,i64,k67,k68,k69,k70⟩
  refine FW.seq (FW.region ?_)
  refine FL.v (E.lss k67 k70) ?_
  refine FL.nil (FW.seq ?_)
  refine FW.condF rfl zar ?_
  refine FW.exit ?_
  exact ⟨nofun,rfl,⟨_,S63,i64,k68⟩⟩
 ·
  clear hq
  intro e f60 w59 hD
  rcases q22 with s22|x22
  ·
   obtain ⟨rfl,hD⟩:=hD
   obtain ⟨H56,S57,i58,k61⟩:=hD
   replace hp:=el_go hp
   refine FW.seq (FW.region ?_)
   refine FL.v (E.move k61) ?_
   refine FL.v (E.assign (v:=Value.int .i64 0) rfl) ?_
   refine FL.nil ?_
   refine FW.ret ?_
   obtain rfl:=Option.some.inj hp
   exact ⟨.inr rfl,res1 rfl rfl ⟨rfl,S57.back⟩⟩
  ·
   obtain ⟨he,hL⟩:=hD
   replace hp:=el_rt hp
   obtain rfl:=Option.some.inj hp
   subst he
   exact hL

theorem zdJ {Ha:GH} {wa:World} (hs:Sl Ha wa) (a0:Int) (a1:Int) {r:Int} (hp:(PF.zaE a0 a1)=some r) :
  Calls Tryz.prog 109 #[Value.int .i64 a0,Value.int .i64 a1] wa (Sc Ha wa (Value.int .i64 r)):=by
 unfold PF.zaE at hp
 have S0:=St.init hs
 refine zag (N:=15) (args:=[Value.int .i64 a0,Value.int .i64 a1]) Tryz.func109 rfl rfl rfl ?_
 refine FW.seq (FW.region ?_)
 refine FL.v (E.assign (v:=Value.int .i64 0) rfl) ?_
 refine FL.nil (FW.seq (FW.region ?_))
 refine FL.v (E.move (v:=Value.int .i64 a0) rfl) ?_
 refine FL.call rfl rfl rfl (E.call Tryz.call117 (A1 rfl)) (zcS S0.sl a0) ?_
 rintro e w21 ⟨rfl,r22⟩
 refine ⟨_,rfl,?_⟩
 have S23:=S0.call r22
 refine FL.v (E.move (v:=Value.int .i64 a1) rfl) ?_
 refine FL.call rfl rfl rfl (E.call Tryz.call117 (A1 rfl)) (zcS S23.sl a1) ?_
 rintro e w24 ⟨rfl,r25⟩
 refine ⟨_,rfl,?_⟩
 have S26:=S23.call r25
 refine FL.call rfl rfl rfl (E.call Tryz.call107 (A2 rfl rfl)) (zdr S26.sl (PF.zat a0) (PF.zat a1)) ?_
 rintro e w27 ⟨rfl,r28⟩
 refine ⟨_,rfl,?_⟩
 have S29:=S26.call r28
 refine FL.v (E.move (v:=Value.int .i64 a1) rfl) ?_
 refine FL.v (E.move (v:=Value.int .i64 a0) rfl) ?_
 refine FL.call rfl rfl rfl (E.call Tryz.call107 (A2 rfl rfl)) (zdr S29.sl a1 a0) ?_
 rintro e w30 ⟨rfl,r31⟩
 refine ⟨_,rfl,?_⟩
 have S32:=S29.call r31
 obtain ⟨v33,w34,run35,S36,els37⟩:=S32.ints (P:=Tryz.prog) te45 (up wa.heap.size Ha) 2 [(PF.zaO (PF.zat a0) (PF.zat a1)),(PF.zaO a1 a0)]
 refine FL.v (E.buildSlice (B2 rfl rfl) run35) ?_
 obtain ⟨H38,S39,i40,h41,nv42⟩:=S36.sealRowU (i:=0) (l':=[]) rfl els37 (by decide) rfl
 obtain ⟨r43,hr44,hp⟩:=bnd hp
 refine FL.call rfl rfl rfl (E.call Tryz.call106 (A1 rfl)) (w_cmp_Or_int S39.sl v33 [(PF.zaO (PF.zat a0) (PF.zat a1)),(PF.zaO a1 a0)] (h41.mono upI) hr44) ?_
 rintro e w45 ⟨rfl,r46⟩
 refine ⟨_,rfl,?_⟩
 have r46:=Run.lend i40 S36.sl r46
 have S47:=S36.call r46
 refine FL.v (E.assign (v:=Value.int .i64 r43) rfl) ?_
 refine FL.nil ?_
 refine FW.ret ?_
 obtain rfl:=Option.some.inj hp
 exact ⟨.inr rfl,res1 rfl rfl ⟨rfl,S47.back⟩⟩

theorem zdZ {Ha:GH} {wa:World} (hs:Sl Ha wa) (v0:Value) (a0:List Int) (p0:RSl Ha eI 1 v0 a0) (v1:Value) (a1:List Int) (p1:RSl Ha eI 1 v1 a1) {r:Int} (hp:(PF.za6 a0 a1)=some r) :
  Calls Tryz.prog 76 #[v0,v1] wa (Sc Ha wa (Value.int .i64 r)):=by
 unfold PF.za6 at hp
 have S0:=St.init hs
 refine zag (N:=15) (args:=[v0,v1]) Tryz.func76 rfl rfl rfl ?_
 refine FW.seq (FW.region ?_)
 refine FL.v (E.assign (v:=Value.int .i64 0) rfl) ?_
 refine FL.nil (FW.seq (FW.region ?_))
 refine FL.v (E.move (v:=v0) rfl) ?_
 refine FL.v (E.lenP te45 rfl p0) ?_
 refine FL.v (E.move (v:=v1) rfl) ?_
 refine FL.v (E.lenP te45 rfl p1) ?_
 refine FL.call rfl rfl rfl (E.call Tryz.call107 (A2 rfl rfl)) (zdr S0.sl (len a0) (len a1)) ?_
 rintro e w21 ⟨rfl,r22⟩
 refine ⟨_,rfl,?_⟩
 have S23:=S0.call r22
 refine FL.v (E.move (v:=v0) rfl) ?_
 refine FL.v (E.move (v:=v1) rfl) ?_
 obtain ⟨r24,hr25,hp⟩:=bnd hp
 refine FL.call rfl rfl rfl (E.call Tryz.call108 (A3 rfl rfl rfl)) (zdY S23.sl v0 a0 p0 v1 a1 p1 (Value.func (.func 109) #[] #[]) (fun x0 x1=>PF.zaE x0 x1) (fun H2 w2 hi2 hs2 x0 x1 r hr=>⟨109,#[],rfl,Tryz.call109,zdJ hs2 x0 x1  hr⟩) hr25) ?_
 rintro e w26 ⟨rfl,r27⟩
 refine ⟨_,rfl,?_⟩
 have S28:=S23.call r27
 obtain ⟨v29,w30,run31,S32,els33⟩:=S28.ints (P:=Tryz.prog) te45 (up wa.heap.size Ha) 2 [(PF.zaO (len a0) (len a1)),r24]
 refine FL.v (E.buildSlice (B2 rfl rfl) run31) ?_
 obtain ⟨H34,S35,i36,h37,nv38⟩:=S32.sealRowU (i:=0) (l':=[]) rfl els33 (by decide) rfl
 obtain ⟨r39,hr40,hp⟩:=bnd hp
 refine FL.call rfl rfl rfl (E.call Tryz.call106 (A1 rfl)) (w_cmp_Or_int S35.sl v29 [(PF.zaO (len a0) (len a1)),r24] (h37.mono upI) hr40) ?_
 rintro e w41 ⟨rfl,r42⟩
 refine ⟨_,rfl,?_⟩
 have r42:=Run.lend i36 S32.sl r42
 have S43:=S32.call r42
 refine FL.v (E.assign (v:=Value.int .i64 r39) rfl) ?_
 refine FL.nil ?_
 refine FW.ret ?_
 obtain rfl:=Option.some.inj hp
 exact ⟨.inr rfl,res1 rfl rfl ⟨rfl,S43.back⟩⟩

@[reducible] def zd0 (Ha:GH) (wa:World) (r:(List (List Int))):Ending→World→Prop :=
 fun e w'=>∃ H':GH,∃ v0:Value,∃ n0:Nat,∃ c0:List Value,e=.returned (v0)∧St Ha wa H' w' [.row 45 1 v0 n0 c0]∧Els (up wa.heap.size H') (eL eI 1) 1 c0 r∧(bl c0).Nodup
set_option maxHeartbeats 4000000 in
theorem zd1 {Ha:GH} {wa:World} (hs:Sl Ha wa) (q0P:Addr) (a0:zbl) (v0P_0:Value) (v0P_1:Value) (p0P_0:RSl Ha (eN .u16) 1 v0P_0 a0.masks) (p0P_1:MAt (K:=Int) (V:=Int) Ha (Value.int .u16) (Value.int .i64) v0P_1 a0.rounds) (c0P:CAt Ha q0P [v0P_0,v0P_1,Value.int .i64 a0.last]) {r:(List (List Int))} (hp:(PF.zcD a0)=some r) :
  Calls Tryz.prog 50 #[Value.pointer (some q0P)] wa (zd0 Ha wa r):=by
 unfold PF.zcD at hp
 have S0:=St.init hs
 refine zag (N:=24) (args:=[Value.pointer (some q0P)]) Tryz.func50 rfl rfl rfl ?_
 refine FW.seq (FW.region ?_)
 refine FL.v (E.assign (v:=Value.slice none 0 0) rfl) ?_
 refine FL.nil (FW.seq (FW.region ?_))
 refine FL.v (E.assign (v:=Value.slice none 0 0) rfl) ?_
 refine FL.nil (FW.seq (FW.seq (FW.region ?_)))
 refine FL.v (E.move (v:=Value.pointer (some q0P)) rfl) ?_
 refine FL.v (E.nilCheck rfl) ?_
 refine FL.v (E.fieldAddr zbr rfl) ?_
 refine FL.v (E.load rfl (zah Tryz.isAgg101 (c0P.now S0.sl) rfl)) ?_
 refine FL.v (E.lenP te101 rfl p0P_0) ?_
 refine FL.v (E.move (v:=Value.int .i64 0) rfl) ?_
 refine FL.nil ?_
 obtain ⟨q22,hq,hp⟩:=bndR hp
 refine FW.block ?_
 refine FW.mono (FW.forL (S:=(List (List Int))) (X:=Empty) (fun (i22:Nat) (s22:(List (List Int))) f w=>∃ H:GH,∃ v23:Value,∃ n24:Nat,∃ cs25:List Value,St Ha wa H w [.row 45 1 v23 n24 cs25]∧Inc Ha H∧Els (up wa.heap.size H) (eL eI 1) 1 cs25 s22∧(bl cs25).Nodup∧f 11=Value.int .i64 ((i22:Nat):Int)∧f 3=v23∧f 9=v0P_0∧f 10=Value.int .i64 (len a0.masks)) (fun (q:Rs (List (List Int)) Empty) e f w=>match q with|.go s22=>e=Exit.exit 0∧(∃ H:GH,∃ v23:Value,∃ n24:Nat,∃ cs25:List Value,St Ha wa H w [.row 45 1 v23 n24 cs25]∧Inc Ha H∧Els (up wa.heap.size H) (eL eI 1) 1 cs25 s22∧(bl cs25).Nodup∧f 3=v23)|.rt x=>x.elim) hq ⟨_,_,_,_,(S0.nil 45 1),(Inc.rfl _),Els.nil,List.nodup_nil,rfl,rfl,rfl,rfl⟩ ?_ ?_) ?_
 ·
  clear hp hq
  rintro i22 y21 s22 f80 w79 ⟨H76,v23,n24,cs25,S77,i78,els26,nd27,k81,k82,k83,k84⟩ hx22 oAo hp
  refine FW.seq (FW.region ?_)
  refine FL.v (E.lssT k81 k84 (zaq hx22)) ?_
  refine FL.nil (FW.seq ?_)
  refine FW.condT rfl rfl ?_
  refine FW.skip (FW.seq (FW.block (FW.seq (FW.region ?_))))
  obtain ⟨p85,cs86,pt87,l88,at89,rel90⟩:=p0P_0.at (zak hx22)
  obtain rfl:=eN_open rel90
  refine FL.v (E.indexAddr te101 k83 k81 pt87) ?_
  refine FL.v (E.load rfl (zae Tryz.isAgg106 ((at89.mono i78).now S77.sl) rfl)) ?_
  refine FL.v (E.assign (v:=Value.int .u16 y21) rfl) ?_
  refine FL.nil (FW.region ?_)
  refine FL.v (E.move k82) ?_
  refine FL.v (E.move (v:=Value.int .u16 y21) rfl) ?_
  obtain ⟨r91,hr92,hp⟩:=bnd hp
  refine FL.call rfl rfl rfl (E.call Tryz.call74 (A1 rfl)) (w_impl_mask_clause S77.sl y21 hr92) ?_
  rintro e w94 ⟨H93,v97,n98,cs99,rfl,r96,elsA0⟩
  refine ⟨_,rfl,?_⟩
  have elsA0:=elsA0.mono (up_le S77.size)
  have S95:=S77.join (l':=[.row 3 1 v97 n98 cs99,.row 45 1 v23 n24 cs25]) r96 rfl
  obtain ⟨HA1,SA2,iA3,hA4,nvA5⟩:=S95.sealRowU (i:=0) (l':=[.row 45 1 v23 n24 cs25]) rfl elsA0 (by decide) rfl
  obtain ⟨vA6,wA7,runA8,SA9⟩:=SA2.buildSlice (P:=Tryz.prog) te22 [v97] (parts:=#[(0,v97)]) (cells:=[v97]) rfl (zaH (zbs hA4.cells) zaw) (zaG hA4.cells zav) (zab hA4.one zad) (Nat.le_of_ble_eq_true rfl)
  have elsAa:Els (up wa.heap.size HA1) (eL eI 1) 1 [v97] [r91]:=(Els.snoc (H:=(up wa.heap.size HA1)) (E:=(eL eI 1)) (k:=1) (c:=[v97]) (x:=r91) Els.nil rfl ⟨_,rfl,hA4⟩)
  have ndAb:(bl [v97]).Nodup:=by exact nd_one v97
  refine FL.v (E.buildSlice (B1 rfl) runA8) ?_
  obtain ⟨xsAc,hzAd,hp⟩:=bnd hp
  obtain ⟨vAe,wAh,nAf,csAg,runAi,SAj,elsAk,ceAl⟩:=SA9.appendO (P:=Tryz.prog) te22 (i:=1) (j:=0) rfl (els26.mono (zaf (r96.run.inc.tr iA3))) rfl elsAa hzAd
  have SAj:St Ha wa HA1 wAh [.row 45 1 vA6 1 [v97],.row 45 1 vAe nAf csAg]:=SAj
  have ndAm:(bl csAg).Nodup:=by rw [ceAl];exact nd_app nd27 ndAb (Els.dom (els26.mono (upI.tr r96.run.inc))) (by exact nvA5)
  have SAn:St Ha wa HA1 wAh [.row 45 1 vAe nAf csAg]:=SAj.drop 0
  refine FL.v (E.append rfl rfl runAi) ?_
  refine FL.v (E.assign (v:=vAe) rfl) ?_
  refine FL.nil (FW.region ?_)
  refine FL.v (E.add k81 rfl) ?_
  refine FL.v (E.move (v:=Value.int .i64 (wr (((i22:Nat):Int) + 1))) rfl) ?_
  refine FL.nil ?_
  obtain rfl:=Option.some.inj hp
  exact ⟨rfl,⟨_,_,_,_,SAn,((i78.tr r96.run.inc).tr iA3),elsAk,ndAm,(zam rfl (zal hx22) (p0P_0.mono ((i78.tr r96.run.inc).tr iA3)).le),rfl,k83,k84⟩⟩
 ·
  clear hp hq
  rintro s22 fAI wAH ⟨HAE,v23,n24,cs25,SAF,iAG,els26,nd27,kAJ,kAK,kAL,kAM⟩
  refine FW.seq (FW.region ?_)
  refine FL.v (E.lss kAJ kAM) ?_
  refine FL.nil (FW.seq ?_)
  refine FW.condF rfl zar ?_
  refine FW.exit ?_
  exact ⟨nofun,rfl,⟨_,_,_,_,SAF,iAG,els26,nd27,kAK⟩⟩
 ·
  clear hq
  intro e fAt wAs hD
  rcases q22 with s22|x22
  ·
   obtain ⟨rfl,hD⟩:=hD
   obtain ⟨HAp,v23,n24,cs25,SAq,iAr,els26,nd27,kAu⟩:=hD
   replace hp:=el_go hp
   refine FW.seq (FW.region ?_)
   refine FL.v (E.move kAu) ?_
   obtain ⟨rAv,hrAw,hp⟩:=bnd hp
   refine FL.call rfl rfl rfl (E.call Tryz.call75 (A2 rfl rfl)) (zdX (L:=[]) SAq s22 els26 nd27 (Value.func (.func 76) #[] #[]) (fun x0 x1=>PF.za6 x0 x1) (fun H2 w2 hi2 hs2 x0 y0 z0 x1 y1 z1 r hr=>⟨76,#[],rfl,Tryz.call76,zdZ hs2 y0 x0 z0 y1 x1 z1  hr⟩) hrAw) ?_
   rintro e wAy ⟨HAx,csAB,rfl,⟨SAz,iAA⟩,elsAC,ndAD⟩
   refine ⟨_,rfl,?_⟩
   have SAz:St Ha wa HAx wAy [.row 45 1 v23 n24 csAB]:=SAz
   refine FL.nil (FW.seq (FW.region ?_))
   refine FL.v (E.move kAu) ?_
   refine FL.v (E.assign (v:=v23) rfl) ?_
   refine FL.nil ?_
   refine FW.ret ?_
   obtain rfl:=Option.some.inj hp
   exact ⟨.inr rfl,res1 rfl rfl ⟨_,_,_,_,rfl,SAz,elsAC,ndAD⟩⟩
  ·
   exact x22.elim

@[reducible] def p_impl_derivable (Ha:GH) (wa:World) (r:((List (List Int))×Bool)):Ending→World→Prop :=
 fun e w'=>∃ H':GH,∃ v0:Value,∃ n0:Nat,∃ c0:List Value,e=.returned (Value.tuple #[v0,Value.bool r.2])∧St Ha wa H' w' [.row 45 1 v0 n0 c0]∧Els (up wa.heap.size H') (eL eI 1) 1 c0 r.1∧(bl c0).Nodup
theorem w_impl_derivable {Ha:GH} {wa:World} (hs:Sl Ha wa) (a0:Cnf) (v0_1:Value) (p0_1:RSl Ha (eL eI 1) 1 v0_1 a0.clauses) {r:((List (List Int))×Bool)} (hp:(PF.zb6 a0)=some r) :
  Calls Tryz.prog 25 #[Value.agg #[Value.int .i64 a0.vars,v0_1]] wa (p_impl_derivable Ha wa r):=by
 unfold PF.zb6 at hp
 have S0:=St.init hs
 refine zag (N:=15) (args:=[Value.agg #[Value.int .i64 a0.vars,v0_1]]) Tryz.func25 rfl rfl rfl ?_
 refine FW.seq (FW.region ?_)
 obtain ⟨b21,w22,run23,S24⟩:=S0.box (P:=Tryz.prog) 28 [Value.int .i64 a0.vars,v0_1] (v:=Value.agg #[Value.int .i64 a0.vars,v0_1]) rfl (zab rfl (zab p0_1.one zad))
 refine FL.v (E.box rfl run23) ?_
 obtain ⟨H25,S26,i27,at28⟩:=S24.sealBox (i:=0) (l':=[]) rfl rfl
 refine FL.v (E.assign (v:=Value.slice none 0 0) rfl) ?_
 refine FL.v (E.assign (v:=Value.bool false) rfl) ?_
 refine FL.nil (FW.seq (FW.seq (FW.region ?_)))
 refine FL.v (E.load rfl (zax Tryz.isAgg28 Tryz.sizeOf28 (at28.now S26.sl) rfl)) ?_
 obtain ⟨r29,hr30,hp⟩:=bnd hp
 refine FL.call rfl rfl rfl (E.call Tryz.call48 (A2 rfl rfl)) (w_impl_narrowOk S26.sl a0 v0_1 (p0_1.mono i27) 0 hr30) ?_
 rintro e w31 ⟨rfl,r32⟩
 refine ⟨_,rfl,?_⟩
 have S33:=S26.call r32
 refine FL.v (E.not rfl) ?_
 refine FL.nil ?_
 rcases ifB hp with ⟨c34,hp⟩|⟨c34,hp⟩
 ·
  refine FW.condT rfl c34 ?_
  refine FW.seq (FW.region ?_)
  refine FL.v (E.assign (v:=Value.slice none 0 0) rfl) ?_
  refine FL.v (E.assign (v:=Value.bool false) rfl) ?_
  refine FL.nil ?_
  refine FW.ret ?_
  obtain rfl:=Option.some.inj hp
  exact ⟨.inr rfl,res2 rfl rfl rfl ⟨_,_,_,_,rfl,(S33.nil 45 1),Els.nil,List.nodup_nil⟩⟩
 ·
  refine FW.condF rfl c34 ?_
  refine FW.skip (FW.seq (FW.region ?_))
  refine FL.v (E.load rfl (zax Tryz.isAgg28 Tryz.sizeOf28 (at28.now S33.sl) rfl)) ?_
  obtain ⟨r35,hr36,hp⟩:=bnd hp
  refine FL.call rfl rfl rfl (E.call Tryz.call49 (A2 rfl rfl)) (w_impl_closureOf S33.sl a0 v0_1 (p0_1.mono i27) 6 hr36) ?_
  rintro e w38 ⟨H37,v41,rfl,r40,h42⟩
  refine ⟨_,rfl,?_⟩
  have S39:=S33.call r40
  obtain ⟨y43,hy44,hp⟩:=bnd hp
  rw [hy44] at h42
  obtain ⟨q45,rfl,v46,v49,h47,h50,at51⟩:=h42
  have nv48:New H25 [v46]:=New.of_up S33.sl h47.dom
  have h47:=h47.mono (up_le S33.size)
  obtain ⟨r52,hr53,hp⟩:=bnd hp
  refine FL.call rfl rfl rfl (E.call Tryz.call50 (A1 rfl)) (zd1 S39.sl q45 y43 v46 v49 (h47.mono upI) h50 at51 hr53) ?_
  rintro e w55 ⟨H54,v58,n59,cs60,rfl,r57,els61,nd62⟩
  refine ⟨_,rfl,?_⟩
  have nv63:New H37 cs60:=New.of_up S39.sl els61.dom
  have els61:=els61.mono (up_le S39.size)
  have S56:=S39.join (l':=[.row 45 1 v58 n59 cs60]) r57 rfl
  refine FL.v (E.assign (v:=v58) rfl) ?_
  refine FL.nil (FW.seq (FW.region ?_))
  refine FL.v (E.move (v:=v58) rfl) ?_
  refine FL.v (E.move (v:=v58) rfl) ?_
  refine FL.v (E.lenO te22 rfl S56 (i:=0) rfl els61 (by decide)) ?_
  refine FL.v (E.leq rfl rfl) ?_
  refine FL.v (E.assign (v:=v58) rfl) ?_
  refine FL.v (E.assign (v:=Value.bool (decide ((len r52)≤14))) rfl) ?_
  refine FL.nil ?_
  refine FW.ret ?_
  obtain rfl:=Option.some.inj hp
  exact ⟨.inr rfl,res2 rfl rfl rfl ⟨_,_,_,_,rfl,S56,els61,nd62⟩⟩

theorem zd2 {Ha:GH} {wa:World} (hs:Sl Ha wa) (v0:Value) (a0:List (List Int)) (p0:RSl Ha (eL eI 1) 1 v0 a0) (v1:Value) (a1:(List Int)→Option Bool) (p1:zc8 Tryz.prog Ha v1 a1) {r:Int} (hp:(PF.zbM a0 a1)=some r) :
  Calls Tryz.prog 81 #[v0,v1] wa (Sc Ha wa (Value.int .i64 r)):=by
 unfold PF.zbM at hp
 have S0:=St.init hs
 refine zag (N:=19) (args:=[v0,v1]) Tryz.func81 rfl rfl rfl ?_
 refine FW.seq (FW.region ?_)
 refine FL.v (E.assign (v:=Value.int .i64 0) rfl) ?_
 refine FL.nil (FW.seq (FW.seq (FW.region ?_)))
 refine FL.v (E.move (v:=v0) rfl) ?_
 refine FL.v (E.lenP te22 rfl p0) ?_
 refine FL.v (E.move (v:=Value.int .i64 0) rfl) ?_
 refine FL.nil ?_
 obtain ⟨q22,hq,hp⟩:=bndR hp
 refine FW.block ?_
 refine FW.mono (FW.forL (S:=Unit) (X:=Int) (fun (i22:Nat) (s22:Unit) f w=>∃ H:GH,St Ha wa H w []∧Inc Ha H∧f 8=Value.int .i64 ((i22:Nat):Int)∧f 0=v0∧f 1=v1∧f 7=Value.int .i64 (len a0)) (fun q e f w=>match q with|.go s22=>e=Exit.exit 0∧(∃ H:GH,St Ha wa H w []∧Inc Ha H)|.rt x=>((e=Exit.ret)∧(fun e f w=>(e=Exit.normal∨e=Exit.ret)∧∀ a,Fr (δ:=[]) 19 a f→∃ v,(results Tryz.f81 a.tmps).run Tryz.prog w=.ok v w∧(Sc Ha wa (Value.int .i64 x)) (.returned v) w) e f w)) hq ⟨_,S0,(Inc.rfl _),rfl,rfl,rfl,rfl⟩ ?_ ?_) ?_
 ·
  clear hp hq
  rintro i22 y21 s22 f55 w54 ⟨H51,S52,i53,k56,k57,k58,k59⟩ hx22 o79 hp
  refine FW.seq (FW.region ?_)
  refine FL.v (E.lssT k56 k59 (zaq hx22)) ?_
  refine FL.nil (FW.seq ?_)
  refine FW.condT rfl rfl ?_
  refine FW.skip (FW.seq (FW.block (FW.seq (FW.region ?_))))
  refine FL.v (E.move k56) ?_
  refine FL.v (E.assign (v:=Value.int .i64 ((i22:Nat):Int)) rfl) ?_
  refine FL.nil (FW.seq (FW.region ?_))
  refine FL.v (E.move k58) ?_
  refine FL.v (E.move k57) ?_
  refine FL.v (E.move (v:=Value.int .i64 ((i22:Nat):Int)) rfl) ?_
  obtain ⟨p60,cs61,pt62,l63,at64,rel65⟩:=p0.at (zak hx22)
  obtain ⟨v66,rfl,h67⟩:=eL_open rel65
  refine FL.v (E.indexAddr te22 rfl rfl pt62) ?_
  refine FL.v (E.load rfl (zae Tryz.isAgg45 ((at64.mono i53).now S52.sl) rfl)) ?_
  obtain ⟨r68,hr69,hp⟩:=bnd hp
  obtain ⟨fi73,cs74,hv75,he76,hc77⟩:=(p1.mono i53) H51 w54 (Inc.rfl _) S52.sl y21 v66 (h67.mono i53) r68 hr69
  refine FL.call rfl rfl rfl (E.callV he76 (Eq.trans rfl hv75) (appA (A1 rfl) cs74)) hc77 ?_
  rintro e w70 ⟨rfl,r71⟩
  refine ⟨_,rfl,?_⟩
  have S72:=S52.call r71
  refine FL.nil ?_
  rcases ifB hp with ⟨c78,hp⟩|⟨c78,hp⟩
  ·
   refine FW.condT rfl c78 ?_
   refine FW.seq (FW.region ?_)
   refine FL.v (E.move (v:=Value.int .i64 ((i22:Nat):Int)) rfl) ?_
   refine FL.v (E.assign (v:=Value.int .i64 ((i22:Nat):Int)) rfl) ?_
   refine FL.nil ?_
   refine FW.ret ?_
   obtain rfl:=Option.some.inj hp
   exact ⟨nofun,rfl,⟨.inr rfl,res1 rfl rfl ⟨rfl,S72.back⟩⟩⟩
  ·
   refine FW.condF rfl c78 ?_
   refine FW.skip (FW.region ?_)
   refine FL.v (E.add k56 rfl) ?_
   refine FL.v (E.move (v:=Value.int .i64 (wr (((i22:Nat):Int) + 1))) rfl) ?_
   refine FL.nil ?_
   obtain rfl:=Option.some.inj hp
   exact ⟨rfl,⟨_,S72,i53,(zam rfl (zal hx22) (p0.mono i53).le),k57,k58,k59⟩⟩
 ·
  clear hp hq
  rintro s22 f89 w88 ⟨H85,S86,i87,k90,k91,k92,k93⟩
  refine FW.seq (FW.region ?_)
  refine FL.v (E.lss k90 k93) ?_
  refine FL.nil (FW.seq ?_)
  refine FW.condF rfl zar ?_
  refine FW.exit ?_
  exact ⟨nofun,rfl,⟨_,S86,i87⟩⟩
 ·
  clear hq
  intro e f84 w83 hD
  rcases q22 with s22|x22
  ·
   obtain ⟨rfl,hD⟩:=hD
   obtain ⟨H80,S81,i82⟩:=hD
   replace hp:=el_go hp
   refine FW.seq (FW.region ?_)
   refine FL.v (E.assign (v:=Value.int .i64 (-1)) rfl) ?_
   refine FL.nil ?_
   refine FW.ret ?_
   obtain rfl:=Option.some.inj hp
   exact ⟨.inr rfl,res1 rfl rfl ⟨rfl,S81.back⟩⟩
  ·
   obtain ⟨he,hL⟩:=hD
   replace hp:=el_rt hp
   obtain rfl:=Option.some.inj hp
   subst he
   exact hL

set_option maxHeartbeats 4000000 in
theorem zd3 {Ha:GH} {wa:World} (hs:Sl Ha wa) (v0:Value) (a0:List Int) (p0:RSl Ha eI 1 v0 a0) (v1:Value) (a1:List Int) (p1:RSl Ha eI 1 v1 a1) {r:Bool} (hp:(PF.zc2 a0 a1)=some r) :
  Calls Tryz.prog 83 #[v0,v1] wa (Sc Ha wa (Value.bool r)):=by
 unfold PF.zc2 at hp
 have S0:=St.init hs
 refine zag (N:=26) (args:=[v0,v1]) Tryz.func83 rfl rfl rfl ?_
 refine FW.seq (FW.region ?_)
 refine FL.v (E.assign (v:=Value.bool false) rfl) ?_
 refine FL.nil (FW.seq (FW.seq (FW.region ?_)))
 refine FL.v (E.move (v:=v0) rfl) ?_
 refine FL.v (E.lenP te45 rfl p0) ?_
 refine FL.v (E.move (v:=v1) rfl) ?_
 refine FL.v (E.lenP te45 rfl p1) ?_
 refine FL.v (E.neq rfl rfl) ?_
 refine FL.nil ?_
 rcases ifB hp with ⟨c21,hp⟩|⟨c21,hp⟩
 ·
  refine FW.condT rfl c21 ?_
  refine FW.seq (FW.region ?_)
  refine FL.v (E.assign (v:=Value.bool false) rfl) ?_
  refine FL.nil ?_
  refine FW.ret ?_
  obtain rfl:=Option.some.inj hp
  exact ⟨.inr rfl,res1 rfl rfl ⟨rfl,S0.back⟩⟩
 ·
  refine FW.condF rfl c21 ?_
  refine FW.skip (FW.seq (FW.seq (FW.region ?_)))
  refine FL.v (E.move (v:=v0) rfl) ?_
  refine FL.v (E.lenP te45 rfl p0) ?_
  refine FL.v (E.move (v:=Value.int .i64 0) rfl) ?_
  refine FL.nil ?_
  obtain ⟨q23,hq,hp⟩:=bndR hp
  refine FW.block ?_
  refine FW.mono (FW.forL (S:=Unit) (X:=Bool) (fun (i23:Nat) (s23:Unit) f w=>∃ H:GH,St Ha wa H w []∧Inc Ha H∧f 13=Value.int .i64 ((i23:Nat):Int)∧f 0=v0∧f 1=v1∧f 12=Value.int .i64 (len a0)) (fun q e f w=>match q with|.go s23=>e=Exit.exit 0∧(∃ H:GH,St Ha wa H w []∧Inc Ha H)|.rt x=>((e=Exit.ret)∧(fun e f w=>(e=Exit.normal∨e=Exit.ret)∧∀ a,Fr (δ:=[]) 26 a f→∃ v,(results Tryz.f83 a.tmps).run Tryz.prog w=.ok v w∧(Sc Ha wa (Value.bool x)) (.returned v) w) e f w)) hq ⟨_,S0,(Inc.rfl _),rfl,rfl,rfl,rfl⟩ ?_ ?_) ?_
  ·
   clear hp hq
   rintro i23 y22 s23 f56 w55 ⟨H52,S53,i54,k57,k58,k59,k60⟩ hx23 o80 hp
   refine FW.seq (FW.region ?_)
   refine FL.v (E.lssT k57 k60 (zaq hx23)) ?_
   refine FL.nil (FW.seq ?_)
   refine FW.condT rfl rfl ?_
   refine FW.skip (FW.seq (FW.block (FW.seq (FW.region ?_))))
   refine FL.v (E.move k57) ?_
   refine FL.v (E.assign (v:=Value.int .i64 ((i23:Nat):Int)) rfl) ?_
   refine FL.nil (FW.seq ?_)
   refine FW.draw (fun w'=>Run w55.heap.size H52 w55 H52 w') (by kernel_rfl) (by kernel_rfl) (zaF S53.sl) ?_
   refine FD.val rfl rfl rfl (fun w' hw'=>(E.move k58)) ?_
   refine FD.val rfl rfl rfl (fun w' hw'=>(E.move (v:=Value.int .i64 ((i23:Nat):Int)) rfl)) ?_
   obtain ⟨p62,cs63,pt64,l65,at66,rel67⟩:=p0.at (zak hx23)
   obtain rfl:=eI_open rel67
   refine FD.val rfl rfl rfl (fun w' hw'=>(E.indexAddr te45 rfl rfl pt64)) ?_
   refine FD.val rfl rfl rfl (fun w' hw'=>(E.load rfl (zae Tryz.isAgg3 ((at66.mono i54).now (S53.call hw').sl) rfl))) ?_
   refine FD.val rfl rfl rfl (fun w' hw'=>(E.move k59)) ?_
   refine FD.val rfl rfl rfl (fun w' hw'=>(E.move (v:=Value.int .i64 ((i23:Nat):Int)) rfl)) ?_
   obtain ⟨x74,hx75,hp⟩:=bnd hp
   obtain ⟨p68,cs69,pt70,l71,at72,rel73⟩:=p1.at hx75
   obtain rfl:=eI_open rel73
   refine FD.val rfl rfl rfl (fun w' hw'=>(E.indexAddr te45 rfl rfl pt70)) ?_
   refine FD.val rfl rfl rfl (fun w' hw'=>(E.load rfl (zae Tryz.isAgg3 ((at72.mono i54).now (S53.call hw').sl) rfl))) ?_
   refine FD.val rfl rfl rfl (fun w' hw'=>(E.neq rfl rfl)) ?_
   refine FD.nil ?_
   intro w76 r78
   have S77:=S53.call r78
   rcases ifB hp with ⟨c79,hp⟩|⟨c79,hp⟩
   ·
    refine FW.condT rfl c79 ?_
    refine FW.seq (FW.region ?_)
    refine FL.v (E.assign (v:=Value.bool false) rfl) ?_
    refine FL.nil ?_
    refine FW.ret ?_
    obtain rfl:=Option.some.inj hp
    exact ⟨nofun,rfl,⟨.inr rfl,res1 rfl rfl ⟨rfl,S77.back⟩⟩⟩
   ·
    refine FW.condF rfl c79 ?_
    refine FW.skip (FW.region ?_)
    refine FL.v (E.add k57 rfl) ?_
    refine FL.v (E.move (v:=Value.int .i64 (wr (((i23:Nat):Int) + 1))) rfl) ?_
    refine FL.nil ?_
    obtain rfl:=Option.some.inj hp
    exact ⟨rfl,⟨_,S77,i54,(zam rfl (zal hx23) (p0.mono i54).le),k58,k59,k60⟩⟩
  ·
   clear hp hq
   rintro s23 f90 w89 ⟨H86,S87,i88,k91,k92,k93,k94⟩
   refine FW.seq (FW.region ?_)
   refine FL.v (E.lss k91 k94) ?_
   refine FL.nil (FW.seq ?_)
   refine FW.condF rfl zar ?_
   refine FW.exit ?_
   exact ⟨nofun,rfl,⟨_,S87,i88⟩⟩
  ·
   clear hq
   intro e f85 w84 hD
   rcases q23 with s23|x23
   ·
    obtain ⟨rfl,hD⟩:=hD
    obtain ⟨H81,S82,i83⟩:=hD
    replace hp:=el_go hp
    refine FW.seq (FW.region ?_)
    refine FL.v (E.assign (v:=Value.bool true) rfl) ?_
    refine FL.nil ?_
    refine FW.ret ?_
    obtain rfl:=Option.some.inj hp
    exact ⟨.inr rfl,res1 rfl rfl ⟨rfl,S82.back⟩⟩
   ·
    obtain ⟨he,hL⟩:=hD
    replace hp:=el_rt hp
    obtain rfl:=Option.some.inj hp
    subst he
    exact hL

theorem w_impl_indexOf_1 {Ha:GH} {wa:World} (hs:Sl Ha wa) (v0:Value) (a0:List Int) (p0:RSl Ha eI 1 v0 a0) (q0:Addr) (b0:List Int) (u0_0:Value) (g0_0:RSl Ha eI 1 u0_0 b0) (c0:CAt Ha q0 [u0_0]) {r:Bool} (hp:(PF.zbN a0 b0)=some r) :
  Calls Tryz.prog 82 #[v0,Value.pointer (some q0)] wa (Sc Ha wa (Value.bool r)):=by
 unfold PF.zbN at hp
 have S0:=St.init hs
 refine zag (N:=7) (args:=[v0,Value.pointer (some q0)]) Tryz.func82 rfl rfl rfl ?_
 refine FW.seq (FW.region ?_)
 refine FL.v (E.assign (v:=Value.bool false) rfl) ?_
 refine FL.nil (FW.seq (FW.region ?_))
 refine FL.v (E.load rfl (zae Tryz.isAgg45 (c0.now S0.sl) rfl)) ?_
 refine FL.v (E.move (v:=v0) rfl) ?_
 obtain ⟨r21,hr22,hp⟩:=bnd hp
 refine FL.call rfl rfl rfl (E.call Tryz.call83 (A2 rfl rfl)) (zd3 S0.sl u0_0 b0 g0_0 v0 a0 p0 hr22) ?_
 rintro e w23 ⟨rfl,r24⟩
 refine ⟨_,rfl,?_⟩
 have S25:=S0.call r24
 refine FL.v (E.assign (v:=Value.bool r21) rfl) ?_
 refine FL.nil ?_
 refine FW.ret ?_
 obtain rfl:=Option.some.inj hp
 exact ⟨.inr rfl,res1 rfl rfl ⟨rfl,S25.back⟩⟩

theorem zds {Ha:GH} {wa:World} (hs:Sl Ha wa) (v0:Value) (a0:List (List Int)) (p0:RSl Ha (eL eI 1) 1 v0 a0) (v1:Value) (a1:List Int) (p1:RSl Ha eI 1 v1 a1) {r:Int} (hp:(PF.za7 a0 a1)=some r) :
  Calls Tryz.prog 53 #[v0,v1] wa (Sc Ha wa (Value.int .i64 r)):=by
 unfold PF.za7 at hp
 have S0:=St.init hs
 refine zag (N:=8) (args:=[v0,v1]) Tryz.func53 rfl rfl rfl ?_
 refine FW.seq (FW.region ?_)
 obtain ⟨b21,w22,run23,S24⟩:=S0.box (P:=Tryz.prog) 45 [v1] (v:=v1) p1.cells (zab p1.one zad)
 refine FL.v (E.box rfl run23) ?_
 obtain ⟨H25,S26,i27,at28⟩:=S24.sealBox (i:=0) (l':=[]) rfl rfl
 refine FL.v (E.assign (v:=Value.int .i64 0) rfl) ?_
 refine FL.nil (FW.seq (FW.region ?_))
 refine FL.v (E.move (v:=v0) rfl) ?_
 refine FL.v (E.makeFunc A0 (A1 rfl)) ?_
 obtain ⟨r29,hr30,hp⟩:=bnd hp
 refine FL.call rfl rfl rfl (E.call Tryz.call81 (A2 rfl rfl)) (zd2 S26.sl v0 a0 (p0.mono i27) (Value.func (.func 82) #[] #[Value.pointer (some ⟨b21,0,none⟩)]) (fun x0=>PF.zbN x0 a1) (fun H2 w2 hi2 hs2 x0 y0 z0 r hr=>⟨82,#[Value.pointer (some ⟨b21,0,none⟩)],rfl,Tryz.call82,w_impl_indexOf_1 hs2 y0 x0 z0 ⟨b21,0,none⟩ a1 v1 ((p1.mono i27).mono hi2) (at28.mono hi2) hr⟩) hr30) ?_
 rintro e w31 ⟨rfl,r32⟩
 refine ⟨_,rfl,?_⟩
 have S33:=S26.call r32
 refine FL.v (E.assign (v:=Value.int .i64 r29) rfl) ?_
 refine FL.nil ?_
 refine FW.ret ?_
 obtain rfl:=Option.some.inj hp
 exact ⟨.inr rfl,res1 rfl rfl ⟨rfl,S33.back⟩⟩

theorem w_impl_hasList {Ha:GH} {wa:World} (hs:Sl Ha wa) (v0:Value) (a0:List (List Int)) (p0:RSl Ha (eL eI 1) 1 v0 a0) (v1:Value) (a1:List Int) (p1:RSl Ha eI 1 v1 a1) {r:Bool} (hp:(PF.zcE a0 a1)=some r) :
  Calls Tryz.prog 51 #[v0,v1] wa (Sc Ha wa (Value.bool r)):=by
 unfold PF.zcE at hp
 have S0:=St.init hs
 refine zag (N:=9) (args:=[v0,v1]) Tryz.func51 rfl rfl rfl ?_
 refine FW.seq (FW.region ?_)
 refine FL.v (E.assign (v:=Value.bool false) rfl) ?_
 refine FL.nil (FW.seq (FW.region ?_))
 refine FL.v (E.move (v:=v0) rfl) ?_
 refine FL.v (E.move (v:=v1) rfl) ?_
 obtain ⟨r21,hr22,hp⟩:=bnd hp
 refine FL.call rfl rfl rfl (E.call Tryz.call53 (A2 rfl rfl)) (zds S0.sl v0 a0 p0 v1 a1 p1 hr22) ?_
 rintro e w23 ⟨rfl,r24⟩
 refine ⟨_,rfl,?_⟩
 have S25:=S0.call r24
 refine FL.v (E.geq rfl rfl) ?_
 refine FL.v (E.assign (v:=Value.bool (decide (0≤r21))) rfl) ?_
 refine FL.nil ?_
 refine FW.ret ?_
 obtain rfl:=Option.some.inj hp
 exact ⟨.inr rfl,res1 rfl rfl ⟨rfl,S25.back⟩⟩

theorem zd4 {Ha:GH} {wa:World} (hs:Sl Ha wa) (v0:Value) (a0:List Int) (p0:RSl Ha eI 1 v0 a0) (a1:Int) {r:Int} (hp:(PF.zcF a0 a1)=some r) :
  Calls Tryz.prog 110 #[v0,Value.int .i64 a1] wa (Sc Ha wa (Value.int .i64 r)):=by
 unfold PF.zcF at hp
 have S0:=St.init hs
 refine zag (N:=19) (args:=[v0,Value.int .i64 a1]) Tryz.func110 rfl rfl rfl ?_
 refine FW.seq (FW.region ?_)
 refine FL.v (E.assign (v:=Value.int .i64 0) rfl) ?_
 refine FL.nil (FW.seq (FW.seq (FW.region ?_)))
 refine FL.v (E.move (v:=v0) rfl) ?_
 refine FL.v (E.lenP te45 rfl p0) ?_
 refine FL.v (E.move (v:=Value.int .i64 0) rfl) ?_
 refine FL.nil ?_
 obtain ⟨q22,hq,hp⟩:=bndR hp
 refine FW.block ?_
 refine FW.mono (FW.forL (S:=Unit) (X:=Int) (fun (i22:Nat) (s22:Unit) f w=>∃ H:GH,St Ha wa H w []∧Inc Ha H∧f 8=Value.int .i64 ((i22:Nat):Int)∧f 0=v0∧f 1=Value.int .i64 a1∧f 7=Value.int .i64 (len a0)) (fun q e f w=>match q with|.go s22=>e=Exit.exit 0∧(∃ H:GH,St Ha wa H w []∧Inc Ha H)|.rt x=>((e=Exit.ret)∧(fun e f w=>(e=Exit.normal∨e=Exit.ret)∧∀ a,Fr (δ:=[]) 19 a f→∃ v,(results Tryz.f110 a.tmps).run Tryz.prog w=.ok v w∧(Sc Ha wa (Value.int .i64 x)) (.returned v) w) e f w)) hq ⟨_,S0,(Inc.rfl _),rfl,rfl,rfl,rfl⟩ ?_ ?_) ?_
 ·
  clear hp hq
  rintro i22 y21 s22 f43 w42 ⟨H39,S40,i41,k44,k45,k46,k47⟩ hx22 o55 hp
  refine FW.seq (FW.region ?_)
  refine FL.v (E.lssT k44 k47 (zaq hx22)) ?_
  refine FL.nil (FW.seq ?_)
  refine FW.condT rfl rfl ?_
  refine FW.skip (FW.seq (FW.block (FW.seq (FW.region ?_))))
  refine FL.v (E.move k44) ?_
  refine FL.v (E.assign (v:=Value.int .i64 ((i22:Nat):Int)) rfl) ?_
  refine FL.nil (FW.seq (FW.region ?_))
  refine FL.v (E.move k46) ?_
  refine FL.v (E.move k45) ?_
  refine FL.v (E.move (v:=Value.int .i64 ((i22:Nat):Int)) rfl) ?_
  obtain ⟨p48,cs49,pt50,l51,at52,rel53⟩:=p0.at (zak hx22)
  obtain rfl:=eI_open rel53
  refine FL.v (E.indexAddr te45 rfl rfl pt50) ?_
  refine FL.v (E.load rfl (zae Tryz.isAgg3 ((at52.mono i41).now S40.sl) rfl)) ?_
  refine FL.v (E.eql rfl rfl) ?_
  refine FL.nil ?_
  rcases ifB hp with ⟨c54,hp⟩|⟨c54,hp⟩
  ·
   refine FW.condT rfl c54 ?_
   refine FW.seq (FW.region ?_)
   refine FL.v (E.move (v:=Value.int .i64 ((i22:Nat):Int)) rfl) ?_
   refine FL.v (E.assign (v:=Value.int .i64 ((i22:Nat):Int)) rfl) ?_
   refine FL.nil ?_
   refine FW.ret ?_
   obtain rfl:=Option.some.inj hp
   exact ⟨nofun,rfl,⟨.inr rfl,res1 rfl rfl ⟨rfl,S40.back⟩⟩⟩
  ·
   refine FW.condF rfl c54 ?_
   refine FW.skip (FW.region ?_)
   refine FL.v (E.add k44 rfl) ?_
   refine FL.v (E.move (v:=Value.int .i64 (wr (((i22:Nat):Int) + 1))) rfl) ?_
   refine FL.nil ?_
   obtain rfl:=Option.some.inj hp
   exact ⟨rfl,⟨_,S40,i41,(zam rfl (zal hx22) (p0.mono i41).le),k45,k46,k47⟩⟩
 ·
  clear hp hq
  rintro s22 f65 w64 ⟨H61,S62,i63,k66,k67,k68,k69⟩
  refine FW.seq (FW.region ?_)
  refine FL.v (E.lss k66 k69) ?_
  refine FL.nil (FW.seq ?_)
  refine FW.condF rfl zar ?_
  refine FW.exit ?_
  exact ⟨nofun,rfl,⟨_,S62,i63⟩⟩
 ·
  clear hq
  intro e f60 w59 hD
  rcases q22 with s22|x22
  ·
   obtain ⟨rfl,hD⟩:=hD
   obtain ⟨H56,S57,i58⟩:=hD
   replace hp:=el_go hp
   refine FW.seq (FW.region ?_)
   refine FL.v (E.assign (v:=Value.int .i64 (-1)) rfl) ?_
   refine FL.nil ?_
   refine FW.ret ?_
   obtain rfl:=Option.some.inj hp
   exact ⟨.inr rfl,res1 rfl rfl ⟨rfl,S57.back⟩⟩
  ·
   obtain ⟨he,hL⟩:=hD
   replace hp:=el_rt hp
   obtain rfl:=Option.some.inj hp
   subst he
   exact hL

theorem zdK {Ha:GH} {wa:World} (hs:Sl Ha wa) (v0:Value) (a0:List Int) (p0:RSl Ha eI 1 v0 a0) (a1:Int) {r:Bool} (hp:(PF.zb7 a0 a1)=some r) :
  Calls Tryz.prog 77 #[v0,Value.int .i64 a1] wa (Sc Ha wa (Value.bool r)):=by
 unfold PF.zb7 at hp
 have S0:=St.init hs
 refine zag (N:=9) (args:=[v0,Value.int .i64 a1]) Tryz.func77 rfl rfl rfl ?_
 refine FW.seq (FW.region ?_)
 refine FL.v (E.assign (v:=Value.bool false) rfl) ?_
 refine FL.nil (FW.seq (FW.region ?_))
 refine FL.v (E.move (v:=v0) rfl) ?_
 refine FL.v (E.move (v:=Value.int .i64 a1) rfl) ?_
 obtain ⟨r21,hr22,hp⟩:=bnd hp
 refine FL.call rfl rfl rfl (E.call Tryz.call110 (A2 rfl rfl)) (zd4 S0.sl v0 a0 p0 a1 hr22) ?_
 rintro e w23 ⟨rfl,r24⟩
 refine ⟨_,rfl,?_⟩
 have S25:=S0.call r24
 refine FL.v (E.geq rfl rfl) ?_
 refine FL.v (E.assign (v:=Value.bool (decide (0≤r21))) rfl) ?_
 refine FL.nil ?_
 refine FW.ret ?_
 obtain rfl:=Option.some.inj hp
 exact ⟨.inr rfl,res1 rfl rfl ⟨rfl,S25.back⟩⟩

@[reducible] def zd5 (Ha:GH) (wa:World) (r:(List Int)):Ending→World→Prop :=
 fun e w'=>∃ H':GH,∃ v0:Value,∃ n0:Nat,∃ c0:List Value,e=.returned (v0)∧St Ha wa H' w' [.row 3 1 v0 n0 c0]∧Els (up wa.heap.size H') eI 1 c0 r
theorem zdL {Ha:GH} {wa:World} (hs:Sl Ha wa) (v0:Value) (a0:List Int) (p0:RSl Ha eI 1 v0 a0) {r:(List Int)} (hp:(PF.zb8 a0)=some r) :
  Calls Tryz.prog 111 #[v0] wa (zd5 Ha wa r):=by
 unfold PF.zb8 at hp
 have S0:=St.init hs
 refine zag (N:=8) (args:=[v0]) Tryz.func111 rfl rfl rfl ?_
 refine FW.seq (FW.region ?_)
 refine FL.v (E.assign (v:=Value.slice none 0 0) rfl) ?_
 refine FL.nil (FW.seq (FW.seq (FW.region ?_)))
 refine FL.v (E.move (v:=v0) rfl) ?_
 obtain ⟨nb21,run22,hn23⟩:=RSl.nilTest te45 p0
 refine FL.v (run22 _ _ _ _ _ _ _ _ _ _ _ _ rfl rfl) ?_
 refine FL.nil ?_
 rcases bcase nb21 with c24|c24
 ·
  refine FW.condT (b:=nb21) rfl c24 ?_
  rw [hn23 c24,app_nil2] at hp
  refine FW.seq (FW.region ?_)
  refine FL.v (E.assign (v:=Value.slice none 0 0) rfl) ?_
  refine FL.nil ?_
  refine FW.ret ?_
  obtain rfl:=Option.some.inj hp
  exact ⟨.inr rfl,res1 rfl rfl ⟨_,_,_,_,rfl,(S0.nil 3 1),Els.nil⟩⟩
 ·
  refine FW.condF (b:=nb21) rfl c24 ?_
  refine FW.skip (FW.seq (FW.region ?_))
  obtain ⟨v25,w26,run27,S28⟩:=S0.buildSlice (P:=Tryz.prog) te45 [] (parts:=#[]) (cells:=[]) rfl zaw zav zad (Nat.le_of_ble_eq_true rfl)
  have els29:Els (up wa.heap.size Ha) eI 1 [] []:=Els.nil
  refine FL.v (E.buildSlice (B0) run27) ?_
  refine FL.v (E.move (v:=v0) rfl) ?_
  obtain ⟨xs30,hz31,hp⟩:=bnd hp
  obtain ⟨v32,w35,n33,cs34,run36,S37,els38⟩:=S28.appendP (P:=Tryz.prog) (Inc.rfl _) te45 (i:=0) rfl (els29.mono upI) p0 hz31
  have S37:St Ha wa Ha w35 [.row 3 1 v32 n33 cs34]:=S37
  have els38:Els (up wa.heap.size Ha) eI 1 cs34 xs30:=els38.any (fun _ _ _ _ h=>h)
  refine FL.v (E.append rfl rfl run36) ?_
  refine FL.v (E.assign (v:=v32) rfl) ?_
  refine FL.nil ?_
  refine FW.ret ?_
  obtain rfl:=Option.some.inj hp
  exact ⟨.inr rfl,res1 rfl rfl ⟨_,_,_,_,rfl,S37,els38⟩⟩

theorem zd6 {Ha:GH} {wa:World} (hs:Sl Ha wa) (v0:Value) (a0:List Int) (p0:RSl Ha eI 1 v0 a0) (v1:Value) (a1:Int→Option Bool) (p1:zcO Tryz.prog Ha v1 a1) {r:Int} (hp:(PF.zcG a0 a1)=some r) :
  Calls Tryz.prog 137 #[v0,v1] wa (Sc Ha wa (Value.int .i64 r)):=by
 unfold PF.zcG at hp
 have S0:=St.init hs
 refine zag (N:=19) (args:=[v0,v1]) Tryz.func137 rfl rfl rfl ?_
 refine FW.seq (FW.region ?_)
 refine FL.v (E.assign (v:=Value.int .i64 0) rfl) ?_
 refine FL.nil (FW.seq (FW.seq (FW.region ?_)))
 refine FL.v (E.move (v:=v0) rfl) ?_
 refine FL.v (E.lenP te45 rfl p0) ?_
 refine FL.v (E.move (v:=Value.int .i64 0) rfl) ?_
 refine FL.nil ?_
 obtain ⟨q22,hq,hp⟩:=bndR hp
 refine FW.block ?_
 refine FW.mono (FW.forL (S:=Unit) (X:=Int) (fun (i22:Nat) (s22:Unit) f w=>∃ H:GH,St Ha wa H w []∧Inc Ha H∧f 8=Value.int .i64 ((i22:Nat):Int)∧f 0=v0∧f 1=v1∧f 7=Value.int .i64 (len a0)) (fun q e f w=>match q with|.go s22=>e=Exit.exit 0∧(∃ H:GH,St Ha wa H w []∧Inc Ha H)|.rt x=>((e=Exit.ret)∧(fun e f w=>(e=Exit.normal∨e=Exit.ret)∧∀ a,Fr (δ:=[]) 19 a f→∃ v,(results Tryz.f137 a.tmps).run Tryz.prog w=.ok v w∧(Sc Ha wa (Value.int .i64 x)) (.returned v) w) e f w)) hq ⟨_,S0,(Inc.rfl _),rfl,rfl,rfl,rfl⟩ ?_ ?_) ?_
 ·
  clear hp hq
  rintro i22 y21 s22 f53 w52 ⟨H49,S50,i51,k54,k55,k56,k57⟩ hx22 o75 hp
  refine FW.seq (FW.region ?_)
  refine FL.v (E.lssT k54 k57 (zaq hx22)) ?_
  refine FL.nil (FW.seq ?_)
  refine FW.condT rfl rfl ?_
  refine FW.skip (FW.seq (FW.block (FW.seq (FW.region ?_))))
  refine FL.v (E.move k54) ?_
  refine FL.v (E.assign (v:=Value.int .i64 ((i22:Nat):Int)) rfl) ?_
  refine FL.nil (FW.seq (FW.region ?_))
  refine FL.v (E.move k56) ?_
  refine FL.v (E.move k55) ?_
  refine FL.v (E.move (v:=Value.int .i64 ((i22:Nat):Int)) rfl) ?_
  obtain ⟨p58,cs59,pt60,l61,at62,rel63⟩:=p0.at (zak hx22)
  obtain rfl:=eI_open rel63
  refine FL.v (E.indexAddr te45 rfl rfl pt60) ?_
  refine FL.v (E.load rfl (zae Tryz.isAgg3 ((at62.mono i51).now S50.sl) rfl)) ?_
  obtain ⟨r64,hr65,hp⟩:=bnd hp
  obtain ⟨fi69,cs70,hv71,he72,hc73⟩:=(p1.mono i51) H49 w52 (Inc.rfl _) S50.sl y21 r64 hr65
  refine FL.call rfl rfl rfl (E.callV he72 (Eq.trans rfl hv71) (appA (A1 rfl) cs70)) hc73 ?_
  rintro e w66 ⟨rfl,r67⟩
  refine ⟨_,rfl,?_⟩
  have S68:=S50.call r67
  refine FL.nil ?_
  rcases ifB hp with ⟨c74,hp⟩|⟨c74,hp⟩
  ·
   refine FW.condT rfl c74 ?_
   refine FW.seq (FW.region ?_)
   refine FL.v (E.move (v:=Value.int .i64 ((i22:Nat):Int)) rfl) ?_
   refine FL.v (E.assign (v:=Value.int .i64 ((i22:Nat):Int)) rfl) ?_
   refine FL.nil ?_
   refine FW.ret ?_
   obtain rfl:=Option.some.inj hp
   exact ⟨nofun,rfl,⟨.inr rfl,res1 rfl rfl ⟨rfl,S68.back⟩⟩⟩
  ·
   refine FW.condF rfl c74 ?_
   refine FW.skip (FW.region ?_)
   refine FL.v (E.add k54 rfl) ?_
   refine FL.v (E.move (v:=Value.int .i64 (wr (((i22:Nat):Int) + 1))) rfl) ?_
   refine FL.nil ?_
   obtain rfl:=Option.some.inj hp
   exact ⟨rfl,⟨_,S68,i51,(zam rfl (zal hx22) (p0.mono i51).le),k55,k56,k57⟩⟩
 ·
  clear hp hq
  rintro s22 f85 w84 ⟨H81,S82,i83,k86,k87,k88,k89⟩
  refine FW.seq (FW.region ?_)
  refine FL.v (E.lss k86 k89) ?_
  refine FL.nil (FW.seq ?_)
  refine FW.condF rfl zar ?_
  refine FW.exit ?_
  exact ⟨nofun,rfl,⟨_,S82,i83⟩⟩
 ·
  clear hq
  intro e f80 w79 hD
  rcases q22 with s22|x22
  ·
   obtain ⟨rfl,hD⟩:=hD
   obtain ⟨H76,S77,i78⟩:=hD
   replace hp:=el_go hp
   refine FW.seq (FW.region ?_)
   refine FL.v (E.assign (v:=Value.int .i64 (-1)) rfl) ?_
   refine FL.nil ?_
   refine FW.ret ?_
   obtain rfl:=Option.some.inj hp
   exact ⟨.inr rfl,res1 rfl rfl ⟨rfl,S77.back⟩⟩
  ·
   obtain ⟨he,hL⟩:=hD
   replace hp:=el_rt hp
   obtain rfl:=Option.some.inj hp
   subst he
   exact hL

@[reducible] def zd7 (H0:GH) (w0:World) (Ha:GH) (L:List MO) (r:(List Int)):Ending→World→Prop :=
 fun e w'=>∃ H':GH,∃ v0r:Value,∃ n0r:Nat,∃ c0r:List Value,e=.returned (v0r)∧(St H0 w0 H' w' (.row 3 1 v0r n0r c0r::L)∧Inc Ha H')∧Els (up w0.heap.size H') eI 1 c0r r
set_option maxHeartbeats 4000000 in
theorem zd8 {H0 Ha:GH} {w0 wa:World} {L:List MO} {v0:Value} {n0:Nat} {k0:List Value} (S0:St H0 w0 Ha wa (.row 3 1 v0 n0 k0::L)) (a0:List Int) (p0:Els (up w0.heap.size Ha) eI 1 k0 a0) (v1:Value) (a1:Int→Option Bool) (p1:zcO Tryz.prog Ha v1 a1) {r:(List Int)} (hp:(PF.zcH a0 a1)=some r) :
  Calls Tryz.prog 115 #[v0,v1] wa (zd7 H0 w0 Ha L r):=by
 unfold PF.zcH at hp
 refine zag (N:=42) (args:=[v0,v1]) Tryz.func115 rfl rfl rfl ?_
 refine FW.seq (FW.region ?_)
 refine FL.v (E.assign (v:=Value.slice none 0 0) rfl) ?_
 refine FL.nil (FW.seq (FW.region ?_))
 refine FL.v (E.move (v:=v0) rfl) ?_
 refine FL.v (E.move (v:=v1) rfl) ?_
 obtain ⟨H21,S22,i23,h24,nv25⟩:=S0.sealRowU (i:=0) (l':=L) rfl p0 (by decide) rfl
 obtain ⟨r26,hr27,hp⟩:=bnd hp
 refine FL.call rfl rfl rfl (E.call Tryz.call137 (A2 rfl rfl)) (zd6 S22.sl v0 a0 (h24.mono upI) v1 a1 (p1.mono i23) hr27) ?_
 rintro e w28 ⟨rfl,r29⟩
 refine ⟨_,rfl,?_⟩
 have r29:=Run.lend i23 S0.sl r29
 have S30:=S0.call r29
 refine FL.v (E.assign (v:=Value.int .i64 r26) rfl) ?_
 refine FL.nil (FW.seq (FW.seq (FW.region ?_)))
 refine FL.v (E.move (v:=Value.int .i64 r26) rfl) ?_
 refine FL.v (E.eql rfl rfl) ?_
 refine FL.nil ?_
 rcases ifB hp with ⟨c31,hp⟩|⟨c31,hp⟩
 ·
  refine FW.condT rfl c31 ?_
  refine FW.seq (FW.region ?_)
  refine FL.v (E.move (v:=v0) rfl) ?_
  refine FL.v (E.assign (v:=v0) rfl) ?_
  refine FL.nil ?_
  refine FW.ret ?_
  obtain rfl:=Option.some.inj hp
  exact ⟨.inr rfl,res1 rfl rfl ⟨_,_,_,_,rfl,⟨S30,(Inc.rfl _)⟩,p0⟩⟩
 ·
  refine FW.condF rfl c31 ?_
  refine FW.skip (FW.seq (FW.seq (FW.region ?_)))
  refine FL.v (E.move (v:=Value.int .i64 r26) rfl) ?_
  refine FL.v (E.add rfl rfl) ?_
  refine FL.v (E.assign (v:=Value.int .i64 (wr (r26 + 1))) rfl) ?_
  refine FL.nil ?_
  obtain ⟨q32,hq,hp⟩:=bndR hp
  refine FW.block ?_
  refine FW.mono (FW.iter (S:=((List Int)×Int×Int)) (X:=Empty) (fun (s32:((List Int)×Int×Int)) f w=>∃ H:GH,∃ cs78:List Value,St H0 w0 H w (.row 3 1 v0 n0 cs78::L)∧Inc Ha H∧Els (up w0.heap.size H) eI 1 cs78 s32.1∧f 0=v0∧f 1=v1∧f 5=Value.int .i64 s32.2.1∧f 6=Value.int .i64 s32.2.2) (fun (q:Rs ((List Int)×Int×Int) Empty) e f w=>match q with|.go s32=>e=Exit.exit 0∧(∃ H:GH,∃ cs78:List Value,St H0 w0 H w (.row 3 1 v0 n0 cs78::L)∧Inc Ha H∧Els (up w0.heap.size H) eI 1 cs78 s32.1∧f 0=v0∧f 5=Value.int .i64 s32.2.1)|.rt x=>x.elim) hq ⟨_,_,S30,(Inc.rfl _),p0,rfl,rfl,rfl,rfl⟩ ?_) ?_
  ·
   clear hp hq
   rintro s32 fAt wAs ⟨HAp,cs78,SAq,iAr,els79,kAu,kAv,kAw,kAx⟩ oB8 hp
   refine FW.seq (FW.seq (FW.region ?_))
   refine FL.v (E.move kAx) ?_
   refine FL.v (E.move kAu) ?_
   refine FL.v (E.lenO te45 rfl SAq (i:=0) rfl els79 (by decide)) ?_
   refine FL.v (E.lss rfl rfl) ?_
   refine FL.nil ?_
   rcases ifB hp with ⟨cAy,hp⟩|⟨cAy,hp⟩
   ·
    refine FW.condT rfl cAy ?_
    refine FW.skip (FW.seq (FW.block (FW.seq (FW.region ?_))))
    refine FL.v (E.move kAu) ?_
    refine FL.v (E.move kAx) ?_
    obtain ⟨xAF,hxAG,hp⟩:=bnd hp
    obtain ⟨pAz,csAA,ptAB,lAC,atAD,relAE⟩:=SAq.row_at (i:=0) rfl els79 (by decide) hxAG
    obtain rfl:=eI_open relAE
    refine FL.v (E.indexAddr te45 rfl rfl ptAB) ?_
    refine FL.v (E.load rfl (zae Tryz.isAgg3 atAD rfl)) ?_
    refine FL.v (E.assign (v:=Value.int .i64 xAF) rfl) ?_
    refine FL.nil (FW.seq (FW.region ?_))
    refine FL.v (E.move kAv) ?_
    refine FL.v (E.move (v:=Value.int .i64 xAF) rfl) ?_
    obtain ⟨rAH,hrAI,hp⟩:=bnd hp
    obtain ⟨fi148,csAN,hv150,he151,hcAQ⟩:=(p1.mono iAr) HAp wAs (Inc.rfl _) SAq.sl xAF rAH hrAI
    refine FL.call rfl rfl rfl (E.callV he151 (Eq.trans rfl hv150) (appA (A1 rfl) csAN)) hcAQ ?_
    rintro e wAJ ⟨rfl,rAK⟩
    refine ⟨_,rfl,?_⟩
    have SAL:=SAq.call rAK
    refine FL.v (E.not rfl) ?_
    refine FL.nil ?_
    rcases ifB hp with ⟨cAR,hp⟩|⟨cAR,hp⟩
    ·
     refine FW.condT rfl cAR ?_
     refine FW.seq (FW.region ?_)
     refine FL.v (E.move kAu) ?_
     refine FL.v (E.move kAw) ?_
     refine FL.v (E.move (v:=Value.int .i64 xAF) rfl) ?_
     obtain ⟨xAY,hxAZ,hp⟩:=bnd hp
     obtain ⟨pAS,csAT,ptAU,lAV,atAW,relAX⟩:=SAL.row_at (i:=0) rfl els79 (by decide) hxAZ
     obtain rfl:=eI_open relAX
     refine FL.v (E.indexAddr te45 rfl rfl ptAU) ?_
     obtain ⟨xsB3,hputB4,hp⟩:=bnd hp
     obtain ⟨wB0,csB6,runB1,SB2,elsB5,ceB7⟩:=SAL.putEls (P:=Tryz.prog) (t:=3) (i:=0) rfl els79 hputB4 ptAU Tryz.sizeOf3 (u:=Value.int .i64 xAF) (c:=[Value.int .i64 xAF]) rfl rfl (zab rfl zad) rfl
     have SB2:St H0 w0 HAp wB0 (.row 3 1 v0 n0 csB6::L):=SB2
     refine FL.act rfl rfl (E.store rfl rfl runB1) ?_
     refine FL.nil (FW.region ?_)
     refine FL.v (E.move kAw) ?_
     refine FL.v (E.add rfl rfl) ?_
     refine FL.v (E.assign (v:=Value.int .i64 (wr (s32.2.1 + 1))) rfl) ?_
     refine FL.nil (FW.region ?_)
     refine FL.v (E.move kAx) ?_
     refine FL.v (E.add rfl rfl) ?_
     refine FL.v (E.assign (v:=Value.int .i64 (wr (s32.2.2 + 1))) rfl) ?_
     refine FL.nil ?_
     obtain rfl:=Option.some.inj hp
     exact ⟨rfl,⟨_,_,SB2,iAr,elsB5,kAu,kAv,rfl,rfl⟩⟩
    ·
     refine FW.condF rfl cAR ?_
     refine FW.skip (FW.region ?_)
     refine FL.v (E.move kAx) ?_
     refine FL.v (E.add rfl rfl) ?_
     refine FL.v (E.assign (v:=Value.int .i64 (wr (s32.2.2 + 1))) rfl) ?_
     refine FL.nil ?_
     obtain rfl:=Option.some.inj hp
     exact ⟨rfl,⟨_,_,SAL,iAr,els79,kAu,kAv,kAw,rfl⟩⟩
   ·
    refine FW.condF rfl cAy ?_
    refine FW.exit ?_
    obtain rfl:=Option.some.inj hp
    exact ⟨nofun,rfl,⟨_,_,SAq,iAr,els79,kAu,kAw⟩⟩
  ·
   clear hq
   intro e fBd wBc hD
   rcases q32 with s32|x32
   ·
    obtain ⟨rfl,hD⟩:=hD
    obtain ⟨HB9,cs78,SBa,iBb,els79,kBe,kBf⟩:=hD
    replace hp:=el_go hp
    refine FW.seq (FW.region ?_)
    refine FL.v (E.move kBe) ?_
    refine FL.v (E.move kBf) ?_
    obtain ⟨xsBg,hcBh,hp⟩:=bnd hp
    obtain ⟨vBi,runBj,hBk⟩:=SBa.tail te45 (kk:=.i64) (i:=0) rfl els79 hcBh
    refine FL.v (E.slice te45 rfl (congrArg some rfl) rfl rfl (runBj _)) ?_
    obtain ⟨wBl,csBm,runBn,SBo,elsBp⟩:=SBa.clearTail (P:=Tryz.prog) te45 (i:=0) rfl els79 hBk rfl (zab rfl zad)
    have SBo:St H0 w0 HB9 wBl (.row 3 1 v0 n0 csBm::L):=SBo
    refine FL.val0 rfl rfl (E.clear rfl runBn) ?_
    refine FL.nil (FW.seq (FW.region ?_))
    refine FL.v (E.move kBe) ?_
    refine FL.v (E.move kBf) ?_
    obtain ⟨xsBq,hcBr,hp⟩:=bnd hp
    obtain ⟨vBs,nBt,csBu,runBv,SBw,elsBx,ndBy⟩:=SBo.cutRow te45 (kk:=.i64) (i:=0) rfl elsBp hcBr
    have SBw:St H0 w0 HB9 wBl (.row 3 1 vBs nBt csBu::L):=SBw
    refine FL.v (E.slice te45 rfl rfl (congrArg some rfl) rfl (runBv _)) ?_
    refine FL.v (E.assign (v:=vBs) rfl) ?_
    refine FL.nil ?_
    refine FW.ret ?_
    obtain rfl:=Option.some.inj hp
    exact ⟨.inr rfl,res1 rfl rfl ⟨_,_,_,_,rfl,⟨SBw,iBb⟩,elsBx⟩⟩
   ·
    exact x32.elim

theorem zd9 {Ha:GH} {wa:World} (hs:Sl Ha wa) (a0:Int) (q0:Addr) (b0:Int) (c0:CAt Ha q0 [Value.int .i64 b0]) :
  Calls Tryz.prog 116 #[Value.int .i64 a0,Value.pointer (some q0)] wa (Sc Ha wa (Value.bool (PF.zb9 a0 b0))):=by
 obtain ⟨r,hp⟩:∃ r,(PF.zb9 a0 b0)=r:=⟨_,rfl⟩
 rw [hp]
 unfold PF.zb9 at hp
 have S0:=St.init hs
 refine zag (N:=8) (args:=[Value.int .i64 a0,Value.pointer (some q0)]) Tryz.func116 rfl rfl rfl ?_
 refine FW.seq (FW.region ?_)
 refine FL.v (E.assign (v:=Value.bool false) rfl) ?_
 refine FL.nil (FW.seq ?_)
 refine FW.draw (fun w'=>Run wa.heap.size Ha wa Ha w') (by kernel_rfl) (by kernel_rfl) (zaF S0.sl) ?_
 refine FD.val rfl rfl rfl (fun w' hw'=>(E.move (v:=Value.int .i64 a0) rfl)) ?_
 refine FD.call rfl rfl rfl (fun w' hw'=>(E.call Tryz.call117 (A1 rfl))) (fun w' hw'=>Calls.cls hw' (zcS (S0.call hw').sl a0)) ?_
 refine FD.val rfl rfl rfl (fun w' hw'=>(E.load rfl (zae Tryz.isAgg3 (c0.now (S0.call hw').sl) rfl))) ?_
 refine FD.val rfl rfl rfl (fun w' hw'=>(E.eql rfl rfl)) ?_
 refine FD.val rfl rfl rfl (fun w' hw'=>(E.assign (v:=Value.bool ((PF.zat a0) == b0)) rfl)) ?_
 refine FD.nil ?_
 intro w22 r24
 have S23:=S0.call r24
 refine FW.ret ?_
 obtain rfl:=hp
 exact ⟨.inr rfl,res1 rfl rfl ⟨rfl,S23.back⟩⟩

@[reducible] def p_impl_withoutVar (Ha:GH) (wa:World) (r:(List Int)):Ending→World→Prop :=
 fun e w'=>∃ H':GH,∃ v0:Value,∃ n0:Nat,∃ c0:List Value,e=.returned (v0)∧St Ha wa H' w' [.row 3 1 v0 n0 c0]∧Els (up wa.heap.size H') eI 1 c0 r
theorem zdM {Ha:GH} {wa:World} (hs:Sl Ha wa) (v0:Value) (a0:List Int) (p0:RSl Ha eI 1 v0 a0) (a1:Int) {r:(List Int)} (hp:(PF.zca a0 a1)=some r) :
  Calls Tryz.prog 80 #[v0,Value.int .i64 a1] wa (p_impl_withoutVar Ha wa r):=by
 unfold PF.zca at hp
 have S0:=St.init hs
 refine zag (N:=9) (args:=[v0,Value.int .i64 a1]) Tryz.func80 rfl rfl rfl ?_
 refine FW.seq (FW.region ?_)
 obtain ⟨b21,w22,run23,S24⟩:=S0.box (P:=Tryz.prog) 3 [Value.int .i64 a1] (v:=Value.int .i64 a1) rfl (zab rfl zad)
 refine FL.v (E.box rfl run23) ?_
 obtain ⟨H25,S26,i27,at28⟩:=S24.sealBox (i:=0) (l':=[]) rfl rfl
 refine FL.v (E.assign (v:=Value.slice none 0 0) rfl) ?_
 refine FL.nil (FW.seq (FW.region ?_))
 refine FL.v (E.move (v:=v0) rfl) ?_
 obtain ⟨r29,hr30,hp⟩:=bnd hp
 refine FL.call rfl rfl rfl (E.call Tryz.call111 (A1 rfl)) (zdL S26.sl v0 a0 (p0.mono i27) hr30) ?_
 rintro e w32 ⟨H31,v35,n36,cs37,rfl,r34,els38⟩
 refine ⟨_,rfl,?_⟩
 have els38:=els38.mono (up_le S26.size)
 have S33:=S26.join (l':=[.row 3 1 v35 n36 cs37]) r34 rfl
 refine FL.v (E.makeFunc A0 (A1 rfl)) ?_
 obtain ⟨r39,hr40,hp⟩:=bnd hp
 refine FL.call rfl rfl rfl (E.call Tryz.call115 (A2 rfl rfl)) (zd8 (L:=[]) S33 r29 els38 (Value.func (.func 116) #[] #[Value.pointer (some ⟨b21,0,none⟩)]) (fun x0=>some (PF.zb9 x0 a1)) (fun H2 w2 hi2 hs2 x0 r hr=>⟨116,#[Value.pointer (some ⟨b21,0,none⟩)],rfl,Tryz.call116,by cases hr;exact zd9 hs2 x0 ⟨b21,0,none⟩ a1 ((at28.mono r34.run.inc).mono hi2)⟩) hr40) ?_
 rintro e w42 ⟨H41,v45,n46,cs47,rfl,⟨S43,i44⟩,els48⟩
 refine ⟨_,rfl,?_⟩
 have S43:St Ha wa H41 w42 [.row 3 1 v45 n46 cs47]:=S43
 refine FL.v (E.assign (v:=v45) rfl) ?_
 refine FL.nil ?_
 refine FW.ret ?_
 obtain rfl:=Option.some.inj hp
 exact ⟨.inr rfl,res1 rfl rfl ⟨_,_,_,_,rfl,S43,els48⟩⟩

@[reducible] def zea (Ha:GH) (wa:World) (r:List Int):Ending→World→Prop :=
 fun e w'=>∃ H':GH,∃ v0:Value,∃ n0:Nat,∃ c0:List Value,e=.returned (v0)∧St Ha wa H' w' [.row 3 1 v0 n0 c0]∧Els (up wa.heap.size H') eI 1 c0 r
theorem zeb {Ha:GH} {wa:World} (hs:Sl Ha wa) (a1:Int) {r:List Int} (hp:PF.zc3 a1=some r) :
  Calls Tryz.prog 114 #[.slice none 0 0,.int .i64 a1] wa (zea Ha wa r):=by
 unfold PF.zc3 at hp
 split at hp
 ·
  rename_i h
  cases hp
  refine (growNil (En:=eI) te45 hs h.1 h.2 (fun w=>Any8.slices_Grow_room (P:=Tryz.prog) Tryz.grow114 none 0 0 0 w (Nat.le_refl _) (by decide) (by decide) (by decide))
   (fun n w h0 hl=>?_)).mono ?_
  ·
   have h:=Any8.slices_Grow_grow (P:=Tryz.prog) Tryz.grow114 _ _ Tryz.type3 rfl (by decide) none 0 0 n [] w (Nat.le_refl _) (by omega) ?_ (by unfold lim at hl;omega) (by simp) (fun _=>rfl) (by simp)
   ·
    refine h.mono ?_
    rintro _ _ ⟨rfl,rfl⟩
    refine ⟨by simp;rfl,?_⟩
    simp
    rfl
   ·
    rw [Nat.zero_add];refine Nat.le_trans (Nat.mul_le_mul hl (show _≤4096 by decide)) (by decide)
  ·
   rintro e w' ⟨v,n,c,rfl,h1,h2⟩
   exact ⟨_,_,_,_,rfl,h1,h2 _⟩
 ·
  cases hp

@[reducible] def zec (Ha:GH) (wa:World) (r:(List Int)):Ending→World→Prop :=
 fun e w'=>∃ H':GH,∃ v0:Value,∃ n0:Nat,∃ c0:List Value,e=.returned (v0)∧St Ha wa H' w' [.row 3 1 v0 n0 c0]∧Els (up wa.heap.size H') eI 1 c0 r
set_option maxHeartbeats 4000000 in
theorem zed {Ha:GH} {wa:World} (hs:Sl Ha wa) (v0:Value) (a0:List (List Int)) (p0:RSl Ha (eL eI 1) 1 v0 a0) {r:(List Int)} (hp:(PF.zcI a0)=some r) :
  Calls Tryz.prog 79 #[v0] wa (zec Ha wa r):=by
 unfold PF.zcI at hp
 have S0:=St.init hs
 refine zag (N:=36) (args:=[v0]) Tryz.func79 rfl rfl rfl ?_
 refine FW.seq (FW.region ?_)
 refine FL.v (E.assign (v:=Value.slice none 0 0) rfl) ?_
 refine FL.nil (FW.seq (FW.region ?_))
 refine FL.v (E.assign (v:=Value.int .i64 0) rfl) ?_
 refine FL.nil (FW.seq (FW.seq (FW.region ?_)))
 refine FL.v (E.move (v:=v0) rfl) ?_
 refine FL.v (E.lenP te22 rfl p0) ?_
 refine FL.v (E.move (v:=Value.int .i64 0) rfl) ?_
 refine FL.nil ?_
 obtain ⟨q22,hq,hp⟩:=bndR hp
 refine FW.block ?_
 refine FW.mono (FW.forL (S:=Int) (X:=Empty) (fun (i22:Nat) (s22:Int) f w=>∃ H:GH,St Ha wa H w []∧Inc Ha H∧f 11=Value.int .i64 ((i22:Nat):Int)∧f 0=v0∧f 3=Value.int .i64 s22∧f 9=v0∧f 10=Value.int .i64 (len a0)) (fun (q:Rs Int Empty) e f w=>match q with|.go s22=>e=Exit.exit 0∧(∃ H:GH,St Ha wa H w []∧Inc Ha H∧f 0=v0∧f 3=Value.int .i64 s22)|.rt x=>x.elim) hq ⟨_,S0,(Inc.rfl _),rfl,rfl,rfl,rfl,rfl⟩ ?_ ?_) ?_
 ·
  clear hp hq
  rintro i22 y21 s22 f46 w45 ⟨H42,S43,i44,k47,k48,k49,k50,k51⟩ hx22 o61 hp
  refine FW.seq (FW.region ?_)
  refine FL.v (E.lssT k47 k51 (zaq hx22)) ?_
  refine FL.nil (FW.seq ?_)
  refine FW.condT rfl rfl ?_
  refine FW.skip (FW.seq (FW.block (FW.seq (FW.region ?_))))
  obtain ⟨p52,cs53,pt54,l55,at56,rel57⟩:=p0.at (zak hx22)
  obtain ⟨v58,rfl,h59⟩:=eL_open rel57
  refine FL.v (E.indexAddr te22 k50 k47 pt54) ?_
  refine FL.v (E.load rfl (zae Tryz.isAgg45 ((at56.mono i44).now S43.sl) rfl)) ?_
  refine FL.v (E.assign (v:=v58) rfl) ?_
  refine FL.nil (FW.seq (FW.region ?_))
  refine FL.v (E.move k49) ?_
  refine FL.v (E.move (v:=v58) rfl) ?_
  refine FL.v (E.lenP te45 rfl h59) ?_
  refine FL.v (E.add rfl rfl) ?_
  refine FL.v (E.assign (v:=Value.int .i64 (wr (s22 + (len y21)))) rfl) ?_
  refine FL.nil (FW.seq (FW.region ?_))
  refine FL.v (E.move (v:=Value.int .i64 (wr (s22 + (len y21)))) rfl) ?_
  refine FL.v (E.lss rfl rfl) ?_
  refine FL.nil ?_
  rcases ifB hp with ⟨c60,hp⟩|⟨c60,hp⟩
  ·
   refine FW.condT rfl c60 ?_
   cases hp
  ·
   refine FW.condF rfl c60 ?_
   refine FW.skip (FW.region ?_)
   refine FL.v (E.add k47 rfl) ?_
   refine FL.v (E.move (v:=Value.int .i64 (wr (((i22:Nat):Int) + 1))) rfl) ?_
   refine FL.nil ?_
   obtain rfl:=Option.some.inj hp
   exact ⟨rfl,⟨_,S43,i44,(zam rfl (zal hx22) (p0.mono i44).le),k48,rfl,k50,k51⟩⟩
 ·
  clear hp hq
  rintro s22 fAX wAW ⟨HAT,SAU,iAV,kAY,kAZ,kB0,kB1,kB2⟩
  refine FW.seq (FW.region ?_)
  refine FL.v (E.lss kAY kB2) ?_
  refine FL.nil (FW.seq ?_)
  refine FW.condF rfl zar ?_
  refine FW.exit ?_
  exact ⟨nofun,rfl,⟨_,SAU,iAV,kAZ,kB0⟩⟩
 ·
  clear hq
  intro e f66 w65 hD
  rcases q22 with s22|x22
  ·
   obtain ⟨rfl,hD⟩:=hD
   obtain ⟨H62,S63,i64,k67,k68⟩:=hD
   replace hp:=el_go hp
   refine FW.seq (FW.region ?_)
   refine FL.v (E.move k68) ?_
   obtain ⟨r69,hr70,hp⟩:=bnd hp
   refine FL.call rfl rfl rfl (E.call Tryz.call114 (A2 rfl rfl)) (zeb S63.sl s22 hr70) ?_
   rintro e w72 ⟨H71,v75,n76,cs77,rfl,r74,els78⟩
   refine ⟨_,rfl,?_⟩
   have els78:=els78.mono (up_le S63.size)
   have S73:=S63.join (l':=[.row 3 1 v75 n76 cs77]) r74 rfl
   refine FL.v (E.assign (v:=v75) rfl) ?_
   refine FL.nil (FW.seq (FW.seq (FW.region ?_)))
   refine FL.v (E.move k67) ?_
   refine FL.v (E.lenP te22 rfl p0) ?_
   refine FL.v (E.move (v:=Value.int .i64 0) rfl) ?_
   refine FL.nil ?_
   obtain ⟨q80,hq,hp⟩:=bndR hp
   refine FW.block ?_
   refine FW.mono (FW.forL (S:=(List Int)) (X:=Empty) (fun (i80:Nat) (s80:(List Int)) f w=>∃ H:GH,∃ v81:Value,∃ n82:Nat,∃ cs83:List Value,St Ha wa H w [.row 3 1 v81 n82 cs83]∧Inc H71 H∧Els (up wa.heap.size H) eI 1 cs83 s80∧f 27=Value.int .i64 ((i80:Nat):Int)∧f 6=v81∧f 25=v0∧f 26=Value.int .i64 (len a0)) (fun (q:Rs (List Int) Empty) e f w=>match q with|.go s80=>e=Exit.exit 2∧(∃ H:GH,∃ v81:Value,∃ n82:Nat,∃ cs83:List Value,St Ha wa H w [.row 3 1 v81 n82 cs83]∧Inc H71 H∧Els (up wa.heap.size H) eI 1 cs83 s80∧f 6=v81)|.rt x=>x.elim) hq ⟨_,_,_,_,S73,(Inc.rfl _),els78,rfl,rfl,rfl,rfl⟩ ?_ ?_) ?_
   ·
    clear hp hq
    rintro i80 y79 s80 fAg wAf ⟨HAc,v81,n82,cs83,SAd,iAe,els84,kAh,kAi,kAj,kAk⟩ hx80 oAD hp
    refine FW.seq (FW.region ?_)
    refine FL.v (E.lssT kAh kAk (zaq hx80)) ?_
    refine FL.nil (FW.seq ?_)
    refine FW.condT rfl rfl ?_
    refine FW.skip (FW.seq (FW.block (FW.seq (FW.region ?_))))
    obtain ⟨pAl,csAm,ptAn,lAo,atAp,relAq⟩:=p0.at (zak hx80)
    obtain ⟨vAr,rfl,hAs⟩:=eL_open relAq
    refine FL.v (E.indexAddr te22 kAj kAh ptAn) ?_
    refine FL.v (E.load rfl (zae Tryz.isAgg45 ((atAp.mono ((i64.tr r74.run.inc).tr iAe)).now SAd.sl) rfl)) ?_
    refine FL.v (E.assign (v:=vAr) rfl) ?_
    refine FL.nil (FW.region ?_)
    refine FL.v (E.move kAi) ?_
    refine FL.v (E.move (v:=vAr) rfl) ?_
    obtain ⟨xsAt,hzAu,hp⟩:=bnd hp
    obtain ⟨vAv,wAy,nAw,csAx,runAz,SAA,elsAB⟩:=SAd.appendP (P:=Tryz.prog) (Inc.rfl _) te45 (i:=0) rfl (els84.mono upI) (hAs.mono ((i64.tr r74.run.inc).tr iAe)) hzAu
    have SAA:St Ha wa HAc wAy [.row 3 1 vAv nAw csAx]:=SAA
    have elsAB:Els (up wa.heap.size HAc) eI 1 csAx xsAt:=elsAB.any (fun _ _ _ _ h=>h)
    refine FL.v (E.append rfl rfl runAz) ?_
    refine FL.v (E.assign (v:=vAv) rfl) ?_
    refine FL.nil (FW.region ?_)
    refine FL.v (E.add kAh rfl) ?_
    refine FL.v (E.move (v:=Value.int .i64 (wr (((i80:Nat):Int) + 1))) rfl) ?_
    refine FL.nil ?_
    obtain rfl:=Option.some.inj hp
    exact ⟨rfl,⟨_,_,_,_,SAA,iAe,elsAB,(zam rfl (zal hx80) (p0.mono ((i64.tr r74.run.inc).tr iAe)).le),rfl,kAj,kAk⟩⟩
   ·
    clear hp hq
    rintro s80 fAO wAN ⟨HAK,v81,n82,cs83,SAL,iAM,els84,kAP,kAQ,kAR,kAS⟩
    refine FW.seq (FW.region ?_)
    refine FL.v (E.lss kAP kAS) ?_
    refine FL.nil (FW.seq ?_)
    refine FW.condF rfl zar ?_
    refine FW.exit ?_
    exact ⟨nofun,rfl,⟨_,_,_,_,SAL,iAM,els84,kAQ⟩⟩
   ·
    clear hq
    intro e fAI wAH hD
    rcases q80 with s80|x80
    ·
     obtain ⟨rfl,hD⟩:=hD
     obtain ⟨HAE,v81,n82,cs83,SAF,iAG,els84,kAJ⟩:=hD
     replace hp:=el_go hp
     refine FW.seq (FW.region ?_)
     refine FL.v (E.move kAJ) ?_
     refine FL.v (E.assign (v:=v81) rfl) ?_
     refine FL.nil ?_
     refine FW.ret ?_
     obtain rfl:=Option.some.inj hp
     exact ⟨.inr rfl,res1 rfl rfl ⟨_,_,_,_,rfl,SAF,els84⟩⟩
    ·
     exact x80.elim
  ·
   exact x22.elim

@[reducible] def zee (H0:GH) (w0:World) (Ha:GH) (L:List MO) (v0:Value) (n0:Nat) (r:(List Int)):Ending→World→Prop :=
 fun e w'=>∃ H':GH,∃ c0k:List Value,e=.returned (Value.tuple #[])∧(St H0 w0 H' w' (.row 3 1 v0 n0 c0k::L)∧Inc Ha H')∧Els (up w0.heap.size H') eI 1 c0k r
theorem zef {H0 Ha:GH} {w0 wa:World} {L:List MO} {v0:Value} {n0:Nat} {k0:List Value} (S0:St H0 w0 Ha wa (.row 3 1 v0 n0 k0::L)) (a0:List Int) (p0:Els (up w0.heap.size Ha) eI 1 k0 a0) (v1:Value) (a1:Int→Int→Option Int) (p1:zcN Tryz.prog Ha v1 a1) {r:(List Int)} (hp:(PF.zc4 a0 a1)=some r) :
  Calls Tryz.prog 112 #[v0,v1] wa (zee H0 w0 Ha L v0 n0 r):=by
 refine (St.sortF (l:=.row 3 1 v0 n0 k0::L) (i:=0) upI S0 rfl p0 (fun H2 w2 hi hs2 c x hc d y hd r hr=>by cases eI_open hc;cases eI_open hd;exact p1 H2 w2 hi hs2 x y r hr) (fun p cap fv w=>AnyF.slices_SortFunc_none (P:=Tryz.prog) (ρ:=Tryz.sort112_ren) { Tryz.sort112 with } p cap fv w) (fun α _ enc h1 cf hO g cb blk off cap d w eg hc hH hb hs=>Any.slices_SortFunc Tryz.sort112 enc h1 cf hO g cb blk off cap d w eg hc hH hb hs) hp).mono ?_
 rintro e w' ⟨rfl,c',h1,h2,hq⟩
 exact ⟨_,_,rfl,⟨h1,Inc.rfl _⟩,h2⟩

@[reducible] def zeg (H0:GH) (w0:World) (Ha:GH) (L:List MO) (r:(List Int)):Ending→World→Prop :=
 fun e w'=>∃ H':GH,∃ v0r:Value,∃ n0r:Nat,∃ c0r:List Value,e=.returned (v0r)∧(St H0 w0 H' w' (.row 3 1 v0r n0r c0r::L)∧Inc Ha H')∧Els (up w0.heap.size H') eI 1 c0r r
theorem zeh {H0 Ha:GH} {w0 wa:World} {L:List MO} {v0:Value} {n0:Nat} {k0:List Value} (S0:St H0 w0 Ha wa (.row 3 1 v0 n0 k0::L)) (a0:List Int) (p0:Els (up w0.heap.size Ha) eI 1 k0 a0) {r:(List Int)} (hp:(PF.zdn a0)=some r) :
  Calls Tryz.prog 113 #[v0] wa (zeg H0 w0 Ha L r):=by
 cases hp
 refine (St.compactF (l:=.row 3 1 v0 n0 k0::L) (i:=0) S0 rfl p0 (enc:=Value.int .i64) (fun _=>rfl) (fun _ _ _ h=>by cases eI_open h;rfl) (fun _ _=>rfl) 0 (fun w=>compact_none Tryz.comp113 w) (fun blk off cap d w hH hs hc=>AnyE.slices_Compact Tryz.comp113 (Value.int .i64) (fun _=>rfl) (EqlAt.intD _ _ _) (NeqAt.intD _ _ _) 0 (fun w=>Tryz.zeroValue3 w) blk off cap d w hH hs hc)).mono ?_
 rintro e w' ⟨v',n',c',rfl,h1,h2⟩
 exact ⟨_,_,_,_,rfl,⟨h1,Inc.rfl _⟩,h2⟩

@[reducible] def p_impl_clause (Ha:GH) (wa:World) (r:((List Int)×Bool)):Ending→World→Prop :=
 fun e w'=>∃ H':GH,∃ v0:Value,∃ n0:Nat,∃ c0:List Value,e=.returned (Value.tuple #[v0,Value.bool r.2])∧St Ha wa H' w' [.row 3 1 v0 n0 c0]∧Els (up wa.heap.size H') eI 1 c0 r.1
set_option maxHeartbeats 4000000 in
theorem w_impl_clause {Ha:GH} {wa:World} (hs:Sl Ha wa) (v0:Value) (a0:List Int) (p0:RSl Ha eI 1 v0 a0) {r:((List Int)×Bool)} (hp:(PF.zcb a0)=some r) :
  Calls Tryz.prog 78 #[v0] wa (p_impl_clause Ha wa r):=by
 unfold PF.zcb at hp
 have S0:=St.init hs
 refine zag (N:=30) (args:=[v0]) Tryz.func78 rfl rfl rfl ?_
 refine FW.seq (FW.region ?_)
 refine FL.v (E.assign (v:=Value.slice none 0 0) rfl) ?_
 refine FL.v (E.assign (v:=Value.bool false) rfl) ?_
 refine FL.nil (FW.seq (FW.region ?_))
 refine FL.v (E.move (v:=v0) rfl) ?_
 obtain ⟨r21,hr22,hp⟩:=bnd hp
 refine FL.call rfl rfl rfl (E.call Tryz.call111 (A1 rfl)) (zdL S0.sl v0 a0 p0 hr22) ?_
 rintro e w24 ⟨H23,v27,n28,cs29,rfl,r26,els30⟩
 refine ⟨_,rfl,?_⟩
 have els30:=els30.mono (up_le S0.size)
 have S25:=S0.join (l':=[.row 3 1 v27 n28 cs29]) r26 rfl
 refine FL.v (E.assign (v:=v27) rfl) ?_
 refine FL.nil (FW.seq (FW.region ?_))
 refine FL.v (E.move (v:=v27) rfl) ?_
 obtain ⟨r31,hr32,hp⟩:=bnd hp
 refine FL.call rfl rfl rfl (E.call Tryz.call112 (A2 rfl rfl)) (zef (L:=[]) S25 r21 els30 (Value.func (.func 109) #[] #[]) (fun x0 x1=>PF.zaE x0 x1) (fun H2 w2 hi2 hs2 x0 x1 r hr=>⟨109,#[],rfl,Tryz.call109,zdJ hs2 x0 x1  hr⟩) hr32) ?_
 rintro e w34 ⟨H33,cs37,rfl,⟨S35,i36⟩,els38⟩
 refine ⟨_,rfl,?_⟩
 have S35:St Ha wa H33 w34 [.row 3 1 v27 n28 cs37]:=S35
 refine FL.nil (FW.seq (FW.region ?_))
 refine FL.v (E.move (v:=v27) rfl) ?_
 obtain ⟨r39,hr40,hp⟩:=bnd hp
 refine FL.call rfl rfl rfl (E.call Tryz.call113 (A1 rfl)) (zeh (L:=[]) S35 r31 els38 hr40) ?_
 rintro e w42 ⟨H41,v45,n46,cs47,rfl,⟨S43,i44⟩,els48⟩
 refine ⟨_,rfl,?_⟩
 have S43:St Ha wa H41 w42 [.row 3 1 v45 n46 cs47]:=S43
 refine FL.v (E.assign (v:=v45) rfl) ?_
 refine FL.nil (FW.seq (FW.seq (FW.region ?_)))
 refine FL.v (E.assign (v:=Value.int .i64 1) rfl) ?_
 refine FL.nil ?_
 obtain ⟨q49,hq,hp⟩:=bndR hp
 refine FW.block ?_
 refine FW.mono (FW.iter (S:=Int) (X:=((List Int)×Bool)) (fun (s49:Int) f w=>∃ H:GH,St Ha wa H w [.row 3 1 v45 n46 cs47]∧Inc H41 H∧f 4=v45∧f 5=Value.int .i64 s49) (fun q e f w=>match q with|.go s49=>e=Exit.exit 0∧(∃ H:GH,St Ha wa H w [.row 3 1 v45 n46 cs47]∧Inc H41 H∧f 4=v45)|.rt x=>((e=Exit.ret)∧(fun e f w=>(e=Exit.normal∨e=Exit.ret)∧∀ a,Fr (δ:=[]) 30 a f→∃ v,(results Tryz.f78 a.tmps).run Tryz.prog w=.ok v w∧(p_impl_clause Ha wa x) (.returned v) w) e f w)) hq ⟨_,S43,(Inc.rfl _),rfl,rfl⟩ ?_) ?_
 ·
  clear hp hq
  rintro s49 f83 w82 ⟨H79,S80,i81,k84,k85⟩ oA8 hp
  refine FW.seq (FW.seq (FW.region ?_))
  refine FL.v (E.move k85) ?_
  refine FL.v (E.move k84) ?_
  refine FL.v (E.lenO te45 rfl S80 (i:=0) rfl els48 (by decide)) ?_
  refine FL.v (E.lss rfl rfl) ?_
  refine FL.nil ?_
  rcases ifB hp with ⟨c86,hp⟩|⟨c86,hp⟩
  ·
   refine FW.condT rfl c86 ?_
   refine FW.skip (FW.seq (FW.block (FW.seq ?_)))
   refine FW.draw (fun w'=>Run w82.heap.size H79 w82 H79 w') (by kernel_rfl) (by kernel_rfl) (zaF S80.sl) ?_
   refine FD.val rfl rfl rfl (fun w' hw'=>(E.move k84)) ?_
   refine FD.val rfl rfl rfl (fun w' hw'=>(E.move k85)) ?_
   obtain ⟨x94,hx95,hp⟩:=bnd hp
   obtain ⟨p88,cs89,pt90,l91,at92,rel93⟩:=S80.row_at (i:=0) rfl els48 (by decide) hx95
   obtain rfl:=eI_open rel93
   refine FD.val rfl rfl rfl (fun w' hw'=>(E.indexAddr te45 rfl rfl pt90)) ?_
   refine FD.val rfl rfl rfl (fun w' hw'=>(E.load rfl (zae Tryz.isAgg3 (at92.cls hw') rfl))) ?_
   refine FD.val rfl rfl rfl (fun w' hw'=>(E.move k84)) ?_
   refine FD.val rfl rfl rfl (fun w' hw'=>(E.move k85)) ?_
   refine FD.val rfl rfl rfl (fun w' hw'=>(E.sub rfl rfl)) ?_
   obtain ⟨xA2,hxA3,hp⟩:=bnd hp
   obtain ⟨p96,cs97,pt98,l99,atA0,relA1⟩:=S80.row_at (i:=0) rfl els48 (by decide) hxA3
   obtain rfl:=eI_open relA1
   refine FD.val rfl rfl rfl (fun w' hw'=>(E.indexAddr te45 rfl rfl pt98)) ?_
   refine FD.val rfl rfl rfl (fun w' hw'=>(E.load rfl (zae Tryz.isAgg3 (atA0.cls hw') rfl))) ?_
   refine FD.val rfl rfl rfl (fun w' hw'=>(E.neg rfl)) ?_
   refine FD.val rfl rfl rfl (fun w' hw'=>(E.eql rfl rfl)) ?_
   refine FD.nil ?_
   intro wA4 rA6
   have SA5:=S80.call rA6
   rcases ifB hp with ⟨cA7,hp⟩|⟨cA7,hp⟩
   ·
    refine FW.condT rfl cA7 ?_
    refine FW.seq (FW.region ?_)
    refine FL.v (E.assign (v:=Value.slice none 0 0) rfl) ?_
    refine FL.v (E.assign (v:=Value.bool false) rfl) ?_
    refine FL.nil ?_
    refine FW.ret ?_
    obtain rfl:=Option.some.inj hp
    exact ⟨nofun,rfl,⟨.inr rfl,res2 rfl rfl rfl ⟨_,_,_,_,rfl,((SA5.nil 3 1).sel [0] (by decide) rfl),Els.nil⟩⟩⟩
   ·
    refine FW.condF rfl cA7 ?_
    refine FW.skip (FW.region ?_)
    refine FL.v (E.move k85) ?_
    refine FL.v (E.add rfl rfl) ?_
    refine FL.v (E.assign (v:=Value.int .i64 (wr (s49 + 1))) rfl) ?_
    refine FL.nil ?_
    obtain rfl:=Option.some.inj hp
    exact ⟨rfl,⟨_,SA5,i81,k84,rfl⟩⟩
  ·
   refine FW.condF rfl c86 ?_
   refine FW.exit ?_
   obtain rfl:=Option.some.inj hp
   exact ⟨nofun,rfl,⟨_,S80,i81,k84⟩⟩
 ·
  clear hq
  intro e fAd wAc hD
  rcases q49 with s49|x49
  ·
   obtain ⟨rfl,hD⟩:=hD
   obtain ⟨HA9,SAa,iAb,kAe⟩:=hD
   replace hp:=el_go hp
   refine FW.seq (FW.region ?_)
   refine FL.v (E.move kAe) ?_
   refine FL.v (E.assign (v:=v45) rfl) ?_
   refine FL.v (E.assign (v:=Value.bool true) rfl) ?_
   refine FL.nil ?_
   refine FW.ret ?_
   obtain rfl:=Option.some.inj hp
   exact ⟨.inr rfl,res2 rfl rfl rfl ⟨_,_,_,_,rfl,SAa,(els48.mono (zaf iAb))⟩⟩
  ·
   obtain ⟨he,hL⟩:=hD
   replace hp:=el_rt hp
   obtain rfl:=Option.some.inj hp
   subst he
   exact hL

@[reducible] def p_impl_resolve (Ha:GH) (wa:World) (r:((List Int)×Bool)):Ending→World→Prop :=
 fun e w'=>∃ H':GH,∃ v0:Value,∃ n0:Nat,∃ c0:List Value,e=.returned (Value.tuple #[v0,Value.bool r.2])∧St Ha wa H' w' [.row 3 1 v0 n0 c0]∧Els (up wa.heap.size H') eI 1 c0 r.1
set_option maxHeartbeats 4000000 in
theorem zdN {Ha:GH} {wa:World} (hs:Sl Ha wa) (v0:Value) (a0:List Int) (p0:RSl Ha eI 1 v0 a0) (v1:Value) (a1:List Int) (p1:RSl Ha eI 1 v1 a1) (a2:Int) {r:((List Int)×Bool)} (hp:(PF.zbo a0 a1 a2)=some r) :
  Calls Tryz.prog 52 #[v0,v1,Value.int .i64 a2] wa (p_impl_resolve Ha wa r):=by
 unfold PF.zbo at hp
 have S0:=St.init hs
 refine zag (N:=30) (args:=[v0,v1,Value.int .i64 a2]) Tryz.func52 rfl rfl rfl ?_
 refine FW.seq (FW.region ?_)
 refine FL.v (E.assign (v:=Value.slice none 0 0) rfl) ?_
 refine FL.v (E.assign (v:=Value.bool false) rfl) ?_
 refine FL.nil (FW.seq (FW.seq (FW.region ?_)))
 refine FL.v (E.move (v:=v0) rfl) ?_
 refine FL.v (E.move (v:=Value.int .i64 a2) rfl) ?_
 obtain ⟨r21,hr22,hp⟩:=bnd hp
 refine FL.call rfl rfl rfl (E.call Tryz.call77 (A2 rfl rfl)) (zdK S0.sl v0 a0 p0 a2 hr22) ?_
 rintro e w23 ⟨rfl,r24⟩
 refine ⟨_,rfl,?_⟩
 have S25:=S0.call r24
 refine FL.v (E.not rfl) ?_
 refine FL.v (E.move (v:=Value.bool (!r21)) rfl) ?_
 obtain ⟨t31,hqt31,hp⟩:=bnd hp
 refine FL.cut 6 (fun f w=>∃ H:GH,St Ha wa H w []∧Inc Ha H∧f 0=v0∧f 1=v1∧f 2=Value.int .i64 a2∧f 18=Value.bool t31) ?_ ?_
 ·
  clear hp;have hp:=hqt31;clear hqt31
  rcases ifB hp with ⟨c37,hp⟩|⟨c37,hp⟩
  ·
   refine FL.skip (wF_no rfl rfl rfl c37) rfl ?_
   refine FL.skip (wF_no rfl rfl rfl c37) rfl ?_
   refine FL.skip (wF_no rfl rfl rfl c37) rfl ?_
   refine FL.skip (wF_no rfl rfl rfl c37) rfl ?_
   refine FL.skip (wF_no rfl rfl rfl c37) rfl ?_
   obtain rfl:=Option.some.inj hp
   refine FL.v (E.pickT rfl c37 rfl) ?_
   exact FL.nil ⟨rfl,_,S25,(Inc.rfl _),rfl,rfl,rfl,rfl⟩
  ·
   refine FL.val (zac rfl rfl rfl c37) rfl rfl (E.move (v:=v1) rfl) ?_
   refine FL.val (zac rfl rfl rfl c37) rfl rfl (E.move (v:=Value.int .i64 a2) rfl) ?_
   refine FL.val (zac rfl rfl rfl c37) rfl rfl (E.neg rfl) ?_
   obtain ⟨r38,hr39,hp⟩:=bnd hp
   refine FL.call (zac rfl rfl rfl c37) rfl rfl (E.call Tryz.call77 (A2 rfl rfl)) (zdK S25.sl v1 a1 p1 (wr (-a2)) hr39) ?_
   rintro e w40 ⟨rfl,r41⟩
   refine ⟨_,rfl,?_⟩
   have S42:=S25.call r41
   refine FL.val (zac rfl rfl rfl c37) rfl rfl (E.not rfl) ?_
   obtain rfl:=Option.some.inj hp
   refine FL.v (E.pickF rfl c37 rfl) ?_
   exact FL.nil ⟨rfl,_,S42,(Inc.rfl _),rfl,rfl,rfl,rfl⟩
 rintro f36 w35 ⟨H32,S33,i34,k43,k44,k45,k46⟩
 refine FL.nil ?_
 rcases ifB hp with ⟨c47,hp⟩|⟨c47,hp⟩
 ·
  refine FW.condT k46 c47 ?_
  refine FW.seq (FW.region ?_)
  refine FL.v (E.assign (v:=Value.slice none 0 0) rfl) ?_
  refine FL.v (E.assign (v:=Value.bool false) rfl) ?_
  refine FL.nil ?_
  refine FW.ret ?_
  obtain rfl:=Option.some.inj hp
  exact ⟨.inr rfl,res2 rfl rfl rfl ⟨_,_,_,_,rfl,(S33.nil 3 1),Els.nil⟩⟩
 ·
  refine FW.condF k46 c47 ?_
  refine FW.skip (FW.seq (FW.region ?_))
  refine FL.v (E.move k43) ?_
  refine FL.v (E.move k45) ?_
  obtain ⟨r48,hr49,hp⟩:=bnd hp
  refine FL.call rfl rfl rfl (E.call Tryz.call80 (A2 rfl rfl)) (zdM S33.sl v0 a0 (p0.mono i34) a2 hr49) ?_
  rintro e w51 ⟨H50,v54,n55,cs56,rfl,r53,els57⟩
  refine ⟨_,rfl,?_⟩
  have els57:=els57.mono (up_le S33.size)
  have S52:=S33.join (l':=[.row 3 1 v54 n55 cs56]) r53 rfl
  refine FL.v (E.move k44) ?_
  refine FL.v (E.move k45) ?_
  obtain ⟨r58,hr59,hp⟩:=bnd hp
  refine FL.call rfl rfl rfl (E.call Tryz.call80 (A2 rfl rfl)) (zdM S52.sl v1 a1 (p1.mono (i34.tr r53.run.inc)) a2 hr59) ?_
  rintro e w61 ⟨H60,v64,n65,cs66,rfl,r63,els67⟩
  refine ⟨_,rfl,?_⟩
  have els67:=els67.mono (up_le S52.size)
  have S62:=S52.join (l':=[.row 3 1 v64 n65 cs66,.row 3 1 v54 n55 cs56]) r63 rfl
  obtain ⟨H68,S69,i70,h71,nv72⟩:=S62.sealRowU (i:=1) (l':=[.row 3 1 v64 n65 cs66]) rfl (els57.mono (zaf r63.run.inc)) (by decide) rfl
  obtain ⟨H73,S74,i75,h76,nv77⟩:=S69.sealRowU (i:=0) (l':=[]) rfl (els67.mono (zaf i70)) (by decide) rfl
  obtain ⟨v78,w79,run80,S81⟩:=S74.buildSlice (P:=Tryz.prog) te22 [v54,v64] (parts:=#[(0,v54),(1,v64)]) (cells:=[v54,v64]) rfl (zaH (zbs h71.cells) (zaH (zbs h76.cells) zaw)) (zaG h71.cells (zaG h76.cells zav)) (zab h71.one (zab h76.one zad)) (Nat.le_of_ble_eq_true rfl)
  have els82:Els (up wa.heap.size H73) (eL eI 1) 1 [v54,v64] [r48,r58]:=(Els.snoc (H:=(up wa.heap.size H73)) (E:=(eL eI 1)) (k:=1) (c:=[v64]) (x:=r58) (Els.snoc (H:=(up wa.heap.size H73)) (E:=(eL eI 1)) (k:=1) (c:=[v54]) (x:=r48) Els.nil rfl ⟨_,rfl,(h71.mono (zaf i75))⟩) rfl ⟨_,rfl,h76⟩)
  have nd83:(bl [v54,v64]).Nodup:=by exact nd_two (New.apart (h71.mono (zaf (Inc.rfl _))) nv77)
  have nv84:New H60 [v54,v64]:=by exact (New.two nv72 (nv77.anti i70))
  refine FL.v (E.buildSlice (B2 rfl rfl) run80) ?_
  obtain ⟨H85,S86,i87,ns90,nv89⟩:=S81.sealRowN (i:=0) (l':=[]) rfl els82 nd83 (by decide) rfl
  have h88:=ns90.rsl
  obtain ⟨r91,hr92,hp⟩:=bnd hp
  refine FL.call rfl rfl rfl (E.call Tryz.call79 (A1 rfl)) (zed S86.sl v78 [r48,r58] (h88.mono upI) hr92) ?_
  rintro e w94 ⟨H93,v99,nA0,csA1,rfl,r96,elsA2⟩
  refine ⟨_,rfl,?_⟩
  obtain ⟨H97,r96,hU98⟩:=St.lendX i87 S81.sl r96
  have elsA2:=elsA2.mono (hU98.tr (up_le S81.size))
  have S95:=S81.join (l':=[.row 3 1 v99 nA0 csA1,.row 45 1 v78 2 [v54,v64]]) r96 rfl
  obtain ⟨HA3,SA4,iA5,hA6,nvA7⟩:=S95.sealRowU (i:=0) (l':=[.row 45 1 v78 2 [v54,v64]]) rfl elsA2 (by decide) rfl
  obtain ⟨rA8,hrA9,hp⟩:=bnd hp
  refine FL.call rfl rfl rfl (E.call Tryz.call78 (A1 rfl)) (w_impl_clause SA4.sl v99 r91 (hA6.mono upI) hrA9) ?_
  rintro e wAb ⟨HAa,vAg,nAh,csAi,rfl,rAd,elsAj⟩
  refine ⟨_,rfl,?_⟩
  obtain ⟨HAe,rAd,hU115⟩:=St.lendX iA5 S95.sl rAd
  have elsAj:=elsAj.mono (hU115.tr (up_le S95.size))
  have SAc:=S95.join (l':=[.row 3 1 vAg nAh csAi,.row 3 1 v99 nA0 csA1,.row 45 1 v78 2 [v54,v64]]) rAd rfl
  refine FL.v (E.extract (i:=0) rfl rfl) ?_
  refine FL.v (E.extract (i:=1) rfl rfl) ?_
  refine FL.v (E.assign (v:=vAg) rfl) ?_
  refine FL.v (E.assign (v:=Value.bool rA8.2) rfl) ?_
  refine FL.nil ?_
  refine FW.ret ?_
  obtain rfl:=Option.some.inj hp
  exact ⟨.inr rfl,res2 rfl rfl rfl ⟨_,_,_,_,rfl,(SAc.sel [0] (by decide) rfl),elsAj⟩⟩

@[reducible] def p_impl_spacesOf (Ha:GH) (wa:World) (r:(Option spaces)):Ending→World→Prop :=
 fun e w'=>∃ H':GH,∃ v0:Value,e=.returned (v0)∧Run wa.heap.size Ha wa H' w'∧OP (fun (q:Addr) (x:spaces)=>∃ v0R_1:Value,∃ v0R_2:Value,∃ v0R_3:Value,RSl H' (eL eI 1) 1 v0R_1 x.f.clauses∧RSl H' (eL eI 1) 1 v0R_2 x.all∧RSl (up wa.heap.size H') (eL (eN .u64) 1) 1 v0R_3 x.parents∧CAt H' q [Value.int .i64 x.f.vars,v0R_1,v0R_2,v0R_3]) v0 r
set_option maxHeartbeats 4000000 in
theorem w_impl_spacesOf {Ha:GH} {wa:World} (hs:Sl Ha wa) (a0:Cnf) (v0_1:Value) (p0_1:RSl Ha (eL eI 1) 1 v0_1 a0.clauses) (v1:Value) (a1:List (List Int)) (p1:RSl Ha (eL eI 1) 1 v1 a1) {r:(Option spaces)} (hp:(PF.zcJ a0 a1)=some r) :
  Calls Tryz.prog 27 #[Value.agg #[Value.int .i64 a0.vars,v0_1],v1] wa (p_impl_spacesOf Ha wa r):=by
 unfold PF.zcJ at hp
 have S0:=St.init hs
 refine zag (N:=94) (args:=[Value.agg #[Value.int .i64 a0.vars,v0_1],v1]) Tryz.func27 rfl rfl rfl ?_
 refine FW.seq (FW.region ?_)
 obtain ⟨b21,w22,run23,S24⟩:=S0.box (P:=Tryz.prog) 28 [Value.int .i64 a0.vars,v0_1] (v:=Value.agg #[Value.int .i64 a0.vars,v0_1]) rfl (zab rfl (zab p0_1.one zad))
 refine FL.v (E.box rfl run23) ?_
 obtain ⟨H25,S26,i27,at28⟩:=S24.sealBox (i:=0) (l':=[]) rfl rfl
 refine FL.v (E.assign (v:=Value.pointer none) rfl) ?_
 refine FL.nil (FW.seq ?_)
 obtain ⟨xs32,hm33,hp⟩:=bnd hp
 refine FW.drawB (Sl H25) (fun f w=>∃ H:GH,∃ b46:Nat,∃ v47:Value,∃ v49:Value,∃ v51:Value,∃ n52:Nat,∃ cs53:List Value,∃ rs55:List PR,St Ha wa H w (.box b46 85 [Value.int .i64 a0.vars,v47,v49,v51]::.row 87 1 v51 n52 cs53::(plT 63 1 rs55 []))∧Inc H25 H∧RSl H (eL eI 1) 1 v47 a0.clauses∧RSl H (eL eI 1) 1 v49 a1∧Pool (up wa.heap.size H) (eN .u64) 1 cs53 rs55 xs32∧f 1=v1∧f 2=Value.pointer (some ⟨b21,0,none⟩)∧f 5=Value.pointer (some (⟨b46,0,none⟩:Addr))) (by kernel_rfl) S26.sl ?_ ?_
 ·
  intro w29 r30
  have S31:=S26.call r30
  refine FB.t (i:=0) (bs 8 1) rfl (SP.nil S31.sl) rfl (fun w' hw'=>(E.load rfl (zax Tryz.isAgg28 Tryz.sizeOf28 (at28.now hw') rfl))) ?_
  refine FB.t (i:=1) (bs 8 3) rfl (SP.nil S31.sl) rfl (fun w' hw'=>(E.move (v:=v1) rfl)) ?_
  refine FB.t (i:=2) (bs 8 7) rfl (SP.nil S31.sl) rfl (fun w' hw'=>(E.move (v:=v1) rfl)) ?_
  refine FB.t (i:=3) (bs 8 15) rfl (SP.nil S31.sl) rfl (fun w' hw'=>(E.lenP te22 rfl p1)) ?_
  refine FB.all1 (i:=4) (by kernel_rfl) ?_
  ·
   obtain ⟨v34,w35,n39,cs40,rs41,run36,S37,els38⟩:=S31.makePool (P:=Tryz.prog) (a:=[]) (L:=[]) te83 rfl (G:=(up wa.heap.size H25)) (En:=(eN .u64)) hm33 63 1 .i64 .i64
   have S37:St Ha wa H25 w35 (.row 87 1 v34 n39 cs40::(plT 63 1 rs41 [])):=S37
   refine FC.val (l':=(bs 8 31)) rfl (by kernel_rfl) rfl rfl rfl (E.makeSlice rfl rfl run36) ?_
   refine ⟨(SP.nil S37.sl),?_⟩
   refine FB.t (i:=5) (bs 8 63) rfl (SP.nil S37.sl) rfl (fun w' hw'=>(E.build (B3 rfl rfl rfl) (run_build _ 85 #[(0,Value.agg #[Value.int .i64 a0.vars,v0_1]),(1,v1),(2,v34)] #[Value.int .i64 a0.vars,v0_1,v1,v34] (by obtain ⟨_,_,rfl⟩:=RSl.ln (p0_1.mono i27);obtain ⟨_,_,rfl⟩:=RSl.ln (p1.mono i27);obtain ⟨_,_,rfl⟩:=S37.row_ln (i:=0) rfl;rfl)))) ?_
   refine FB.all1 (i:=6) (by kernel_rfl) ?_
   ·
    obtain ⟨b42,w43,run44,S45⟩:=S37.box (P:=Tryz.prog) 85 [Value.int .i64 a0.vars,v0_1,v1,v34] (v:=Value.agg #[Value.int .i64 a0.vars,v0_1,v1,v34]) rfl (zab rfl (zab p0_1.one (zab p1.one (zab (Ln.one (S37.row_ln (i:=0) rfl)) zad))))
    refine FC.val (l':=(bs 8 127)) rfl (by kernel_rfl) rfl rfl rfl (E.box rfl run44) ?_
    refine ⟨(SP.nil S45.sl),?_⟩
    refine FB.t (i:=7) (bs 8 255) rfl (SP.nil S45.sl) rfl (fun w' hw'=>(E.assign (v:=Value.pointer (some (⟨b42,0,none⟩:Addr))) rfl)) ?_
    exact FB.done (by kernel_rfl) ⟨_,_,_,_,_,_,_,_,S45,(Inc.rfl _),(p0_1.mono i27),(p1.mono i27),els38,rfl,rfl,rfl⟩
 ·
  rintro f60 w59 ⟨H56,b46,v47,v49,v51,n52,cs53,rs55,S57,i58,h48,h50,els54,k61,k62,k63⟩
  refine FW.seq (FW.seq (FW.region ?_))
  refine FL.v (E.move k61) ?_
  refine FL.v (E.lenP te22 rfl p1) ?_
  refine FL.v (E.move (v:=Value.int .i64 0) rfl) ?_
  refine FL.nil ?_
  obtain ⟨q65,hq,hp⟩:=bndR hp
  refine FW.block ?_
  refine FW.mono (FW.forL (S:=((List (List Int))×(List (List Int))×(List (List Int)))) (X:=Empty) (fun (i65:Nat) (s65:((List (List Int))×(List (List Int))×(List (List Int)))) f w=>∃ H:GH,∃ v66:Value,∃ n67:Nat,∃ cs68:List Value,∃ rs70:List PR,∃ v71:Value,∃ v73:Value,St Ha wa H w (.box b46 85 [Value.int .i64 a0.vars,v71,v73,v66]::.row 87 1 v66 n67 cs68::(plT 63 1 rs70 []))∧Inc H56 H∧Pool (up wa.heap.size H) (eN .u64) 1 cs68 rs70 s65.1∧RSl H (eL eI 1) 1 v71 s65.2.1∧RSl H (eL eI 1) 1 v73 s65.2.2∧f 23=Value.int .i64 ((i65:Nat):Int)∧f 1=v1∧f 2=Value.pointer (some ⟨b21,0,none⟩)∧f 5=Value.pointer (some (⟨b46,0,none⟩:Addr))∧f 21=v1∧f 22=Value.int .i64 (len a1)) (fun (q:Rs ((List (List Int))×(List (List Int))×(List (List Int))) Empty) e f w=>match q with|.go s65=>e=Exit.exit 0∧(∃ H:GH,∃ v66:Value,∃ n67:Nat,∃ cs68:List Value,∃ rs70:List PR,∃ v71:Value,∃ v73:Value,St Ha wa H w (.box b46 85 [Value.int .i64 a0.vars,v71,v73,v66]::.row 87 1 v66 n67 cs68::(plT 63 1 rs70 []))∧Inc H56 H∧Pool (up wa.heap.size H) (eN .u64) 1 cs68 rs70 s65.1∧RSl H (eL eI 1) 1 v71 s65.2.1∧RSl H (eL eI 1) 1 v73 s65.2.2∧f 5=Value.pointer (some (⟨b46,0,none⟩:Addr)))|.rt x=>x.elim) hq ⟨_,_,_,_,_,_,_,S57,(Inc.rfl _),els54,h48,h50,rfl,k61,k62,k63,rfl,rfl⟩ ?_ ?_) ?_
  ·
   clear hp hq
   rintro i65 y64 s65 f79 w78 ⟨H75,v66,n67,cs68,rs70,v71,v73,S76,i77,els69,h72,h74,k80,k81,k82,k84,k86,k88⟩ hx65 oHK hp
   refine FW.seq (FW.region ?_)
   refine FL.v (E.lssT k80 k88 (zaq hx65)) ?_
   refine FL.nil (FW.seq ?_)
   refine FW.condT rfl rfl ?_
   refine FW.skip (FW.seq (FW.block (FW.seq (FW.region ?_))))
   refine FL.v (E.move k80) ?_
   obtain ⟨p89,cs90,pt91,l92,at93,rel94⟩:=p1.at (zak hx65)
   obtain ⟨v95,rfl,h96⟩:=eL_open rel94
   refine FL.v (E.indexAddr te22 k86 k80 pt91) ?_
   refine FL.v (E.load rfl (zae Tryz.isAgg45 ((at93.mono ((i27.tr i58).tr i77)).now S76.sl) rfl)) ?_
   refine FL.v (E.assign (v:=Value.int .i64 ((i65:Nat):Int)) rfl) ?_
   refine FL.v (E.assign (v:=v95) rfl) ?_
   refine FL.nil (FW.seq (FW.seq (FW.region ?_)))
   refine FL.v (E.fieldAddr zaS k82) ?_
   refine FL.v (E.load rfl (zah Tryz.isAgg22 ((at28.mono (i58.tr i77)).now S76.sl) rfl)) ?_
   refine FL.v (E.move (v:=v95) rfl) ?_
   obtain ⟨r97,hr98,hp⟩:=bnd hp
   refine FL.call rfl rfl rfl (E.call Tryz.call51 (A2 rfl rfl)) (w_impl_hasList S76.sl v0_1 a0.clauses (p0_1.mono ((i27.tr i58).tr i77)) v95 y64 (h96.mono ((i27.tr i58).tr i77)) hr98) ?_
   rintro e w99 ⟨rfl,rA0⟩
   refine ⟨_,rfl,?_⟩
   have SA1:=S76.call rA0
   refine FL.nil ?_
   rcases ifB hp with ⟨cA2,hp⟩|⟨cA2,hp⟩
   ·
    refine FW.condT rfl cA2 ?_
    obtain ⟨xA9,hxAa,hp⟩:=bnd hp
    obtain ⟨xsAk,hzAl,hp⟩:=bnd hp
    obtain ⟨xAx,hxAy,hp⟩:=bnd hp
    obtain ⟨xsAD,hputAE,hp⟩:=bnd hp
    refine FW.drawB (Sl H75) (fun f w=>∃ H:GH,∃ vAK:Value,∃ nAL:Nat,∃ csAM:List Value,∃ rs150:List PR,∃ vAP:Value,∃ vAR:Value,St Ha wa H w (.box b46 85 [Value.int .i64 a0.vars,vAP,vAR,vAK]::.row 87 1 vAK nAL csAM::(plT 63 1 rs150 []))∧Inc H75 H∧Pool (up wa.heap.size H) (eN .u64) 1 csAM rs150 xsAD∧RSl H (eL eI 1) 1 vAP s65.2.1∧RSl H (eL eI 1) 1 vAR s65.2.2∧f 1=v1∧f 2=Value.pointer (some ⟨b21,0,none⟩)∧f 5=Value.pointer (some (⟨b46,0,none⟩:Addr))∧f 6=Value.int .i64 ((i65:Nat):Int)∧f 7=v95∧f 21=v1∧f 22=Value.int .i64 (len a1)∧f 23=Value.int .i64 ((i65:Nat):Int)) (by kernel_rfl) SA1.sl ?_ ?_
    ·
     intro wA3 rA4
     have SA5:=SA1.call rA4
     refine FB.phase [15] (fun w=>WAt w (Addr.add ⟨b46,0,none⟩ 3) [v66]) ?_
     refine FB.t (i:=0) (bs 16 1) rfl (SP.on ((SA5.box_now (i:=0) rfl).sub (j:=3) (n:=1) (c:=[v66]) rfl) (SP.nil SA5.sl)) rfl (fun w' hw'=>(E.move k84)) ?_
     refine FB.t (i:=1) (bs 16 3) rfl (SP.on ((SA5.box_now (i:=0) rfl).sub (j:=3) (n:=1) (c:=[v66]) rfl) (SP.nil SA5.sl)) rfl (fun w' hw'=>(E.nilCheck rfl)) ?_
     refine FB.t (i:=2) (bs 16 7) rfl (SP.on ((SA5.box_now (i:=0) rfl).sub (j:=3) (n:=1) (c:=[v66]) rfl) (SP.nil SA5.sl)) rfl (fun w' hw'=>(E.fieldAddr tf85_2 rfl)) ?_
     refine FB.p (i:=3) (bs 16 15) 0 [14,15] rfl (SP.on ((SA5.box_now (i:=0) rfl).sub (j:=3) (n:=1) (c:=[v66]) rfl) (SP.nil SA5.sl)) rfl rfl (fun w' hw'=>(E.load rfl (zae Tryz.isAgg83 hw' rfl))) ?_
     refine FB.t (i:=4) (bs 16 31) rfl (SP.on ((SA5.box_now (i:=0) rfl).sub (j:=3) (n:=1) (c:=[v66]) rfl) (SP.nil SA5.sl)) rfl (fun w' hw'=>(E.move (v:=Value.int .i64 ((i65:Nat):Int)) rfl)) ?_
     refine FB.t (i:=5) (bs 16 63) rfl (SP.on ((SA5.box_now (i:=0) rfl).sub (j:=3) (n:=1) (c:=[v66]) rfl) (SP.nil SA5.sl)) rfl (fun w' hw'=>(E.move k84)) ?_
     refine FB.t (i:=6) (bs 16 127) rfl (SP.on ((SA5.box_now (i:=0) rfl).sub (j:=3) (n:=1) (c:=[v66]) rfl) (SP.nil SA5.sl)) rfl (fun w' hw'=>(E.nilCheck rfl)) ?_
     refine FB.t (i:=7) (bs 16 255) rfl (SP.on ((SA5.box_now (i:=0) rfl).sub (j:=3) (n:=1) (c:=[v66]) rfl) (SP.nil SA5.sl)) rfl (fun w' hw'=>(E.fieldAddr tf85_2 rfl)) ?_
     refine FB.p (i:=8) (bs 16 511) 0 [10,11,13,14,15] rfl (SP.on ((SA5.box_now (i:=0) rfl).sub (j:=3) (n:=1) (c:=[v66]) rfl) (SP.nil SA5.sl)) rfl rfl (fun w' hw'=>(E.load rfl (zae Tryz.isAgg83 hw' rfl))) ?_
     refine FB.t (i:=9) (bs 16 1023) rfl (SP.on ((SA5.box_now (i:=0) rfl).sub (j:=3) (n:=1) (c:=[v66]) rfl) (SP.nil SA5.sl)) rfl (fun w' hw'=>(E.move (v:=Value.int .i64 ((i65:Nat):Int)) rfl)) ?_
     obtain ⟨pA6,rAc,ptA7,atA8,hrAd,he114,hallAb⟩:=SA5.pool_at (i:=1) rfl els69 hxAa
     refine FB.t (i:=10) (bs 16 2047) rfl (SP.on ((SA5.box_now (i:=0) rfl).sub (j:=3) (n:=1) (c:=[v66]) rfl) (SP.nil SA5.sl)) rfl (fun w' hw'=>(E.indexAddr te83 rfl rfl ptA7)) ?_
     refine FB.phase [15] (fun w'=>WAt w' pA6 [rAc.v]) ?_
     refine FB.p (i:=11) (bs 16 4095) 0 [13,14,15] rfl (SP.on (hallAb _ _ _ 1 SA5 rfl) (SP.on ((SA5.box_now (i:=0) rfl).sub (j:=3) (n:=1) (c:=[v66]) rfl) (SP.nil SA5.sl))) rfl rfl (fun w' hw'=>(E.load rfl (zae Tryz.isAgg87 hw' rfl))) ?_
     refine FB.all1 (i:=12) (by kernel_rfl) ?_
     ·
      obtain ⟨vAf,wAg,runAh,SAi⟩:=SA5.buildSlice (P:=Tryz.prog) te87 [Value.int .u64 0] (parts:=#[(0,Value.int .u64 0)]) (cells:=[Value.int .u64 0]) rfl (zaH rfl zaw) (zaG rfl zav) (zab rfl zad) (Nat.le_of_ble_eq_true rfl)
      have elsAj:Els (up wa.heap.size H75) (eN .u64) 1 [Value.int .u64 0] [0]:=(Els.snoc (H:=(up wa.heap.size H75)) (E:=(eN .u64)) (k:=1) (c:=[Value.int .u64 0]) (x:=0) Els.nil rfl rfl)
      refine FC.val (l':=(bs 16 8191)) rfl (by kernel_rfl) rfl rfl rfl (E.buildSlice (B1 rfl) runAh) ?_
      refine ⟨(SP.on (hallAb _ _ _ 2 SAi rfl) (SP.on ((SAi.box_now (i:=1) rfl).sub (j:=3) (n:=1) (c:=[v66]) rfl) (SP.nil SAi.sl))),?_⟩
      refine FB.all1 (i:=13) (by kernel_rfl) ?_
      ·
       obtain ⟨wAn,rAm,runAo,SAp,elsAq,hcAr,hcAs⟩:=SAi.poolAppend (P:=Tryz.prog) (a:=[.row 63 1 vAf 1 [Value.int .u64 0],.box b46 85 [Value.int .i64 a0.vars,v71,v73,v66],.row 87 1 v66 n67 cs68]) (L:=[]) te87 hrAd he114 (q:=0) rfl elsAj hzAl
       have SAp:St Ha wa H75 wAn (.row 63 1 vAf 1 [Value.int .u64 0]::.box b46 85 [Value.int .i64 a0.vars,v71,v73,v66]::.row 87 1 v66 n67 cs68::(plT 63 1 (rs70.set (Int.toNat ((i65:Nat):Int)) rAm) [])):=SAp
       have SAt:St Ha wa H75 wAn (.box b46 85 [Value.int .i64 a0.vars,v71,v73,v66]::.row 87 1 v66 n67 cs68::(plT 63 1 (rs70.set (Int.toNat ((i65:Nat):Int)) rAm) [])):=SAp.drop 0
       refine FC.val (l':=(bs 16 16383)) rfl (by kernel_rfl) rfl rfl rfl (E.append rfl rfl runAo) ?_
       refine ⟨(SP.on (hallAb _ _ _ 1 SAt rfl) (SP.on ((SAt.box_now (i:=0) rfl).sub (j:=3) (n:=1) (c:=[v66]) rfl) (SP.nil SAt.sl))),?_⟩
       obtain ⟨pAu,rAA,ptAv,atAw,hrAB,he138,hallAz⟩:=SAt.pool_at (i:=1) rfl els69 hxAy
       refine FB.t (i:=14) (bs 16 32767) rfl (SP.on (hallAb _ _ _ 1 SAt rfl) (SP.on ((SAt.box_now (i:=0) rfl).sub (j:=3) (n:=1) (c:=[v66]) rfl) (SP.nil SAt.sl))) rfl (fun w' hw'=>(E.indexAddr te83 rfl rfl ptAv)) ?_
       refine FB.all1 (i:=15) (by kernel_rfl) ?_
       ·
        obtain ⟨wAF,csAG,runAH,SAI,elsAJ⟩:=SAt.poolPut (P:=Tryz.prog) (t:=87) (i:=1) rfl els69 elsAq hputAE ptAv Tryz.sizeOf87 hcAr hcAs
        have SAI:St Ha wa H75 wAF (.box b46 85 [Value.int .i64 a0.vars,v71,v73,v66]::.row 87 1 v66 n67 csAG::(plT 63 1 (rs70.set (Int.toNat ((i65:Nat):Int)) rAm) [])):=SAI
        refine FC.act (l':=(bs 16 65535)) rfl (by kernel_rfl) rfl rfl (E.store rfl rfl runAH) ?_
        refine ⟨(SP.o (SP.o (SP.nil SAI.sl))),?_⟩
        exact FB.done (by kernel_rfl) ⟨_,_,_,_,_,_,_,SAI,(Inc.rfl _),elsAJ,h72,h74,k81,k82,k84,rfl,rfl,k86,k88,k80⟩
    ·
     rintro fAX wAW ⟨HAT,vAK,nAL,csAM,rs150,vAP,vAR,SAU,iAV,elsAN,hAQ,hAS,kAY,kAZ,kB0,kB1,kB2,kB3,kB4,kB5⟩
     refine FW.seq (FW.region ?_)
     refine FL.v (E.move kAY) ?_
     refine FL.v (E.lenP te22 rfl p1) ?_
     refine FL.v (E.move (v:=Value.int .i64 0) rfl) ?_
     refine FL.nil ?_
     obtain ⟨qB7,hq,hp⟩:=bndR hp
     refine FW.block ?_
     refine FW.mono (FW.forL (S:=((List (List Int))×(List (List Int))×(List (List Int)))) (X:=Empty) (fun (iB7:Nat) (sB7:((List (List Int))×(List (List Int))×(List (List Int)))) f w=>∃ H:GH,∃ vB8:Value,∃ nB9:Nat,∃ csBa:List Value,∃ rs174:List PR,∃ vBd:Value,∃ vBf:Value,St Ha wa H w (.box b46 85 [Value.int .i64 a0.vars,vBd,vBf,vB8]::.row 87 1 vB8 nB9 csBa::(plT 63 1 rs174 []))∧Inc HAT H∧Pool (up wa.heap.size H) (eN .u64) 1 csBa rs174 sB7.1∧RSl H (eL eI 1) 1 vBd sB7.2.1∧RSl H (eL eI 1) 1 vBf sB7.2.2∧f 49=Value.int .i64 ((iB7:Nat):Int)∧f 1=v1∧f 2=Value.pointer (some ⟨b21,0,none⟩)∧f 5=Value.pointer (some (⟨b46,0,none⟩:Addr))∧f 6=Value.int .i64 ((i65:Nat):Int)∧f 7=v95∧f 21=v1∧f 22=Value.int .i64 (len a1)∧f 23=Value.int .i64 ((i65:Nat):Int)∧f 47=v1∧f 48=Value.int .i64 (len a1)) (fun (q:Rs ((List (List Int))×(List (List Int))×(List (List Int))) Empty) e f w=>match q with|.go sB7=>e=Exit.exit 2∧(∃ H:GH,∃ vB8:Value,∃ nB9:Nat,∃ csBa:List Value,∃ rs174:List PR,∃ vBd:Value,∃ vBf:Value,St Ha wa H w (.box b46 85 [Value.int .i64 a0.vars,vBd,vBf,vB8]::.row 87 1 vB8 nB9 csBa::(plT 63 1 rs174 []))∧Inc HAT H∧Pool (up wa.heap.size H) (eN .u64) 1 csBa rs174 sB7.1∧RSl H (eL eI 1) 1 vBd sB7.2.1∧RSl H (eL eI 1) 1 vBf sB7.2.2∧f 1=v1∧f 2=Value.pointer (some ⟨b21,0,none⟩)∧f 5=Value.pointer (some (⟨b46,0,none⟩:Addr))∧f 21=v1∧f 22=Value.int .i64 (len a1)∧f 23=Value.int .i64 ((i65:Nat):Int))|.rt x=>x.elim) hq ⟨_,_,_,_,_,_,_,SAU,(Inc.rfl _),elsAN,hAQ,hAS,rfl,kAY,kAZ,kB0,kB1,kB2,kB3,kB4,kB5,rfl,rfl⟩ ?_ ?_) ?_
     ·
      clear hp hq
      rintro iB7 yB6 sB7 fBl wBk ⟨HBh,vB8,nB9,csBa,rs174,vBd,vBf,SBi,iBj,elsBb,hBe,hBg,kBm,kBn,kBo,kBp,kBq,kBr,kBs,kBt,kBu,kBv,kBw⟩ hxB7 oDY hp
      refine FW.seq (FW.region ?_)
      refine FL.v (E.lssT kBm kBw (zaq hxB7)) ?_
      refine FL.nil (FW.seq ?_)
      refine FW.condT rfl rfl ?_
      refine FW.skip (FW.seq (FW.block (FW.seq (FW.region ?_))))
      refine FL.v (E.move kBm) ?_
      obtain ⟨pBx,csBy,ptBz,lBA,atBB,relBC⟩:=p1.at (zak hxB7)
      obtain ⟨vBD,rfl,hBE⟩:=eL_open relBC
      refine FL.v (E.indexAddr te22 kBv kBm ptBz) ?_
      refine FL.v (E.load rfl (zae Tryz.isAgg45 ((atBB.mono ((((i27.tr i58).tr i77).tr iAV).tr iBj)).now SBi.sl) rfl)) ?_
      refine FL.v (E.assign (v:=Value.int .i64 ((iB7:Nat):Int)) rfl) ?_
      refine FL.v (E.assign (v:=vBD) rfl) ?_
      refine FL.nil (FW.seq (FW.region ?_))
      refine FL.v (E.assign (v:=Value.int .i64 1) rfl) ?_
      refine FL.nil ?_
      obtain ⟨qBF,hq,hp⟩:=bndR hp
      refine FW.block ?_
      refine FW.mono (FW.iter (S:=((List (List Int))×(List (List Int))×(List (List Int))×Int)) (X:=Empty) (fun (sBF:((List (List Int))×(List (List Int))×(List (List Int))×Int)) f w=>∃ H:GH,∃ vBG:Value,∃ nBH:Nat,∃ csBI:List Value,∃ rs208:List PR,∃ vBL:Value,∃ vBN:Value,St Ha wa H w (.box b46 85 [Value.int .i64 a0.vars,vBL,vBN,vBG]::.row 87 1 vBG nBH csBI::(plT 63 1 rs208 []))∧Inc HBh H∧Pool (up wa.heap.size H) (eN .u64) 1 csBI rs208 sBF.1∧RSl H (eL eI 1) 1 vBL sBF.2.1∧RSl H (eL eI 1) 1 vBN sBF.2.2.1∧f 1=v1∧f 2=Value.pointer (some ⟨b21,0,none⟩)∧f 5=Value.pointer (some (⟨b46,0,none⟩:Addr))∧f 6=Value.int .i64 ((i65:Nat):Int)∧f 7=v95∧f 8=Value.int .i64 ((iB7:Nat):Int)∧f 9=vBD∧f 10=Value.int .i64 sBF.2.2.2∧f 21=v1∧f 22=Value.int .i64 (len a1)∧f 23=Value.int .i64 ((i65:Nat):Int)∧f 47=v1∧f 48=Value.int .i64 (len a1)∧f 49=Value.int .i64 ((iB7:Nat):Int)) (fun (q:Rs ((List (List Int))×(List (List Int))×(List (List Int))×Int) Empty) e f w=>match q with|.go sBF=>e=Exit.exit 4∧(∃ H:GH,∃ vBG:Value,∃ nBH:Nat,∃ csBI:List Value,∃ rs208:List PR,∃ vBL:Value,∃ vBN:Value,St Ha wa H w (.box b46 85 [Value.int .i64 a0.vars,vBL,vBN,vBG]::.row 87 1 vBG nBH csBI::(plT 63 1 rs208 []))∧Inc HBh H∧Pool (up wa.heap.size H) (eN .u64) 1 csBI rs208 sBF.1∧RSl H (eL eI 1) 1 vBL sBF.2.1∧RSl H (eL eI 1) 1 vBN sBF.2.2.1∧f 1=v1∧f 2=Value.pointer (some ⟨b21,0,none⟩)∧f 5=Value.pointer (some (⟨b46,0,none⟩:Addr))∧f 6=Value.int .i64 ((i65:Nat):Int)∧f 7=v95∧f 21=v1∧f 22=Value.int .i64 (len a1)∧f 23=Value.int .i64 ((i65:Nat):Int)∧f 47=v1∧f 48=Value.int .i64 (len a1)∧f 49=Value.int .i64 ((iB7:Nat):Int))|.rt x=>x.elim) hq ⟨_,_,_,_,_,_,_,SBi,(Inc.rfl _),elsBb,hBe,hBg,kBn,kBo,kBp,kBq,kBr,rfl,rfl,rfl,kBs,kBt,kBu,kBv,kBw,kBm⟩ ?_) ?_
      ·
       clear hp hq
       rintro sBF fBT wBS ⟨HBP,vBG,nBH,csBI,rs208,vBL,vBN,SBQ,iBR,elsBJ,hBM,hBO,kBU,kBV,kBW,kBX,kBY,kBZ,kC0,kC1,kC2,kC3,kC4,kC5,kC6,kC7⟩ oDH hp
       refine FW.seq (FW.seq (FW.region ?_))
       refine FL.v (E.move kC1) ?_
       refine FL.v (E.fieldAddr za0 kBV) ?_
       refine FL.v (E.load rfl (zah Tryz.isAgg3 ((at28.mono ((((i58.tr i77).tr iAV).tr iBj).tr iBR)).now SBQ.sl) rfl)) ?_
       refine FL.v (E.leq rfl rfl) ?_
       refine FL.nil ?_
       rcases ifB hp with ⟨cC8,hp⟩|⟨cC8,hp⟩
       ·
        refine FW.condT rfl cC8 ?_
        refine FW.skip (FW.seq (FW.block (FW.seq (FW.region ?_))))
        refine FL.v (E.move kBY) ?_
        refine FL.v (E.move kC0) ?_
        refine FL.v (E.move kC1) ?_
        obtain ⟨rC9,hrCa,hp⟩:=bnd hp
        refine FL.call rfl rfl rfl (E.call Tryz.call52 (A3 rfl rfl rfl)) (zdN SBQ.sl v95 y64 (h96.mono (((((i27.tr i58).tr i77).tr iAV).tr iBj).tr iBR)) vBD yB6 (hBE.mono (((((i27.tr i58).tr i77).tr iAV).tr iBj).tr iBR)) sBF.2.2.2 hrCa) ?_
        rintro e wCc ⟨HCb,vCf,nCg,csCh,rfl,rCe,elsCi⟩
        refine ⟨_,rfl,?_⟩
        have elsCi:=elsCi.mono (up_le SBQ.size)
        have SCd:=SBQ.join (l':=(.row 3 1 vCf nCg csCh::.box b46 85 [Value.int .i64 a0.vars,vBL,vBN,vBG]::.row 87 1 vBG nBH csBI::(plT 63 1 rs208 []))) rCe rfl
        refine FL.v (E.move (v:=Value.tuple #[vCf,Value.bool rC9.2]) rfl) ?_
        refine FL.v (E.extract (i:=0) rfl rfl) ?_
        refine FL.v (E.extract (i:=1) rfl rfl) ?_
        refine FL.v (E.assign (v:=vCf) rfl) ?_
        refine FL.v (E.assign (v:=Value.bool rC9.2) rfl) ?_
        refine FL.nil (FW.seq (FW.region ?_))
        refine FL.v (E.move (v:=Value.bool rC9.2) rfl) ?_
        refine FL.nil ?_
        rcases ifB hp with ⟨cCj,hp⟩|⟨cCj,hp⟩
        ·
         refine FW.condT rfl cCj ?_
         refine FW.seq (FW.region ?_)
         refine FL.v (E.move kBU) ?_
         refine FL.v (E.move (v:=vCf) rfl) ?_
         obtain ⟨HCk,SCl,iCm,hCn,nvCo⟩:=SCd.sealRowU (i:=0) (l':=(.box b46 85 [Value.int .i64 a0.vars,vBL,vBN,vBG]::.row 87 1 vBG nBH csBI::(plT 63 1 rs208 []))) rfl elsCi (by decide) rfl
         obtain ⟨rCp,hrCq,hp⟩:=bnd hp
         refine FL.call rfl rfl rfl (E.call Tryz.call53 (A2 rfl rfl)) (zds SCl.sl v1 a1 (p1.mono (((((((i27.tr i58).tr i77).tr iAV).tr iBj).tr iBR).tr rCe.run.inc).tr iCm)) vCf rC9.1 (hCn.mono upI) hrCq) ?_
         rintro e wCr ⟨rfl,rCs⟩
         refine ⟨_,rfl,?_⟩
         have rCs:=Run.lend iCm SCd.sl rCs
         have SCt:=SCd.call rCs
         refine FL.v (E.assign (v:=Value.int .i64 rCp) rfl) ?_
         refine FL.nil ?_
         obtain ⟨xCA,hxCB,hp⟩:=bnd hp
         obtain ⟨u267,zCG,hp⟩:=bnd hp
         obtain ⟨u269,zCI,hp⟩:=bnd hp
         obtain ⟨xsCP,hzCQ,hp⟩:=bnd hp
         obtain ⟨xD2,hxD3,hp⟩:=bnd hp
         obtain ⟨xsD8,hputD9,hp⟩:=bnd hp
         refine FW.drawB (Sl HCb) (fun f w=>∃ H:GH,∃ vDf:Value,∃ nDg:Nat,∃ csDh:List Value,∃ rs305:List PR,∃ vDk:Value,∃ vDm:Value,St Ha wa H w (.box b46 85 [Value.int .i64 a0.vars,vDk,vDm,vDf]::.row 87 1 vDf nDg csDh::(plT 63 1 rs305 []))∧Inc HCb H∧Pool (up wa.heap.size H) (eN .u64) 1 csDh rs305 xsD8∧RSl H (eL eI 1) 1 vDk sBF.2.1∧RSl H (eL eI 1) 1 vDm sBF.2.2.1∧f 1=v1∧f 2=Value.pointer (some ⟨b21,0,none⟩)∧f 5=Value.pointer (some (⟨b46,0,none⟩:Addr))∧f 6=Value.int .i64 ((i65:Nat):Int)∧f 7=v95∧f 8=Value.int .i64 ((iB7:Nat):Int)∧f 9=vBD∧f 10=Value.int .i64 sBF.2.2.2∧f 21=v1∧f 22=Value.int .i64 (len a1)∧f 23=Value.int .i64 ((i65:Nat):Int)∧f 47=v1∧f 48=Value.int .i64 (len a1)∧f 49=Value.int .i64 ((iB7:Nat):Int)) (by kernel_rfl) SCt.sl ?_ ?_
         ·
          intro wCu rCv
          have SCw:=SCt.call rCv
          refine FB.phase [20] (fun w=>WAt w (Addr.add ⟨b46,0,none⟩ 3) [vBG]) ?_
          refine FB.t (i:=0) (bs 21 1) rfl (SP.on ((SCw.box_now (i:=1) rfl).sub (j:=3) (n:=1) (c:=[vBG]) rfl) (SP.nil SCw.sl)) rfl (fun w' hw'=>(E.move kBW)) ?_
          refine FB.t (i:=1) (bs 21 3) rfl (SP.on ((SCw.box_now (i:=1) rfl).sub (j:=3) (n:=1) (c:=[vBG]) rfl) (SP.nil SCw.sl)) rfl (fun w' hw'=>(E.nilCheck rfl)) ?_
          refine FB.t (i:=2) (bs 21 7) rfl (SP.on ((SCw.box_now (i:=1) rfl).sub (j:=3) (n:=1) (c:=[vBG]) rfl) (SP.nil SCw.sl)) rfl (fun w' hw'=>(E.fieldAddr tf85_2 rfl)) ?_
          refine FB.p (i:=3) (bs 21 15) 0 [19,20] rfl (SP.on ((SCw.box_now (i:=1) rfl).sub (j:=3) (n:=1) (c:=[vBG]) rfl) (SP.nil SCw.sl)) rfl rfl (fun w' hw'=>(E.load rfl (zae Tryz.isAgg83 hw' rfl))) ?_
          refine FB.t (i:=4) (bs 21 31) rfl (SP.on ((SCw.box_now (i:=1) rfl).sub (j:=3) (n:=1) (c:=[vBG]) rfl) (SP.nil SCw.sl)) rfl (fun w' hw'=>(E.move (v:=Value.int .i64 rCp) rfl)) ?_
          refine FB.t (i:=5) (bs 21 63) rfl (SP.on ((SCw.box_now (i:=1) rfl).sub (j:=3) (n:=1) (c:=[vBG]) rfl) (SP.nil SCw.sl)) rfl (fun w' hw'=>(E.move kBW)) ?_
          refine FB.t (i:=6) (bs 21 127) rfl (SP.on ((SCw.box_now (i:=1) rfl).sub (j:=3) (n:=1) (c:=[vBG]) rfl) (SP.nil SCw.sl)) rfl (fun w' hw'=>(E.nilCheck rfl)) ?_
          refine FB.t (i:=7) (bs 21 255) rfl (SP.on ((SCw.box_now (i:=1) rfl).sub (j:=3) (n:=1) (c:=[vBG]) rfl) (SP.nil SCw.sl)) rfl (fun w' hw'=>(E.fieldAddr tf85_2 rfl)) ?_
          refine FB.p (i:=8) (bs 21 511) 0 [10,11,18,19,20] rfl (SP.on ((SCw.box_now (i:=1) rfl).sub (j:=3) (n:=1) (c:=[vBG]) rfl) (SP.nil SCw.sl)) rfl rfl (fun w' hw'=>(E.load rfl (zae Tryz.isAgg83 hw' rfl))) ?_
          refine FB.t (i:=9) (bs 21 1023) rfl (SP.on ((SCw.box_now (i:=1) rfl).sub (j:=3) (n:=1) (c:=[vBG]) rfl) (SP.nil SCw.sl)) rfl (fun w' hw'=>(E.move (v:=Value.int .i64 rCp) rfl)) ?_
          obtain ⟨pCx,rCD,ptCy,atCz,hrCE,he265,hallCC⟩:=SCw.pool_at (i:=2) rfl elsBJ hxCB
          refine FB.t (i:=10) (bs 21 2047) rfl (SP.on ((SCw.box_now (i:=1) rfl).sub (j:=3) (n:=1) (c:=[vBG]) rfl) (SP.nil SCw.sl)) rfl (fun w' hw'=>(E.indexAddr te83 rfl rfl ptCy)) ?_
          refine FB.phase [20] (fun w'=>WAt w' pCx [rCD.v]) ?_
          refine FB.p (i:=11) (bs 21 4095) 0 [18,19,20] rfl (SP.on (hallCC _ _ _ 2 SCw rfl) (SP.on ((SCw.box_now (i:=1) rfl).sub (j:=3) (n:=1) (c:=[vBG]) rfl) (SP.nil SCw.sl))) rfl rfl (fun w' hw'=>(E.load rfl (zae Tryz.isAgg87 hw' rfl))) ?_
          refine FB.t (i:=12) (bs 21 8191) rfl (SP.on (hallCC _ _ _ 2 SCw rfl) (SP.on ((SCw.box_now (i:=1) rfl).sub (j:=3) (n:=1) (c:=[vBG]) rfl) (SP.nil SCw.sl))) rfl (fun w' hw'=>(E.move kBX)) ?_
          refine FB.t (i:=13) (bs 21 16383) rfl (SP.on (hallCC _ _ _ 2 SCw rfl) (SP.on ((SCw.box_now (i:=1) rfl).sub (j:=3) (n:=1) (c:=[vBG]) rfl) (SP.nil SCw.sl))) rfl (fun w' hw'=>(E.shl rfl rfl (nn_ge zCG))) ?_
          refine FB.t (i:=14) (bs 21 32767) rfl (SP.on (hallCC _ _ _ 2 SCw rfl) (SP.on ((SCw.box_now (i:=1) rfl).sub (j:=3) (n:=1) (c:=[vBG]) rfl) (SP.nil SCw.sl))) rfl (fun w' hw'=>(E.move kBZ)) ?_
          refine FB.t (i:=15) (bs 21 65535) rfl (SP.on (hallCC _ _ _ 2 SCw rfl) (SP.on ((SCw.box_now (i:=1) rfl).sub (j:=3) (n:=1) (c:=[vBG]) rfl) (SP.nil SCw.sl))) rfl (fun w' hw'=>(E.shl rfl rfl (nn_ge zCI))) ?_
          refine FB.t (i:=16) (bs 21 131071) rfl (SP.on (hallCC _ _ _ 2 SCw rfl) (SP.on ((SCw.box_now (i:=1) rfl).sub (j:=3) (n:=1) (c:=[vBG]) rfl) (SP.nil SCw.sl))) rfl (fun w' hw'=>(E.or rfl rfl)) ?_
          refine FB.all1 (i:=17) (by kernel_rfl) ?_
          ·
           obtain ⟨vCK,wCL,runCM,SCN⟩:=SCw.buildSlice (P:=Tryz.prog) te87 [Value.int .u64 (orK false 64 (shlK false 64 1 ((i65:Nat):Int)) (shlK false 64 1 ((iB7:Nat):Int)))] (parts:=#[(0,Value.int .u64 (orK false 64 (shlK false 64 1 ((i65:Nat):Int)) (shlK false 64 1 ((iB7:Nat):Int))))]) (cells:=[Value.int .u64 (orK false 64 (shlK false 64 1 ((i65:Nat):Int)) (shlK false 64 1 ((iB7:Nat):Int)))]) rfl (zaH rfl zaw) (zaG rfl zav) (zab rfl zad) (Nat.le_of_ble_eq_true rfl)
           have elsCO:Els (up wa.heap.size HCb) (eN .u64) 1 [Value.int .u64 (orK false 64 (shlK false 64 1 ((i65:Nat):Int)) (shlK false 64 1 ((iB7:Nat):Int)))] [(orK false 64 (shlK false 64 1 ((i65:Nat):Int)) (shlK false 64 1 ((iB7:Nat):Int)))]:=(Els.snoc (H:=(up wa.heap.size HCb)) (E:=(eN .u64)) (k:=1) (c:=[Value.int .u64 (orK false 64 (shlK false 64 1 ((i65:Nat):Int)) (shlK false 64 1 ((iB7:Nat):Int)))]) (x:=(orK false 64 (shlK false 64 1 ((i65:Nat):Int)) (shlK false 64 1 ((iB7:Nat):Int)))) Els.nil rfl rfl)
           refine FC.val (l':=(bs 21 262143)) rfl (by kernel_rfl) rfl rfl rfl (E.buildSlice (B1 rfl) runCM) ?_
           refine ⟨(SP.on (hallCC _ _ _ 3 SCN rfl) (SP.on ((SCN.box_now (i:=2) rfl).sub (j:=3) (n:=1) (c:=[vBG]) rfl) (SP.nil SCN.sl))),?_⟩
           refine FB.all1 (i:=18) (by kernel_rfl) ?_
           ·
            obtain ⟨wCS,rCR,runCT,SCU,elsCV,hcCW,hcCX⟩:=SCN.poolAppend (P:=Tryz.prog) (a:=[.row 63 1 vCK 1 [Value.int .u64 (orK false 64 (shlK false 64 1 ((i65:Nat):Int)) (shlK false 64 1 ((iB7:Nat):Int)))],.row 3 1 vCf nCg csCh,.box b46 85 [Value.int .i64 a0.vars,vBL,vBN,vBG],.row 87 1 vBG nBH csBI]) (L:=[]) te87 hrCE (he265.mono (zaf rCe.run.inc)) (q:=0) rfl elsCO hzCQ
            have SCU:St Ha wa HCb wCS (.row 63 1 vCK 1 [Value.int .u64 (orK false 64 (shlK false 64 1 ((i65:Nat):Int)) (shlK false 64 1 ((iB7:Nat):Int)))]::.row 3 1 vCf nCg csCh::.box b46 85 [Value.int .i64 a0.vars,vBL,vBN,vBG]::.row 87 1 vBG nBH csBI::(plT 63 1 (rs208.set (Int.toNat rCp) rCR) [])):=SCU
            have SCY:St Ha wa HCb wCS (.row 3 1 vCf nCg csCh::.box b46 85 [Value.int .i64 a0.vars,vBL,vBN,vBG]::.row 87 1 vBG nBH csBI::(plT 63 1 (rs208.set (Int.toNat rCp) rCR) [])):=SCU.drop 0
            refine FC.val (l':=(bs 21 524287)) rfl (by kernel_rfl) rfl rfl rfl (E.append rfl rfl runCT) ?_
            refine ⟨(SP.on (hallCC _ _ _ 2 SCY rfl) (SP.on ((SCY.box_now (i:=1) rfl).sub (j:=3) (n:=1) (c:=[vBG]) rfl) (SP.nil SCY.sl))),?_⟩
            obtain ⟨pCZ,rD5,ptD0,atD1,hrD6,he293,hallD4⟩:=SCY.pool_at (i:=2) rfl elsBJ hxD3
            refine FB.t (i:=19) (bs 21 1048575) rfl (SP.on (hallCC _ _ _ 2 SCY rfl) (SP.on ((SCY.box_now (i:=1) rfl).sub (j:=3) (n:=1) (c:=[vBG]) rfl) (SP.nil SCY.sl))) rfl (fun w' hw'=>(E.indexAddr te83 rfl rfl ptD0)) ?_
            refine FB.all1 (i:=20) (by kernel_rfl) ?_
            ·
             obtain ⟨wDa,csDb,runDc,SDd,elsDe⟩:=SCY.poolPut (P:=Tryz.prog) (t:=87) (i:=2) rfl (elsBJ.mono (zaf rCe.run.inc)) elsCV hputD9 ptD0 Tryz.sizeOf87 hcCW hcCX
             have SDd:St Ha wa HCb wDa (.row 3 1 vCf nCg csCh::.box b46 85 [Value.int .i64 a0.vars,vBL,vBN,vBG]::.row 87 1 vBG nBH csDb::(plT 63 1 (rs208.set (Int.toNat rCp) rCR) [])):=SDd
             refine FC.act (l':=(bs 21 2097151)) rfl (by kernel_rfl) rfl rfl (E.store rfl rfl runDc) ?_
             refine ⟨(SP.o (SP.o (SP.nil SDd.sl))),?_⟩
             exact FB.done (by kernel_rfl) ⟨_,_,_,_,_,_,_,(SDd.selT (a:=[.row 3 1 vCf nCg csCh,.box b46 85 [Value.int .i64 a0.vars,vBL,vBN,vBG],.row 87 1 vBG nBH csDb]) (l':=[.box b46 85 [Value.int .i64 a0.vars,vBL,vBN,vBG],.row 87 1 vBG nBH csDb]) [1,2] (by decide) rfl),(Inc.rfl _),elsDe,(hBM.mono rCe.run.inc),(hBO.mono rCe.run.inc),kBU,kBV,kBW,kBX,kBY,kBZ,kC0,kC1,kC2,kC3,kC4,kC5,kC6,kC7⟩
         ·
          rintro fDs wDr ⟨HDo,vDf,nDg,csDh,rs305,vDk,vDm,SDp,iDq,elsDi,hDl,hDn,kDt,kDu,kDv,kDw,kDx,kDy,kDz,kDA,kDB,kDC,kDD,kDE,kDF,kDG⟩
          refine FW.region ?_
          refine FL.v (E.move kDA) ?_
          refine FL.v (E.add rfl rfl) ?_
          refine FL.v (E.assign (v:=Value.int .i64 (wr (sBF.2.2.2 + 1))) rfl) ?_
          refine FL.nil ?_
          obtain rfl:=Option.some.inj hp
          exact ⟨rfl,⟨_,_,_,_,_,_,_,SDp,((iBR.tr rCe.run.inc).tr iDq),elsDi,hDl,hDn,kDt,kDu,kDv,kDw,kDx,kDy,kDz,rfl,kDB,kDC,kDD,kDE,kDF,kDG⟩⟩
        ·
         refine FW.condF rfl cCj ?_
         refine FW.skip (FW.region ?_)
         refine FL.v (E.move kC1) ?_
         refine FL.v (E.add rfl rfl) ?_
         refine FL.v (E.assign (v:=Value.int .i64 (wr (sBF.2.2.2 + 1))) rfl) ?_
         refine FL.nil ?_
         obtain rfl:=Option.some.inj hp
         exact ⟨rfl,⟨_,_,_,_,_,_,_,(SCd.selT (a:=[.row 3 1 vCf nCg csCh,.box b46 85 [Value.int .i64 a0.vars,vBL,vBN,vBG],.row 87 1 vBG nBH csBI]) (l':=[.box b46 85 [Value.int .i64 a0.vars,vBL,vBN,vBG],.row 87 1 vBG nBH csBI]) [1,2] (by decide) rfl),(iBR.tr rCe.run.inc),(elsBJ.mono (zaf rCe.run.inc)),(hBM.mono rCe.run.inc),(hBO.mono rCe.run.inc),kBU,kBV,kBW,kBX,kBY,kBZ,kC0,rfl,kC2,kC3,kC4,kC5,kC6,kC7⟩⟩
       ·
        refine FW.condF rfl cC8 ?_
        refine FW.exit ?_
        obtain rfl:=Option.some.inj hp
        exact ⟨nofun,rfl,⟨_,_,_,_,_,_,_,SBQ,iBR,elsBJ,hBM,hBO,kBU,kBV,kBW,kBX,kBY,kC2,kC3,kC4,kC5,kC6,kC7⟩⟩
      ·
       clear hq
       intro e fDM wDL hD
       rcases qBF with sBF|xBF
       ·
        obtain ⟨rfl,hD⟩:=hD
        obtain ⟨HDI,vBG,nBH,csBI,rs208,vBL,vBN,SDJ,iDK,elsBJ,hBM,hBO,kDN,kDO,kDP,kDQ,kDR,kDS,kDT,kDU,kDV,kDW,kDX⟩:=hD
        replace hp:=el_go hp
        refine FW.region ?_
        refine FL.v (E.add kDX rfl) ?_
        refine FL.v (E.move (v:=Value.int .i64 (wr (((iB7:Nat):Int) + 1))) rfl) ?_
        refine FL.nil ?_
        obtain rfl:=Option.some.inj hp
        exact ⟨rfl,⟨_,_,_,_,_,_,_,SDJ,(iBj.tr iDK),elsBJ,hBM,hBO,(zam rfl (zal hxB7) (p1.mono (((((i27.tr i58).tr i77).tr iAV).tr iBj).tr iDK)).le),kDN,kDO,kDP,kDQ,kDR,kDS,kDT,kDU,kDV,kDW⟩⟩
       ·
        exact xBF.elim
     ·
      clear hp hq
      rintro sB7 fEe wEd ⟨HEa,vB8,nB9,csBa,rs174,vBd,vBf,SEb,iEc,elsBb,hBe,hBg,kEf,kEg,kEh,kEi,kEj,kEk,kEl,kEm,kEn,kEo,kEp⟩
      refine FW.seq (FW.region ?_)
      refine FL.v (E.lss kEf kEp) ?_
      refine FL.nil (FW.seq ?_)
      refine FW.condF rfl zar ?_
      refine FW.exit ?_
      exact ⟨nofun,rfl,⟨_,_,_,_,_,_,_,SEb,iEc,elsBb,hBe,hBg,kEg,kEh,kEi,kEl,kEm,kEn⟩⟩
     ·
      clear hq
      intro e fE3 wE2 hD
      rcases qB7 with sB7|xB7
      ·
       obtain ⟨rfl,hD⟩:=hD
       obtain ⟨HDZ,vB8,nB9,csBa,rs174,vBd,vBf,SE0,iE1,elsBb,hBe,hBg,kE4,kE5,kE6,kE7,kE8,kE9⟩:=hD
       replace hp:=el_go hp
       refine FW.region ?_
       refine FL.v (E.add kE9 rfl) ?_
       refine FL.v (E.move (v:=Value.int .i64 (wr (((i65:Nat):Int) + 1))) rfl) ?_
       refine FL.nil ?_
       obtain rfl:=Option.some.inj hp
       exact ⟨rfl,⟨_,_,_,_,_,_,_,SE0,((i77.tr iAV).tr iE1),elsBb,hBe,hBg,(zam rfl (zal hx65) (p1.mono ((((i27.tr i58).tr i77).tr iAV).tr iE1)).le),kE4,kE5,kE6,kE7,kE8⟩⟩
      ·
       exact xB7.elim
   ·
    refine FW.condF rfl cA2 ?_
    refine FW.skip (FW.seq (FW.region ?_))
    refine FL.v (E.move k81) ?_
    refine FL.v (E.lenP te22 rfl p1) ?_
    refine FL.v (E.move (v:=Value.int .i64 0) rfl) ?_
    refine FL.nil ?_
    obtain ⟨qEr,hq,hp⟩:=bndR hp
    refine FW.block ?_
    refine FW.mono (FW.forL (S:=((List (List Int))×(List (List Int))×(List (List Int)))) (X:=Empty) (fun (iEr:Nat) (sEr:((List (List Int))×(List (List Int))×(List (List Int)))) f w=>∃ H:GH,∃ vEs:Value,∃ nEt:Nat,∃ csEu:List Value,∃ rs380:List PR,∃ vEx:Value,∃ vEz:Value,St Ha wa H w (.box b46 85 [Value.int .i64 a0.vars,vEx,vEz,vEs]::.row 87 1 vEs nEt csEu::(plT 63 1 rs380 []))∧Inc H75 H∧Pool (up wa.heap.size H) (eN .u64) 1 csEu rs380 sEr.1∧RSl H (eL eI 1) 1 vEx sEr.2.1∧RSl H (eL eI 1) 1 vEz sEr.2.2∧f 49=Value.int .i64 ((iEr:Nat):Int)∧f 1=v1∧f 2=Value.pointer (some ⟨b21,0,none⟩)∧f 5=Value.pointer (some (⟨b46,0,none⟩:Addr))∧f 6=Value.int .i64 ((i65:Nat):Int)∧f 7=v95∧f 21=v1∧f 22=Value.int .i64 (len a1)∧f 23=Value.int .i64 ((i65:Nat):Int)∧f 47=v1∧f 48=Value.int .i64 (len a1)) (fun (q:Rs ((List (List Int))×(List (List Int))×(List (List Int))) Empty) e f w=>match q with|.go sEr=>e=Exit.exit 2∧(∃ H:GH,∃ vEs:Value,∃ nEt:Nat,∃ csEu:List Value,∃ rs380:List PR,∃ vEx:Value,∃ vEz:Value,St Ha wa H w (.box b46 85 [Value.int .i64 a0.vars,vEx,vEz,vEs]::.row 87 1 vEs nEt csEu::(plT 63 1 rs380 []))∧Inc H75 H∧Pool (up wa.heap.size H) (eN .u64) 1 csEu rs380 sEr.1∧RSl H (eL eI 1) 1 vEx sEr.2.1∧RSl H (eL eI 1) 1 vEz sEr.2.2∧f 1=v1∧f 2=Value.pointer (some ⟨b21,0,none⟩)∧f 5=Value.pointer (some (⟨b46,0,none⟩:Addr))∧f 21=v1∧f 22=Value.int .i64 (len a1)∧f 23=Value.int .i64 ((i65:Nat):Int))|.rt x=>x.elim) hq ⟨_,_,_,_,_,_,_,SA1,(Inc.rfl _),els69,h72,h74,rfl,k81,k82,k84,rfl,rfl,k86,k88,k80,rfl,rfl⟩ ?_ ?_) ?_
    ·
     clear hp hq
     rintro iEr yEq sEr fEF wEE ⟨HEB,vEs,nEt,csEu,rs380,vEx,vEz,SEC,iED,elsEv,hEy,hEA,kEG,kEH,kEI,kEJ,kEK,kEL,kEM,kEN,kEO,kEP,kEQ⟩ hxEr oHi hp
     refine FW.seq (FW.region ?_)
     refine FL.v (E.lssT kEG kEQ (zaq hxEr)) ?_
     refine FL.nil (FW.seq ?_)
     refine FW.condT rfl rfl ?_
     refine FW.skip (FW.seq (FW.block (FW.seq (FW.region ?_))))
     refine FL.v (E.move kEG) ?_
     obtain ⟨pER,csES,ptET,lEU,atEV,relEW⟩:=p1.at (zak hxEr)
     obtain ⟨vEX,rfl,hEY⟩:=eL_open relEW
     refine FL.v (E.indexAddr te22 kEP kEG ptET) ?_
     refine FL.v (E.load rfl (zae Tryz.isAgg45 ((atEV.mono (((i27.tr i58).tr i77).tr iED)).now SEC.sl) rfl)) ?_
     refine FL.v (E.assign (v:=Value.int .i64 ((iEr:Nat):Int)) rfl) ?_
     refine FL.v (E.assign (v:=vEX) rfl) ?_
     refine FL.nil (FW.seq (FW.region ?_))
     refine FL.v (E.assign (v:=Value.int .i64 1) rfl) ?_
     refine FL.nil ?_
     obtain ⟨qEZ,hq,hp⟩:=bndR hp
     refine FW.block ?_
     refine FW.mono (FW.iter (S:=((List (List Int))×(List (List Int))×(List (List Int))×Int)) (X:=Empty) (fun (sEZ:((List (List Int))×(List (List Int))×(List (List Int))×Int)) f w=>∃ H:GH,∃ vF0:Value,∃ nF1:Nat,∃ csF2:List Value,∃ rs414:List PR,∃ vF5:Value,∃ vF7:Value,St Ha wa H w (.box b46 85 [Value.int .i64 a0.vars,vF5,vF7,vF0]::.row 87 1 vF0 nF1 csF2::(plT 63 1 rs414 []))∧Inc HEB H∧Pool (up wa.heap.size H) (eN .u64) 1 csF2 rs414 sEZ.1∧RSl H (eL eI 1) 1 vF5 sEZ.2.1∧RSl H (eL eI 1) 1 vF7 sEZ.2.2.1∧f 1=v1∧f 2=Value.pointer (some ⟨b21,0,none⟩)∧f 5=Value.pointer (some (⟨b46,0,none⟩:Addr))∧f 6=Value.int .i64 ((i65:Nat):Int)∧f 7=v95∧f 8=Value.int .i64 ((iEr:Nat):Int)∧f 9=vEX∧f 10=Value.int .i64 sEZ.2.2.2∧f 21=v1∧f 22=Value.int .i64 (len a1)∧f 23=Value.int .i64 ((i65:Nat):Int)∧f 47=v1∧f 48=Value.int .i64 (len a1)∧f 49=Value.int .i64 ((iEr:Nat):Int)) (fun (q:Rs ((List (List Int))×(List (List Int))×(List (List Int))×Int) Empty) e f w=>match q with|.go sEZ=>e=Exit.exit 4∧(∃ H:GH,∃ vF0:Value,∃ nF1:Nat,∃ csF2:List Value,∃ rs414:List PR,∃ vF5:Value,∃ vF7:Value,St Ha wa H w (.box b46 85 [Value.int .i64 a0.vars,vF5,vF7,vF0]::.row 87 1 vF0 nF1 csF2::(plT 63 1 rs414 []))∧Inc HEB H∧Pool (up wa.heap.size H) (eN .u64) 1 csF2 rs414 sEZ.1∧RSl H (eL eI 1) 1 vF5 sEZ.2.1∧RSl H (eL eI 1) 1 vF7 sEZ.2.2.1∧f 1=v1∧f 2=Value.pointer (some ⟨b21,0,none⟩)∧f 5=Value.pointer (some (⟨b46,0,none⟩:Addr))∧f 6=Value.int .i64 ((i65:Nat):Int)∧f 7=v95∧f 21=v1∧f 22=Value.int .i64 (len a1)∧f 23=Value.int .i64 ((i65:Nat):Int)∧f 47=v1∧f 48=Value.int .i64 (len a1)∧f 49=Value.int .i64 ((iEr:Nat):Int))|.rt x=>x.elim) hq ⟨_,_,_,_,_,_,_,SEC,(Inc.rfl _),elsEv,hEy,hEA,kEH,kEI,kEJ,kEK,kEL,rfl,rfl,rfl,kEM,kEN,kEO,kEP,kEQ,kEG⟩ ?_) ?_
     ·
      clear hp hq
      rintro sEZ fFd wFc ⟨HF9,vF0,nF1,csF2,rs414,vF5,vF7,SFa,iFb,elsF3,hF6,hF8,kFe,kFf,kFg,kFh,kFi,kFj,kFk,kFl,kFm,kFn,kFo,kFp,kFq,kFr⟩ oH1 hp
      refine FW.seq (FW.seq (FW.region ?_))
      refine FL.v (E.move kFl) ?_
      refine FL.v (E.fieldAddr za0 kFf) ?_
      refine FL.v (E.load rfl (zah Tryz.isAgg3 ((at28.mono (((i58.tr i77).tr iED).tr iFb)).now SFa.sl) rfl)) ?_
      refine FL.v (E.leq rfl rfl) ?_
      refine FL.nil ?_
      rcases ifB hp with ⟨cFs,hp⟩|⟨cFs,hp⟩
      ·
       refine FW.condT rfl cFs ?_
       refine FW.skip (FW.seq (FW.block (FW.seq (FW.region ?_))))
       refine FL.v (E.move kFi) ?_
       refine FL.v (E.move kFk) ?_
       refine FL.v (E.move kFl) ?_
       obtain ⟨rFt,hrFu,hp⟩:=bnd hp
       refine FL.call rfl rfl rfl (E.call Tryz.call52 (A3 rfl rfl rfl)) (zdN SFa.sl v95 y64 (h96.mono ((((i27.tr i58).tr i77).tr iED).tr iFb)) vEX yEq (hEY.mono ((((i27.tr i58).tr i77).tr iED).tr iFb)) sEZ.2.2.2 hrFu) ?_
       rintro e wFw ⟨HFv,vFz,nFA,csFB,rfl,rFy,elsFC⟩
       refine ⟨_,rfl,?_⟩
       have elsFC:=elsFC.mono (up_le SFa.size)
       have SFx:=SFa.join (l':=(.row 3 1 vFz nFA csFB::.box b46 85 [Value.int .i64 a0.vars,vF5,vF7,vF0]::.row 87 1 vF0 nF1 csF2::(plT 63 1 rs414 []))) rFy rfl
       refine FL.v (E.move (v:=Value.tuple #[vFz,Value.bool rFt.2]) rfl) ?_
       refine FL.v (E.extract (i:=0) rfl rfl) ?_
       refine FL.v (E.extract (i:=1) rfl rfl) ?_
       refine FL.v (E.assign (v:=vFz) rfl) ?_
       refine FL.v (E.assign (v:=Value.bool rFt.2) rfl) ?_
       refine FL.nil (FW.seq (FW.region ?_))
       refine FL.v (E.move (v:=Value.bool rFt.2) rfl) ?_
       refine FL.nil ?_
       rcases ifB hp with ⟨cFD,hp⟩|⟨cFD,hp⟩
       ·
        refine FW.condT rfl cFD ?_
        refine FW.seq (FW.region ?_)
        refine FL.v (E.move kFe) ?_
        refine FL.v (E.move (v:=vFz) rfl) ?_
        obtain ⟨HFE,SFF,iFG,hFH,nvFI⟩:=SFx.sealRowU (i:=0) (l':=(.box b46 85 [Value.int .i64 a0.vars,vF5,vF7,vF0]::.row 87 1 vF0 nF1 csF2::(plT 63 1 rs414 []))) rfl elsFC (by decide) rfl
        obtain ⟨rFJ,hrFK,hp⟩:=bnd hp
        refine FL.call rfl rfl rfl (E.call Tryz.call53 (A2 rfl rfl)) (zds SFF.sl v1 a1 (p1.mono ((((((i27.tr i58).tr i77).tr iED).tr iFb).tr rFy.run.inc).tr iFG)) vFz rFt.1 (hFH.mono upI) hrFK) ?_
        rintro e wFL ⟨rfl,rFM⟩
        refine ⟨_,rfl,?_⟩
        have rFM:=Run.lend iFG SFx.sl rFM
        have SFN:=SFx.call rFM
        refine FL.v (E.assign (v:=Value.int .i64 rFJ) rfl) ?_
        refine FL.nil ?_
        obtain ⟨xFU,hxFV,hp⟩:=bnd hp
        obtain ⟨u473,zG0,hp⟩:=bnd hp
        obtain ⟨u475,zG2,hp⟩:=bnd hp
        obtain ⟨xsG9,hzGa,hp⟩:=bnd hp
        obtain ⟨xGm,hxGn,hp⟩:=bnd hp
        obtain ⟨xsGs,hputGt,hp⟩:=bnd hp
        refine FW.drawB (Sl HFv) (fun f w=>∃ H:GH,∃ vGz:Value,∃ nGA:Nat,∃ csGB:List Value,∃ rs511:List PR,∃ vGE:Value,∃ vGG:Value,St Ha wa H w (.box b46 85 [Value.int .i64 a0.vars,vGE,vGG,vGz]::.row 87 1 vGz nGA csGB::(plT 63 1 rs511 []))∧Inc HFv H∧Pool (up wa.heap.size H) (eN .u64) 1 csGB rs511 xsGs∧RSl H (eL eI 1) 1 vGE sEZ.2.1∧RSl H (eL eI 1) 1 vGG sEZ.2.2.1∧f 1=v1∧f 2=Value.pointer (some ⟨b21,0,none⟩)∧f 5=Value.pointer (some (⟨b46,0,none⟩:Addr))∧f 6=Value.int .i64 ((i65:Nat):Int)∧f 7=v95∧f 8=Value.int .i64 ((iEr:Nat):Int)∧f 9=vEX∧f 10=Value.int .i64 sEZ.2.2.2∧f 21=v1∧f 22=Value.int .i64 (len a1)∧f 23=Value.int .i64 ((i65:Nat):Int)∧f 47=v1∧f 48=Value.int .i64 (len a1)∧f 49=Value.int .i64 ((iEr:Nat):Int)) (by kernel_rfl) SFN.sl ?_ ?_
        ·
         intro wFO rFP
         have SFQ:=SFN.call rFP
         refine FB.phase [20] (fun w=>WAt w (Addr.add ⟨b46,0,none⟩ 3) [vF0]) ?_
         refine FB.t (i:=0) (bs 21 1) rfl (SP.on ((SFQ.box_now (i:=1) rfl).sub (j:=3) (n:=1) (c:=[vF0]) rfl) (SP.nil SFQ.sl)) rfl (fun w' hw'=>(E.move kFg)) ?_
         refine FB.t (i:=1) (bs 21 3) rfl (SP.on ((SFQ.box_now (i:=1) rfl).sub (j:=3) (n:=1) (c:=[vF0]) rfl) (SP.nil SFQ.sl)) rfl (fun w' hw'=>(E.nilCheck rfl)) ?_
         refine FB.t (i:=2) (bs 21 7) rfl (SP.on ((SFQ.box_now (i:=1) rfl).sub (j:=3) (n:=1) (c:=[vF0]) rfl) (SP.nil SFQ.sl)) rfl (fun w' hw'=>(E.fieldAddr tf85_2 rfl)) ?_
         refine FB.p (i:=3) (bs 21 15) 0 [19,20] rfl (SP.on ((SFQ.box_now (i:=1) rfl).sub (j:=3) (n:=1) (c:=[vF0]) rfl) (SP.nil SFQ.sl)) rfl rfl (fun w' hw'=>(E.load rfl (zae Tryz.isAgg83 hw' rfl))) ?_
         refine FB.t (i:=4) (bs 21 31) rfl (SP.on ((SFQ.box_now (i:=1) rfl).sub (j:=3) (n:=1) (c:=[vF0]) rfl) (SP.nil SFQ.sl)) rfl (fun w' hw'=>(E.move (v:=Value.int .i64 rFJ) rfl)) ?_
         refine FB.t (i:=5) (bs 21 63) rfl (SP.on ((SFQ.box_now (i:=1) rfl).sub (j:=3) (n:=1) (c:=[vF0]) rfl) (SP.nil SFQ.sl)) rfl (fun w' hw'=>(E.move kFg)) ?_
         refine FB.t (i:=6) (bs 21 127) rfl (SP.on ((SFQ.box_now (i:=1) rfl).sub (j:=3) (n:=1) (c:=[vF0]) rfl) (SP.nil SFQ.sl)) rfl (fun w' hw'=>(E.nilCheck rfl)) ?_
         refine FB.t (i:=7) (bs 21 255) rfl (SP.on ((SFQ.box_now (i:=1) rfl).sub (j:=3) (n:=1) (c:=[vF0]) rfl) (SP.nil SFQ.sl)) rfl (fun w' hw'=>(E.fieldAddr tf85_2 rfl)) ?_
         refine FB.p (i:=8) (bs 21 511) 0 [10,11,18,19,20] rfl (SP.on ((SFQ.box_now (i:=1) rfl).sub (j:=3) (n:=1) (c:=[vF0]) rfl) (SP.nil SFQ.sl)) rfl rfl (fun w' hw'=>(E.load rfl (zae Tryz.isAgg83 hw' rfl))) ?_
         refine FB.t (i:=9) (bs 21 1023) rfl (SP.on ((SFQ.box_now (i:=1) rfl).sub (j:=3) (n:=1) (c:=[vF0]) rfl) (SP.nil SFQ.sl)) rfl (fun w' hw'=>(E.move (v:=Value.int .i64 rFJ) rfl)) ?_
         obtain ⟨pFR,rFX,ptFS,atFT,hrFY,he471,hallFW⟩:=SFQ.pool_at (i:=2) rfl elsF3 hxFV
         refine FB.t (i:=10) (bs 21 2047) rfl (SP.on ((SFQ.box_now (i:=1) rfl).sub (j:=3) (n:=1) (c:=[vF0]) rfl) (SP.nil SFQ.sl)) rfl (fun w' hw'=>(E.indexAddr te83 rfl rfl ptFS)) ?_
         refine FB.phase [20] (fun w'=>WAt w' pFR [rFX.v]) ?_
         refine FB.p (i:=11) (bs 21 4095) 0 [18,19,20] rfl (SP.on (hallFW _ _ _ 2 SFQ rfl) (SP.on ((SFQ.box_now (i:=1) rfl).sub (j:=3) (n:=1) (c:=[vF0]) rfl) (SP.nil SFQ.sl))) rfl rfl (fun w' hw'=>(E.load rfl (zae Tryz.isAgg87 hw' rfl))) ?_
         refine FB.t (i:=12) (bs 21 8191) rfl (SP.on (hallFW _ _ _ 2 SFQ rfl) (SP.on ((SFQ.box_now (i:=1) rfl).sub (j:=3) (n:=1) (c:=[vF0]) rfl) (SP.nil SFQ.sl))) rfl (fun w' hw'=>(E.move kFh)) ?_
         refine FB.t (i:=13) (bs 21 16383) rfl (SP.on (hallFW _ _ _ 2 SFQ rfl) (SP.on ((SFQ.box_now (i:=1) rfl).sub (j:=3) (n:=1) (c:=[vF0]) rfl) (SP.nil SFQ.sl))) rfl (fun w' hw'=>(E.shl rfl rfl (nn_ge zG0))) ?_
         refine FB.t (i:=14) (bs 21 32767) rfl (SP.on (hallFW _ _ _ 2 SFQ rfl) (SP.on ((SFQ.box_now (i:=1) rfl).sub (j:=3) (n:=1) (c:=[vF0]) rfl) (SP.nil SFQ.sl))) rfl (fun w' hw'=>(E.move kFj)) ?_
         refine FB.t (i:=15) (bs 21 65535) rfl (SP.on (hallFW _ _ _ 2 SFQ rfl) (SP.on ((SFQ.box_now (i:=1) rfl).sub (j:=3) (n:=1) (c:=[vF0]) rfl) (SP.nil SFQ.sl))) rfl (fun w' hw'=>(E.shl rfl rfl (nn_ge zG2))) ?_
         refine FB.t (i:=16) (bs 21 131071) rfl (SP.on (hallFW _ _ _ 2 SFQ rfl) (SP.on ((SFQ.box_now (i:=1) rfl).sub (j:=3) (n:=1) (c:=[vF0]) rfl) (SP.nil SFQ.sl))) rfl (fun w' hw'=>(E.or rfl rfl)) ?_
         refine FB.all1 (i:=17) (by kernel_rfl) ?_
         ·
          obtain ⟨vG4,wG5,runG6,SG7⟩:=SFQ.buildSlice (P:=Tryz.prog) te87 [Value.int .u64 (orK false 64 (shlK false 64 1 ((i65:Nat):Int)) (shlK false 64 1 ((iEr:Nat):Int)))] (parts:=#[(0,Value.int .u64 (orK false 64 (shlK false 64 1 ((i65:Nat):Int)) (shlK false 64 1 ((iEr:Nat):Int))))]) (cells:=[Value.int .u64 (orK false 64 (shlK false 64 1 ((i65:Nat):Int)) (shlK false 64 1 ((iEr:Nat):Int)))]) rfl (zaH rfl zaw) (zaG rfl zav) (zab rfl zad) (Nat.le_of_ble_eq_true rfl)
          have elsG8:Els (up wa.heap.size HFv) (eN .u64) 1 [Value.int .u64 (orK false 64 (shlK false 64 1 ((i65:Nat):Int)) (shlK false 64 1 ((iEr:Nat):Int)))] [(orK false 64 (shlK false 64 1 ((i65:Nat):Int)) (shlK false 64 1 ((iEr:Nat):Int)))]:=(Els.snoc (H:=(up wa.heap.size HFv)) (E:=(eN .u64)) (k:=1) (c:=[Value.int .u64 (orK false 64 (shlK false 64 1 ((i65:Nat):Int)) (shlK false 64 1 ((iEr:Nat):Int)))]) (x:=(orK false 64 (shlK false 64 1 ((i65:Nat):Int)) (shlK false 64 1 ((iEr:Nat):Int)))) Els.nil rfl rfl)
          refine FC.val (l':=(bs 21 262143)) rfl (by kernel_rfl) rfl rfl rfl (E.buildSlice (B1 rfl) runG6) ?_
          refine ⟨(SP.on (hallFW _ _ _ 3 SG7 rfl) (SP.on ((SG7.box_now (i:=2) rfl).sub (j:=3) (n:=1) (c:=[vF0]) rfl) (SP.nil SG7.sl))),?_⟩
          refine FB.all1 (i:=18) (by kernel_rfl) ?_
          ·
           obtain ⟨wGc,rGb,runGd,SGe,elsGf,hcGg,hcGh⟩:=SG7.poolAppend (P:=Tryz.prog) (a:=[.row 63 1 vG4 1 [Value.int .u64 (orK false 64 (shlK false 64 1 ((i65:Nat):Int)) (shlK false 64 1 ((iEr:Nat):Int)))],.row 3 1 vFz nFA csFB,.box b46 85 [Value.int .i64 a0.vars,vF5,vF7,vF0],.row 87 1 vF0 nF1 csF2]) (L:=[]) te87 hrFY (he471.mono (zaf rFy.run.inc)) (q:=0) rfl elsG8 hzGa
           have SGe:St Ha wa HFv wGc (.row 63 1 vG4 1 [Value.int .u64 (orK false 64 (shlK false 64 1 ((i65:Nat):Int)) (shlK false 64 1 ((iEr:Nat):Int)))]::.row 3 1 vFz nFA csFB::.box b46 85 [Value.int .i64 a0.vars,vF5,vF7,vF0]::.row 87 1 vF0 nF1 csF2::(plT 63 1 (rs414.set (Int.toNat rFJ) rGb) [])):=SGe
           have SGi:St Ha wa HFv wGc (.row 3 1 vFz nFA csFB::.box b46 85 [Value.int .i64 a0.vars,vF5,vF7,vF0]::.row 87 1 vF0 nF1 csF2::(plT 63 1 (rs414.set (Int.toNat rFJ) rGb) [])):=SGe.drop 0
           refine FC.val (l':=(bs 21 524287)) rfl (by kernel_rfl) rfl rfl rfl (E.append rfl rfl runGd) ?_
           refine ⟨(SP.on (hallFW _ _ _ 2 SGi rfl) (SP.on ((SGi.box_now (i:=1) rfl).sub (j:=3) (n:=1) (c:=[vF0]) rfl) (SP.nil SGi.sl))),?_⟩
           obtain ⟨pGj,rGp,ptGk,atGl,hrGq,he499,hallGo⟩:=SGi.pool_at (i:=2) rfl elsF3 hxGn
           refine FB.t (i:=19) (bs 21 1048575) rfl (SP.on (hallFW _ _ _ 2 SGi rfl) (SP.on ((SGi.box_now (i:=1) rfl).sub (j:=3) (n:=1) (c:=[vF0]) rfl) (SP.nil SGi.sl))) rfl (fun w' hw'=>(E.indexAddr te83 rfl rfl ptGk)) ?_
           refine FB.all1 (i:=20) (by kernel_rfl) ?_
           ·
            obtain ⟨wGu,csGv,runGw,SGx,elsGy⟩:=SGi.poolPut (P:=Tryz.prog) (t:=87) (i:=2) rfl (elsF3.mono (zaf rFy.run.inc)) elsGf hputGt ptGk Tryz.sizeOf87 hcGg hcGh
            have SGx:St Ha wa HFv wGu (.row 3 1 vFz nFA csFB::.box b46 85 [Value.int .i64 a0.vars,vF5,vF7,vF0]::.row 87 1 vF0 nF1 csGv::(plT 63 1 (rs414.set (Int.toNat rFJ) rGb) [])):=SGx
            refine FC.act (l':=(bs 21 2097151)) rfl (by kernel_rfl) rfl rfl (E.store rfl rfl runGw) ?_
            refine ⟨(SP.o (SP.o (SP.nil SGx.sl))),?_⟩
            exact FB.done (by kernel_rfl) ⟨_,_,_,_,_,_,_,(SGx.selT (a:=[.row 3 1 vFz nFA csFB,.box b46 85 [Value.int .i64 a0.vars,vF5,vF7,vF0],.row 87 1 vF0 nF1 csGv]) (l':=[.box b46 85 [Value.int .i64 a0.vars,vF5,vF7,vF0],.row 87 1 vF0 nF1 csGv]) [1,2] (by decide) rfl),(Inc.rfl _),elsGy,(hF6.mono rFy.run.inc),(hF8.mono rFy.run.inc),kFe,kFf,kFg,kFh,kFi,kFj,kFk,kFl,kFm,kFn,kFo,kFp,kFq,kFr⟩
        ·
         rintro fGM wGL ⟨HGI,vGz,nGA,csGB,rs511,vGE,vGG,SGJ,iGK,elsGC,hGF,hGH,kGN,kGO,kGP,kGQ,kGR,kGS,kGT,kGU,kGV,kGW,kGX,kGY,kGZ,kH0⟩
         refine FW.region ?_
         refine FL.v (E.move kGU) ?_
         refine FL.v (E.add rfl rfl) ?_
         refine FL.v (E.assign (v:=Value.int .i64 (wr (sEZ.2.2.2 + 1))) rfl) ?_
         refine FL.nil ?_
         obtain rfl:=Option.some.inj hp
         exact ⟨rfl,⟨_,_,_,_,_,_,_,SGJ,((iFb.tr rFy.run.inc).tr iGK),elsGC,hGF,hGH,kGN,kGO,kGP,kGQ,kGR,kGS,kGT,rfl,kGV,kGW,kGX,kGY,kGZ,kH0⟩⟩
       ·
        refine FW.condF rfl cFD ?_
        refine FW.skip (FW.region ?_)
        refine FL.v (E.move kFl) ?_
        refine FL.v (E.add rfl rfl) ?_
        refine FL.v (E.assign (v:=Value.int .i64 (wr (sEZ.2.2.2 + 1))) rfl) ?_
        refine FL.nil ?_
        obtain rfl:=Option.some.inj hp
        exact ⟨rfl,⟨_,_,_,_,_,_,_,(SFx.selT (a:=[.row 3 1 vFz nFA csFB,.box b46 85 [Value.int .i64 a0.vars,vF5,vF7,vF0],.row 87 1 vF0 nF1 csF2]) (l':=[.box b46 85 [Value.int .i64 a0.vars,vF5,vF7,vF0],.row 87 1 vF0 nF1 csF2]) [1,2] (by decide) rfl),(iFb.tr rFy.run.inc),(elsF3.mono (zaf rFy.run.inc)),(hF6.mono rFy.run.inc),(hF8.mono rFy.run.inc),kFe,kFf,kFg,kFh,kFi,kFj,kFk,rfl,kFm,kFn,kFo,kFp,kFq,kFr⟩⟩
      ·
       refine FW.condF rfl cFs ?_
       refine FW.exit ?_
       obtain rfl:=Option.some.inj hp
       exact ⟨nofun,rfl,⟨_,_,_,_,_,_,_,SFa,iFb,elsF3,hF6,hF8,kFe,kFf,kFg,kFh,kFi,kFm,kFn,kFo,kFp,kFq,kFr⟩⟩
     ·
      clear hq
      intro e fH6 wH5 hD
      rcases qEZ with sEZ|xEZ
      ·
       obtain ⟨rfl,hD⟩:=hD
       obtain ⟨HH2,vF0,nF1,csF2,rs414,vF5,vF7,SH3,iH4,elsF3,hF6,hF8,kH7,kH8,kH9,kHa,kHb,kHc,kHd,kHe,kHf,kHg,kHh⟩:=hD
       replace hp:=el_go hp
       refine FW.region ?_
       refine FL.v (E.add kHh rfl) ?_
       refine FL.v (E.move (v:=Value.int .i64 (wr (((iEr:Nat):Int) + 1))) rfl) ?_
       refine FL.nil ?_
       obtain rfl:=Option.some.inj hp
       exact ⟨rfl,⟨_,_,_,_,_,_,_,SH3,(iED.tr iH4),elsF3,hF6,hF8,(zam rfl (zal hxEr) (p1.mono ((((i27.tr i58).tr i77).tr iED).tr iH4)).le),kH7,kH8,kH9,kHa,kHb,kHc,kHd,kHe,kHf,kHg⟩⟩
      ·
       exact xEZ.elim
    ·
     clear hp hq
     rintro sEr fHy wHx ⟨HHu,vEs,nEt,csEu,rs380,vEx,vEz,SHv,iHw,elsEv,hEy,hEA,kHz,kHA,kHB,kHC,kHD,kHE,kHF,kHG,kHH,kHI,kHJ⟩
     refine FW.seq (FW.region ?_)
     refine FL.v (E.lss kHz kHJ) ?_
     refine FL.nil (FW.seq ?_)
     refine FW.condF rfl zar ?_
     refine FW.exit ?_
     exact ⟨nofun,rfl,⟨_,_,_,_,_,_,_,SHv,iHw,elsEv,hEy,hEA,kHA,kHB,kHC,kHF,kHG,kHH⟩⟩
    ·
     clear hq
     intro e fHn wHm hD
     rcases qEr with sEr|xEr
     ·
      obtain ⟨rfl,hD⟩:=hD
      obtain ⟨HHj,vEs,nEt,csEu,rs380,vEx,vEz,SHk,iHl,elsEv,hEy,hEA,kHo,kHp,kHq,kHr,kHs,kHt⟩:=hD
      replace hp:=el_go hp
      refine FW.region ?_
      refine FL.v (E.add kHt rfl) ?_
      refine FL.v (E.move (v:=Value.int .i64 (wr (((i65:Nat):Int) + 1))) rfl) ?_
      refine FL.nil ?_
      obtain rfl:=Option.some.inj hp
      exact ⟨rfl,⟨_,_,_,_,_,_,_,SHk,(i77.tr iHl),elsEv,hEy,hEA,(zam rfl (zal hx65) (p1.mono (((i27.tr i58).tr i77).tr iHl)).le),kHo,kHp,kHq,kHr,kHs⟩⟩
     ·
      exact xEr.elim
  ·
   clear hp hq
   rintro s65 fI8 wI7 ⟨HI4,v66,n67,cs68,rs70,v71,v73,SI5,iI6,els69,h72,h74,kI9,kIa,kIb,kIc,kId,kIe⟩
   refine FW.seq (FW.region ?_)
   refine FL.v (E.lss kI9 kIe) ?_
   refine FL.nil (FW.seq ?_)
   refine FW.condF rfl zar ?_
   refine FW.exit ?_
   exact ⟨nofun,rfl,⟨_,_,_,_,_,_,_,SI5,iI6,els69,h72,h74,kIc⟩⟩
  ·
   clear hq
   intro e fHP wHO hD
   rcases q65 with s65|x65
   ·
    obtain ⟨rfl,hD⟩:=hD
    obtain ⟨HHL,v66,n67,cs68,rs70,v71,v73,SHM,iHN,els69,h72,h74,kHQ⟩:=hD
    replace hp:=el_go hp
    refine FW.seq (FW.region ?_)
    refine FL.v (E.move kHQ) ?_
    refine FL.v (E.assign (v:=Value.pointer (some (⟨b46,0,none⟩:Addr))) rfl) ?_
    refine FL.nil ?_
    refine FW.ret ?_
    obtain ⟨HHR,SHS,iHT,elsHU⟩:=SHM.poolEls (a:=[.box b46 85 [Value.int .i64 a0.vars,v71,v73,v66],.row 87 1 v66 n67 cs68]) (L:=[]) els69 (by decide)
    have SHS:St Ha wa HHR wHO [.box b46 85 [Value.int .i64 a0.vars,v71,v73,v66],.row 87 1 v66 n67 cs68]:=SHS
    obtain ⟨HHV,SHW,iHX,hHY,nvHZ⟩:=SHS.sealRowU (i:=1) (l':=[.box b46 85 [Value.int .i64 a0.vars,v71,v73,v66]]) rfl elsHU (by decide) rfl
    obtain ⟨HI0,SI1,iI2,atI3⟩:=SHW.sealBox (i:=0) (l':=[]) rfl rfl
    obtain rfl:=Option.some.inj hp
    exact ⟨.inr rfl,res1 rfl rfl ⟨_,_,rfl,SI1.run,⟨_,rfl,_,_,_,(h72.mono ((iHT.tr iHX).tr iI2)),(h74.mono ((iHT.tr iHX).tr iI2)),(hHY.mono (zaf iI2)),atI3⟩⟩⟩
   ·
    exact x65.elim

theorem zei {Ha:GH} {wa:World} (hs:Sl Ha wa) (a0:Int) :
  Calls Tryz.prog 85 #[Value.int .u64 a0] wa (Sc Ha wa (Value.int .i64 (PF.zcc a0))):=by
 obtain ⟨r,hp⟩:∃ r,(PF.zcc a0)=r:=⟨_,rfl⟩
 rw [hp]
 unfold PF.zcc at hp
 have S0:=St.init hs
 refine zag (N:=35) (args:=[Value.int .u64 a0]) Tryz.func85 rfl rfl rfl ?_
 refine FW.seq (FW.region ?_)
 refine FL.v (E.assign (v:=Value.int .i64 0) rfl) ?_
 refine FL.nil (FW.seq (FW.region ?_))
 refine FL.v (E.move (v:=Value.int .u64 a0) rfl) ?_
 refine FL.v (E.shr rfl rfl (by decide)) ?_
 refine FL.v (E.and rfl rfl) ?_
 refine FL.v (E.move (v:=Value.int .u64 a0) rfl) ?_
 refine FL.v (E.and rfl rfl) ?_
 refine FL.v (E.addK rfl rfl) ?_
 refine FL.v (E.assign (v:=Value.int .u64 (wrk false 64 ((andK false 64 (shrK 64 a0 1) 6148914691236517205) + (andK false 64 a0 6148914691236517205)))) rfl) ?_
 refine FL.nil (FW.seq (FW.region ?_))
 refine FL.v (E.move (v:=Value.int .u64 (wrk false 64 ((andK false 64 (shrK 64 a0 1) 6148914691236517205) + (andK false 64 a0 6148914691236517205)))) rfl) ?_
 refine FL.v (E.shr rfl rfl (by decide)) ?_
 refine FL.v (E.and rfl rfl) ?_
 refine FL.v (E.move (v:=Value.int .u64 (wrk false 64 ((andK false 64 (shrK 64 a0 1) 6148914691236517205) + (andK false 64 a0 6148914691236517205)))) rfl) ?_
 refine FL.v (E.and rfl rfl) ?_
 refine FL.v (E.addK rfl rfl) ?_
 refine FL.v (E.assign (v:=Value.int .u64 (wrk false 64 ((andK false 64 (shrK 64 (wrk false 64 ((andK false 64 (shrK 64 a0 1) 6148914691236517205) + (andK false 64 a0 6148914691236517205))) 2) 3689348814741910323) + (andK false 64 (wrk false 64 ((andK false 64 (shrK 64 a0 1) 6148914691236517205) + (andK false 64 a0 6148914691236517205))) 3689348814741910323)))) rfl) ?_
 refine FL.nil (FW.seq (FW.region ?_))
 refine FL.v (E.move (v:=Value.int .u64 (wrk false 64 ((andK false 64 (shrK 64 (wrk false 64 ((andK false 64 (shrK 64 a0 1) 6148914691236517205) + (andK false 64 a0 6148914691236517205))) 2) 3689348814741910323) + (andK false 64 (wrk false 64 ((andK false 64 (shrK 64 a0 1) 6148914691236517205) + (andK false 64 a0 6148914691236517205))) 3689348814741910323)))) rfl) ?_
 refine FL.v (E.shr rfl rfl (by decide)) ?_
 refine FL.v (E.move (v:=Value.int .u64 (wrk false 64 ((andK false 64 (shrK 64 (wrk false 64 ((andK false 64 (shrK 64 a0 1) 6148914691236517205) + (andK false 64 a0 6148914691236517205))) 2) 3689348814741910323) + (andK false 64 (wrk false 64 ((andK false 64 (shrK 64 a0 1) 6148914691236517205) + (andK false 64 a0 6148914691236517205))) 3689348814741910323)))) rfl) ?_
 refine FL.v (E.addK rfl rfl) ?_
 refine FL.v (E.and rfl rfl) ?_
 refine FL.v (E.assign (v:=Value.int .u64 (andK false 64 (wrk false 64 ((shrK 64 (wrk false 64 ((andK false 64 (shrK 64 (wrk false 64 ((andK false 64 (shrK 64 a0 1) 6148914691236517205) + (andK false 64 a0 6148914691236517205))) 2) 3689348814741910323) + (andK false 64 (wrk false 64 ((andK false 64 (shrK 64 a0 1) 6148914691236517205) + (andK false 64 a0 6148914691236517205))) 3689348814741910323))) 4) + (wrk false 64 ((andK false 64 (shrK 64 (wrk false 64 ((andK false 64 (shrK 64 a0 1) 6148914691236517205) + (andK false 64 a0 6148914691236517205))) 2) 3689348814741910323) + (andK false 64 (wrk false 64 ((andK false 64 (shrK 64 a0 1) 6148914691236517205) + (andK false 64 a0 6148914691236517205))) 3689348814741910323))))) 1085102592571150095)) rfl) ?_
 refine FL.nil (FW.seq (FW.region ?_))
 refine FL.v (E.move (v:=Value.int .u64 (andK false 64 (wrk false 64 ((shrK 64 (wrk false 64 ((andK false 64 (shrK 64 (wrk false 64 ((andK false 64 (shrK 64 a0 1) 6148914691236517205) + (andK false 64 a0 6148914691236517205))) 2) 3689348814741910323) + (andK false 64 (wrk false 64 ((andK false 64 (shrK 64 a0 1) 6148914691236517205) + (andK false 64 a0 6148914691236517205))) 3689348814741910323))) 4) + (wrk false 64 ((andK false 64 (shrK 64 (wrk false 64 ((andK false 64 (shrK 64 a0 1) 6148914691236517205) + (andK false 64 a0 6148914691236517205))) 2) 3689348814741910323) + (andK false 64 (wrk false 64 ((andK false 64 (shrK 64 a0 1) 6148914691236517205) + (andK false 64 a0 6148914691236517205))) 3689348814741910323))))) 1085102592571150095)) rfl) ?_
 refine FL.v (E.move (v:=Value.int .u64 (andK false 64 (wrk false 64 ((shrK 64 (wrk false 64 ((andK false 64 (shrK 64 (wrk false 64 ((andK false 64 (shrK 64 a0 1) 6148914691236517205) + (andK false 64 a0 6148914691236517205))) 2) 3689348814741910323) + (andK false 64 (wrk false 64 ((andK false 64 (shrK 64 a0 1) 6148914691236517205) + (andK false 64 a0 6148914691236517205))) 3689348814741910323))) 4) + (wrk false 64 ((andK false 64 (shrK 64 (wrk false 64 ((andK false 64 (shrK 64 a0 1) 6148914691236517205) + (andK false 64 a0 6148914691236517205))) 2) 3689348814741910323) + (andK false 64 (wrk false 64 ((andK false 64 (shrK 64 a0 1) 6148914691236517205) + (andK false 64 a0 6148914691236517205))) 3689348814741910323))))) 1085102592571150095)) rfl) ?_
 refine FL.v (E.shr rfl rfl (by decide)) ?_
 refine FL.v (E.addK rfl rfl) ?_
 refine FL.v (E.assign (v:=Value.int .u64 (wrk false 64 ((andK false 64 (wrk false 64 ((shrK 64 (wrk false 64 ((andK false 64 (shrK 64 (wrk false 64 ((andK false 64 (shrK 64 a0 1) 6148914691236517205) + (andK false 64 a0 6148914691236517205))) 2) 3689348814741910323) + (andK false 64 (wrk false 64 ((andK false 64 (shrK 64 a0 1) 6148914691236517205) + (andK false 64 a0 6148914691236517205))) 3689348814741910323))) 4) + (wrk false 64 ((andK false 64 (shrK 64 (wrk false 64 ((andK false 64 (shrK 64 a0 1) 6148914691236517205) + (andK false 64 a0 6148914691236517205))) 2) 3689348814741910323) + (andK false 64 (wrk false 64 ((andK false 64 (shrK 64 a0 1) 6148914691236517205) + (andK false 64 a0 6148914691236517205))) 3689348814741910323))))) 1085102592571150095) + (shrK 64 (andK false 64 (wrk false 64 ((shrK 64 (wrk false 64 ((andK false 64 (shrK 64 (wrk false 64 ((andK false 64 (shrK 64 a0 1) 6148914691236517205) + (andK false 64 a0 6148914691236517205))) 2) 3689348814741910323) + (andK false 64 (wrk false 64 ((andK false 64 (shrK 64 a0 1) 6148914691236517205) + (andK false 64 a0 6148914691236517205))) 3689348814741910323))) 4) + (wrk false 64 ((andK false 64 (shrK 64 (wrk false 64 ((andK false 64 (shrK 64 a0 1) 6148914691236517205) + (andK false 64 a0 6148914691236517205))) 2) 3689348814741910323) + (andK false 64 (wrk false 64 ((andK false 64 (shrK 64 a0 1) 6148914691236517205) + (andK false 64 a0 6148914691236517205))) 3689348814741910323))))) 1085102592571150095) 8)))) rfl) ?_
 refine FL.nil (FW.seq (FW.region ?_))
 refine FL.v (E.move (v:=Value.int .u64 (wrk false 64 ((andK false 64 (wrk false 64 ((shrK 64 (wrk false 64 ((andK false 64 (shrK 64 (wrk false 64 ((andK false 64 (shrK 64 a0 1) 6148914691236517205) + (andK false 64 a0 6148914691236517205))) 2) 3689348814741910323) + (andK false 64 (wrk false 64 ((andK false 64 (shrK 64 a0 1) 6148914691236517205) + (andK false 64 a0 6148914691236517205))) 3689348814741910323))) 4) + (wrk false 64 ((andK false 64 (shrK 64 (wrk false 64 ((andK false 64 (shrK 64 a0 1) 6148914691236517205) + (andK false 64 a0 6148914691236517205))) 2) 3689348814741910323) + (andK false 64 (wrk false 64 ((andK false 64 (shrK 64 a0 1) 6148914691236517205) + (andK false 64 a0 6148914691236517205))) 3689348814741910323))))) 1085102592571150095) + (shrK 64 (andK false 64 (wrk false 64 ((shrK 64 (wrk false 64 ((andK false 64 (shrK 64 (wrk false 64 ((andK false 64 (shrK 64 a0 1) 6148914691236517205) + (andK false 64 a0 6148914691236517205))) 2) 3689348814741910323) + (andK false 64 (wrk false 64 ((andK false 64 (shrK 64 a0 1) 6148914691236517205) + (andK false 64 a0 6148914691236517205))) 3689348814741910323))) 4) + (wrk false 64 ((andK false 64 (shrK 64 (wrk false 64 ((andK false 64 (shrK 64 a0 1) 6148914691236517205) + (andK false 64 a0 6148914691236517205))) 2) 3689348814741910323) + (andK false 64 (wrk false 64 ((andK false 64 (shrK 64 a0 1) 6148914691236517205) + (andK false 64 a0 6148914691236517205))) 3689348814741910323))))) 1085102592571150095) 8)))) rfl) ?_
 refine FL.v (E.move (v:=Value.int .u64 (wrk false 64 ((andK false 64 (wrk false 64 ((shrK 64 (wrk false 64 ((andK false 64 (shrK 64 (wrk false 64 ((andK false 64 (shrK 64 a0 1) 6148914691236517205) + (andK false 64 a0 6148914691236517205))) 2) 3689348814741910323) + (andK false 64 (wrk false 64 ((andK false 64 (shrK 64 a0 1) 6148914691236517205) + (andK false 64 a0 6148914691236517205))) 3689348814741910323))) 4) + (wrk false 64 ((andK false 64 (shrK 64 (wrk false 64 ((andK false 64 (shrK 64 a0 1) 6148914691236517205) + (andK false 64 a0 6148914691236517205))) 2) 3689348814741910323) + (andK false 64 (wrk false 64 ((andK false 64 (shrK 64 a0 1) 6148914691236517205) + (andK false 64 a0 6148914691236517205))) 3689348814741910323))))) 1085102592571150095) + (shrK 64 (andK false 64 (wrk false 64 ((shrK 64 (wrk false 64 ((andK false 64 (shrK 64 (wrk false 64 ((andK false 64 (shrK 64 a0 1) 6148914691236517205) + (andK false 64 a0 6148914691236517205))) 2) 3689348814741910323) + (andK false 64 (wrk false 64 ((andK false 64 (shrK 64 a0 1) 6148914691236517205) + (andK false 64 a0 6148914691236517205))) 3689348814741910323))) 4) + (wrk false 64 ((andK false 64 (shrK 64 (wrk false 64 ((andK false 64 (shrK 64 a0 1) 6148914691236517205) + (andK false 64 a0 6148914691236517205))) 2) 3689348814741910323) + (andK false 64 (wrk false 64 ((andK false 64 (shrK 64 a0 1) 6148914691236517205) + (andK false 64 a0 6148914691236517205))) 3689348814741910323))))) 1085102592571150095) 8)))) rfl) ?_
 refine FL.v (E.shr rfl rfl (by decide)) ?_
 refine FL.v (E.addK rfl rfl) ?_
 refine FL.v (E.assign (v:=Value.int .u64 (wrk false 64 ((wrk false 64 ((andK false 64 (wrk false 64 ((shrK 64 (wrk false 64 ((andK false 64 (shrK 64 (wrk false 64 ((andK false 64 (shrK 64 a0 1) 6148914691236517205) + (andK false 64 a0 6148914691236517205))) 2) 3689348814741910323) + (andK false 64 (wrk false 64 ((andK false 64 (shrK 64 a0 1) 6148914691236517205) + (andK false 64 a0 6148914691236517205))) 3689348814741910323))) 4) + (wrk false 64 ((andK false 64 (shrK 64 (wrk false 64 ((andK false 64 (shrK 64 a0 1) 6148914691236517205) + (andK false 64 a0 6148914691236517205))) 2) 3689348814741910323) + (andK false 64 (wrk false 64 ((andK false 64 (shrK 64 a0 1) 6148914691236517205) + (andK false 64 a0 6148914691236517205))) 3689348814741910323))))) 1085102592571150095) + (shrK 64 (andK false 64 (wrk false 64 ((shrK 64 (wrk false 64 ((andK false 64 (shrK 64 (wrk false 64 ((andK false 64 (shrK 64 a0 1) 6148914691236517205) + (andK false 64 a0 6148914691236517205))) 2) 3689348814741910323) + (andK false 64 (wrk false 64 ((andK false 64 (shrK 64 a0 1) 6148914691236517205) + (andK false 64 a0 6148914691236517205))) 3689348814741910323))) 4) + (wrk false 64 ((andK false 64 (shrK 64 (wrk false 64 ((andK false 64 (shrK 64 a0 1) 6148914691236517205) + (andK false 64 a0 6148914691236517205))) 2) 3689348814741910323) + (andK false 64 (wrk false 64 ((andK false 64 (shrK 64 a0 1) 6148914691236517205) + (andK false 64 a0 6148914691236517205))) 3689348814741910323))))) 1085102592571150095) 8))) + (shrK 64 (wrk false 64 ((andK false 64 (wrk false 64 ((shrK 64 (wrk false 64 ((andK false 64 (shrK 64 (wrk false 64 ((andK false 64 (shrK 64 a0 1) 6148914691236517205) + (andK false 64 a0 6148914691236517205))) 2) 3689348814741910323) + (andK false 64 (wrk false 64 ((andK false 64 (shrK 64 a0 1) 6148914691236517205) + (andK false 64 a0 6148914691236517205))) 3689348814741910323))) 4) + (wrk false 64 ((andK false 64 (shrK 64 (wrk false 64 ((andK false 64 (shrK 64 a0 1) 6148914691236517205) + (andK false 64 a0 6148914691236517205))) 2) 3689348814741910323) + (andK false 64 (wrk false 64 ((andK false 64 (shrK 64 a0 1) 6148914691236517205) + (andK false 64 a0 6148914691236517205))) 3689348814741910323))))) 1085102592571150095) + (shrK 64 (andK false 64 (wrk false 64 ((shrK 64 (wrk false 64 ((andK false 64 (shrK 64 (wrk false 64 ((andK false 64 (shrK 64 a0 1) 6148914691236517205) + (andK false 64 a0 6148914691236517205))) 2) 3689348814741910323) + (andK false 64 (wrk false 64 ((andK false 64 (shrK 64 a0 1) 6148914691236517205) + (andK false 64 a0 6148914691236517205))) 3689348814741910323))) 4) + (wrk false 64 ((andK false 64 (shrK 64 (wrk false 64 ((andK false 64 (shrK 64 a0 1) 6148914691236517205) + (andK false 64 a0 6148914691236517205))) 2) 3689348814741910323) + (andK false 64 (wrk false 64 ((andK false 64 (shrK 64 a0 1) 6148914691236517205) + (andK false 64 a0 6148914691236517205))) 3689348814741910323))))) 1085102592571150095) 8))) 16)))) rfl) ?_
 refine FL.nil (FW.seq (FW.region ?_))
 refine FL.v (E.move (v:=Value.int .u64 (wrk false 64 ((wrk false 64 ((andK false 64 (wrk false 64 ((shrK 64 (wrk false 64 ((andK false 64 (shrK 64 (wrk false 64 ((andK false 64 (shrK 64 a0 1) 6148914691236517205) + (andK false 64 a0 6148914691236517205))) 2) 3689348814741910323) + (andK false 64 (wrk false 64 ((andK false 64 (shrK 64 a0 1) 6148914691236517205) + (andK false 64 a0 6148914691236517205))) 3689348814741910323))) 4) + (wrk false 64 ((andK false 64 (shrK 64 (wrk false 64 ((andK false 64 (shrK 64 a0 1) 6148914691236517205) + (andK false 64 a0 6148914691236517205))) 2) 3689348814741910323) + (andK false 64 (wrk false 64 ((andK false 64 (shrK 64 a0 1) 6148914691236517205) + (andK false 64 a0 6148914691236517205))) 3689348814741910323))))) 1085102592571150095) + (shrK 64 (andK false 64 (wrk false 64 ((shrK 64 (wrk false 64 ((andK false 64 (shrK 64 (wrk false 64 ((andK false 64 (shrK 64 a0 1) 6148914691236517205) + (andK false 64 a0 6148914691236517205))) 2) 3689348814741910323) + (andK false 64 (wrk false 64 ((andK false 64 (shrK 64 a0 1) 6148914691236517205) + (andK false 64 a0 6148914691236517205))) 3689348814741910323))) 4) + (wrk false 64 ((andK false 64 (shrK 64 (wrk false 64 ((andK false 64 (shrK 64 a0 1) 6148914691236517205) + (andK false 64 a0 6148914691236517205))) 2) 3689348814741910323) + (andK false 64 (wrk false 64 ((andK false 64 (shrK 64 a0 1) 6148914691236517205) + (andK false 64 a0 6148914691236517205))) 3689348814741910323))))) 1085102592571150095) 8))) + (shrK 64 (wrk false 64 ((andK false 64 (wrk false 64 ((shrK 64 (wrk false 64 ((andK false 64 (shrK 64 (wrk false 64 ((andK false 64 (shrK 64 a0 1) 6148914691236517205) + (andK false 64 a0 6148914691236517205))) 2) 3689348814741910323) + (andK false 64 (wrk false 64 ((andK false 64 (shrK 64 a0 1) 6148914691236517205) + (andK false 64 a0 6148914691236517205))) 3689348814741910323))) 4) + (wrk false 64 ((andK false 64 (shrK 64 (wrk false 64 ((andK false 64 (shrK 64 a0 1) 6148914691236517205) + (andK false 64 a0 6148914691236517205))) 2) 3689348814741910323) + (andK false 64 (wrk false 64 ((andK false 64 (shrK 64 a0 1) 6148914691236517205) + (andK false 64 a0 6148914691236517205))) 3689348814741910323))))) 1085102592571150095) + (shrK 64 (andK false 64 (wrk false 64 ((shrK 64 (wrk false 64 ((andK false 64 (shrK 64 (wrk false 64 ((andK false 64 (shrK 64 a0 1) 6148914691236517205) + (andK false 64 a0 6148914691236517205))) 2) 3689348814741910323) + (andK false 64 (wrk false 64 ((andK false 64 (shrK 64 a0 1) 6148914691236517205) + (andK false 64 a0 6148914691236517205))) 3689348814741910323))) 4) + (wrk false 64 ((andK false 64 (shrK 64 (wrk false 64 ((andK false 64 (shrK 64 a0 1) 6148914691236517205) + (andK false 64 a0 6148914691236517205))) 2) 3689348814741910323) + (andK false 64 (wrk false 64 ((andK false 64 (shrK 64 a0 1) 6148914691236517205) + (andK false 64 a0 6148914691236517205))) 3689348814741910323))))) 1085102592571150095) 8))) 16)))) rfl) ?_
 refine FL.v (E.move (v:=Value.int .u64 (wrk false 64 ((wrk false 64 ((andK false 64 (wrk false 64 ((shrK 64 (wrk false 64 ((andK false 64 (shrK 64 (wrk false 64 ((andK false 64 (shrK 64 a0 1) 6148914691236517205) + (andK false 64 a0 6148914691236517205))) 2) 3689348814741910323) + (andK false 64 (wrk false 64 ((andK false 64 (shrK 64 a0 1) 6148914691236517205) + (andK false 64 a0 6148914691236517205))) 3689348814741910323))) 4) + (wrk false 64 ((andK false 64 (shrK 64 (wrk false 64 ((andK false 64 (shrK 64 a0 1) 6148914691236517205) + (andK false 64 a0 6148914691236517205))) 2) 3689348814741910323) + (andK false 64 (wrk false 64 ((andK false 64 (shrK 64 a0 1) 6148914691236517205) + (andK false 64 a0 6148914691236517205))) 3689348814741910323))))) 1085102592571150095) + (shrK 64 (andK false 64 (wrk false 64 ((shrK 64 (wrk false 64 ((andK false 64 (shrK 64 (wrk false 64 ((andK false 64 (shrK 64 a0 1) 6148914691236517205) + (andK false 64 a0 6148914691236517205))) 2) 3689348814741910323) + (andK false 64 (wrk false 64 ((andK false 64 (shrK 64 a0 1) 6148914691236517205) + (andK false 64 a0 6148914691236517205))) 3689348814741910323))) 4) + (wrk false 64 ((andK false 64 (shrK 64 (wrk false 64 ((andK false 64 (shrK 64 a0 1) 6148914691236517205) + (andK false 64 a0 6148914691236517205))) 2) 3689348814741910323) + (andK false 64 (wrk false 64 ((andK false 64 (shrK 64 a0 1) 6148914691236517205) + (andK false 64 a0 6148914691236517205))) 3689348814741910323))))) 1085102592571150095) 8))) + (shrK 64 (wrk false 64 ((andK false 64 (wrk false 64 ((shrK 64 (wrk false 64 ((andK false 64 (shrK 64 (wrk false 64 ((andK false 64 (shrK 64 a0 1) 6148914691236517205) + (andK false 64 a0 6148914691236517205))) 2) 3689348814741910323) + (andK false 64 (wrk false 64 ((andK false 64 (shrK 64 a0 1) 6148914691236517205) + (andK false 64 a0 6148914691236517205))) 3689348814741910323))) 4) + (wrk false 64 ((andK false 64 (shrK 64 (wrk false 64 ((andK false 64 (shrK 64 a0 1) 6148914691236517205) + (andK false 64 a0 6148914691236517205))) 2) 3689348814741910323) + (andK false 64 (wrk false 64 ((andK false 64 (shrK 64 a0 1) 6148914691236517205) + (andK false 64 a0 6148914691236517205))) 3689348814741910323))))) 1085102592571150095) + (shrK 64 (andK false 64 (wrk false 64 ((shrK 64 (wrk false 64 ((andK false 64 (shrK 64 (wrk false 64 ((andK false 64 (shrK 64 a0 1) 6148914691236517205) + (andK false 64 a0 6148914691236517205))) 2) 3689348814741910323) + (andK false 64 (wrk false 64 ((andK false 64 (shrK 64 a0 1) 6148914691236517205) + (andK false 64 a0 6148914691236517205))) 3689348814741910323))) 4) + (wrk false 64 ((andK false 64 (shrK 64 (wrk false 64 ((andK false 64 (shrK 64 a0 1) 6148914691236517205) + (andK false 64 a0 6148914691236517205))) 2) 3689348814741910323) + (andK false 64 (wrk false 64 ((andK false 64 (shrK 64 a0 1) 6148914691236517205) + (andK false 64 a0 6148914691236517205))) 3689348814741910323))))) 1085102592571150095) 8))) 16)))) rfl) ?_
 refine FL.v (E.shr rfl rfl (by decide)) ?_
 refine FL.v (E.addK rfl rfl) ?_
 refine FL.v (E.assign (v:=Value.int .u64 (wrk false 64 ((wrk false 64 ((wrk false 64 ((andK false 64 (wrk false 64 ((shrK 64 (wrk false 64 ((andK false 64 (shrK 64 (wrk false 64 ((andK false 64 (shrK 64 a0 1) 6148914691236517205) + (andK false 64 a0 6148914691236517205))) 2) 3689348814741910323) + (andK false 64 (wrk false 64 ((andK false 64 (shrK 64 a0 1) 6148914691236517205) + (andK false 64 a0 6148914691236517205))) 3689348814741910323))) 4) + (wrk false 64 ((andK false 64 (shrK 64 (wrk false 64 ((andK false 64 (shrK 64 a0 1) 6148914691236517205) + (andK false 64 a0 6148914691236517205))) 2) 3689348814741910323) + (andK false 64 (wrk false 64 ((andK false 64 (shrK 64 a0 1) 6148914691236517205) + (andK false 64 a0 6148914691236517205))) 3689348814741910323))))) 1085102592571150095) + (shrK 64 (andK false 64 (wrk false 64 ((shrK 64 (wrk false 64 ((andK false 64 (shrK 64 (wrk false 64 ((andK false 64 (shrK 64 a0 1) 6148914691236517205) + (andK false 64 a0 6148914691236517205))) 2) 3689348814741910323) + (andK false 64 (wrk false 64 ((andK false 64 (shrK 64 a0 1) 6148914691236517205) + (andK false 64 a0 6148914691236517205))) 3689348814741910323))) 4) + (wrk false 64 ((andK false 64 (shrK 64 (wrk false 64 ((andK false 64 (shrK 64 a0 1) 6148914691236517205) + (andK false 64 a0 6148914691236517205))) 2) 3689348814741910323) + (andK false 64 (wrk false 64 ((andK false 64 (shrK 64 a0 1) 6148914691236517205) + (andK false 64 a0 6148914691236517205))) 3689348814741910323))))) 1085102592571150095) 8))) + (shrK 64 (wrk false 64 ((andK false 64 (wrk false 64 ((shrK 64 (wrk false 64 ((andK false 64 (shrK 64 (wrk false 64 ((andK false 64 (shrK 64 a0 1) 6148914691236517205) + (andK false 64 a0 6148914691236517205))) 2) 3689348814741910323) + (andK false 64 (wrk false 64 ((andK false 64 (shrK 64 a0 1) 6148914691236517205) + (andK false 64 a0 6148914691236517205))) 3689348814741910323))) 4) + (wrk false 64 ((andK false 64 (shrK 64 (wrk false 64 ((andK false 64 (shrK 64 a0 1) 6148914691236517205) + (andK false 64 a0 6148914691236517205))) 2) 3689348814741910323) + (andK false 64 (wrk false 64 ((andK false 64 (shrK 64 a0 1) 6148914691236517205) + (andK false 64 a0 6148914691236517205))) 3689348814741910323))))) 1085102592571150095) + (shrK 64 (andK false 64 (wrk false 64 ((shrK 64 (wrk false 64 ((andK false 64 (shrK 64 (wrk false 64 ((andK false 64 (shrK 64 a0 1) 6148914691236517205) + (andK false 64 a0 6148914691236517205))) 2) 3689348814741910323) + (andK false 64 (wrk false 64 ((andK false 64 (shrK 64 a0 1) 6148914691236517205) + (andK false 64 a0 6148914691236517205))) 3689348814741910323))) 4) + (wrk false 64 ((andK false 64 (shrK 64 (wrk false 64 ((andK false 64 (shrK 64 a0 1) 6148914691236517205) + (andK false 64 a0 6148914691236517205))) 2) 3689348814741910323) + (andK false 64 (wrk false 64 ((andK false 64 (shrK 64 a0 1) 6148914691236517205) + (andK false 64 a0 6148914691236517205))) 3689348814741910323))))) 1085102592571150095) 8))) 16))) + (shrK 64 (wrk false 64 ((wrk false 64 ((andK false 64 (wrk false 64 ((shrK 64 (wrk false 64 ((andK false 64 (shrK 64 (wrk false 64 ((andK false 64 (shrK 64 a0 1) 6148914691236517205) + (andK false 64 a0 6148914691236517205))) 2) 3689348814741910323) + (andK false 64 (wrk false 64 ((andK false 64 (shrK 64 a0 1) 6148914691236517205) + (andK false 64 a0 6148914691236517205))) 3689348814741910323))) 4) + (wrk false 64 ((andK false 64 (shrK 64 (wrk false 64 ((andK false 64 (shrK 64 a0 1) 6148914691236517205) + (andK false 64 a0 6148914691236517205))) 2) 3689348814741910323) + (andK false 64 (wrk false 64 ((andK false 64 (shrK 64 a0 1) 6148914691236517205) + (andK false 64 a0 6148914691236517205))) 3689348814741910323))))) 1085102592571150095) + (shrK 64 (andK false 64 (wrk false 64 ((shrK 64 (wrk false 64 ((andK false 64 (shrK 64 (wrk false 64 ((andK false 64 (shrK 64 a0 1) 6148914691236517205) + (andK false 64 a0 6148914691236517205))) 2) 3689348814741910323) + (andK false 64 (wrk false 64 ((andK false 64 (shrK 64 a0 1) 6148914691236517205) + (andK false 64 a0 6148914691236517205))) 3689348814741910323))) 4) + (wrk false 64 ((andK false 64 (shrK 64 (wrk false 64 ((andK false 64 (shrK 64 a0 1) 6148914691236517205) + (andK false 64 a0 6148914691236517205))) 2) 3689348814741910323) + (andK false 64 (wrk false 64 ((andK false 64 (shrK 64 a0 1) 6148914691236517205) + (andK false 64 a0 6148914691236517205))) 3689348814741910323))))) 1085102592571150095) 8))) + (shrK 64 (wrk false 64 ((andK false 64 (wrk false 64 ((shrK 64 (wrk false 64 ((andK false 64 (shrK 64 (wrk false 64 ((andK false 64 (shrK 64 a0 1) 6148914691236517205) + (andK false 64 a0 6148914691236517205))) 2) 3689348814741910323) + (andK false 64 (wrk false 64 ((andK false 64 (shrK 64 a0 1) 6148914691236517205) + (andK false 64 a0 6148914691236517205))) 3689348814741910323))) 4) + (wrk false 64 ((andK false 64 (shrK 64 (wrk false 64 ((andK false 64 (shrK 64 a0 1) 6148914691236517205) + (andK false 64 a0 6148914691236517205))) 2) 3689348814741910323) + (andK false 64 (wrk false 64 ((andK false 64 (shrK 64 a0 1) 6148914691236517205) + (andK false 64 a0 6148914691236517205))) 3689348814741910323))))) 1085102592571150095) + (shrK 64 (andK false 64 (wrk false 64 ((shrK 64 (wrk false 64 ((andK false 64 (shrK 64 (wrk false 64 ((andK false 64 (shrK 64 a0 1) 6148914691236517205) + (andK false 64 a0 6148914691236517205))) 2) 3689348814741910323) + (andK false 64 (wrk false 64 ((andK false 64 (shrK 64 a0 1) 6148914691236517205) + (andK false 64 a0 6148914691236517205))) 3689348814741910323))) 4) + (wrk false 64 ((andK false 64 (shrK 64 (wrk false 64 ((andK false 64 (shrK 64 a0 1) 6148914691236517205) + (andK false 64 a0 6148914691236517205))) 2) 3689348814741910323) + (andK false 64 (wrk false 64 ((andK false 64 (shrK 64 a0 1) 6148914691236517205) + (andK false 64 a0 6148914691236517205))) 3689348814741910323))))) 1085102592571150095) 8))) 16))) 32)))) rfl) ?_
 refine FL.nil (FW.seq (FW.region ?_))
 refine FL.v (E.move (v:=Value.int .u64 (wrk false 64 ((wrk false 64 ((wrk false 64 ((andK false 64 (wrk false 64 ((shrK 64 (wrk false 64 ((andK false 64 (shrK 64 (wrk false 64 ((andK false 64 (shrK 64 a0 1) 6148914691236517205) + (andK false 64 a0 6148914691236517205))) 2) 3689348814741910323) + (andK false 64 (wrk false 64 ((andK false 64 (shrK 64 a0 1) 6148914691236517205) + (andK false 64 a0 6148914691236517205))) 3689348814741910323))) 4) + (wrk false 64 ((andK false 64 (shrK 64 (wrk false 64 ((andK false 64 (shrK 64 a0 1) 6148914691236517205) + (andK false 64 a0 6148914691236517205))) 2) 3689348814741910323) + (andK false 64 (wrk false 64 ((andK false 64 (shrK 64 a0 1) 6148914691236517205) + (andK false 64 a0 6148914691236517205))) 3689348814741910323))))) 1085102592571150095) + (shrK 64 (andK false 64 (wrk false 64 ((shrK 64 (wrk false 64 ((andK false 64 (shrK 64 (wrk false 64 ((andK false 64 (shrK 64 a0 1) 6148914691236517205) + (andK false 64 a0 6148914691236517205))) 2) 3689348814741910323) + (andK false 64 (wrk false 64 ((andK false 64 (shrK 64 a0 1) 6148914691236517205) + (andK false 64 a0 6148914691236517205))) 3689348814741910323))) 4) + (wrk false 64 ((andK false 64 (shrK 64 (wrk false 64 ((andK false 64 (shrK 64 a0 1) 6148914691236517205) + (andK false 64 a0 6148914691236517205))) 2) 3689348814741910323) + (andK false 64 (wrk false 64 ((andK false 64 (shrK 64 a0 1) 6148914691236517205) + (andK false 64 a0 6148914691236517205))) 3689348814741910323))))) 1085102592571150095) 8))) + (shrK 64 (wrk false 64 ((andK false 64 (wrk false 64 ((shrK 64 (wrk false 64 ((andK false 64 (shrK 64 (wrk false 64 ((andK false 64 (shrK 64 a0 1) 6148914691236517205) + (andK false 64 a0 6148914691236517205))) 2) 3689348814741910323) + (andK false 64 (wrk false 64 ((andK false 64 (shrK 64 a0 1) 6148914691236517205) + (andK false 64 a0 6148914691236517205))) 3689348814741910323))) 4) + (wrk false 64 ((andK false 64 (shrK 64 (wrk false 64 ((andK false 64 (shrK 64 a0 1) 6148914691236517205) + (andK false 64 a0 6148914691236517205))) 2) 3689348814741910323) + (andK false 64 (wrk false 64 ((andK false 64 (shrK 64 a0 1) 6148914691236517205) + (andK false 64 a0 6148914691236517205))) 3689348814741910323))))) 1085102592571150095) + (shrK 64 (andK false 64 (wrk false 64 ((shrK 64 (wrk false 64 ((andK false 64 (shrK 64 (wrk false 64 ((andK false 64 (shrK 64 a0 1) 6148914691236517205) + (andK false 64 a0 6148914691236517205))) 2) 3689348814741910323) + (andK false 64 (wrk false 64 ((andK false 64 (shrK 64 a0 1) 6148914691236517205) + (andK false 64 a0 6148914691236517205))) 3689348814741910323))) 4) + (wrk false 64 ((andK false 64 (shrK 64 (wrk false 64 ((andK false 64 (shrK 64 a0 1) 6148914691236517205) + (andK false 64 a0 6148914691236517205))) 2) 3689348814741910323) + (andK false 64 (wrk false 64 ((andK false 64 (shrK 64 a0 1) 6148914691236517205) + (andK false 64 a0 6148914691236517205))) 3689348814741910323))))) 1085102592571150095) 8))) 16))) + (shrK 64 (wrk false 64 ((wrk false 64 ((andK false 64 (wrk false 64 ((shrK 64 (wrk false 64 ((andK false 64 (shrK 64 (wrk false 64 ((andK false 64 (shrK 64 a0 1) 6148914691236517205) + (andK false 64 a0 6148914691236517205))) 2) 3689348814741910323) + (andK false 64 (wrk false 64 ((andK false 64 (shrK 64 a0 1) 6148914691236517205) + (andK false 64 a0 6148914691236517205))) 3689348814741910323))) 4) + (wrk false 64 ((andK false 64 (shrK 64 (wrk false 64 ((andK false 64 (shrK 64 a0 1) 6148914691236517205) + (andK false 64 a0 6148914691236517205))) 2) 3689348814741910323) + (andK false 64 (wrk false 64 ((andK false 64 (shrK 64 a0 1) 6148914691236517205) + (andK false 64 a0 6148914691236517205))) 3689348814741910323))))) 1085102592571150095) + (shrK 64 (andK false 64 (wrk false 64 ((shrK 64 (wrk false 64 ((andK false 64 (shrK 64 (wrk false 64 ((andK false 64 (shrK 64 a0 1) 6148914691236517205) + (andK false 64 a0 6148914691236517205))) 2) 3689348814741910323) + (andK false 64 (wrk false 64 ((andK false 64 (shrK 64 a0 1) 6148914691236517205) + (andK false 64 a0 6148914691236517205))) 3689348814741910323))) 4) + (wrk false 64 ((andK false 64 (shrK 64 (wrk false 64 ((andK false 64 (shrK 64 a0 1) 6148914691236517205) + (andK false 64 a0 6148914691236517205))) 2) 3689348814741910323) + (andK false 64 (wrk false 64 ((andK false 64 (shrK 64 a0 1) 6148914691236517205) + (andK false 64 a0 6148914691236517205))) 3689348814741910323))))) 1085102592571150095) 8))) + (shrK 64 (wrk false 64 ((andK false 64 (wrk false 64 ((shrK 64 (wrk false 64 ((andK false 64 (shrK 64 (wrk false 64 ((andK false 64 (shrK 64 a0 1) 6148914691236517205) + (andK false 64 a0 6148914691236517205))) 2) 3689348814741910323) + (andK false 64 (wrk false 64 ((andK false 64 (shrK 64 a0 1) 6148914691236517205) + (andK false 64 a0 6148914691236517205))) 3689348814741910323))) 4) + (wrk false 64 ((andK false 64 (shrK 64 (wrk false 64 ((andK false 64 (shrK 64 a0 1) 6148914691236517205) + (andK false 64 a0 6148914691236517205))) 2) 3689348814741910323) + (andK false 64 (wrk false 64 ((andK false 64 (shrK 64 a0 1) 6148914691236517205) + (andK false 64 a0 6148914691236517205))) 3689348814741910323))))) 1085102592571150095) + (shrK 64 (andK false 64 (wrk false 64 ((shrK 64 (wrk false 64 ((andK false 64 (shrK 64 (wrk false 64 ((andK false 64 (shrK 64 a0 1) 6148914691236517205) + (andK false 64 a0 6148914691236517205))) 2) 3689348814741910323) + (andK false 64 (wrk false 64 ((andK false 64 (shrK 64 a0 1) 6148914691236517205) + (andK false 64 a0 6148914691236517205))) 3689348814741910323))) 4) + (wrk false 64 ((andK false 64 (shrK 64 (wrk false 64 ((andK false 64 (shrK 64 a0 1) 6148914691236517205) + (andK false 64 a0 6148914691236517205))) 2) 3689348814741910323) + (andK false 64 (wrk false 64 ((andK false 64 (shrK 64 a0 1) 6148914691236517205) + (andK false 64 a0 6148914691236517205))) 3689348814741910323))))) 1085102592571150095) 8))) 16))) 32)))) rfl) ?_
 refine FL.v (E.conv Tryz.runUnderlying123 Tryz.runUnderlying3 rfl) ?_
 refine FL.v (E.and rfl rfl) ?_
 refine FL.v (E.assign (v:=Value.int .i64 (andK true 64 (wrk true 64 (wrk false 64 ((wrk false 64 ((wrk false 64 ((andK false 64 (wrk false 64 ((shrK 64 (wrk false 64 ((andK false 64 (shrK 64 (wrk false 64 ((andK false 64 (shrK 64 a0 1) 6148914691236517205) + (andK false 64 a0 6148914691236517205))) 2) 3689348814741910323) + (andK false 64 (wrk false 64 ((andK false 64 (shrK 64 a0 1) 6148914691236517205) + (andK false 64 a0 6148914691236517205))) 3689348814741910323))) 4) + (wrk false 64 ((andK false 64 (shrK 64 (wrk false 64 ((andK false 64 (shrK 64 a0 1) 6148914691236517205) + (andK false 64 a0 6148914691236517205))) 2) 3689348814741910323) + (andK false 64 (wrk false 64 ((andK false 64 (shrK 64 a0 1) 6148914691236517205) + (andK false 64 a0 6148914691236517205))) 3689348814741910323))))) 1085102592571150095) + (shrK 64 (andK false 64 (wrk false 64 ((shrK 64 (wrk false 64 ((andK false 64 (shrK 64 (wrk false 64 ((andK false 64 (shrK 64 a0 1) 6148914691236517205) + (andK false 64 a0 6148914691236517205))) 2) 3689348814741910323) + (andK false 64 (wrk false 64 ((andK false 64 (shrK 64 a0 1) 6148914691236517205) + (andK false 64 a0 6148914691236517205))) 3689348814741910323))) 4) + (wrk false 64 ((andK false 64 (shrK 64 (wrk false 64 ((andK false 64 (shrK 64 a0 1) 6148914691236517205) + (andK false 64 a0 6148914691236517205))) 2) 3689348814741910323) + (andK false 64 (wrk false 64 ((andK false 64 (shrK 64 a0 1) 6148914691236517205) + (andK false 64 a0 6148914691236517205))) 3689348814741910323))))) 1085102592571150095) 8))) + (shrK 64 (wrk false 64 ((andK false 64 (wrk false 64 ((shrK 64 (wrk false 64 ((andK false 64 (shrK 64 (wrk false 64 ((andK false 64 (shrK 64 a0 1) 6148914691236517205) + (andK false 64 a0 6148914691236517205))) 2) 3689348814741910323) + (andK false 64 (wrk false 64 ((andK false 64 (shrK 64 a0 1) 6148914691236517205) + (andK false 64 a0 6148914691236517205))) 3689348814741910323))) 4) + (wrk false 64 ((andK false 64 (shrK 64 (wrk false 64 ((andK false 64 (shrK 64 a0 1) 6148914691236517205) + (andK false 64 a0 6148914691236517205))) 2) 3689348814741910323) + (andK false 64 (wrk false 64 ((andK false 64 (shrK 64 a0 1) 6148914691236517205) + (andK false 64 a0 6148914691236517205))) 3689348814741910323))))) 1085102592571150095) + (shrK 64 (andK false 64 (wrk false 64 ((shrK 64 (wrk false 64 ((andK false 64 (shrK 64 (wrk false 64 ((andK false 64 (shrK 64 a0 1) 6148914691236517205) + (andK false 64 a0 6148914691236517205))) 2) 3689348814741910323) + (andK false 64 (wrk false 64 ((andK false 64 (shrK 64 a0 1) 6148914691236517205) + (andK false 64 a0 6148914691236517205))) 3689348814741910323))) 4) + (wrk false 64 ((andK false 64 (shrK 64 (wrk false 64 ((andK false 64 (shrK 64 a0 1) 6148914691236517205) + (andK false 64 a0 6148914691236517205))) 2) 3689348814741910323) + (andK false 64 (wrk false 64 ((andK false 64 (shrK 64 a0 1) 6148914691236517205) + (andK false 64 a0 6148914691236517205))) 3689348814741910323))))) 1085102592571150095) 8))) 16))) + (shrK 64 (wrk false 64 ((wrk false 64 ((andK false 64 (wrk false 64 ((shrK 64 (wrk false 64 ((andK false 64 (shrK 64 (wrk false 64 ((andK false 64 (shrK 64 a0 1) 6148914691236517205) + (andK false 64 a0 6148914691236517205))) 2) 3689348814741910323) + (andK false 64 (wrk false 64 ((andK false 64 (shrK 64 a0 1) 6148914691236517205) + (andK false 64 a0 6148914691236517205))) 3689348814741910323))) 4) + (wrk false 64 ((andK false 64 (shrK 64 (wrk false 64 ((andK false 64 (shrK 64 a0 1) 6148914691236517205) + (andK false 64 a0 6148914691236517205))) 2) 3689348814741910323) + (andK false 64 (wrk false 64 ((andK false 64 (shrK 64 a0 1) 6148914691236517205) + (andK false 64 a0 6148914691236517205))) 3689348814741910323))))) 1085102592571150095) + (shrK 64 (andK false 64 (wrk false 64 ((shrK 64 (wrk false 64 ((andK false 64 (shrK 64 (wrk false 64 ((andK false 64 (shrK 64 a0 1) 6148914691236517205) + (andK false 64 a0 6148914691236517205))) 2) 3689348814741910323) + (andK false 64 (wrk false 64 ((andK false 64 (shrK 64 a0 1) 6148914691236517205) + (andK false 64 a0 6148914691236517205))) 3689348814741910323))) 4) + (wrk false 64 ((andK false 64 (shrK 64 (wrk false 64 ((andK false 64 (shrK 64 a0 1) 6148914691236517205) + (andK false 64 a0 6148914691236517205))) 2) 3689348814741910323) + (andK false 64 (wrk false 64 ((andK false 64 (shrK 64 a0 1) 6148914691236517205) + (andK false 64 a0 6148914691236517205))) 3689348814741910323))))) 1085102592571150095) 8))) + (shrK 64 (wrk false 64 ((andK false 64 (wrk false 64 ((shrK 64 (wrk false 64 ((andK false 64 (shrK 64 (wrk false 64 ((andK false 64 (shrK 64 a0 1) 6148914691236517205) + (andK false 64 a0 6148914691236517205))) 2) 3689348814741910323) + (andK false 64 (wrk false 64 ((andK false 64 (shrK 64 a0 1) 6148914691236517205) + (andK false 64 a0 6148914691236517205))) 3689348814741910323))) 4) + (wrk false 64 ((andK false 64 (shrK 64 (wrk false 64 ((andK false 64 (shrK 64 a0 1) 6148914691236517205) + (andK false 64 a0 6148914691236517205))) 2) 3689348814741910323) + (andK false 64 (wrk false 64 ((andK false 64 (shrK 64 a0 1) 6148914691236517205) + (andK false 64 a0 6148914691236517205))) 3689348814741910323))))) 1085102592571150095) + (shrK 64 (andK false 64 (wrk false 64 ((shrK 64 (wrk false 64 ((andK false 64 (shrK 64 (wrk false 64 ((andK false 64 (shrK 64 a0 1) 6148914691236517205) + (andK false 64 a0 6148914691236517205))) 2) 3689348814741910323) + (andK false 64 (wrk false 64 ((andK false 64 (shrK 64 a0 1) 6148914691236517205) + (andK false 64 a0 6148914691236517205))) 3689348814741910323))) 4) + (wrk false 64 ((andK false 64 (shrK 64 (wrk false 64 ((andK false 64 (shrK 64 a0 1) 6148914691236517205) + (andK false 64 a0 6148914691236517205))) 2) 3689348814741910323) + (andK false 64 (wrk false 64 ((andK false 64 (shrK 64 a0 1) 6148914691236517205) + (andK false 64 a0 6148914691236517205))) 3689348814741910323))))) 1085102592571150095) 8))) 16))) 32)))) 127)) rfl) ?_
 refine FL.nil ?_
 refine FW.ret ?_
 obtain rfl:=hp
 exact ⟨.inr rfl,res1 rfl rfl ⟨rfl,S0.back⟩⟩

theorem zdO {Ha:GH} {wa:World} (hs:Sl Ha wa) (a0:Int) :
  Calls Tryz.prog 54 #[Value.int .u64 a0] wa (Sc Ha wa (Value.int .i64 (PF.zbp a0))):=by
 obtain ⟨r,hp⟩:∃ r,(PF.zbp a0)=r:=⟨_,rfl⟩
 rw [hp]
 unfold PF.zbp at hp
 have S0:=St.init hs
 refine zag (N:=8) (args:=[Value.int .u64 a0]) Tryz.func54 rfl rfl rfl ?_
 refine FW.seq (FW.region ?_)
 refine FL.v (E.assign (v:=Value.int .i64 0) rfl) ?_
 refine FL.nil (FW.seq ?_)
 refine FW.condF rfl rfl ?_
 refine FW.skip (FW.seq (FW.region ?_))
 refine FL.v (E.move (v:=Value.int .u64 a0) rfl) ?_
 refine FL.call rfl rfl rfl (E.call Tryz.call85 (A1 rfl)) (zei S0.sl a0) ?_
 rintro e w21 ⟨rfl,r22⟩
 refine ⟨_,rfl,?_⟩
 have S23:=S0.call r22
 refine FL.v (E.assign (v:=Value.int .i64 (PF.zcc a0)) rfl) ?_
 refine FL.nil ?_
 refine FW.ret ?_
 obtain rfl:=hp
 exact ⟨.inr rfl,res1 rfl rfl ⟨rfl,S23.back⟩⟩

theorem zej {Ha:GH} {wa:World} (hs:Sl Ha wa) (v0:Value) (a0:List Int) (p0:RSl Ha (eN .u64) 1 v0 a0) (v1:Value) (a1:Int→Option Bool) (p1:zcP Tryz.prog Ha v1 a1) {r:Int} (hp:(PF.zc5 a0 a1)=some r) :
  Calls Tryz.prog 118 #[v0,v1] wa (Sc Ha wa (Value.int .i64 r)):=by
 unfold PF.zc5 at hp
 have S0:=St.init hs
 refine zag (N:=19) (args:=[v0,v1]) Tryz.func118 rfl rfl rfl ?_
 refine FW.seq (FW.region ?_)
 refine FL.v (E.assign (v:=Value.int .i64 0) rfl) ?_
 refine FL.nil (FW.seq (FW.seq (FW.region ?_)))
 refine FL.v (E.move (v:=v0) rfl) ?_
 refine FL.v (E.lenP te87 rfl p0) ?_
 refine FL.v (E.move (v:=Value.int .i64 0) rfl) ?_
 refine FL.nil ?_
 obtain ⟨q22,hq,hp⟩:=bndR hp
 refine FW.block ?_
 refine FW.mono (FW.forL (S:=Unit) (X:=Int) (fun (i22:Nat) (s22:Unit) f w=>∃ H:GH,St Ha wa H w []∧Inc Ha H∧f 8=Value.int .i64 ((i22:Nat):Int)∧f 0=v0∧f 1=v1∧f 7=Value.int .i64 (len a0)) (fun q e f w=>match q with|.go s22=>e=Exit.exit 0∧(∃ H:GH,St Ha wa H w []∧Inc Ha H)|.rt x=>((e=Exit.ret)∧(fun e f w=>(e=Exit.normal∨e=Exit.ret)∧∀ a,Fr (δ:=[]) 19 a f→∃ v,(results Tryz.f118 a.tmps).run Tryz.prog w=.ok v w∧(Sc Ha wa (Value.int .i64 x)) (.returned v) w) e f w)) hq ⟨_,S0,(Inc.rfl _),rfl,rfl,rfl,rfl⟩ ?_ ?_) ?_
 ·
  clear hp hq
  rintro i22 y21 s22 f53 w52 ⟨H49,S50,i51,k54,k55,k56,k57⟩ hx22 o75 hp
  refine FW.seq (FW.region ?_)
  refine FL.v (E.lssT k54 k57 (zaq hx22)) ?_
  refine FL.nil (FW.seq ?_)
  refine FW.condT rfl rfl ?_
  refine FW.skip (FW.seq (FW.block (FW.seq (FW.region ?_))))
  refine FL.v (E.move k54) ?_
  refine FL.v (E.assign (v:=Value.int .i64 ((i22:Nat):Int)) rfl) ?_
  refine FL.nil (FW.seq (FW.region ?_))
  refine FL.v (E.move k56) ?_
  refine FL.v (E.move k55) ?_
  refine FL.v (E.move (v:=Value.int .i64 ((i22:Nat):Int)) rfl) ?_
  obtain ⟨p58,cs59,pt60,l61,at62,rel63⟩:=p0.at (zak hx22)
  obtain rfl:=eN_open rel63
  refine FL.v (E.indexAddr te87 rfl rfl pt60) ?_
  refine FL.v (E.load rfl (zae Tryz.isAgg63 ((at62.mono i51).now S50.sl) rfl)) ?_
  obtain ⟨r64,hr65,hp⟩:=bnd hp
  obtain ⟨fi69,cs70,hv71,he72,hc73⟩:=(p1.mono i51) H49 w52 (Inc.rfl _) S50.sl y21 r64 hr65
  refine FL.call rfl rfl rfl (E.callV he72 (Eq.trans rfl hv71) (appA (A1 rfl) cs70)) hc73 ?_
  rintro e w66 ⟨rfl,r67⟩
  refine ⟨_,rfl,?_⟩
  have S68:=S50.call r67
  refine FL.nil ?_
  rcases ifB hp with ⟨c74,hp⟩|⟨c74,hp⟩
  ·
   refine FW.condT rfl c74 ?_
   refine FW.seq (FW.region ?_)
   refine FL.v (E.move (v:=Value.int .i64 ((i22:Nat):Int)) rfl) ?_
   refine FL.v (E.assign (v:=Value.int .i64 ((i22:Nat):Int)) rfl) ?_
   refine FL.nil ?_
   refine FW.ret ?_
   obtain rfl:=Option.some.inj hp
   exact ⟨nofun,rfl,⟨.inr rfl,res1 rfl rfl ⟨rfl,S68.back⟩⟩⟩
  ·
   refine FW.condF rfl c74 ?_
   refine FW.skip (FW.region ?_)
   refine FL.v (E.add k54 rfl) ?_
   refine FL.v (E.move (v:=Value.int .i64 (wr (((i22:Nat):Int) + 1))) rfl) ?_
   refine FL.nil ?_
   obtain rfl:=Option.some.inj hp
   exact ⟨rfl,⟨_,S68,i51,(zam rfl (zal hx22) (p0.mono i51).le),k55,k56,k57⟩⟩
 ·
  clear hp hq
  rintro s22 f85 w84 ⟨H81,S82,i83,k86,k87,k88,k89⟩
  refine FW.seq (FW.region ?_)
  refine FL.v (E.lss k86 k89) ?_
  refine FL.nil (FW.seq ?_)
  refine FW.condF rfl zar ?_
  refine FW.exit ?_
  exact ⟨nofun,rfl,⟨_,S82,i83⟩⟩
 ·
  clear hq
  intro e f80 w79 hD
  rcases q22 with s22|x22
  ·
   obtain ⟨rfl,hD⟩:=hD
   obtain ⟨H76,S77,i78⟩:=hD
   replace hp:=el_go hp
   refine FW.seq (FW.region ?_)
   refine FL.v (E.assign (v:=Value.int .i64 (-1)) rfl) ?_
   refine FL.nil ?_
   refine FW.ret ?_
   obtain rfl:=Option.some.inj hp
   exact ⟨.inr rfl,res1 rfl rfl ⟨rfl,S77.back⟩⟩
  ·
   obtain ⟨he,hL⟩:=hD
   replace hp:=el_rt hp
   obtain rfl:=Option.some.inj hp
   subst he
   exact hL

theorem zek {Ha:GH} {wa:World} (hs:Sl Ha wa) (v0:Value) (a0:List Int) (p0:RSl Ha (eN .u64) 1 v0 a0) (v1:Value) (a1:Int→Option Bool) (p1:zcP Tryz.prog Ha v1 a1) {r:Bool} (hp:(PF.zcd a0 a1)=some r) :
  Calls Tryz.prog 86 #[v0,v1] wa (Sc Ha wa (Value.bool r)):=by
 unfold PF.zcd at hp
 have S0:=St.init hs
 refine zag (N:=9) (args:=[v0,v1]) Tryz.func86 rfl rfl rfl ?_
 refine FW.seq (FW.region ?_)
 refine FL.v (E.assign (v:=Value.bool false) rfl) ?_
 refine FL.nil (FW.seq (FW.region ?_))
 refine FL.v (E.move (v:=v0) rfl) ?_
 refine FL.v (E.move (v:=v1) rfl) ?_
 obtain ⟨r21,hr22,hp⟩:=bnd hp
 refine FL.call rfl rfl rfl (E.call Tryz.call118 (A2 rfl rfl)) (zej S0.sl v0 a0 p0 v1 a1 p1 hr22) ?_
 rintro e w23 ⟨rfl,r24⟩
 refine ⟨_,rfl,?_⟩
 have S25:=S0.call r24
 refine FL.v (E.geq rfl rfl) ?_
 refine FL.v (E.assign (v:=Value.bool (decide (0≤r21))) rfl) ?_
 refine FL.nil ?_
 refine FW.ret ?_
 obtain rfl:=Option.some.inj hp
 exact ⟨.inr rfl,res1 rfl rfl ⟨rfl,S25.back⟩⟩

theorem zel {Ha:GH} {wa:World} (hs:Sl Ha wa) (a0:Int) (q0:Addr) (b0:Int) (c0:CAt Ha q0 [Value.int .u64 b0]) :
  Calls Tryz.prog 87 #[Value.int .u64 a0,Value.pointer (some q0)] wa (Sc Ha wa (Value.bool (PF.zbq a0 b0))):=by
 obtain ⟨r,hp⟩:∃ r,(PF.zbq a0 b0)=r:=⟨_,rfl⟩
 rw [hp]
 unfold PF.zbq at hp
 have S0:=St.init hs
 refine zag (N:=9) (args:=[Value.int .u64 a0,Value.pointer (some q0)]) Tryz.func87 rfl rfl rfl ?_
 refine FW.seq (FW.region ?_)
 refine FL.v (E.assign (v:=Value.bool false) rfl) ?_
 refine FL.nil (FW.seq (FW.region ?_))
 refine FL.v (E.load rfl (zae Tryz.isAgg63 (c0.now S0.sl) rfl)) ?_
 refine FL.v (E.move (v:=Value.int .u64 a0) rfl) ?_
 refine FL.v (E.and rfl rfl) ?_
 refine FL.v (E.move (v:=Value.int .u64 a0) rfl) ?_
 refine FL.v (E.eql rfl rfl) ?_
 refine FL.v (E.assign (v:=Value.bool ((andK false 64 b0 a0) == a0)) rfl) ?_
 refine FL.nil ?_
 refine FW.ret ?_
 obtain rfl:=hp
 exact ⟨.inr rfl,res1 rfl rfl ⟨rfl,S0.back⟩⟩

@[reducible] def p_impl_spaces_left (Ha:GH) (wa:World) (r:(List Int)):Ending→World→Prop :=
 fun e w'=>∃ H':GH,∃ v0:Value,∃ n0:Nat,∃ c0:List Value,e=.returned (v0)∧St Ha wa H' w' [.row 3 1 v0 n0 c0]∧Els (up wa.heap.size H') eI 1 c0 r
set_option maxHeartbeats 4000000 in
theorem w_impl_spaces_left {Ha:GH} {wa:World} (hs:Sl Ha wa) (q0P:Addr) (a0:spaces) (v0P_1:Value) (v0P_2:Value) (v0P_3:Value) (p0P_1:RSl Ha (eL eI 1) 1 v0P_1 a0.f.clauses) (p0P_2:RSl Ha (eL eI 1) 1 v0P_2 a0.all) (p0P_3:RSl Ha (eL (eN .u64) 1) 1 v0P_3 a0.parents) (c0P:CAt Ha q0P [Value.int .i64 a0.f.vars,v0P_1,v0P_2,v0P_3]) (a1:Int) {r:(List Int)} (hp:(PF.zbO a0 a1)=some r) :
  Calls Tryz.prog 28 #[Value.pointer (some q0P),Value.int .i64 a1] wa (p_impl_spaces_left Ha wa r):=by
 unfold PF.zbO at hp
 have S0:=St.init hs
 refine zag (N:=105) (args:=[Value.pointer (some q0P),Value.int .i64 a1]) Tryz.func28 rfl rfl rfl ?_
 refine FW.seq (FW.region ?_)
 refine FL.v (E.assign (v:=Value.slice none 0 0) rfl) ?_
 refine FL.nil (FW.seq (FW.region ?_))
 refine FL.v (E.move (v:=Value.pointer (some q0P)) rfl) ?_
 refine FL.v (E.nilCheck rfl) ?_
 refine FL.v (E.fieldAddr tf85_1 rfl) ?_
 refine FL.v (E.load rfl (zah Tryz.isAgg22 (c0P.now S0.sl) rfl)) ?_
 refine FL.v (E.lenP te22 rfl p0P_2) ?_
 obtain ⟨u22,z21,hp⟩:=bnd hp
 refine FL.v (E.shl rfl rfl (nn_ge z21)) ?_
 refine FL.v (E.assign (v:=Value.int .i64 (shlK true 64 1 (len a0.all))) rfl) ?_
 refine FL.nil (FW.seq (FW.region ?_))
 refine FL.v (E.move (v:=Value.int .i64 (shlK true 64 1 (len a0.all))) rfl) ?_
 obtain ⟨xs23,hm24,hp⟩:=bnd hp
 obtain ⟨v25,w26,n30,cs31,run27,S28,els29,hbl32⟩:=S0.makeEls (P:=Tryz.prog) te45 (G:=(up wa.heap.size Ha)) (En:=eI) (x0:=(0:Int)) hm24 rfl (zab rfl zad) .i64 .i64
 refine FL.v (E.makeSlice rfl rfl run27) ?_
 refine FL.v (E.assign (v:=v25) rfl) ?_
 refine FL.nil (FW.seq (FW.region ?_))
 refine FL.v (E.move (v:=Value.int .i64 (shlK true 64 1 (len a0.all))) rfl) ?_
 obtain ⟨xs33,hm34,hp⟩:=bnd hp
 obtain ⟨v35,w36,n40,cs41,rs44,run37,S38,els39⟩:=S28.makePool (P:=Tryz.prog) (a:=[.row 3 1 v25 n30 cs31]) (L:=[]) te83 rfl (G:=(up wa.heap.size Ha)) (En:=(eN .u64)) hm34 63 1 .i64 .i64
 have S38:St Ha wa Ha w36 (.row 87 1 v35 n40 cs41::.row 3 1 v25 n30 cs31::(plT 63 1 rs44 [])):=S38
 refine FL.v (E.makeSlice rfl rfl run37) ?_
 obtain ⟨b45,w46,run47,S48⟩:=S38.alloc (P:=Tryz.prog) 83 [Value.slice none 0 0] Tryz.zeroValue83 rfl (zab rfl zad)
 refine FL.v (E.alloc run47) ?_
 obtain ⟨w49,run50,S51⟩:=S48.store0 (P:=Tryz.prog) (t:=83) (i:=0) (cs':=[v35]) (l':=(.box b45 83 [v35]::.row 87 1 v35 n40 cs41::.row 3 1 v25 n30 cs31::(plT 63 1 rs44 []))) (v:=v35) (c:=[v35]) rfl Tryz.sizeOf83 (Ln.cells (S48.row_ln (i:=1) rfl)) rfl (zab (Ln.one (S48.row_ln (i:=1) rfl)) zad) (Nat.le_of_ble_eq_true rfl) rfl rfl
 refine FL.act rfl rfl (E.store rfl rfl run50) ?_
 refine FL.nil (FW.seq (FW.region ?_))
 refine FL.v (E.assign (v:=Value.slice none 0 0) rfl) ?_
 refine FL.nil (FW.seq (FW.seq (FW.region ?_)))
 refine FL.v (E.move (v:=Value.int .i64 (shlK true 64 1 (len a0.all))) rfl) ?_
 refine FL.v (E.conv Tryz.runUnderlying3 Tryz.runUnderlying63 rfl) ?_
 refine FL.v (E.move (v:=Value.int .u64 0) rfl) ?_
 refine FL.nil ?_
 obtain ⟨q52,hq,hp⟩:=bndR hp
 refine FW.block ?_
 refine FW.mono (FW.iter (S:=((List (List Int))×(List Int)×(List Int)×Int)) (X:=Empty) (fun (s52:((List (List Int))×(List Int)×(List Int)×Int)) f w=>∃ H:GH,∃ v42:Value,∃ n43:Nat,∃ cs53:List Value,∃ rs55:List PR,∃ v56:Value,∃ n57:Nat,∃ cs58:List Value,∃ v60:Value,∃ n61:Nat,∃ cs62:List Value,St Ha wa H w (.box b45 83 [v42]::.row 87 1 v42 n43 cs53::.row 3 1 v56 n57 cs58::.row 63 1 v60 n61 cs62::(plT 63 1 rs55 []))∧Inc Ha H∧Pool (up wa.heap.size H) (eN .u64) 1 cs53 rs55 s52.1∧Els (up wa.heap.size H) eI 1 cs58 s52.2.1∧Els (up wa.heap.size H) (eN .u64) 1 cs62 s52.2.2.1∧f 0=Value.pointer (some q0P)∧f 1=Value.int .i64 a1∧f 6=v56∧f 7=Value.pointer (some (⟨b45,0,none⟩:Addr))∧f 8=v60∧f 24=Value.int .u64 (wrk false 64 (shlK true 64 1 (len a0.all)))∧f 25=Value.int .u64 s52.2.2.2) (fun (q:Rs ((List (List Int))×(List Int)×(List Int)×Int) Empty) e f w=>match q with|.go s52=>e=Exit.exit 0∧(∃ H:GH,∃ v42:Value,∃ n43:Nat,∃ cs53:List Value,∃ rs55:List PR,∃ v56:Value,∃ n57:Nat,∃ cs58:List Value,∃ v60:Value,∃ n61:Nat,∃ cs62:List Value,St Ha wa H w (.box b45 83 [v42]::.row 87 1 v42 n43 cs53::.row 3 1 v56 n57 cs58::.row 63 1 v60 n61 cs62::(plT 63 1 rs55 []))∧Inc Ha H∧Pool (up wa.heap.size H) (eN .u64) 1 cs53 rs55 s52.1∧Els (up wa.heap.size H) eI 1 cs58 s52.2.1∧Els (up wa.heap.size H) (eN .u64) 1 cs62 s52.2.2.1∧f 6=v56∧f 7=Value.pointer (some (⟨b45,0,none⟩:Addr))∧f 8=v60)|.rt x=>x.elim) hq ⟨_,_,_,_,_,_,_,_,_,_,_,((S51.nil 63 1).selT (a:=[.row 63 1 (.slice none 0 0) 0 [],.box b45 83 [v35],.row 87 1 v35 n40 cs41,.row 3 1 v25 n30 cs31]) (l':=[.box b45 83 [v35],.row 87 1 v35 n40 cs41,.row 3 1 v25 n30 cs31,.row 63 1 (.slice none 0 0) 0 []]) [1,2,3,0] (by decide) rfl),(Inc.rfl _),els39,els29,Els.nil,rfl,rfl,rfl,rfl,rfl,rfl,rfl⟩ ?_) ?_
 ·
  clear hp hq
  rintro s52 f68 w67 ⟨H64,v42,n43,cs53,rs55,v56,n57,cs58,v60,n61,cs62,S65,i66,els54,els59,els63,k69,k70,k71,k72,k73,k74,k75⟩ oER hp
  refine FW.seq (FW.region ?_)
  refine FL.v (E.lss k75 k74) ?_
  refine FL.nil (FW.seq ?_)
  rcases ifB hp with ⟨c76,hp⟩|⟨c76,hp⟩
  ·
   refine FW.condT rfl c76 ?_
   refine FW.skip (FW.seq (FW.block (FW.seq (FW.region ?_))))
   refine FL.v (E.move k75) ?_
   obtain ⟨b77,w78,run79,S80⟩:=S65.alloc (P:=Tryz.prog) 63 [Value.int .u64 0] Tryz.zeroValue63 rfl (zab rfl zad)
   refine FL.v (E.alloc run79) ?_
   obtain ⟨w81,run82,S84⟩:=S80.store0 (P:=Tryz.prog) (t:=63) (i:=0) (cs':=[Value.int .u64 s52.2.2.2]) (l':=(.box b77 63 [Value.int .u64 s52.2.2.2]::.box b45 83 [v42]::.row 87 1 v42 n43 cs53::.row 3 1 v56 n57 cs58::.row 63 1 v60 n61 cs62::(plT 63 1 rs55 []))) (v:=Value.int .u64 s52.2.2.2) (c:=[Value.int .u64 s52.2.2.2]) rfl Tryz.sizeOf63 rfl rfl (zab rfl zad) (Nat.le_of_ble_eq_true rfl) rfl rfl
   refine FL.act rfl rfl (E.store rfl rfl run82) ?_
   obtain ⟨H86,S88,i89,at90⟩:=S84.sealBox (i:=0) (l':=(.box b45 83 [v42]::.row 87 1 v42 n43 cs53::.row 3 1 v56 n57 cs58::.row 63 1 v60 n61 cs62::(plT 63 1 rs55 []))) rfl rfl
   refine FL.nil (FW.seq (FW.region ?_))
   refine FL.v (E.move k71) ?_
   refine FL.v (E.load rfl (zae Tryz.isAgg63 (at90.now S88.sl) rfl)) ?_
   obtain ⟨x97,hx98,hp⟩:=bnd hp
   obtain ⟨p91,cs92,pt93,l94,at95,rel96⟩:=S88.row_at (i:=2) rfl els59 (by decide) hx98
   obtain rfl:=eI_open rel96
   refine FL.v (E.indexAddr te45 rfl rfl pt93) ?_
   obtain ⟨xsA2,hputA3,hp⟩:=bnd hp
   obtain ⟨w99,csA5,runA0,SA1,elsA4,ceA6⟩:=S88.putEls (P:=Tryz.prog) (t:=3) (i:=2) rfl (els59.mono (zaf i89)) hputA3 pt93 Tryz.sizeOf3 (u:=Value.int .i64 (-1)) (c:=[Value.int .i64 (-1)]) rfl rfl (zab rfl zad) rfl
   have SA1:St Ha wa H86 w99 (.box b45 83 [v42]::.row 87 1 v42 n43 cs53::.row 3 1 v56 n57 csA5::.row 63 1 v60 n61 cs62::(plT 63 1 rs55 [])):=SA1
   refine FL.act rfl rfl (E.store rfl rfl runA0) ?_
   refine FL.nil (FW.seq (FW.seq (FW.region ?_)))
   refine FL.v (E.load rfl (zae Tryz.isAgg63 (at90.now SA1.sl) rfl)) ?_
   refine FL.call rfl rfl rfl (E.call Tryz.call54 (A1 rfl)) (zdO SA1.sl s52.2.2.2) ?_
   rintro e wA7 ⟨rfl,rA8⟩
   refine ⟨_,rfl,?_⟩
   have SA9:=SA1.call rA8
   refine FL.v (E.move k70) ?_
   refine FL.v (E.gtr rfl rfl) ?_
   refine FL.nil ?_
   rcases ifB hp with ⟨cAa,hp⟩|⟨cAa,hp⟩
   ·
    refine FW.condT rfl cAa ?_
    refine FW.exit ?_
    refine FW.region ?_
    refine FL.v (E.addK k75 rfl) ?_
    refine FL.v (E.move (v:=Value.int .u64 (wrk false 64 (s52.2.2.2 + 1))) rfl) ?_
    refine FL.nil ?_
    obtain rfl:=Option.some.inj hp
    exact ⟨rfl,⟨_,_,_,_,_,_,_,_,_,_,_,SA9,(i66.tr i89),(els54.mono (zaf i89)),elsA4,(els63.mono (zaf i89)),k69,k70,k71,k72,k73,k74,rfl⟩⟩
   ·
    refine FW.condF rfl cAa ?_
    refine FW.skip (FW.seq (FW.region ?_))
    refine FL.v (E.move k69) ?_
    refine FL.v (E.load rfl (zae Tryz.isAgg63 (at90.now SA9.sl) rfl)) ?_
    refine FL.v (E.move k70) ?_
    refine FL.v (E.makeFunc A0 (A2 k72 rfl)) ?_
    obtain ⟨sAb,hqAb,hp⟩:=bnd hp
    obtain ⟨R111,hRAb⟩:∃ R111:(List (List Int))→Ending→World→Prop,R111=(fun sAb e w=>∃ H:GH,∃ vAc:Value,∃ nAd:Nat,∃ csAe:List Value,∃ rs116:List PR,e=Ending.returned (Value.tuple #[])∧St Ha wa H w (.box b45 83 [vAc]::.row 87 1 vAc nAd csAe::.row 3 1 v56 n57 csA5::.row 63 1 v60 n61 cs62::(plT 63 1 rs116 []))∧Inc H86 H∧Pool (up wa.heap.size H) (eN .u64) 1 csAe rs116 sAb):=⟨_,rfl⟩
    have hcAb:Calls Tryz.prog 55 #[Value.pointer (some q0P),Value.int .u64 s52.2.2.2,Value.int .i64 a1,Value.func (.func 56) #[] #[Value.pointer (some (⟨b45,0,none⟩:Addr)),Value.pointer (some ⟨b77,0,none⟩)]] wA7 (R111 sAb):=by
     clear hp;have hp:=hqAb;clear hqAb
     refine zag (N:=52) (args:=[Value.pointer (some q0P),Value.int .u64 s52.2.2.2,Value.int .i64 a1,Value.func (.func 56) #[] #[Value.pointer (some (⟨b45,0,none⟩:Addr)),Value.pointer (some ⟨b77,0,none⟩)]]) Tryz.func55 rfl rfl rfl ?_
     refine FW.seq (FW.region ?_)
     obtain ⟨bAh,wAi,runAj,SAk⟩:=SA9.box (P:=Tryz.prog) 63 [Value.int .u64 s52.2.2.2] (v:=Value.int .u64 s52.2.2.2) rfl (zab rfl zad)
     refine FL.v (E.box rfl runAj) ?_
     obtain ⟨HAl,SAm,iAn,atAo⟩:=SAk.sealBox (i:=0) (l':=(.box b45 83 [v42]::.row 87 1 v42 n43 cs53::.row 3 1 v56 n57 csA5::.row 63 1 v60 n61 cs62::(plT 63 1 rs55 []))) rfl rfl
     refine FL.nil (FW.seq (FW.region ?_))
     refine FL.v (E.move (v:=Value.pointer (some q0P)) rfl) ?_
     refine FL.v (E.nilCheck rfl) ?_
     refine FL.v (E.fieldAddr tf85_1 rfl) ?_
     refine FL.v (E.load rfl (zah Tryz.isAgg22 ((c0P.mono ((i66.tr i89).tr iAn)).now SAm.sl) rfl)) ?_
     refine FL.v (E.lenP te22 rfl p0P_2) ?_
     refine FL.v (E.move (v:=Value.int .i64 0) rfl) ?_
     refine FL.nil ?_
     obtain ⟨qAq,hq,hp⟩:=bndR hp
     refine FW.block ?_
     refine FW.mono (FW.forL (S:=(List (List Int))) (X:=Empty) (fun (iAq:Nat) (sAq:(List (List Int))) f w=>∃ H:GH,∃ vAr:Value,∃ nAs:Nat,∃ csAt:List Value,∃ rs131:List PR,St Ha wa H w (.box b45 83 [vAr]::.row 87 1 vAr nAs csAt::.row 3 1 v56 n57 csA5::.row 63 1 v60 n61 cs62::(plT 63 1 rs131 []))∧Inc HAl H∧Pool (up wa.heap.size H) (eN .u64) 1 csAt rs131 sAq∧f 15=Value.int .i64 ((iAq:Nat):Int)∧f 0=Value.pointer (some q0P)∧f 2=Value.int .i64 a1∧f 3=Value.func (.func 56) #[] #[Value.pointer (some (⟨b45,0,none⟩:Addr)),Value.pointer (some ⟨b77,0,none⟩)]∧f 5=Value.pointer (some ⟨bAh,0,none⟩)∧f 14=Value.int .i64 (len a0.all)) (fun (q:Rs (List (List Int)) Empty) e f w=>match q with|.go sAq=>e=Exit.exit 0∧(∃ H:GH,∃ vAr:Value,∃ nAs:Nat,∃ csAt:List Value,∃ rs131:List PR,St Ha wa H w (.box b45 83 [vAr]::.row 87 1 vAr nAs csAt::.row 3 1 v56 n57 csA5::.row 63 1 v60 n61 cs62::(plT 63 1 rs131 []))∧Inc HAl H∧Pool (up wa.heap.size H) (eN .u64) 1 csAt rs131 sAq)|.rt x=>x.elim) hq ⟨_,_,_,_,_,SAm,(Inc.rfl _),(els54.mono (zaf (i89.tr iAn))),rfl,rfl,rfl,rfl,rfl,rfl⟩ ?_ ?_) ?_
     ·
      clear hp hq
      rintro iAq yAp sAq fAA wAz ⟨HAw,vAr,nAs,csAt,rs131,SAx,iAy,elsAu,kAB,kAC,kAD,kAE,kAF,kAG⟩ hxAq oDk hp
      refine FW.seq (FW.region ?_)
      refine FL.v (E.lssT kAB kAG (zaq hxAq)) ?_
      refine FL.nil (FW.seq ?_)
      refine FW.condT rfl rfl ?_
      refine FW.skip (FW.seq (FW.block (FW.seq (FW.region ?_))))
      refine FL.v (E.move kAB) ?_
      refine FL.v (E.assign (v:=Value.int .i64 ((iAq:Nat):Int)) rfl) ?_
      refine FL.nil (FW.seq (FW.region ?_))
      refine FL.v (E.move (v:=Value.int .i64 ((iAq:Nat):Int)) rfl) ?_
      obtain ⟨u144,zAH,hp⟩:=bnd hp
      refine FL.v (E.shl rfl rfl (nn_ge zAH)) ?_
      refine FL.v (E.assign (v:=Value.int .u64 (shlK false 64 1 ((iAq:Nat):Int))) rfl) ?_
      refine FL.nil (FW.block (FW.seq (FW.region ?_)))
      refine FL.v (E.load kAF (zae Tryz.isAgg63 ((atAo.mono iAy).now SAx.sl) rfl)) ?_
      refine FL.v (E.move (v:=Value.int .u64 (shlK false 64 1 ((iAq:Nat):Int))) rfl) ?_
      refine FL.v (E.and rfl rfl) ?_
      refine FL.v (E.neq rfl rfl) ?_
      refine FL.v (E.assign (v:=Value.bool (!((andK false 64 s52.2.2.2 (shlK false 64 1 ((iAq:Nat):Int))) == 0))) rfl) ?_
      refine FL.nil ?_
      rcases ifB hp with ⟨cAJ,hp⟩|⟨cAJ,hp⟩
      ·
       refine FW.condT rfl cAJ ?_
       refine FW.region ?_
       refine FL.v (E.move kAE) ?_
       refine FL.v (E.load kAF (zae Tryz.isAgg63 ((atAo.mono iAy).now SAx.sl) rfl)) ?_
       refine FL.v (E.move (v:=Value.int .u64 (shlK false 64 1 ((iAq:Nat):Int))) rfl) ?_
       refine FL.v (E.andNot rfl rfl) ?_
       obtain ⟨sAK,hqAK,hp⟩:=bnd hp
       obtain ⟨R146,hRAK⟩:∃ R146:(List (List Int))→Ending→World→Prop,R146=(fun sAK e w=>∃ H:GH,∃ vAL:Value,∃ nAM:Nat,∃ csAN:List Value,∃ rs151:List PR,e=Ending.returned (Value.tuple #[])∧St Ha wa H w (.box b45 83 [vAL]::.row 87 1 vAL nAM csAN::.row 3 1 v56 n57 csA5::.row 63 1 v60 n61 cs62::(plT 63 1 rs151 []))∧Inc HAw H∧Pool (up wa.heap.size H) (eN .u64) 1 csAN rs151 sAK):=⟨_,rfl⟩
       have hcAK:Calls Tryz.prog 56 #[Value.int .u64 (anK false 64 s52.2.2.2 (shlK false 64 1 ((iAq:Nat):Int))),Value.pointer (some (⟨b45,0,none⟩:Addr)),Value.pointer (some ⟨b77,0,none⟩)] wAz (R146 sAK):=by
        clear hp;have hp:=hqAK;clear hqAK
        refine zag (N:=14) (args:=[Value.int .u64 (anK false 64 s52.2.2.2 (shlK false 64 1 ((iAq:Nat):Int))),Value.pointer (some (⟨b45,0,none⟩:Addr)),Value.pointer (some ⟨b77,0,none⟩)]) Tryz.func56 rfl rfl rfl ?_
        obtain ⟨xAW,hxAX,hp⟩:=bnd hp
        obtain ⟨xsB7,hzB8,hp⟩:=bnd hp
        obtain ⟨xBk,hxBl,hp⟩:=bnd hp
        obtain ⟨xsBq,hputBr,hp⟩:=bnd hp
        refine FW.drawB (Sl HAw) (fun f w=>∃ H:GH,∃ vBx:Value,∃ nBy:Nat,∃ csBz:List Value,∃ rs199:List PR,St Ha wa H w (.box b45 83 [vBx]::.row 87 1 vBx nBy csBz::.row 3 1 v56 n57 csA5::.row 63 1 v60 n61 cs62::(plT 63 1 rs199 []))∧Inc HAw H∧Pool (up wa.heap.size H) (eN .u64) 1 csBz rs199 xsBq) (by kernel_rfl) SAx.sl ?_ ?_
        ·
         intro wAQ rAR
         have SAS:=SAx.call rAR
         refine FB.phase [10] (fun w=>WAt w (⟨b45,0,none⟩:Addr) [vAr]) ?_
         refine FB.p (i:=0) (bs 11 1) 0 [9,10] rfl (SP.on (SAS.box_now (i:=0) rfl) (SP.nil SAS.sl)) rfl rfl (fun w' hw'=>(E.load rfl (zae Tryz.isAgg83 hw' rfl))) ?_
         refine FB.t (i:=1) (bs 11 3) rfl (SP.on (SAS.box_now (i:=0) rfl) (SP.nil SAS.sl)) rfl (fun w' hw'=>(E.move (v:=Value.int .u64 (anK false 64 s52.2.2.2 (shlK false 64 1 ((iAq:Nat):Int)))) rfl)) ?_
         refine FB.p (i:=2) (bs 11 7) 0 [4,5,8,9,10] rfl (SP.on (SAS.box_now (i:=0) rfl) (SP.nil SAS.sl)) rfl rfl (fun w' hw'=>(E.load rfl (zae Tryz.isAgg83 hw' rfl))) ?_
         refine FB.t (i:=3) (bs 11 15) rfl (SP.on (SAS.box_now (i:=0) rfl) (SP.nil SAS.sl)) rfl (fun w' hw'=>(E.move (v:=Value.int .u64 (anK false 64 s52.2.2.2 (shlK false 64 1 ((iAq:Nat):Int)))) rfl)) ?_
         obtain ⟨pAT,rAZ,ptAU,atAV,hrB0,he163,hallAY⟩:=SAS.pool_at (i:=1) rfl elsAu hxAX
         refine FB.t (i:=4) (bs 11 31) rfl (SP.on (SAS.box_now (i:=0) rfl) (SP.nil SAS.sl)) rfl (fun w' hw'=>(E.indexAddr te83 rfl rfl ptAU)) ?_
         refine FB.phase [10] (fun w'=>WAt w' pAT [rAZ.v]) ?_
         refine FB.p (i:=5) (bs 11 63) 0 [8,9,10] rfl (SP.on (hallAY _ _ _ 1 SAS rfl) (SP.on (SAS.box_now (i:=0) rfl) (SP.nil SAS.sl))) rfl rfl (fun w' hw'=>(E.load rfl (zae Tryz.isAgg87 hw' rfl))) ?_
         refine FB.t (i:=6) (bs 11 127) rfl (SP.on (hallAY _ _ _ 1 SAS rfl) (SP.on (SAS.box_now (i:=0) rfl) (SP.nil SAS.sl))) rfl (fun w' hw'=>(E.load rfl (zae Tryz.isAgg63 ((at90.mono (iAn.tr iAy)).now hw') rfl))) ?_
         refine FB.all1 (i:=7) (by kernel_rfl) ?_
         ·
          obtain ⟨vB2,wB3,runB4,SB5⟩:=SAS.buildSlice (P:=Tryz.prog) te87 [Value.int .u64 s52.2.2.2] (parts:=#[(0,Value.int .u64 s52.2.2.2)]) (cells:=[Value.int .u64 s52.2.2.2]) rfl (zaH rfl zaw) (zaG rfl zav) (zab rfl zad) (Nat.le_of_ble_eq_true rfl)
          have elsB6:Els (up wa.heap.size HAw) (eN .u64) 1 [Value.int .u64 s52.2.2.2] [s52.2.2.2]:=(Els.snoc (H:=(up wa.heap.size HAw)) (E:=(eN .u64)) (k:=1) (c:=[Value.int .u64 s52.2.2.2]) (x:=s52.2.2.2) Els.nil rfl rfl)
          refine FC.val (l':=(bs 11 255)) rfl (by kernel_rfl) rfl rfl rfl (E.buildSlice (B1 rfl) runB4) ?_
          refine ⟨(SP.on (hallAY _ _ _ 2 SB5 rfl) (SP.on (SB5.box_now (i:=1) rfl) (SP.nil SB5.sl))),?_⟩
          refine FB.all1 (i:=8) (by kernel_rfl) ?_
          ·
           obtain ⟨wBa,rB9,runBb,SBc,elsBd,hcBe,hcBf⟩:=SB5.poolAppend (P:=Tryz.prog) (a:=[.row 63 1 vB2 1 [Value.int .u64 s52.2.2.2],.box b45 83 [vAr],.row 87 1 vAr nAs csAt,.row 3 1 v56 n57 csA5,.row 63 1 v60 n61 cs62]) (L:=[]) te87 hrB0 he163 (q:=0) rfl elsB6 hzB8
           have SBc:St Ha wa HAw wBa (.row 63 1 vB2 1 [Value.int .u64 s52.2.2.2]::.box b45 83 [vAr]::.row 87 1 vAr nAs csAt::.row 3 1 v56 n57 csA5::.row 63 1 v60 n61 cs62::(plT 63 1 (rs131.set (Int.toNat (anK false 64 s52.2.2.2 (shlK false 64 1 ((iAq:Nat):Int)))) rB9) [])):=SBc
           have SBg:St Ha wa HAw wBa (.box b45 83 [vAr]::.row 87 1 vAr nAs csAt::.row 3 1 v56 n57 csA5::.row 63 1 v60 n61 cs62::(plT 63 1 (rs131.set (Int.toNat (anK false 64 s52.2.2.2 (shlK false 64 1 ((iAq:Nat):Int)))) rB9) [])):=SBc.drop 0
           refine FC.val (l':=(bs 11 511)) rfl (by kernel_rfl) rfl rfl rfl (E.append rfl rfl runBb) ?_
           refine ⟨(SP.on (hallAY _ _ _ 1 SBg rfl) (SP.on (SBg.box_now (i:=0) rfl) (SP.nil SBg.sl))),?_⟩
           obtain ⟨pBh,rBn,ptBi,atBj,hrBo,he187,hallBm⟩:=SBg.pool_at (i:=1) rfl elsAu hxBl
           refine FB.t (i:=9) (bs 11 1023) rfl (SP.on (hallAY _ _ _ 1 SBg rfl) (SP.on (SBg.box_now (i:=0) rfl) (SP.nil SBg.sl))) rfl (fun w' hw'=>(E.indexAddr te83 rfl rfl ptBi)) ?_
           refine FB.all1 (i:=10) (by kernel_rfl) ?_
           ·
            obtain ⟨wBs,csBt,runBu,SBv,elsBw⟩:=SBg.poolPut (P:=Tryz.prog) (t:=87) (i:=1) rfl elsAu elsBd hputBr ptBi Tryz.sizeOf87 hcBe hcBf
            have SBv:St Ha wa HAw wBs (.box b45 83 [vAr]::.row 87 1 vAr nAs csBt::.row 3 1 v56 n57 csA5::.row 63 1 v60 n61 cs62::(plT 63 1 (rs131.set (Int.toNat (anK false 64 s52.2.2.2 (shlK false 64 1 ((iAq:Nat):Int)))) rB9) [])):=SBv
            refine FC.act (l':=(bs 11 2047)) rfl (by kernel_rfl) rfl rfl (E.store rfl rfl runBu) ?_
            refine ⟨(SP.o (SP.o (SP.nil SBv.sl))),?_⟩
            exact FB.done (by kernel_rfl) ⟨_,_,_,_,_,SBv,(Inc.rfl _),elsBw⟩
        ·
         rintro fBG wBF ⟨HBC,vBx,nBy,csBz,rs199,SBD,iBE,elsBA⟩
         obtain rfl:=Option.some.inj hp
         exact ⟨.inl rfl,res0 rfl (by rw [hRAK];exact ⟨_,_,_,_,_,rfl,SBD,iBE,elsBA⟩)⟩
       clear hqAK
       refine FL.call rfl rfl rfl (E.callV Tryz.call56 rfl (appA (A1 rfl) #[Value.pointer (some (⟨b45,0,none⟩:Addr)),Value.pointer (some ⟨b77,0,none⟩)])) hcAK ?_
       intro e wBK hQAK
       rw [hRAK] at hQAK
       obtain ⟨HBH,vAL,nAM,csAN,rs151,rfl,SBI,iBJ,elsAO⟩:=hQAK
       refine ⟨_,rfl,?_⟩
       refine FL.nil (FW.region ?_)
       refine FL.v (E.add kAB rfl) ?_
       refine FL.v (E.move (v:=Value.int .i64 (wr (((iAq:Nat):Int) + 1))) rfl) ?_
       refine FL.nil ?_
       obtain rfl:=Option.some.inj hp
       exact ⟨rfl,⟨_,_,_,_,_,SBI,(iAy.tr iBJ),elsAO,(zam rfl (zal hxAq) (p0P_2.mono ((((i66.tr i89).tr iAn).tr iAy).tr iBJ)).le),kAC,kAD,kAE,kAF,kAG⟩⟩
      ·
       refine FW.condF rfl cAJ ?_
       refine FW.seq (FW.region ?_)
       refine FL.v (E.load kAF (zae Tryz.isAgg63 ((atAo.mono iAy).now SAx.sl) rfl)) ?_
       refine FL.call rfl rfl rfl (E.call Tryz.call54 (A1 rfl)) (zdO SAx.sl s52.2.2.2) ?_
       rintro e wBL ⟨rfl,rBM⟩
       refine ⟨_,rfl,?_⟩
       have SBN:=SAx.call rBM
       refine FL.v (E.move kAD) ?_
       refine FL.v (E.lss rfl rfl) ?_
       refine FL.v (E.move (v:=Value.bool (decide ((PF.zbp s52.2.2.2) < a1))) rfl) ?_
       obtain ⟨t212,hqtBO,hp⟩:=bnd hp
       refine FL.cut 10 (fun f w=>∃ H:GH,St Ha wa H w (.box b45 83 [vAr]::.row 87 1 vAr nAs csAt::.row 3 1 v56 n57 csA5::.row 63 1 v60 n61 cs62::(plT 63 1 rs131 []))∧Inc HAw H∧f 0=Value.pointer (some q0P)∧f 2=Value.int .i64 a1∧f 3=Value.func (.func 56) #[] #[Value.pointer (some (⟨b45,0,none⟩:Addr)),Value.pointer (some ⟨b77,0,none⟩)]∧f 5=Value.pointer (some ⟨bAh,0,none⟩)∧f 9=Value.int .u64 (shlK false 64 1 ((iAq:Nat):Int))∧f 14=Value.int .i64 (len a0.all)∧f 15=Value.int .i64 ((iAq:Nat):Int)∧f 45=Value.bool t212) ?_ ?_
       ·
        clear hp;have hp:=hqtBO;clear hqtBO
        rcases ifB hp with ⟨cBU,hp⟩|⟨cBU,hp⟩
        ·
         refine FL.val (zac rfl rfl rfl cBU) rfl rfl (E.move kAC) ?_
         refine FL.val (zac rfl rfl rfl cBU) rfl rfl (E.nilCheck rfl) ?_
         refine FL.val (zac rfl rfl rfl cBU) rfl rfl (E.fieldAddr tf85_2 rfl) ?_
         refine FL.val (zac rfl rfl rfl cBU) rfl rfl (E.load rfl (zah Tryz.isAgg83 ((c0P.mono (((i66.tr i89).tr iAn).tr iAy)).now SBN.sl) rfl)) ?_
         refine FL.val (zac rfl rfl rfl cBU) rfl rfl (E.move (v:=Value.int .i64 ((iAq:Nat):Int)) rfl) ?_
         obtain ⟨xC1,hxC2,hp⟩:=bnd hp
         obtain ⟨pBV,csBW,ptBX,lBY,atBZ,relC0⟩:=p0P_3.at hxC2
         obtain ⟨vC3,rfl,hC4⟩:=eL_open relC0
         refine FL.val (zac rfl rfl rfl cBU) rfl rfl (E.indexAddr te83 rfl rfl ptBX) ?_
         refine FL.val (zac rfl rfl rfl cBU) rfl rfl (E.load rfl (zae Tryz.isAgg87 ((atBZ.mono (((i66.tr i89).tr iAn).tr iAy)).now SBN.sl) rfl)) ?_
         refine FL.val (zac rfl rfl rfl cBU) rfl rfl (E.makeFunc A0 (A1 kAF)) ?_
         obtain ⟨rC5,hrC6,hp⟩:=bnd hp
         refine FL.call (zac rfl rfl rfl cBU) rfl rfl (E.call Tryz.call86 (A2 rfl rfl)) (zek SBN.sl vC3 xC1 (hC4.mono (((i66.tr i89).tr iAn).tr iAy)) (Value.func (.func 87) #[] #[Value.pointer (some ⟨bAh,0,none⟩)]) (fun x0=>some (PF.zbq x0 s52.2.2.2)) (fun H2 w2 hi2 hs2 x0 r hr=>⟨87,#[Value.pointer (some ⟨bAh,0,none⟩)],rfl,Tryz.call87,by cases hr;exact zel hs2 x0 ⟨bAh,0,none⟩ s52.2.2.2 ((atAo.mono iAy).mono hi2)⟩) hrC6) ?_
         rintro e wC7 ⟨rfl,rC8⟩
         refine ⟨_,rfl,?_⟩
         have SC9:=SBN.call rC8
         obtain rfl:=Option.some.inj hp
         refine FL.v (E.pickT rfl cBU rfl) ?_
         exact FL.nil ⟨rfl,_,SC9,(Inc.rfl _),kAC,kAD,kAE,kAF,rfl,kAG,kAB,rfl⟩
        ·
         refine FL.skip (wF_no rfl rfl rfl cBU) rfl ?_
         refine FL.skip (wF_no rfl rfl rfl cBU) rfl ?_
         refine FL.skip (wF_no rfl rfl rfl cBU) rfl ?_
         refine FL.skip (wF_no rfl rfl rfl cBU) rfl ?_
         refine FL.skip (wF_no rfl rfl rfl cBU) rfl ?_
         refine FL.skip (wF_no rfl rfl rfl cBU) rfl ?_
         refine FL.skip (wF_no rfl rfl rfl cBU) rfl ?_
         refine FL.skip (wF_no rfl rfl rfl cBU) rfl ?_
         refine FL.skip (wF_no rfl rfl rfl cBU) rfl ?_
         obtain rfl:=Option.some.inj hp
         refine FL.v (E.pickF rfl cBU rfl) ?_
         exact FL.nil ⟨rfl,_,SBN,(Inc.rfl _),kAC,kAD,kAE,kAF,rfl,kAG,kAB,rfl⟩
       rintro fBT wBS ⟨HBP,SBQ,iBR,kCa,kCb,kCc,kCd,kCe,kCf,kCg,kCh⟩
       refine FL.v (E.assign kCh) ?_
       refine FL.nil ?_
       rcases ifB hp with ⟨cCi,hp⟩|⟨cCi,hp⟩
       ·
        refine FW.condT rfl cCi ?_
        refine FW.region ?_
        refine FL.v (E.move kCc) ?_
        refine FL.v (E.load kCd (zae Tryz.isAgg63 ((atAo.mono (iAy.tr iBR)).now SBQ.sl) rfl)) ?_
        refine FL.v (E.move kCe) ?_
        refine FL.v (E.or rfl rfl) ?_
        obtain ⟨sCj,hqCj,hp⟩:=bnd hp
        obtain ⟨R243,hRCj⟩:∃ R243:(List (List Int))→Ending→World→Prop,R243=(fun sCj e w=>∃ H:GH,∃ vCk:Value,∃ nCl:Nat,∃ csCm:List Value,∃ rs248:List PR,e=Ending.returned (Value.tuple #[])∧St Ha wa H w (.box b45 83 [vCk]::.row 87 1 vCk nCl csCm::.row 3 1 v56 n57 csA5::.row 63 1 v60 n61 cs62::(plT 63 1 rs248 []))∧Inc HBP H∧Pool (up wa.heap.size H) (eN .u64) 1 csCm rs248 sCj):=⟨_,rfl⟩
        have hcCj:Calls Tryz.prog 56 #[Value.int .u64 (orK false 64 s52.2.2.2 (shlK false 64 1 ((iAq:Nat):Int))),Value.pointer (some (⟨b45,0,none⟩:Addr)),Value.pointer (some ⟨b77,0,none⟩)] wBS (R243 sCj):=by
         clear hp;have hp:=hqCj;clear hqCj
         refine zag (N:=14) (args:=[Value.int .u64 (orK false 64 s52.2.2.2 (shlK false 64 1 ((iAq:Nat):Int))),Value.pointer (some (⟨b45,0,none⟩:Addr)),Value.pointer (some ⟨b77,0,none⟩)]) Tryz.func56 rfl rfl rfl ?_
         obtain ⟨xCv,hxCw,hp⟩:=bnd hp
         obtain ⟨xsCG,hzCH,hp⟩:=bnd hp
         obtain ⟨xCT,hxCU,hp⟩:=bnd hp
         obtain ⟨xsCZ,hputD0,hp⟩:=bnd hp
         refine FW.drawB (Sl HBP) (fun f w=>∃ H:GH,∃ vD6:Value,∃ nD7:Nat,∃ csD8:List Value,∃ rs296:List PR,St Ha wa H w (.box b45 83 [vD6]::.row 87 1 vD6 nD7 csD8::.row 3 1 v56 n57 csA5::.row 63 1 v60 n61 cs62::(plT 63 1 rs296 []))∧Inc HBP H∧Pool (up wa.heap.size H) (eN .u64) 1 csD8 rs296 xsCZ) (by kernel_rfl) SBQ.sl ?_ ?_
         ·
          intro wCp rCq
          have SCr:=SBQ.call rCq
          refine FB.phase [10] (fun w=>WAt w (⟨b45,0,none⟩:Addr) [vAr]) ?_
          refine FB.p (i:=0) (bs 11 1) 0 [9,10] rfl (SP.on (SCr.box_now (i:=0) rfl) (SP.nil SCr.sl)) rfl rfl (fun w' hw'=>(E.load rfl (zae Tryz.isAgg83 hw' rfl))) ?_
          refine FB.t (i:=1) (bs 11 3) rfl (SP.on (SCr.box_now (i:=0) rfl) (SP.nil SCr.sl)) rfl (fun w' hw'=>(E.move (v:=Value.int .u64 (orK false 64 s52.2.2.2 (shlK false 64 1 ((iAq:Nat):Int)))) rfl)) ?_
          refine FB.p (i:=2) (bs 11 7) 0 [4,5,8,9,10] rfl (SP.on (SCr.box_now (i:=0) rfl) (SP.nil SCr.sl)) rfl rfl (fun w' hw'=>(E.load rfl (zae Tryz.isAgg83 hw' rfl))) ?_
          refine FB.t (i:=3) (bs 11 15) rfl (SP.on (SCr.box_now (i:=0) rfl) (SP.nil SCr.sl)) rfl (fun w' hw'=>(E.move (v:=Value.int .u64 (orK false 64 s52.2.2.2 (shlK false 64 1 ((iAq:Nat):Int)))) rfl)) ?_
          obtain ⟨pCs,rCy,ptCt,atCu,hrCz,he260,hallCx⟩:=SCr.pool_at (i:=1) rfl elsAu hxCw
          refine FB.t (i:=4) (bs 11 31) rfl (SP.on (SCr.box_now (i:=0) rfl) (SP.nil SCr.sl)) rfl (fun w' hw'=>(E.indexAddr te83 rfl rfl ptCt)) ?_
          refine FB.phase [10] (fun w'=>WAt w' pCs [rCy.v]) ?_
          refine FB.p (i:=5) (bs 11 63) 0 [8,9,10] rfl (SP.on (hallCx _ _ _ 1 SCr rfl) (SP.on (SCr.box_now (i:=0) rfl) (SP.nil SCr.sl))) rfl rfl (fun w' hw'=>(E.load rfl (zae Tryz.isAgg87 hw' rfl))) ?_
          refine FB.t (i:=6) (bs 11 127) rfl (SP.on (hallCx _ _ _ 1 SCr rfl) (SP.on (SCr.box_now (i:=0) rfl) (SP.nil SCr.sl))) rfl (fun w' hw'=>(E.load rfl (zae Tryz.isAgg63 ((at90.mono ((iAn.tr iAy).tr iBR)).now hw') rfl))) ?_
          refine FB.all1 (i:=7) (by kernel_rfl) ?_
          ·
           obtain ⟨vCB,wCC,runCD,SCE⟩:=SCr.buildSlice (P:=Tryz.prog) te87 [Value.int .u64 s52.2.2.2] (parts:=#[(0,Value.int .u64 s52.2.2.2)]) (cells:=[Value.int .u64 s52.2.2.2]) rfl (zaH rfl zaw) (zaG rfl zav) (zab rfl zad) (Nat.le_of_ble_eq_true rfl)
           have elsCF:Els (up wa.heap.size HBP) (eN .u64) 1 [Value.int .u64 s52.2.2.2] [s52.2.2.2]:=(Els.snoc (H:=(up wa.heap.size HBP)) (E:=(eN .u64)) (k:=1) (c:=[Value.int .u64 s52.2.2.2]) (x:=s52.2.2.2) Els.nil rfl rfl)
           refine FC.val (l':=(bs 11 255)) rfl (by kernel_rfl) rfl rfl rfl (E.buildSlice (B1 rfl) runCD) ?_
           refine ⟨(SP.on (hallCx _ _ _ 2 SCE rfl) (SP.on (SCE.box_now (i:=1) rfl) (SP.nil SCE.sl))),?_⟩
           refine FB.all1 (i:=8) (by kernel_rfl) ?_
           ·
            obtain ⟨wCJ,rCI,runCK,SCL,elsCM,hcCN,hcCO⟩:=SCE.poolAppend (P:=Tryz.prog) (a:=[.row 63 1 vCB 1 [Value.int .u64 s52.2.2.2],.box b45 83 [vAr],.row 87 1 vAr nAs csAt,.row 3 1 v56 n57 csA5,.row 63 1 v60 n61 cs62]) (L:=[]) te87 hrCz (he260.mono (zaf iBR)) (q:=0) rfl elsCF hzCH
            have SCL:St Ha wa HBP wCJ (.row 63 1 vCB 1 [Value.int .u64 s52.2.2.2]::.box b45 83 [vAr]::.row 87 1 vAr nAs csAt::.row 3 1 v56 n57 csA5::.row 63 1 v60 n61 cs62::(plT 63 1 (rs131.set (Int.toNat (orK false 64 s52.2.2.2 (shlK false 64 1 ((iAq:Nat):Int)))) rCI) [])):=SCL
            have SCP:St Ha wa HBP wCJ (.box b45 83 [vAr]::.row 87 1 vAr nAs csAt::.row 3 1 v56 n57 csA5::.row 63 1 v60 n61 cs62::(plT 63 1 (rs131.set (Int.toNat (orK false 64 s52.2.2.2 (shlK false 64 1 ((iAq:Nat):Int)))) rCI) [])):=SCL.drop 0
            refine FC.val (l':=(bs 11 511)) rfl (by kernel_rfl) rfl rfl rfl (E.append rfl rfl runCK) ?_
            refine ⟨(SP.on (hallCx _ _ _ 1 SCP rfl) (SP.on (SCP.box_now (i:=0) rfl) (SP.nil SCP.sl))),?_⟩
            obtain ⟨pCQ,rCW,ptCR,atCS,hrCX,he284,hallCV⟩:=SCP.pool_at (i:=1) rfl elsAu hxCU
            refine FB.t (i:=9) (bs 11 1023) rfl (SP.on (hallCx _ _ _ 1 SCP rfl) (SP.on (SCP.box_now (i:=0) rfl) (SP.nil SCP.sl))) rfl (fun w' hw'=>(E.indexAddr te83 rfl rfl ptCR)) ?_
            refine FB.all1 (i:=10) (by kernel_rfl) ?_
            ·
             obtain ⟨wD1,csD2,runD3,SD4,elsD5⟩:=SCP.poolPut (P:=Tryz.prog) (t:=87) (i:=1) rfl (elsAu.mono (zaf iBR)) elsCM hputD0 ptCR Tryz.sizeOf87 hcCN hcCO
             have SD4:St Ha wa HBP wD1 (.box b45 83 [vAr]::.row 87 1 vAr nAs csD2::.row 3 1 v56 n57 csA5::.row 63 1 v60 n61 cs62::(plT 63 1 (rs131.set (Int.toNat (orK false 64 s52.2.2.2 (shlK false 64 1 ((iAq:Nat):Int)))) rCI) [])):=SD4
             refine FC.act (l':=(bs 11 2047)) rfl (by kernel_rfl) rfl rfl (E.store rfl rfl runD3) ?_
             refine ⟨(SP.o (SP.o (SP.nil SD4.sl))),?_⟩
             exact FB.done (by kernel_rfl) ⟨_,_,_,_,_,SD4,(Inc.rfl _),elsD5⟩
         ·
          rintro fDf wDe ⟨HDb,vD6,nD7,csD8,rs296,SDc,iDd,elsD9⟩
          obtain rfl:=Option.some.inj hp
          exact ⟨.inl rfl,res0 rfl (by rw [hRCj];exact ⟨_,_,_,_,_,rfl,SDc,iDd,elsD9⟩)⟩
        clear hqCj
        refine FL.call rfl rfl rfl (E.callV Tryz.call56 rfl (appA (A1 rfl) #[Value.pointer (some (⟨b45,0,none⟩:Addr)),Value.pointer (some ⟨b77,0,none⟩)])) hcCj ?_
        intro e wDj hQCj
        rw [hRCj] at hQCj
        obtain ⟨HDg,vCk,nCl,csCm,rs248,rfl,SDh,iDi,elsCn⟩:=hQCj
        refine ⟨_,rfl,?_⟩
        refine FL.nil (FW.region ?_)
        refine FL.v (E.add kCg rfl) ?_
        refine FL.v (E.move (v:=Value.int .i64 (wr (((iAq:Nat):Int) + 1))) rfl) ?_
        refine FL.nil ?_
        obtain rfl:=Option.some.inj hp
        exact ⟨rfl,⟨_,_,_,_,_,SDh,((iAy.tr iBR).tr iDi),elsCn,(zam rfl (zal hxAq) (p0P_2.mono (((((i66.tr i89).tr iAn).tr iAy).tr iBR).tr iDi)).le),kCa,kCb,kCc,kCd,kCf⟩⟩
       ·
        refine FW.condF rfl cCi ?_
        refine FW.skip (FW.region ?_)
        refine FL.v (E.add kCg rfl) ?_
        refine FL.v (E.move (v:=Value.int .i64 (wr (((iAq:Nat):Int) + 1))) rfl) ?_
        refine FL.nil ?_
        obtain rfl:=Option.some.inj hp
        exact ⟨rfl,⟨_,_,_,_,_,SBQ,(iAy.tr iBR),(elsAu.mono (zaf iBR)),(zam rfl (zal hxAq) (p0P_2.mono ((((i66.tr i89).tr iAn).tr iAy).tr iBR)).le),kCa,kCb,kCc,kCd,kCf⟩⟩
     ·
      clear hp hq
      rintro sAq fDu wDt ⟨HDq,vAr,nAs,csAt,rs131,SDr,iDs,elsAu,kDv,kDw,kDx,kDy,kDz,kDA⟩
      refine FW.seq (FW.region ?_)
      refine FL.v (E.lss kDv kDA) ?_
      refine FL.nil (FW.seq ?_)
      refine FW.condF rfl zar ?_
      refine FW.exit ?_
      exact ⟨nofun,rfl,⟨_,_,_,_,_,SDr,iDs,elsAu⟩⟩
     ·
      clear hq
      intro e fDp wDo hD
      rcases qAq with sAq|xAq
      ·
       obtain ⟨rfl,hD⟩:=hD
       obtain ⟨HDl,vAr,nAs,csAt,rs131,SDm,iDn,elsAu⟩:=hD
       replace hp:=el_go hp
       obtain rfl:=Option.some.inj hp
       exact ⟨.inl rfl,res0 rfl (by rw [hRAb];exact ⟨_,_,_,_,_,rfl,SDm,(iAn.tr iDn),elsAu⟩)⟩
      ·
       exact xAq.elim
    clear hqAb
    refine FL.call rfl rfl rfl (E.call Tryz.call55 (A4 rfl rfl rfl rfl)) hcAb ?_
    intro e wDE hQAb
    rw [hRAb] at hQAb
    obtain ⟨HDB,vAc,nAd,csAe,rs116,rfl,SDC,iDD,elsAf⟩:=hQAb
    refine ⟨_,rfl,?_⟩
    refine FL.nil (FW.seq (FW.region ?_))
    refine FL.v (E.move k69) ?_
    refine FL.v (E.nilCheck rfl) ?_
    refine FL.v (E.fieldAddr tf85_1 rfl) ?_
    refine FL.v (E.load rfl (zah Tryz.isAgg22 ((c0P.mono ((i66.tr i89).tr iDD)).now SDC.sl) rfl)) ?_
    refine FL.v (E.lenP te22 rfl p0P_2) ?_
    refine FL.v (E.gtr rfl rfl) ?_
    refine FL.v (E.move (v:=Value.bool (decide (0 < (len a0.all)))) rfl) ?_
    obtain ⟨t327,hqtDF,hp⟩:=bnd hp
    refine FL.cut 9 (fun f w=>∃ H:GH,St Ha wa H w (.box b45 83 [vAc]::.row 87 1 vAc nAd csAe::.row 3 1 v56 n57 csA5::.row 63 1 v60 n61 cs62::(plT 63 1 rs116 []))∧Inc HDB H∧f 0=Value.pointer (some q0P)∧f 1=Value.int .i64 a1∧f 6=v56∧f 7=Value.pointer (some (⟨b45,0,none⟩:Addr))∧f 8=v60∧f 9=Value.pointer (some ⟨b77,0,none⟩)∧f 24=Value.int .u64 (wrk false 64 (shlK true 64 1 (len a0.all)))∧f 25=Value.int .u64 s52.2.2.2∧f 55=Value.bool t327) ?_ ?_
    ·
     clear hp;have hp:=hqtDF;clear hqtDF
     rcases ifB hp with ⟨cDL,hp⟩|⟨cDL,hp⟩
     ·
      refine FL.val (zac rfl rfl rfl cDL) rfl rfl (E.move k69) ?_
      refine FL.val (zac rfl rfl rfl cDL) rfl rfl (E.nilCheck rfl) ?_
      refine FL.val (zac rfl rfl rfl cDL) rfl rfl (E.fieldAddr tf85_1 rfl) ?_
      refine FL.val (zac rfl rfl rfl cDL) rfl rfl (E.load rfl (zah Tryz.isAgg22 ((c0P.mono ((i66.tr i89).tr iDD)).now SDC.sl) rfl)) ?_
      obtain ⟨xDS,hxDT,hp⟩:=bnd hp
      obtain ⟨pDM,csDN,ptDO,lDP,atDQ,relDR⟩:=p0P_2.at hxDT
      obtain ⟨vDU,rfl,hDV⟩:=eL_open relDR
      refine FL.val (zac rfl rfl rfl cDL) rfl rfl (E.indexAddr te22 rfl rfl ptDO) ?_
      refine FL.val (zac rfl rfl rfl cDL) rfl rfl (E.load rfl (zae Tryz.isAgg45 ((atDQ.mono ((i66.tr i89).tr iDD)).now SDC.sl) rfl)) ?_
      refine FL.val (zac rfl rfl rfl cDL) rfl rfl (E.lenP te45 rfl hDV) ?_
      refine FL.val (zac rfl rfl rfl cDL) rfl rfl (E.eql rfl rfl) ?_
      obtain rfl:=Option.some.inj hp
      refine FL.v (E.pickT rfl cDL rfl) ?_
      exact FL.nil ⟨rfl,_,SDC,(Inc.rfl _),k69,k70,k71,k72,k73,rfl,k74,k75,rfl⟩
     ·
      refine FL.skip (wF_no rfl rfl rfl cDL) rfl ?_
      refine FL.skip (wF_no rfl rfl rfl cDL) rfl ?_
      refine FL.skip (wF_no rfl rfl rfl cDL) rfl ?_
      refine FL.skip (wF_no rfl rfl rfl cDL) rfl ?_
      refine FL.skip (wF_no rfl rfl rfl cDL) rfl ?_
      refine FL.skip (wF_no rfl rfl rfl cDL) rfl ?_
      refine FL.skip (wF_no rfl rfl rfl cDL) rfl ?_
      refine FL.skip (wF_no rfl rfl rfl cDL) rfl ?_
      obtain rfl:=Option.some.inj hp
      refine FL.v (E.pickF rfl cDL rfl) ?_
      exact FL.nil ⟨rfl,_,SDC,(Inc.rfl _),k69,k70,k71,k72,k73,rfl,k74,k75,rfl⟩
    rintro fDK wDJ ⟨HDG,SDH,iDI,kDW,kDX,kDY,kDZ,kE0,kE1,kE2,kE3,kE4⟩
    refine FL.v (E.move kE4) ?_
    refine FL.cut 4 (fun f w=>∃ H:GH,St Ha wa H w (.box b45 83 [vAc]::.row 87 1 vAc nAd csAe::.row 3 1 v56 n57 csA5::.row 63 1 v60 n61 cs62::(plT 63 1 rs116 []))∧Inc HDG H∧f 0=Value.pointer (some q0P)∧f 1=Value.int .i64 a1∧f 6=v56∧f 7=Value.pointer (some (⟨b45,0,none⟩:Addr))∧f 8=v60∧f 9=Value.pointer (some ⟨b77,0,none⟩)∧f 24=Value.int .u64 (wrk false 64 (shlK true 64 1 (len a0.all)))∧f 25=Value.int .u64 s52.2.2.2∧f 60=Value.bool (bif t327 then ((andK false 64 s52.2.2.2 1) == 1) else false)) ?_ ?_
    ·
     rcases bcase t327 with cEa|cEa
     ·
      refine FL.val (zac rfl rfl rfl cEa) rfl rfl (E.load kE1 (zae Tryz.isAgg63 ((at90.mono (iDD.tr iDI)).now SDH.sl) rfl)) ?_
      refine FL.val (zac rfl rfl rfl cEa) rfl rfl (E.and rfl rfl) ?_
      refine FL.val (zac rfl rfl rfl cEa) rfl rfl (E.eql rfl rfl) ?_
      refine FL.v (E.pickT rfl cEa rfl) ?_
      exact FL.nil ⟨rfl,_,SDH,(Inc.rfl _),kDW,kDX,kDY,kDZ,kE0,kE1,kE2,kE3,(congrArg Value.bool (bifT cEa).symm)⟩
     ·
      refine FL.skip (wF_no rfl rfl rfl cEa) rfl ?_
      refine FL.skip (wF_no rfl rfl rfl cEa) rfl ?_
      refine FL.skip (wF_no rfl rfl rfl cEa) rfl ?_
      refine FL.v (E.pickF rfl cEa rfl) ?_
      exact FL.nil ⟨rfl,_,SDH,(Inc.rfl _),kDW,kDX,kDY,kDZ,kE0,kE1,kE2,kE3,(congrArg Value.bool (bifF cEa).symm)⟩
    rintro fE9 wE8 ⟨HE5,SE6,iE7,kEb,kEc,kEd,kEe,kEf,kEg,kEh,kEi,kEj⟩
    refine FL.nil ?_
    rcases ifB hp with ⟨cEk,hp⟩|⟨cEk,hp⟩
    ·
     refine FW.condT kEj cEk ?_
     refine FW.seq (FW.region ?_)
     refine FL.v (E.move kEd) ?_
     refine FL.v (E.load kEg (zae Tryz.isAgg63 ((at90.mono ((iDD.tr iDI).tr iE7)).now SE6.sl) rfl)) ?_
     obtain ⟨xEr,hxEs,hp⟩:=bnd hp
     obtain ⟨pEl,csEm,ptEn,lEo,atEp,relEq⟩:=SE6.row_at (i:=2) rfl elsA4 (by decide) hxEs
     obtain rfl:=eI_open relEq
     refine FL.v (E.indexAddr te45 rfl rfl ptEn) ?_
     obtain ⟨xsEw,hputEx,hp⟩:=bnd hp
     obtain ⟨wEt,csEz,runEu,SEv,elsEy,ceEA⟩:=SE6.putEls (P:=Tryz.prog) (t:=3) (i:=2) rfl (elsA4.mono (zaf ((iDD.tr iDI).tr iE7))) hputEx ptEn Tryz.sizeOf3 (u:=Value.int .i64 0) (c:=[Value.int .i64 0]) rfl rfl (zab rfl zad) rfl
     have SEv:St Ha wa HE5 wEt (.box b45 83 [vAc]::.row 87 1 vAc nAd csAe::.row 3 1 v56 n57 csEz::.row 63 1 v60 n61 cs62::(plT 63 1 rs116 [])):=SEv
     refine FL.act rfl rfl (E.store rfl rfl runEu) ?_
     refine FL.nil (FW.region ?_)
     refine FL.v (E.move kEf) ?_
     refine FL.v (E.load kEg (zae Tryz.isAgg63 ((at90.mono ((iDD.tr iDI).tr iE7)).now SEv.sl) rfl)) ?_
     obtain ⟨vEB,wEC,runED,SEE⟩:=SEv.buildSlice (P:=Tryz.prog) te87 [Value.int .u64 s52.2.2.2] (parts:=#[(0,Value.int .u64 s52.2.2.2)]) (cells:=[Value.int .u64 s52.2.2.2]) rfl (zaH rfl zaw) (zaG rfl zav) (zab rfl zad) (Nat.le_of_ble_eq_true rfl)
     have elsEF:Els (up wa.heap.size HE5) (eN .u64) 1 [Value.int .u64 s52.2.2.2] [s52.2.2.2]:=(Els.snoc (H:=(up wa.heap.size HE5)) (E:=(eN .u64)) (k:=1) (c:=[Value.int .u64 s52.2.2.2]) (x:=s52.2.2.2) Els.nil rfl rfl)
     refine FL.v (E.buildSlice (B1 rfl) runED) ?_
     obtain ⟨xsEG,hzEH,hp⟩:=bnd hp
     obtain ⟨vEI,wEL,nEJ,csEK,runEM,SEN,elsEO,ceEP⟩:=SEE.appendO (P:=Tryz.prog) te87 (i:=4) (j:=0) rfl (els63.mono (zaf (((i89.tr iDD).tr iDI).tr iE7))) rfl elsEF hzEH
     have SEN:St Ha wa HE5 wEL (.row 63 1 vEB 1 [Value.int .u64 s52.2.2.2]::.box b45 83 [vAc]::.row 87 1 vAc nAd csAe::.row 3 1 v56 n57 csEz::.row 63 1 vEI nEJ csEK::(plT 63 1 rs116 [])):=SEN
     have SEQ:St Ha wa HE5 wEL (.box b45 83 [vAc]::.row 87 1 vAc nAd csAe::.row 3 1 v56 n57 csEz::.row 63 1 vEI nEJ csEK::(plT 63 1 rs116 [])):=SEN.drop 0
     refine FL.v (E.append rfl rfl runEM) ?_
     refine FL.v (E.assign (v:=vEI) rfl) ?_
     refine FL.nil (FW.region ?_)
     refine FL.v (E.addK kEi rfl) ?_
     refine FL.v (E.move (v:=Value.int .u64 (wrk false 64 (s52.2.2.2 + 1))) rfl) ?_
     refine FL.nil ?_
     obtain rfl:=Option.some.inj hp
     exact ⟨rfl,⟨_,_,_,_,_,_,_,_,_,_,_,SEQ,((((i66.tr i89).tr iDD).tr iDI).tr iE7),(elsAf.mono (zaf (iDI.tr iE7))),elsEy,elsEO,kEb,kEc,kEd,kEe,rfl,kEh,rfl⟩⟩
    ·
     refine FW.condF kEj cEk ?_
     refine FW.skip (FW.region ?_)
     refine FL.v (E.addK kEi rfl) ?_
     refine FL.v (E.move (v:=Value.int .u64 (wrk false 64 (s52.2.2.2 + 1))) rfl) ?_
     refine FL.nil ?_
     obtain rfl:=Option.some.inj hp
     exact ⟨rfl,⟨_,_,_,_,_,_,_,_,_,_,_,SE6,((((i66.tr i89).tr iDD).tr iDI).tr iE7),(elsAf.mono (zaf (iDI.tr iE7))),(elsA4.mono (zaf ((iDD.tr iDI).tr iE7))),(els63.mono (zaf (((i89.tr iDD).tr iDI).tr iE7))),kEb,kEc,kEd,kEe,kEf,kEh,rfl⟩⟩
  ·
   refine FW.condF rfl c76 ?_
   refine FW.exit ?_
   obtain rfl:=Option.some.inj hp
   exact ⟨nofun,rfl,⟨_,_,_,_,_,_,_,_,_,_,_,S65,i66,els54,els59,els63,k71,k72,k73⟩⟩
 ·
  clear hq
  intro e fEW wEV hD
  rcases q52 with s52|x52
  ·
   obtain ⟨rfl,hD⟩:=hD
   obtain ⟨HES,v42,n43,cs53,rs55,v56,n57,cs58,v60,n61,cs62,SET,iEU,els54,els59,els63,kEX,kEY,kEZ⟩:=hD
   replace hp:=el_go hp
   refine FW.seq ?_
   obtain ⟨HF0,SF1,iF2,elsF3⟩:=SET.poolEls (a:=[.box b45 83 [v42],.row 87 1 v42 n43 cs53,.row 3 1 v56 n57 cs58,.row 63 1 v60 n61 cs62]) (L:=[]) els54 (by decide)
   have SF1:St Ha wa HF0 wEV [.box b45 83 [v42],.row 87 1 v42 n43 cs53,.row 3 1 v56 n57 cs58,.row 63 1 v60 n61 cs62]:=SF1
   obtain ⟨qF4,hq,hp⟩:=bndR hp
   refine FW.block ?_
   refine FW.mono (FW.iter (S:=((List Int)×(List Int))) (X:=Empty) (fun (sF4:((List Int)×(List Int))) f w=>∃ H:GH,∃ vF5:Value,∃ nF6:Nat,∃ csF7:List Value,∃ vF9:Value,∃ nFa:Nat,∃ csFb:List Value,St Ha wa H w [.box b45 83 [v42],.row 87 1 v42 n43 cs53,.row 3 1 vF5 nF6 csF7,.rowo 63 1 vF9 nFa csFb]∧Inc HF0 H∧Els (up wa.heap.size H) eI 1 csF7 sF4.1∧Els (up wa.heap.size H) (eN .u64) 1 csFb sF4.2∧f 6=vF5∧f 7=Value.pointer (some (⟨b45,0,none⟩:Addr))∧f 8=vF9) (fun (q:Rs ((List Int)×(List Int)) Empty) e f w=>match q with|.go sF4=>e=Exit.exit 2∧(∃ H:GH,∃ vF5:Value,∃ nF6:Nat,∃ csF7:List Value,∃ vF9:Value,∃ nFa:Nat,∃ csFb:List Value,St Ha wa H w [.box b45 83 [v42],.row 87 1 v42 n43 cs53,.row 3 1 vF5 nF6 csF7,.rowo 63 1 vF9 nFa csFb]∧Inc HF0 H∧Els (up wa.heap.size H) eI 1 csF7 sF4.1∧Els (up wa.heap.size H) (eN .u64) 1 csFb sF4.2∧f 6=vF5)|.rt x=>x.elim) hq ⟨_,_,_,_,_,_,_,(SF1.toQ 3 (l':=[.box b45 83 [v42],.row 87 1 v42 n43 cs53,.row 3 1 v56 n57 cs58,.rowo 63 1 v60 n61 cs62])),(Inc.rfl _),(els59.mono (zaf iF2)),(els63.mono (zaf iF2)),kEX,kEY,kEZ⟩ ?_) ?_
   ·
    clear hp hq
    rintro sF4 fFh wFg ⟨HFd,vF5,nF6,csF7,vF9,nFa,csFb,SFe,iFf,elsF8,elsFc,kFi,kFj,kFk⟩ oHm hp
    refine FW.seq (FW.seq (FW.region ?_))
    refine FL.v (E.move kFk) ?_
    refine FL.v (E.lenQ te87 rfl SFe (i:=3) rfl elsFc (by decide)) ?_
    refine FL.v (E.gtr rfl rfl) ?_
    refine FL.nil ?_
    rcases ifB hp with ⟨cFl,hp⟩|⟨cFl,hp⟩
    ·
     refine FW.condT rfl cFl ?_
     refine FW.skip (FW.block (FW.seq (FW.region ?_)))
     refine FL.v (E.move kFk) ?_
     obtain ⟨xFs,hxFt,hp⟩:=bnd hp
     obtain ⟨pFm,csFn,ptFo,lFp,atFq,relFr⟩:=SFe.rowQ_at (i:=3) rfl elsFc (by decide) hxFt
     obtain rfl:=eN_open relFr
     refine FL.v (E.indexAddr te87 rfl rfl ptFo) ?_
     refine FL.v (E.load rfl (zae Tryz.isAgg63 atFq rfl)) ?_
     refine FL.v (E.assign (v:=Value.int .u64 xFs) rfl) ?_
     refine FL.nil (FW.seq (FW.region ?_))
     refine FL.v (E.move kFk) ?_
     obtain ⟨xsFu,hcFv,hp⟩:=bnd hp
     obtain ⟨vFw,nFx,csFy,runFz,SFA,elsFB⟩:=SFe.cutTailQ te87 (kk:=.i64) (i:=3) rfl elsFc hcFv
     have SFA:St Ha wa HFd wFg [.box b45 83 [v42],.row 87 1 v42 n43 cs53,.row 3 1 vF5 nF6 csF7,.rowo 63 1 vFw nFx csFy]:=SFA
     refine FL.v (E.slice te87 rfl (congrArg some rfl) rfl rfl (runFz _)) ?_
     refine FL.v (E.assign (v:=vFw) rfl) ?_
     refine FL.nil (FW.seq (FW.region ?_))
     refine FL.v (E.load kFj (zae Tryz.isAgg83 (SFA.box_now (i:=0) rfl) rfl)) ?_
     refine FL.v (E.move (v:=Value.int .u64 xFs) rfl) ?_
     obtain ⟨xFI,hxFJ,hp⟩:=bnd hp
     obtain ⟨pFC,csFD,ptFE,lFF,atFG,relFH⟩:=SFA.row_at (i:=1) rfl elsF3 (by decide) hxFJ
     obtain ⟨vFK,rfl,hFL⟩:=eL_open relFH
     refine FL.v (E.indexAddr te83 rfl rfl ptFE) ?_
     refine FL.v (E.load rfl (zae Tryz.isAgg87 atFG rfl)) ?_
     refine FL.v (E.lenP te87 rfl hFL) ?_
     refine FL.v (E.move (v:=Value.int .i64 0) rfl) ?_
     refine FL.nil ?_
     obtain ⟨qFN,hq,hp⟩:=bndR hp
     refine FW.block ?_
     refine FW.mono (FW.forL (S:=((List Int)×(List Int))) (X:=Empty) (fun (iFN:Nat) (sFN:((List Int)×(List Int))) f w=>∃ H:GH,∃ vFO:Value,∃ nFP:Nat,∃ csFQ:List Value,∃ vFS:Value,∃ nFT:Nat,∃ csFU:List Value,St Ha wa H w [.box b45 83 [v42],.row 87 1 v42 n43 cs53,.row 3 1 vFO nFP csFQ,.rowo 63 1 vFS nFT csFU]∧Inc HFd H∧Els (up wa.heap.size H) eI 1 csFQ sFN.1∧Els (up wa.heap.size H) (eN .u64) 1 csFU sFN.2∧f 82=Value.int .i64 ((iFN:Nat):Int)∧f 6=vFO∧f 7=Value.pointer (some (⟨b45,0,none⟩:Addr))∧f 8=vFS∧f 10=Value.int .u64 xFs∧f 80=vFK∧f 81=Value.int .i64 (len xFI)) (fun (q:Rs ((List Int)×(List Int)) Empty) e f w=>match q with|.go sFN=>e=Exit.exit 4∧(∃ H:GH,∃ vFO:Value,∃ nFP:Nat,∃ csFQ:List Value,∃ vFS:Value,∃ nFT:Nat,∃ csFU:List Value,St Ha wa H w [.box b45 83 [v42],.row 87 1 v42 n43 cs53,.row 3 1 vFO nFP csFQ,.rowo 63 1 vFS nFT csFU]∧Inc HFd H∧Els (up wa.heap.size H) eI 1 csFQ sFN.1∧Els (up wa.heap.size H) (eN .u64) 1 csFU sFN.2∧f 6=vFO∧f 7=Value.pointer (some (⟨b45,0,none⟩:Addr))∧f 8=vFS)|.rt x=>x.elim) hq ⟨_,_,_,_,_,_,_,SFA,(Inc.rfl _),elsF8,elsFB,rfl,kFi,kFj,rfl,rfl,rfl,rfl⟩ ?_ ?_) ?_
     ·
      clear hp hq
      rintro iFN yFM sFN fG0 wFZ ⟨HFW,vFO,nFP,csFQ,vFS,nFT,csFU,SFX,iFY,elsFR,elsFV,kG1,kG2,kG3,kG4,kG5,kG6,kG7⟩ hxFN oH1 hp
      refine FW.seq (FW.region ?_)
      refine FL.v (E.lssT kG1 kG7 (zaq hxFN)) ?_
      refine FL.nil (FW.seq ?_)
      refine FW.condT rfl rfl ?_
      refine FW.skip (FW.seq (FW.block (FW.seq (FW.region ?_))))
      obtain ⟨pG8,csG9,ptGa,lGb,atGc,relGd⟩:=hFL.at (zak hxFN)
      obtain rfl:=eN_open relGd
      refine FL.v (E.indexAddr te87 kG6 kG1 ptGa) ?_
      refine FL.v (E.load rfl (zae Tryz.isAgg63 ((atGc.mono (upI.tr (iFf.tr iFY))).now SFX.sl) rfl)) ?_
      refine FL.v (E.assign (v:=Value.int .u64 yFM) rfl) ?_
      refine FL.nil (FW.seq (FW.region ?_))
      refine FL.v (E.move kG2) ?_
      refine FL.v (E.move (v:=Value.int .u64 yFM) rfl) ?_
      obtain ⟨xGk,hxGl,hp⟩:=bnd hp
      obtain ⟨pGe,csGf,ptGg,lGh,atGi,relGj⟩:=SFX.row_at (i:=2) rfl elsFR (by decide) hxGl
      obtain rfl:=eI_open relGj
      refine FL.v (E.indexAddr te45 rfl rfl ptGg) ?_
      refine FL.v (E.load rfl (zae Tryz.isAgg3 atGi rfl)) ?_
      refine FL.v (E.lss rfl rfl) ?_
      refine FL.nil ?_
      rcases ifB hp with ⟨cGm,hp⟩|⟨cGm,hp⟩
      ·
       refine FW.condT rfl cGm ?_
       refine FW.seq (FW.region ?_)
       refine FL.v (E.move kG2) ?_
       refine FL.v (E.move (v:=Value.int .u64 yFM) rfl) ?_
       refine FL.v (E.move kG2) ?_
       refine FL.v (E.move kG5) ?_
       obtain ⟨xGt,hxGu,hp⟩:=bnd hp
       obtain ⟨pGn,csGo,ptGp,lGq,atGr,relGs⟩:=SFX.row_at (i:=2) rfl elsFR (by decide) hxGu
       obtain rfl:=eI_open relGs
       refine FL.v (E.indexAddr te45 rfl rfl ptGp) ?_
       refine FL.v (E.load rfl (zae Tryz.isAgg3 atGr rfl)) ?_
       refine FL.v (E.add rfl rfl) ?_
       obtain ⟨xGB,hxGC,hp⟩:=bnd hp
       obtain ⟨pGv,csGw,ptGx,lGy,atGz,relGA⟩:=SFX.row_at (i:=2) rfl elsFR (by decide) hxGC
       obtain rfl:=eI_open relGA
       refine FL.v (E.indexAddr te45 rfl rfl ptGx) ?_
       obtain ⟨xsGG,hputGH,hp⟩:=bnd hp
       obtain ⟨wGD,csGJ,runGE,SGF,elsGI,ceGK⟩:=SFX.putEls (P:=Tryz.prog) (t:=3) (i:=2) rfl elsFR hputGH ptGx Tryz.sizeOf3 (u:=Value.int .i64 (wr (xGt + 1))) (c:=[Value.int .i64 (wr (xGt + 1))]) rfl rfl (zab rfl zad) rfl
       have SGF:St Ha wa HFW wGD [.box b45 83 [v42],.row 87 1 v42 n43 cs53,.row 3 1 vFO nFP csGJ,.rowo 63 1 vFS nFT csFU]:=SGF
       refine FL.act rfl rfl (E.store rfl rfl runGE) ?_
       refine FL.nil (FW.region ?_)
       refine FL.v (E.move kG4) ?_
       refine FL.v (E.move (v:=Value.int .u64 yFM) rfl) ?_
       obtain ⟨vGL,wGM,runGN,SGO⟩:=SGF.buildSlice (P:=Tryz.prog) te87 [Value.int .u64 yFM] (parts:=#[(0,Value.int .u64 yFM)]) (cells:=[Value.int .u64 yFM]) rfl (zaH rfl zaw) (zaG rfl zav) (zab rfl zad) (Nat.le_of_ble_eq_true rfl)
       have elsGP:Els (up wa.heap.size HFW) (eN .u64) 1 [Value.int .u64 yFM] [yFM]:=(Els.snoc (H:=(up wa.heap.size HFW)) (E:=(eN .u64)) (k:=1) (c:=[Value.int .u64 yFM]) (x:=yFM) Els.nil rfl rfl)
       refine FL.v (E.buildSlice (B1 rfl) runGN) ?_
       obtain ⟨xsGQ,hzGR,hp⟩:=bnd hp
       obtain ⟨vGS,wGV,nGT,csGU,runGW,SGX,elsGY,ceGZ⟩:=SGO.appendQ (P:=Tryz.prog) te87 (i:=4) (j:=0) rfl elsFV rfl elsGP hzGR
       have SGX:St Ha wa HFW wGV [.row 63 1 vGL 1 [Value.int .u64 yFM],.box b45 83 [v42],.row 87 1 v42 n43 cs53,.row 3 1 vFO nFP csGJ,.rowo 63 1 vGS nGT csGU]:=SGX
       have SH0:St Ha wa HFW wGV [.box b45 83 [v42],.row 87 1 v42 n43 cs53,.row 3 1 vFO nFP csGJ,.rowo 63 1 vGS nGT csGU]:=SGX.drop 0
       refine FL.v (E.append rfl rfl runGW) ?_
       refine FL.v (E.assign (v:=vGS) rfl) ?_
       refine FL.nil (FW.region ?_)
       refine FL.v (E.add kG1 rfl) ?_
       refine FL.v (E.move (v:=Value.int .i64 (wr (((iFN:Nat):Int) + 1))) rfl) ?_
       refine FL.nil ?_
       obtain rfl:=Option.some.inj hp
       exact ⟨rfl,⟨_,_,_,_,_,_,_,SH0,iFY,elsGI,elsGY,(zam rfl (zal hxFN) (hFL.mono (upI.tr (iFf.tr iFY))).le),kG2,kG3,rfl,kG5,kG6,kG7⟩⟩
      ·
       refine FW.condF rfl cGm ?_
       refine FW.skip (FW.region ?_)
       refine FL.v (E.add kG1 rfl) ?_
       refine FL.v (E.move (v:=Value.int .i64 (wr (((iFN:Nat):Int) + 1))) rfl) ?_
       refine FL.nil ?_
       obtain rfl:=Option.some.inj hp
       exact ⟨rfl,⟨_,_,_,_,_,_,_,SFX,iFY,elsFR,elsFV,(zam rfl (zal hxFN) (hFL.mono (upI.tr (iFf.tr iFY))).le),kG2,kG3,kG4,kG5,kG6,kG7⟩⟩
     ·
      clear hp hq
      rintro sFN fHe wHd ⟨HHa,vFO,nFP,csFQ,vFS,nFT,csFU,SHb,iHc,elsFR,elsFV,kHf,kHg,kHh,kHi,kHj,kHk,kHl⟩
      refine FW.seq (FW.region ?_)
      refine FL.v (E.lss kHf kHl) ?_
      refine FL.nil (FW.seq ?_)
      refine FW.condF rfl zar ?_
      refine FW.exit ?_
      exact ⟨nofun,rfl,⟨_,_,_,_,_,_,_,SHb,iHc,elsFR,elsFV,kHg,kHh,kHi⟩⟩
     ·
      clear hq
      intro e fH6 wH5 hD
      rcases qFN with sFN|xFN
      ·
       obtain ⟨rfl,hD⟩:=hD
       obtain ⟨HH2,vFO,nFP,csFQ,vFS,nFT,csFU,SH3,iH4,elsFR,elsFV,kH7,kH8,kH9⟩:=hD
       replace hp:=el_go hp
       obtain rfl:=Option.some.inj hp
       exact ⟨rfl,⟨_,_,_,_,_,_,_,SH3,(iFf.tr iH4),elsFR,elsFV,kH7,kH8,kH9⟩⟩
      ·
       exact xFN.elim
    ·
     refine FW.condF rfl cFl ?_
     refine FW.exit ?_
     obtain rfl:=Option.some.inj hp
     exact ⟨nofun,rfl,⟨_,_,_,_,_,_,_,SFe,iFf,elsF8,elsFc,kFi⟩⟩
   ·
    clear hq
    intro e fHr wHq hD
    rcases qF4 with sF4|xF4
    ·
     obtain ⟨rfl,hD⟩:=hD
     obtain ⟨HHn,vF5,nF6,csF7,vF9,nFa,csFb,SHo,iHp,elsF8,elsFc,kHs⟩:=hD
     replace hp:=el_go hp
     refine FW.seq (FW.region ?_)
     refine FL.v (E.move kHs) ?_
     refine FL.v (E.assign (v:=vF5) rfl) ?_
     refine FL.nil ?_
     refine FW.ret ?_
     obtain rfl:=Option.some.inj hp
     exact ⟨.inr rfl,res1 rfl rfl ⟨_,_,_,_,rfl,(SHo.sel [2] (by decide) rfl),elsF8⟩⟩
    ·
     exact xF4.elim
  ·
   exact x52.elim

set_option maxHeartbeats 4000000 in
theorem w_impl_LeastSpace {Ha:GH} {wa:World} (hs:Sl Ha wa) (a0:Cnf) (v0_1:Value) (p0_1:RSl Ha (eL eI 1) 1 v0_1 a0.clauses) {r:(Int×Bool)} (hp:(PF.zcK a0)=some r) :
  Calls Tryz.prog 12 #[Value.agg #[Value.int .i64 a0.vars,v0_1]] wa (Sc Ha wa (Value.tuple #[Value.int .i64 r.1,Value.bool r.2])):=by
 unfold PF.zcK at hp
 have S0:=St.init hs
 refine zag (N:=31) (args:=[Value.agg #[Value.int .i64 a0.vars,v0_1]]) Tryz.func12 rfl rfl rfl ?_
 refine FW.seq (FW.region ?_)
 obtain ⟨b21,w22,run23,S24⟩:=S0.box (P:=Tryz.prog) 28 [Value.int .i64 a0.vars,v0_1] (v:=Value.agg #[Value.int .i64 a0.vars,v0_1]) rfl (zab rfl (zab p0_1.one zad))
 refine FL.v (E.box rfl run23) ?_
 obtain ⟨H25,S26,i27,at28⟩:=S24.sealBox (i:=0) (l':=[]) rfl rfl
 refine FL.v (E.assign (v:=Value.int .i64 0) rfl) ?_
 refine FL.v (E.assign (v:=Value.bool false) rfl) ?_
 refine FL.nil (FW.seq (FW.region ?_))
 refine FL.v (E.load rfl (zax Tryz.isAgg28 Tryz.sizeOf28 (at28.now S26.sl) rfl)) ?_
 obtain ⟨r29,hr30,hp⟩:=bnd hp
 refine FL.call rfl rfl rfl (E.call Tryz.call25 (A1 rfl)) (w_impl_derivable S26.sl a0 v0_1 (p0_1.mono i27) hr30) ?_
 rintro e w32 ⟨H31,v35,n36,cs37,rfl,r34,els38,nd39⟩
 refine ⟨_,rfl,?_⟩
 have nv40:New H25 cs37:=New.of_up S26.sl els38.dom
 have els38:=els38.mono (up_le S26.size)
 have S33:=S26.join (l':=[.row 45 1 v35 n36 cs37]) r34 rfl
 refine FL.v (E.move (v:=Value.tuple #[v35,Value.bool r29.2]) rfl) ?_
 refine FL.v (E.extract (i:=0) rfl rfl) ?_
 refine FL.v (E.extract (i:=1) rfl rfl) ?_
 refine FL.v (E.assign (v:=v35) rfl) ?_
 refine FL.v (E.assign (v:=Value.bool r29.2) rfl) ?_
 refine FL.nil (FW.seq (FW.seq (FW.region ?_)))
 refine FL.v (E.move (v:=Value.bool r29.2) rfl) ?_
 refine FL.v (E.not rfl) ?_
 refine FL.nil ?_
 rcases ifB hp with ⟨c41,hp⟩|⟨c41,hp⟩
 ·
  refine FW.condT rfl c41 ?_
  refine FW.seq (FW.region ?_)
  refine FL.v (E.assign (v:=Value.int .i64 0) rfl) ?_
  refine FL.v (E.assign (v:=Value.bool false) rfl) ?_
  refine FL.nil ?_
  refine FW.ret ?_
  obtain rfl:=Option.some.inj hp
  exact ⟨.inr rfl,res2 rfl rfl rfl ⟨rfl,S33.back⟩⟩
 ·
  refine FW.condF rfl c41 ?_
  refine FW.skip (FW.seq (FW.region ?_))
  refine FL.v (E.load rfl (zax Tryz.isAgg28 Tryz.sizeOf28 ((at28.mono r34.run.inc).now S33.sl) rfl)) ?_
  refine FL.v (E.move (v:=v35) rfl) ?_
  obtain ⟨H42,S43,i44,ns47,nv46⟩:=S33.sealRowN (i:=0) (l':=[]) rfl els38 nd39 (by decide) rfl
  have h45:=ns47.rsl
  obtain ⟨r48,hr49,hp⟩:=bnd hp
  refine FL.call rfl rfl rfl (E.call Tryz.call27 (A2 rfl rfl)) (w_impl_spacesOf S43.sl a0 v0_1 (p0_1.mono ((i27.tr r34.run.inc).tr i44)) v35 r29.1 (h45.mono upI) hr49) ?_
  rintro e w51 ⟨H50,v54,rfl,r53,h55⟩
  refine ⟨_,rfl,?_⟩
  have S52:=S43.call r53
  refine FL.v (E.assign (v:=v54) rfl) ?_
  refine FL.nil (FW.seq (FW.seq (FW.region ?_)))
  refine FL.v (E.assign (v:=Value.int .i64 1) rfl) ?_
  refine FL.nil ?_
  obtain ⟨q56,hq,hp⟩:=bndR hp
  refine FW.block ?_
  refine FW.mono (FW.iter (S:=Int) (X:=(Int×Bool)) (fun (s56:Int) f w=>∃ H:GH,St Ha wa H w []∧Inc H50 H∧f 4=v35∧f 6=v54∧f 7=Value.int .i64 s56) (fun q e f w=>match q with|.go s56=>e=Exit.exit 0∧(∃ H:GH,St Ha wa H w []∧Inc H50 H)|.rt x=>((e=Exit.ret)∧(fun e f w=>(e=Exit.normal∨e=Exit.ret)∧∀ a,Fr (δ:=[]) 31 a f→∃ v,(results Tryz.f12 a.tmps).run Tryz.prog w=.ok v w∧(Sc Ha wa (Value.tuple #[Value.int .i64 x.1,Value.bool x.2])) (.returned v) w) e f w)) hq ⟨_,S52,(Inc.rfl _),rfl,rfl,rfl⟩ ?_) ?_
  ·
   clear hp hq
   rintro s56 fA3 wA2 ⟨H99,SA0,iA1,kA4,kA5,kA6⟩ oAF hp
   refine FW.seq (FW.seq (FW.region ?_))
   refine FL.v (E.move kA6) ?_
   refine FL.v (E.move kA4) ?_
   refine FL.v (E.lenP te22 rfl h45) ?_
   refine FL.v (E.leq rfl rfl) ?_
   refine FL.nil ?_
   rcases ifB hp with ⟨cA7,hp⟩|⟨cA7,hp⟩
   ·
    refine FW.condT rfl cA7 ?_
    refine FW.skip (FW.seq (FW.block (FW.seq ?_)))
    obtain ⟨yA8,hy109,hp⟩:=bnd hp
    rw [hy109] at h55
    obtain ⟨qAa,rfl,vAb,vAd,vAf,hAc,hAe,hAg,atAi⟩:=h55
    have nvAh:New H42 [vAf]:=New.of_up S43.sl hAg.dom
    have hAg:=hAg.mono (up_le S43.size)
    refine FW.region ?_
    refine FL.v (E.move kA5) ?_
    refine FL.v (E.move kA6) ?_
    obtain ⟨rAj,hrAk,hp⟩:=bnd hp
    refine FL.call rfl rfl rfl (E.call Tryz.call28 (A2 rfl rfl)) (w_impl_spaces_left SA0.sl qAa yA8 vAb vAd vAf (hAc.mono iA1) (hAe.mono iA1) (hAg.mono (upI.tr iA1)) (atAi.mono iA1) s56 hrAk) ?_
    rintro e wAm ⟨HAl,vAp,nAq,csAr,rfl,rAo,elsAs⟩
    refine ⟨_,rfl,?_⟩
    have elsAs:=elsAs.mono (up_le SA0.size)
    have SAn:=SA0.join (l':=[.row 3 1 vAp nAq csAr]) rAo rfl
    obtain ⟨xAz,hxAA,hp⟩:=bnd hp
    obtain ⟨pAt,csAu,ptAv,lAw,atAx,relAy⟩:=SAn.row_at (i:=0) rfl elsAs (by decide) hxAA
    obtain rfl:=eI_open relAy
    refine FL.v (E.indexAddr te45 rfl rfl ptAv) ?_
    refine FL.v (E.load rfl (zae Tryz.isAgg3 atAx rfl)) ?_
    refine FL.call rfl rfl rfl (E.call Tryz.call26 (A3 rfl rfl rfl)) (zdb SAn.sl xAz 0 300) ?_
    rintro e wAB ⟨rfl,rAC⟩
    refine ⟨_,rfl,?_⟩
    have SAD:=SAn.call rAC
    refine FL.nil ?_
    rcases ifB hp with ⟨cAE,hp⟩|⟨cAE,hp⟩
    ·
     refine FW.condT rfl cAE ?_
     refine FW.seq (FW.region ?_)
     refine FL.v (E.move kA6) ?_
     refine FL.v (E.assign (v:=Value.int .i64 s56) rfl) ?_
     refine FL.v (E.assign (v:=Value.bool true) rfl) ?_
     refine FL.nil ?_
     refine FW.ret ?_
     obtain rfl:=Option.some.inj hp
     exact ⟨nofun,rfl,⟨.inr rfl,res2 rfl rfl rfl ⟨rfl,SAD.back⟩⟩⟩
    ·
     refine FW.condF rfl cAE ?_
     refine FW.skip (FW.region ?_)
     refine FL.v (E.move kA6) ?_
     refine FL.v (E.add rfl rfl) ?_
     refine FL.v (E.assign (v:=Value.int .i64 (wr (s56 + 1))) rfl) ?_
     refine FL.nil ?_
     obtain rfl:=Option.some.inj hp
     exact ⟨rfl,⟨_,(SAD.sel [] (by decide) rfl),(iA1.tr rAo.run.inc),kA4,kA5,rfl⟩⟩
   ·
    refine FW.condF rfl cA7 ?_
    refine FW.exit ?_
    obtain rfl:=Option.some.inj hp
    exact ⟨nofun,rfl,⟨_,SA0,iA1⟩⟩
  ·
   clear hq
   intro e fAK wAJ hD
   rcases q56 with s56|x56
   ·
    obtain ⟨rfl,hD⟩:=hD
    obtain ⟨HAG,SAH,iAI⟩:=hD
    replace hp:=el_go hp
    refine FW.seq (FW.region ?_)
    refine FL.v (E.assign (v:=Value.int .i64 0) rfl) ?_
    refine FL.v (E.assign (v:=Value.bool false) rfl) ?_
    refine FL.nil ?_
    refine FW.ret ?_
    obtain rfl:=Option.some.inj hp
    exact ⟨.inr rfl,res2 rfl rfl rfl ⟨rfl,SAH.back⟩⟩
   ·
    obtain ⟨he,hL⟩:=hD
    replace hp:=el_rt hp
    obtain rfl:=Option.some.inj hp
    subst he
    exact hL

set_option maxHeartbeats 4000000 in
theorem w_laws_eqIntS {Ha:GH} {wa:World} (hs:Sl Ha wa) (v0:Value) (a0:List Int) (p0:RSl Ha eI 1 v0 a0) (v1:Value) (a1:List Int) (p1:RSl Ha eI 1 v1 a1) {r:Bool} (hp:(PF.zcL a0 a1)=some r) :
  Calls Tryz.prog 57 #[v0,v1] wa (Sc Ha wa (Value.bool r)):=by
 unfold PF.zcL at hp
 have S0:=St.init hs
 refine zag (N:=26) (args:=[v0,v1]) Tryz.func57 rfl rfl rfl ?_
 refine FW.seq (FW.region ?_)
 refine FL.v (E.assign (v:=Value.bool false) rfl) ?_
 refine FL.nil (FW.seq (FW.seq (FW.region ?_)))
 refine FL.v (E.move (v:=v0) rfl) ?_
 refine FL.v (E.lenP te45 rfl p0) ?_
 refine FL.v (E.move (v:=v1) rfl) ?_
 refine FL.v (E.lenP te45 rfl p1) ?_
 refine FL.v (E.neq rfl rfl) ?_
 refine FL.nil ?_
 rcases ifB hp with ⟨c21,hp⟩|⟨c21,hp⟩
 ·
  refine FW.condT rfl c21 ?_
  refine FW.seq (FW.region ?_)
  refine FL.v (E.assign (v:=Value.bool false) rfl) ?_
  refine FL.nil ?_
  refine FW.ret ?_
  obtain rfl:=Option.some.inj hp
  exact ⟨.inr rfl,res1 rfl rfl ⟨rfl,S0.back⟩⟩
 ·
  refine FW.condF rfl c21 ?_
  refine FW.skip (FW.seq (FW.seq (FW.region ?_)))
  refine FL.v (E.assign (v:=Value.int .i64 0) rfl) ?_
  refine FL.nil ?_
  obtain ⟨q23,hq,hp⟩:=bndR hp
  refine FW.block ?_
  refine FW.mono (FW.forL (S:=Unit) (X:=Bool) (fun (i23:Nat) (s23:Unit) f w=>∃ H:GH,St Ha wa H w []∧Inc Ha H∧f 5=Value.int .i64 ((i23:Nat):Int)∧f 0=v0∧f 1=v1) (fun q e f w=>match q with|.go s23=>e=Exit.exit 0∧(∃ H:GH,St Ha wa H w []∧Inc Ha H)|.rt x=>((e=Exit.ret)∧(fun e f w=>(e=Exit.normal∨e=Exit.ret)∧∀ a,Fr (δ:=[]) 26 a f→∃ v,(results Tryz.f57 a.tmps).run Tryz.prog w=.ok v w∧(Sc Ha wa (Value.bool x)) (.returned v) w) e f w)) hq ⟨_,S0,(Inc.rfl _),rfl,rfl,rfl⟩ ?_ ?_) ?_
  ·
   clear hp hq
   rintro i23 y22 s23 f55 w54 ⟨H51,S52,i53,k56,k57,k58⟩ hx23 o78 hp
   refine FW.seq (FW.seq (FW.region ?_))
   refine FL.v (E.move k56) ?_
   refine FL.v (E.move k57) ?_
   refine FL.v (E.lenP te45 rfl p0) ?_
   refine FL.v (E.lssT rfl rfl (zaq hx23)) ?_
   refine FL.nil ?_
   refine FW.condT rfl rfl ?_
   refine FW.skip (FW.seq (FW.block (FW.seq ?_)))
   refine FW.draw (fun w'=>Run w54.heap.size H51 w54 H51 w') (by kernel_rfl) (by kernel_rfl) (zaF S52.sl) ?_
   refine FD.val rfl rfl rfl (fun w' hw'=>(E.move k57)) ?_
   refine FD.val rfl rfl rfl (fun w' hw'=>(E.move k56)) ?_
   obtain ⟨p60,cs61,pt62,l63,at64,rel65⟩:=p0.at (zak hx23)
   obtain rfl:=eI_open rel65
   refine FD.val rfl rfl rfl (fun w' hw'=>(E.indexAddr te45 rfl rfl pt62)) ?_
   refine FD.val rfl rfl rfl (fun w' hw'=>(E.load rfl (zae Tryz.isAgg3 ((at64.mono i53).now (S52.call hw').sl) rfl))) ?_
   refine FD.val rfl rfl rfl (fun w' hw'=>(E.move k58)) ?_
   refine FD.val rfl rfl rfl (fun w' hw'=>(E.move k56)) ?_
   obtain ⟨x72,hx73,hp⟩:=bnd hp
   obtain ⟨p66,cs67,pt68,l69,at70,rel71⟩:=p1.at hx73
   obtain rfl:=eI_open rel71
   refine FD.val rfl rfl rfl (fun w' hw'=>(E.indexAddr te45 rfl rfl pt68)) ?_
   refine FD.val rfl rfl rfl (fun w' hw'=>(E.load rfl (zae Tryz.isAgg3 ((at70.mono i53).now (S52.call hw').sl) rfl))) ?_
   refine FD.val rfl rfl rfl (fun w' hw'=>(E.neq rfl rfl)) ?_
   refine FD.nil ?_
   intro w74 r76
   have S75:=S52.call r76
   rcases ifB hp with ⟨c77,hp⟩|⟨c77,hp⟩
   ·
    refine FW.condT rfl c77 ?_
    refine FW.seq (FW.region ?_)
    refine FL.v (E.assign (v:=Value.bool false) rfl) ?_
    refine FL.nil ?_
    refine FW.ret ?_
    obtain rfl:=Option.some.inj hp
    exact ⟨nofun,rfl,⟨.inr rfl,res1 rfl rfl ⟨rfl,S75.back⟩⟩⟩
   ·
    refine FW.condF rfl c77 ?_
    refine FW.skip (FW.region ?_)
    refine FL.v (E.move k56) ?_
    refine FL.v (E.add rfl rfl) ?_
    refine FL.v (E.assign (v:=Value.int .i64 (wr (((i23:Nat):Int) + 1))) rfl) ?_
    refine FL.nil ?_
    obtain rfl:=Option.some.inj hp
    exact ⟨rfl,⟨_,S75,i53,(zam rfl (zal hx23) (p0.mono i53).le),k57,k58⟩⟩
  ·
   clear hp hq
   rintro s23 f88 w87 ⟨H84,S85,i86,k89,k90,k91⟩
   refine FW.seq (FW.seq (FW.region ?_))
   refine FL.v (E.move k89) ?_
   refine FL.v (E.move k90) ?_
   refine FL.v (E.lenP te45 rfl p0) ?_
   refine FL.v (E.lss rfl rfl) ?_
   refine FL.nil ?_
   refine FW.condF rfl zar ?_
   refine FW.exit ?_
   exact ⟨nofun,rfl,⟨_,S85,i86⟩⟩
  ·
   clear hq
   intro e f83 w82 hD
   rcases q23 with s23|x23
   ·
    obtain ⟨rfl,hD⟩:=hD
    obtain ⟨H79,S80,i81⟩:=hD
    replace hp:=el_go hp
    refine FW.seq (FW.region ?_)
    refine FL.v (E.assign (v:=Value.bool true) rfl) ?_
    refine FL.nil ?_
    refine FW.ret ?_
    obtain rfl:=Option.some.inj hp
    exact ⟨.inr rfl,res1 rfl rfl ⟨rfl,S80.back⟩⟩
   ·
    obtain ⟨he,hL⟩:=hD
    replace hp:=el_rt hp
    obtain rfl:=Option.some.inj hp
    subst he
    exact hL

set_option maxHeartbeats 4000000 in
theorem w_laws_eqIntSS {Ha:GH} {wa:World} (hs:Sl Ha wa) (v0:Value) (a0:List (List Int)) (p0:RSl Ha (eL eI 1) 1 v0 a0) (v1:Value) (a1:List (List Int)) (p1:RSl Ha (eL eI 1) 1 v1 a1) {r:Bool} (hp:(PF.zc6 a0 a1)=some r) :
  Calls Tryz.prog 29 #[v0,v1] wa (Sc Ha wa (Value.bool r)):=by
 unfold PF.zc6 at hp
 have S0:=St.init hs
 refine zag (N:=27) (args:=[v0,v1]) Tryz.func29 rfl rfl rfl ?_
 refine FW.seq (FW.region ?_)
 refine FL.v (E.assign (v:=Value.bool false) rfl) ?_
 refine FL.nil (FW.seq (FW.seq (FW.region ?_)))
 refine FL.v (E.move (v:=v0) rfl) ?_
 refine FL.v (E.lenP te22 rfl p0) ?_
 refine FL.v (E.move (v:=v1) rfl) ?_
 refine FL.v (E.lenP te22 rfl p1) ?_
 refine FL.v (E.neq rfl rfl) ?_
 refine FL.nil ?_
 rcases ifB hp with ⟨c21,hp⟩|⟨c21,hp⟩
 ·
  refine FW.condT rfl c21 ?_
  refine FW.seq (FW.region ?_)
  refine FL.v (E.assign (v:=Value.bool false) rfl) ?_
  refine FL.nil ?_
  refine FW.ret ?_
  obtain rfl:=Option.some.inj hp
  exact ⟨.inr rfl,res1 rfl rfl ⟨rfl,S0.back⟩⟩
 ·
  refine FW.condF rfl c21 ?_
  refine FW.skip (FW.seq (FW.seq (FW.region ?_)))
  refine FL.v (E.assign (v:=Value.int .i64 0) rfl) ?_
  refine FL.nil ?_
  obtain ⟨q23,hq,hp⟩:=bndR hp
  refine FW.block ?_
  refine FW.mono (FW.forL (S:=Unit) (X:=Bool) (fun (i23:Nat) (s23:Unit) f w=>∃ H:GH,St Ha wa H w []∧Inc Ha H∧f 5=Value.int .i64 ((i23:Nat):Int)∧f 0=v0∧f 1=v1) (fun q e f w=>match q with|.go s23=>e=Exit.exit 0∧(∃ H:GH,St Ha wa H w []∧Inc Ha H)|.rt x=>((e=Exit.ret)∧(fun e f w=>(e=Exit.normal∨e=Exit.ret)∧∀ a,Fr (δ:=[]) 27 a f→∃ v,(results Tryz.f29 a.tmps).run Tryz.prog w=.ok v w∧(Sc Ha wa (Value.bool x)) (.returned v) w) e f w)) hq ⟨_,S0,(Inc.rfl _),rfl,rfl,rfl⟩ ?_ ?_) ?_
  ·
   clear hp hq
   rintro i23 y22 s23 f61 w60 ⟨H57,S58,i59,k62,k63,k64⟩ hx23 o90 hp
   refine FW.seq (FW.seq (FW.region ?_))
   refine FL.v (E.move k62) ?_
   refine FL.v (E.move k63) ?_
   refine FL.v (E.lenP te22 rfl p0) ?_
   refine FL.v (E.lssT rfl rfl (zaq hx23)) ?_
   refine FL.nil ?_
   refine FW.condT rfl rfl ?_
   refine FW.skip (FW.seq (FW.block (FW.seq ?_)))
   refine FW.draw (fun w'=>Run w60.heap.size H57 w60 H57 w') (by kernel_rfl) (by kernel_rfl) (zaF S58.sl) ?_
   refine FD.val rfl rfl rfl (fun w' hw'=>(E.move k63)) ?_
   refine FD.val rfl rfl rfl (fun w' hw'=>(E.move k62)) ?_
   obtain ⟨p66,cs67,pt68,l69,at70,rel71⟩:=p0.at (zak hx23)
   obtain ⟨v72,rfl,h73⟩:=eL_open rel71
   refine FD.val rfl rfl rfl (fun w' hw'=>(E.indexAddr te22 rfl rfl pt68)) ?_
   refine FD.val rfl rfl rfl (fun w' hw'=>(E.load rfl (zae Tryz.isAgg45 ((at70.mono i59).now (S58.call hw').sl) rfl))) ?_
   refine FD.val rfl rfl rfl (fun w' hw'=>(E.move k64)) ?_
   refine FD.val rfl rfl rfl (fun w' hw'=>(E.move k62)) ?_
   obtain ⟨x80,hx81,hp⟩:=bnd hp
   obtain ⟨p74,cs75,pt76,l77,at78,rel79⟩:=p1.at hx81
   obtain ⟨v82,rfl,h83⟩:=eL_open rel79
   refine FD.val rfl rfl rfl (fun w' hw'=>(E.indexAddr te22 rfl rfl pt76)) ?_
   refine FD.val rfl rfl rfl (fun w' hw'=>(E.load rfl (zae Tryz.isAgg45 ((at78.mono i59).now (S58.call hw').sl) rfl))) ?_
   obtain ⟨r84,hr85,hp⟩:=bnd hp
   refine FD.call rfl rfl rfl (fun w' hw'=>(E.call Tryz.call57 (A2 rfl rfl))) (fun w' hw'=>Calls.cls hw' (w_laws_eqIntS (S58.call hw').sl v72 y22 (h73.mono i59) v82 x80 (h83.mono i59) hr85)) ?_
   refine FD.val rfl rfl rfl (fun w' hw'=>(E.not rfl)) ?_
   refine FD.nil ?_
   intro w86 r88
   have S87:=S58.call r88
   rcases ifB hp with ⟨c89,hp⟩|⟨c89,hp⟩
   ·
    refine FW.condT rfl c89 ?_
    refine FW.seq (FW.region ?_)
    refine FL.v (E.assign (v:=Value.bool false) rfl) ?_
    refine FL.nil ?_
    refine FW.ret ?_
    obtain rfl:=Option.some.inj hp
    exact ⟨nofun,rfl,⟨.inr rfl,res1 rfl rfl ⟨rfl,S87.back⟩⟩⟩
   ·
    refine FW.condF rfl c89 ?_
    refine FW.skip (FW.region ?_)
    refine FL.v (E.move k62) ?_
    refine FL.v (E.add rfl rfl) ?_
    refine FL.v (E.assign (v:=Value.int .i64 (wr (((i23:Nat):Int) + 1))) rfl) ?_
    refine FL.nil ?_
    obtain rfl:=Option.some.inj hp
    exact ⟨rfl,⟨_,S87,i59,(zam rfl (zal hx23) (p0.mono i59).le),k63,k64⟩⟩
  ·
   clear hp hq
   rintro s23 fA0 w99 ⟨H96,S97,i98,kA1,kA2,kA3⟩
   refine FW.seq (FW.seq (FW.region ?_))
   refine FL.v (E.move kA1) ?_
   refine FL.v (E.move kA2) ?_
   refine FL.v (E.lenP te22 rfl p0) ?_
   refine FL.v (E.lss rfl rfl) ?_
   refine FL.nil ?_
   refine FW.condF rfl zar ?_
   refine FW.exit ?_
   exact ⟨nofun,rfl,⟨_,S97,i98⟩⟩
  ·
   clear hq
   intro e f95 w94 hD
   rcases q23 with s23|x23
   ·
    obtain ⟨rfl,hD⟩:=hD
    obtain ⟨H91,S92,i93⟩:=hD
    replace hp:=el_go hp
    refine FW.seq (FW.region ?_)
    refine FL.v (E.assign (v:=Value.bool true) rfl) ?_
    refine FL.nil ?_
    refine FW.ret ?_
    obtain rfl:=Option.some.inj hp
    exact ⟨.inr rfl,res1 rfl rfl ⟨rfl,S92.back⟩⟩
   ·
    obtain ⟨he,hL⟩:=hD
    replace hp:=el_rt hp
    obtain rfl:=Option.some.inj hp
    subst he
    exact hL

theorem w_laws_eqCnf {Ha:GH} {wa:World} (hs:Sl Ha wa) (a0:Cnf) (v0_1:Value) (p0_1:RSl Ha (eL eI 1) 1 v0_1 a0.clauses) (a1:Cnf) (v1_1:Value) (p1_1:RSl Ha (eL eI 1) 1 v1_1 a1.clauses) {r:Bool} (hp:(PF.zcM a0 a1)=some r) :
  Calls Tryz.prog 10 #[Value.agg #[Value.int .i64 a0.vars,v0_1],Value.agg #[Value.int .i64 a1.vars,v1_1]] wa (Sc Ha wa (Value.bool r)):=by
 unfold PF.zcM at hp
 have S0:=St.init hs
 refine zag (N:=16) (args:=[Value.agg #[Value.int .i64 a0.vars,v0_1],Value.agg #[Value.int .i64 a1.vars,v1_1]]) Tryz.func10 rfl rfl rfl ?_
 refine FW.seq (FW.region ?_)
 obtain ⟨b21,w22,run23,S24⟩:=S0.box (P:=Tryz.prog) 28 [Value.int .i64 a0.vars,v0_1] (v:=Value.agg #[Value.int .i64 a0.vars,v0_1]) rfl (zab rfl (zab p0_1.one zad))
 refine FL.v (E.box rfl run23) ?_
 obtain ⟨H25,S26,i27,at28⟩:=S24.sealBox (i:=0) (l':=[]) rfl rfl
 obtain ⟨b29,w30,run31,S32⟩:=S26.box (P:=Tryz.prog) 28 [Value.int .i64 a1.vars,v1_1] (v:=Value.agg #[Value.int .i64 a1.vars,v1_1]) rfl (zab rfl (zab p1_1.one zad))
 refine FL.v (E.box rfl run31) ?_
 obtain ⟨H33,S34,i35,at36⟩:=S32.sealBox (i:=0) (l':=[]) rfl rfl
 refine FL.v (E.assign (v:=Value.bool false) rfl) ?_
 refine FL.nil (FW.seq (FW.seq (FW.region ?_)))
 refine FL.v (E.fieldAddr za0 rfl) ?_
 refine FL.v (E.load rfl (zah Tryz.isAgg3 ((at28.mono i35).now S34.sl) rfl)) ?_
 refine FL.v (E.fieldAddr za0 rfl) ?_
 refine FL.v (E.load rfl (zah Tryz.isAgg3 (at36.now S34.sl) rfl)) ?_
 refine FL.v (E.neq rfl rfl) ?_
 refine FL.nil ?_
 rcases ifB hp with ⟨c37,hp⟩|⟨c37,hp⟩
 ·
  refine FW.condT rfl c37 ?_
  refine FW.seq (FW.region ?_)
  refine FL.v (E.assign (v:=Value.bool false) rfl) ?_
  refine FL.nil ?_
  refine FW.ret ?_
  obtain rfl:=Option.some.inj hp
  exact ⟨.inr rfl,res1 rfl rfl ⟨rfl,S34.back⟩⟩
 ·
  refine FW.condF rfl c37 ?_
  refine FW.skip (FW.seq (FW.seq (FW.region ?_)))
  refine FL.v (E.fieldAddr zaS rfl) ?_
  refine FL.v (E.load rfl (zah Tryz.isAgg22 ((at28.mono i35).now S34.sl) rfl)) ?_
  refine FL.v (E.fieldAddr zaS rfl) ?_
  refine FL.v (E.load rfl (zah Tryz.isAgg22 (at36.now S34.sl) rfl)) ?_
  obtain ⟨r38,hr39,hp⟩:=bnd hp
  refine FL.call rfl rfl rfl (E.call Tryz.call29 (A2 rfl rfl)) (w_laws_eqIntSS S34.sl v0_1 a0.clauses (p0_1.mono (i27.tr i35)) v1_1 a1.clauses (p1_1.mono (i27.tr i35)) hr39) ?_
  rintro e w40 ⟨rfl,r41⟩
  refine ⟨_,rfl,?_⟩
  have S42:=S34.call r41
  refine FL.v (E.not rfl) ?_
  refine FL.nil ?_
  rcases ifB hp with ⟨c43,hp⟩|⟨c43,hp⟩
  ·
   refine FW.condT rfl c43 ?_
   refine FW.seq (FW.region ?_)
   refine FL.v (E.assign (v:=Value.bool false) rfl) ?_
   refine FL.nil ?_
   refine FW.ret ?_
   obtain rfl:=Option.some.inj hp
   exact ⟨.inr rfl,res1 rfl rfl ⟨rfl,S42.back⟩⟩
  ·
   refine FW.condF rfl c43 ?_
   refine FW.skip (FW.seq (FW.region ?_))
   refine FL.v (E.assign (v:=Value.bool true) rfl) ?_
   refine FL.nil ?_
   refine FW.ret ?_
   obtain rfl:=Option.some.inj hp
   exact ⟨.inr rfl,res1 rfl rfl ⟨rfl,S42.back⟩⟩

end Go.Proofs
