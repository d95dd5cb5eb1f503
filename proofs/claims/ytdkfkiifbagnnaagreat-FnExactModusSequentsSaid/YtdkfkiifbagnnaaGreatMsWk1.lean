/- Part of the walks and plain laws behind the claim: it proves helpers, under no condition beyond their own. -/
import Derived.Test.YtdkfkiifbagnnaaGreatMsLB
import Derived.Test.YtdkfkiifbagnnaaGreatMsSh
import Derived.Test.YtdkfkiifbagnnaaGreatMsPf
import Derived.Test.YtdkfkiifbagnnaaGreatProg
set_option linter.unusedVariables false
set_option maxRecDepth 100000
namespace Go.Proofs
open Go.Mr Go.Pu Go.PF Go.RowKit

def eCnf:Enc Cnf:=⟨fun H cs s=>∃ v0,cs=[Value.int .i64 s.vars,v0]∧RSl H (eL eI 1) 1 v0 s.clauses,fun hi ⟨v0,h,h0⟩=>⟨_,h,h0.mono hi⟩,by rintro H cs s ⟨v0,rfl,h0⟩;exact (zaa rfl (zaa h0.one zag)),by rintro H cs s ⟨v0,rfl,h0⟩ b hb;obtain ⟨u,hu,hn⟩:=mem_bl hb;simp only [List.mem_cons,List.not_mem_nil,or_false] at hu;rcases hu with rfl|rfl <;> first|(cases hn;done)|exact h0.dom b (zbi hn)⟩
def eSequent:Enc zad:=⟨fun H cs s=>∃ v0 v1,cs=[v0,v1]∧RSl H eS 1 v0 s.left∧RSl H eS 1 v1 s.right,fun hi ⟨v0,v1,h,h0,h1⟩=>⟨_,_,h,h0.mono hi,h1.mono hi⟩,by rintro H cs s ⟨v0,v1,rfl,h0,h1⟩;exact (zaa h0.one (zaa h1.one zag)),by rintro H cs s ⟨v0,v1,rfl,h0,h1⟩ b hb;obtain ⟨u,hu,hn⟩:=mem_bl hb;simp only [List.mem_cons,List.not_mem_nil,or_false] at hu;rcases hu with rfl|rfl <;> first|(cases hn;done)|exact h0.dom b (zbi hn)|exact h1.dom b (zbi hn)⟩
theorem eSequent_open {H:GH} {cs:List Value} {s:zad} (h:eSequent.rel H cs s):∃ v0 v1,cs=[v0,v1]∧RSl H eS 1 v0 s.left∧RSl H eS 1 v1 s.right:=h

def eSeqStep:Enc zac:=⟨fun H cs s=>∃ v0 v1,cs=[v0,v1,Value.int .i64 s.rule,Value.string s.main,Value.int .i64 s.a,Value.int .i64 s.b]∧RSl H eS 1 v0 s.seq.left∧RSl H eS 1 v1 s.seq.right,fun hi ⟨v0,v1,h,h0,h1⟩=>⟨_,_,h,h0.mono hi,h1.mono hi⟩,by rintro H cs s ⟨v0,v1,rfl,h0,h1⟩;exact (zaa h0.one (zaa h1.one (zaa rfl (zaa rfl (zaa rfl (zaa rfl zag)))))),by rintro H cs s ⟨v0,v1,rfl,h0,h1⟩ b hb;obtain ⟨u,hu,hn⟩:=mem_bl hb;simp only [List.mem_cons,List.not_mem_nil,or_false] at hu;rcases hu with rfl|rfl|rfl|rfl|rfl|rfl <;> first|(cases hn;done)|exact h0.dom b (zbi hn)|exact h1.dom b (zbi hn)⟩
theorem zaD {H:GH} {cs:List Value} {s:zac} (h:eSeqStep.rel H cs s):∃ v0 v1,cs=[v0,v1,Value.int .i64 s.rule,Value.string s.main,Value.int .i64 s.a,Value.int .i64 s.b]∧RSl H eS 1 v0 s.seq.left∧RSl H eS 1 v1 s.seq.right:=h

theorem zdo:LocE eSeqStep:=by rintro H H' cs x ⟨v0,v1,rfl,h0,h1⟩ hb;exact ⟨_,_,rfl,h0.only zaO.rel (fun b q=>hb b (bl_get (i:=0) rfl b q)),h1.only zaO.rel (fun b q=>hb b (bl_get (i:=1) rfl b q))⟩

def zcD (P:Program) (H:GH) (v:Value) (p:ByteArray→Option Bool):Prop :=
 ∀ (H':GH) (w':World),Inc H H'→Sl H' w'→∀ (x0:ByteArray) (r:Bool),p x0=some r →
  ∃ (fid:Nat) (cs:Array Value),v=Value.func (.func fid) #[] cs∧(∀ args w,(callFunc fid args).run P w=.ok (.enter fid args) w)∧Calls P fid (#[Value.string x0]++cs) w' (Sc H' w' (Value.bool r))
theorem zcD.mono {P:Program} {H H':GH} {v:Value} {p:ByteArray→Option Bool} (h:zcD P H v p) (hi:Inc H H'):zcD P H' v p :=
 fun H2 w2 h2=>h H2 w2 (hi.tr h2)

def zdp (P:Program) (H:GH) (v:Value) (p:zad→Option Bool):Prop :=
 ∀ (H':GH) (w':World),Inc H H'→Sl H' w'→∀ (x0:zad) (y0_0:Value) (_z0_0:RSl H' eS 1 y0_0 x0.left) (y0_1:Value) (_z0_1:RSl H' eS 1 y0_1 x0.right) (r:Bool),p x0=some r →
  ∃ (fid:Nat) (cs:Array Value),v=Value.func (.func fid) #[] cs∧(∀ args w,(callFunc fid args).run P w=.ok (.enter fid args) w)∧Calls P fid (#[Value.agg #[y0_0,y0_1]]++cs) w' (Sc H' w' (Value.bool r))
theorem zdp.mono {P:Program} {H H':GH} {v:Value} {p:zad→Option Bool} (h:zdp P H v p) (hi:Inc H H'):zdp P H' v p :=
 fun H2 w2 h2=>h H2 w2 (hi.tr h2)

def Fn_S_S_to_I (P:Program) (H:GH) (v:Value) (p:ByteArray→ByteArray→Option Int):Prop :=
 ∀ (H':GH) (w':World),Inc H H'→Sl H' w'→∀ (x0:ByteArray) (x1:ByteArray) (r:Int),p x0 x1=some r →
  ∃ (fid:Nat) (cs:Array Value),v=Value.func (.func fid) #[] cs∧(∀ args w,(callFunc fid args).run P w=.ok (.enter fid args) w)∧Calls P fid (#[Value.string x0,Value.string x1]++cs) w' (Sc H' w' (Value.int .i64 r))
theorem fa74_0 {cs c:List Value} (h:(cs.drop 0).take 2=c):∃ fields fd,Tryz.prog.underlying 74=some (.struct fields)∧fields[0]?=some fd∧(∀ w,(isAgg fd.type).run Tryz.prog w=.ok true w)∧(∀ w,(sizeOf fd.type).run Tryz.prog w=.ok 2 w)∧(cs.drop fd.offset).take 2=c:=⟨_,_,Tryz.underlying74,rfl,Tryz.isAgg68,Tryz.sizeOf68,h⟩
theorem te172:TE Tryz.prog 172 68 2 (.agg #[(.slice none 0 0),(.slice none 0 0)]):=⟨Tryz.underlying172,⟨Tryz.t68,Tryz.type68,rfl,rfl,by decide⟩,rfl,by decide⟩
theorem te181:TE Tryz.prog 181 22 1 (.slice none 0 0):=⟨Tryz.underlying181,⟨Tryz.t22,Tryz.type22,rfl,rfl,by decide⟩,rfl,by decide⟩
theorem te22:TE Tryz.prog 22 9 1 (.string ByteArray.empty):=⟨Tryz.underlying22,⟨Tryz.t9,Tryz.type9,rfl,rfl,by decide⟩,rfl,by decide⟩
theorem te24:TE Tryz.prog 24 74 6 (.agg #[(.slice none 0 0),(.slice none 0 0),(.int .i64 0),(.string ByteArray.empty),(.int .i64 0),(.int .i64 0)]):=⟨Tryz.underlying24,⟨Tryz.t74,Tryz.type74,rfl,rfl,by decide⟩,rfl,by decide⟩
theorem te32:TE Tryz.prog 32 79 6 (.agg #[(.slice none 0 0),(.slice none 0 0),(.int .i64 0),(.string ByteArray.empty),(.int .i64 0),(.int .i64 0)]):=⟨Tryz.underlying32,⟨Tryz.t79,Tryz.type79,rfl,rfl,by decide⟩,rfl,by decide⟩
theorem te41:TE Tryz.prog 41 5 1 (.int .u8 0):=⟨Tryz.underlying41,⟨Tryz.t5,Tryz.type5,rfl,rfl,by decide⟩,rfl,by decide⟩
theorem te82:TE Tryz.prog 82 3 1 (.int .i64 0):=⟨Tryz.underlying82,⟨Tryz.t3,Tryz.type3,rfl,rfl,by decide⟩,rfl,by decide⟩
theorem tf109_0:TF Tryz.prog 109 0 0:=⟨_,_,_,Tryz.underlying109,rfl,rfl,Tryz.sizeOf5,by decide⟩
theorem tf109_1:TF Tryz.prog 109 1 1:=⟨_,_,_,Tryz.underlying109,rfl,rfl,Tryz.sizeOf101,by decide⟩
theorem tf109_2:TF Tryz.prog 109 2 2:=⟨_,_,_,Tryz.underlying109,rfl,rfl,Tryz.sizeOf101,by decide⟩
theorem zaM:TF Tryz.prog 109 3 3:=⟨_,_,_,Tryz.underlying109,rfl,rfl,Tryz.sizeOf9,by decide⟩
theorem zau:TF Tryz.prog 68 0 0:=⟨_,_,_,Tryz.underlying68,rfl,rfl,Tryz.sizeOf22,by decide⟩
theorem zas:TF Tryz.prog 68 1 1:=⟨_,_,_,Tryz.underlying68,rfl,rfl,Tryz.sizeOf22,by decide⟩
theorem zap:TF Tryz.prog 74 0 0:=⟨_,_,_,Tryz.underlying74,rfl,rfl,Tryz.sizeOf68,by decide⟩
theorem zaT:TF Tryz.prog 74 1 2:=⟨_,_,_,Tryz.underlying74,rfl,rfl,Tryz.sizeOf3,by decide⟩
theorem zaZ:TF Tryz.prog 74 2 3:=⟨_,_,_,Tryz.underlying74,rfl,rfl,Tryz.sizeOf9,by decide⟩
theorem zaE:TF Tryz.prog 74 3 4:=⟨_,_,_,Tryz.underlying74,rfl,rfl,Tryz.sizeOf3,by decide⟩
theorem zaH:TF Tryz.prog 74 4 5:=⟨_,_,_,Tryz.underlying74,rfl,rfl,Tryz.sizeOf3,by decide⟩
theorem tf77_0:TF Tryz.prog 77 0 0:=⟨_,_,_,Tryz.underlying77,rfl,rfl,Tryz.sizeOf22,by decide⟩
theorem tf77_1:TF Tryz.prog 77 1 1:=⟨_,_,_,Tryz.underlying77,rfl,rfl,Tryz.sizeOf22,by decide⟩
theorem tf79_0:TF Tryz.prog 79 0 0:=⟨_,_,_,Tryz.underlying79,rfl,rfl,Tryz.sizeOf77,by decide⟩
theorem tf79_1:TF Tryz.prog 79 1 2:=⟨_,_,_,Tryz.underlying79,rfl,rfl,Tryz.sizeOf3,by decide⟩
theorem tf79_2:TF Tryz.prog 79 2 3:=⟨_,_,_,Tryz.underlying79,rfl,rfl,Tryz.sizeOf9,by decide⟩
theorem tf79_3:TF Tryz.prog 79 3 4:=⟨_,_,_,Tryz.underlying79,rfl,rfl,Tryz.sizeOf3,by decide⟩
theorem tf79_4:TF Tryz.prog 79 4 5:=⟨_,_,_,Tryz.underlying79,rfl,rfl,Tryz.sizeOf3,by decide⟩
theorem zav:TF Tryz.prog 92 0 0:=⟨_,_,_,Tryz.underlying92,rfl,rfl,Tryz.sizeOf24,by decide⟩
theorem zaU:TF Tryz.prog 92 1 1:=⟨_,_,_,Tryz.underlying92,rfl,rfl,Tryz.sizeOf4,by decide⟩
set_option maxHeartbeats 4000000 in
theorem zd0 {Ha:GH} {wa:World} (hs:Sl Ha wa) (v0:Value) (a0:List ByteArray) (p0:RSl Ha eS 1 v0 a0) (a1:Int) {r:Int} (hp:(PF.zcg a0 a1)=some r) :
  Calls Tryz.prog 9 #[v0,Value.int .i64 a1] wa (Sc Ha wa (Value.int .i64 r)):=by
 unfold PF.zcg at hp
 have S0:=St.init hs
 refine zaj (N:=28) (args:=[v0,Value.int .i64 a1]) Tryz.func9 rfl rfl rfl ?_
 refine FW.seq (FW.region ?_)
 refine FL.v (E.assign (v:=Value.int .i64 0) rfl) ?_
 refine FL.nil (FW.seq (FW.region ?_))
 refine FL.v (E.move (v:=Value.int .i64 a1) rfl) ?_
 refine FL.v (E.move (v:=v0) rfl) ?_
 refine FL.v (E.lenP te22 rfl p0) ?_
 refine FL.v (E.sub rfl rfl) ?_
 refine FL.v (E.assign (v:=Value.int .i64 (wr (a1 - (len a0)))) rfl) ?_
 refine FL.nil (FW.seq (FW.seq (FW.region ?_)))
 refine FL.v (E.move (v:=Value.int .i64 (wr (a1 - (len a0)))) rfl) ?_
 refine FL.v (E.lss rfl rfl) ?_
 refine FL.nil ?_
 rcases ifB hp with ⟨c21,hp⟩|⟨c21,hp⟩
 ·
  refine FW.condT rfl c21 ?_
  refine FW.seq (FW.region ?_)
  refine FL.v (E.assign (v:=Value.int .i64 (-1)) rfl) ?_
  refine FL.nil ?_
  refine FW.ret ?_
  obtain rfl:=Option.some.inj hp
  exact ⟨.inr rfl,res1 rfl rfl ⟨rfl,S0.back⟩⟩
 ·
  refine FW.condF rfl c21 ?_
  refine FW.skip (FW.seq (FW.seq (FW.region ?_)))
  refine FL.v (E.assign (v:=Value.int .i64 0) rfl) ?_
  refine FL.nil ?_
  obtain ⟨q23,hq,hp⟩:=bndR hp
  refine FW.block ?_
  refine FW.mono (FW.forL (S:=Int) (X:=Int) (fun (i23:Nat) (s23:Int) f w=>∃ H:GH,St Ha wa H w []∧Inc Ha H∧f 5=Value.int .i64 ((i23:Nat):Int)∧f 0=v0∧f 1=Value.int .i64 s23) (fun q e f w=>match q with|.go s23=>e=Exit.exit 0∧(∃ H:GH,St Ha wa H w []∧Inc Ha H∧f 1=Value.int .i64 s23)|.rt x=>((e=Exit.ret)∧(fun e f w=>(e=Exit.normal∨e=Exit.ret)∧∀ a,Fr (δ:=[]) 28 a f→∃ v,(results Tryz.f9 a.tmps).run Tryz.prog w=.ok v w∧(Sc Ha wa (Value.int .i64 x)) (.returned v) w) e f w)) hq ⟨_,S0,(Inc.rfl _),rfl,rfl,rfl⟩ ?_ ?_) ?_
  ·
   clear hp hq
   rintro i23 y22 s23 f43 w42 ⟨H39,S40,i41,k44,k45,k46⟩ hx23 o54 hp
   refine FW.seq (FW.seq (FW.region ?_))
   refine FL.v (E.move k44) ?_
   refine FL.v (E.move k45) ?_
   refine FL.v (E.lenP te22 rfl p0) ?_
   refine FL.v (E.lssT rfl rfl (zaJ hx23)) ?_
   refine FL.nil ?_
   refine FW.condT rfl rfl ?_
   refine FW.skip (FW.seq (FW.block (FW.seq (FW.region ?_))))
   refine FL.v (E.move k46) ?_
   refine FL.v (E.move k45) ?_
   refine FL.v (E.move k44) ?_
   obtain ⟨p47,cs48,pt49,l50,at51,rel52⟩:=p0.at (zaF hx23)
   obtain rfl:=eS_open rel52
   refine FL.v (E.indexAddr te22 rfl rfl pt49) ?_
   refine FL.v (E.load rfl (zar Tryz.isAgg9 ((at51.mono i41).now S40.sl) rfl)) ?_
   refine FL.v (E.lenS Tryz.runUnderlying9 rfl) ?_
   refine FL.v (E.sub rfl rfl) ?_
   refine FL.v (E.assign (v:=Value.int .i64 (wr (s23 - (y22.size:Int)))) rfl) ?_
   refine FL.nil (FW.seq (FW.region ?_))
   refine FL.v (E.move (v:=Value.int .i64 (wr (s23 - (y22.size:Int)))) rfl) ?_
   refine FL.v (E.lss rfl rfl) ?_
   refine FL.nil ?_
   rcases ifB hp with ⟨c53,hp⟩|⟨c53,hp⟩
   ·
    refine FW.condT rfl c53 ?_
    refine FW.seq (FW.region ?_)
    refine FL.v (E.assign (v:=Value.int .i64 (-1)) rfl) ?_
    refine FL.nil ?_
    refine FW.ret ?_
    obtain rfl:=Option.some.inj hp
    exact ⟨nofun,rfl,⟨.inr rfl,res1 rfl rfl ⟨rfl,S40.back⟩⟩⟩
   ·
    refine FW.condF rfl c53 ?_
    refine FW.skip (FW.region ?_)
    refine FL.v (E.move k44) ?_
    refine FL.v (E.add rfl rfl) ?_
    refine FL.v (E.assign (v:=Value.int .i64 (wr (((i23:Nat):Int) + 1))) rfl) ?_
    refine FL.nil ?_
    obtain rfl:=Option.some.inj hp
    exact ⟨rfl,⟨_,S40,i41,(zaA rfl (zat hx23) (p0.mono i41).le),k45,rfl⟩⟩
  ·
   clear hp hq
   rintro s23 f65 w64 ⟨H61,S62,i63,k66,k67,k68⟩
   refine FW.seq (FW.seq (FW.region ?_))
   refine FL.v (E.move k66) ?_
   refine FL.v (E.move k67) ?_
   refine FL.v (E.lenP te22 rfl p0) ?_
   refine FL.v (E.lss rfl rfl) ?_
   refine FL.nil ?_
   refine FW.condF rfl zaK ?_
   refine FW.exit ?_
   exact ⟨nofun,rfl,⟨_,S62,i63,k68⟩⟩
  ·
   clear hq
   intro e f59 w58 hD
   rcases q23 with s23|x23
   ·
    obtain ⟨rfl,hD⟩:=hD
    obtain ⟨H55,S56,i57,k60⟩:=hD
    replace hp:=el_go hp
    refine FW.seq (FW.region ?_)
    refine FL.v (E.move k60) ?_
    refine FL.v (E.assign (v:=Value.int .i64 s23) rfl) ?_
    refine FL.nil ?_
    refine FW.ret ?_
    obtain rfl:=Option.some.inj hp
    exact ⟨.inr rfl,res1 rfl rfl ⟨rfl,S56.back⟩⟩
   ·
    obtain ⟨he,hL⟩:=hD
    replace hp:=el_rt hp
    obtain rfl:=Option.some.inj hp
    subst he
    exact hL

theorem w_laws_szSequent {Ha:GH} {wa:World} (hs:Sl Ha wa) (a0:zad) (v0_0:Value) (p0_0:RSl Ha eS 1 v0_0 a0.left) (v0_1:Value) (p0_1:RSl Ha eS 1 v0_1 a0.right) (a1:Int) {r:Int} (hp:(PF.zcL a0 a1)=some r) :
  Calls Tryz.prog 106 #[Value.agg #[v0_0,v0_1],Value.int .i64 a1] wa (Sc Ha wa (Value.int .i64 r)):=by
 unfold PF.zcL at hp
 have S0:=St.init hs
 refine zaj (N:=18) (args:=[Value.agg #[v0_0,v0_1],Value.int .i64 a1]) Tryz.func106 rfl rfl rfl ?_
 refine FW.seq (FW.region ?_)
 obtain ⟨b21,w22,run23,S24⟩:=S0.box (P:=Tryz.prog) 77 [v0_0,v0_1] (v:=Value.agg #[v0_0,v0_1]) rfl (zaa p0_0.one (zaa p0_1.one zag))
 refine FL.v (E.box rfl run23) ?_
 obtain ⟨H25,S26,i27,at28⟩:=S24.sealBox (i:=0) (l':=[]) rfl rfl
 refine FL.v (E.assign (v:=Value.int .i64 0) rfl) ?_
 refine FL.nil (FW.seq (FW.region ?_))
 refine FL.v (E.fieldAddr tf77_0 rfl) ?_
 refine FL.v (E.load rfl (zaf Tryz.isAgg22 (at28.now S26.sl) rfl)) ?_
 refine FL.v (E.move (v:=Value.int .i64 a1) rfl) ?_
 obtain ⟨r29,hr30,hp⟩:=bnd hp
 refine FL.call rfl rfl rfl (E.call Tryz.call9 (A2 rfl rfl)) (zd0 S26.sl v0_0 a0.left (p0_0.mono i27) a1 hr30) ?_
 rintro e w31 ⟨rfl,r32⟩
 refine ⟨_,rfl,?_⟩
 have S33:=S26.call r32
 refine FL.v (E.assign (v:=Value.int .i64 r29) rfl) ?_
 refine FL.nil (FW.seq (FW.seq (FW.region ?_)))
 refine FL.v (E.move (v:=Value.int .i64 r29) rfl) ?_
 refine FL.v (E.lss rfl rfl) ?_
 refine FL.nil ?_
 rcases ifB hp with ⟨c34,hp⟩|⟨c34,hp⟩
 ·
  refine FW.condT rfl c34 ?_
  refine FW.seq (FW.region ?_)
  refine FL.v (E.assign (v:=Value.int .i64 (-1)) rfl) ?_
  refine FL.nil ?_
  refine FW.ret ?_
  obtain rfl:=Option.some.inj hp
  exact ⟨.inr rfl,res1 rfl rfl ⟨rfl,S33.back⟩⟩
 ·
  refine FW.condF rfl c34 ?_
  refine FW.skip (FW.seq (FW.region ?_))
  refine FL.v (E.fieldAddr tf77_1 rfl) ?_
  refine FL.v (E.load rfl (zaf Tryz.isAgg22 (at28.now S33.sl) rfl)) ?_
  refine FL.v (E.move (v:=Value.int .i64 r29) rfl) ?_
  obtain ⟨r35,hr36,hp⟩:=bnd hp
  refine FL.call rfl rfl rfl (E.call Tryz.call9 (A2 rfl rfl)) (zd0 S33.sl v0_1 a0.right (p0_1.mono i27) r29 hr36) ?_
  rintro e w37 ⟨rfl,r38⟩
  refine ⟨_,rfl,?_⟩
  have S39:=S33.call r38
  refine FL.v (E.assign (v:=Value.int .i64 r35) rfl) ?_
  refine FL.nil (FW.seq (FW.seq (FW.region ?_)))
  refine FL.v (E.move (v:=Value.int .i64 r35) rfl) ?_
  refine FL.v (E.lss rfl rfl) ?_
  refine FL.nil ?_
  rcases ifB hp with ⟨c40,hp⟩|⟨c40,hp⟩
  ·
   refine FW.condT rfl c40 ?_
   refine FW.seq (FW.region ?_)
   refine FL.v (E.assign (v:=Value.int .i64 (-1)) rfl) ?_
   refine FL.nil ?_
   refine FW.ret ?_
   obtain rfl:=Option.some.inj hp
   exact ⟨.inr rfl,res1 rfl rfl ⟨rfl,S39.back⟩⟩
  ·
   refine FW.condF rfl c40 ?_
   refine FW.skip (FW.seq (FW.region ?_))
   refine FL.v (E.move (v:=Value.int .i64 r35) rfl) ?_
   refine FL.v (E.assign (v:=Value.int .i64 r35) rfl) ?_
   refine FL.nil ?_
   refine FW.ret ?_
   obtain rfl:=Option.some.inj hp
   exact ⟨.inr rfl,res1 rfl rfl ⟨rfl,S39.back⟩⟩

theorem w_laws_szSeqStep {Ha:GH} {wa:World} (hs:Sl Ha wa) (a0:zac) (v0_0:Value) (p0_0:RSl Ha eS 1 v0_0 a0.seq.left) (v0_1:Value) (p0_1:RSl Ha eS 1 v0_1 a0.seq.right) (a1:Int) {r:Int} (hp:(PF.zb0 a0 a1)=some r) :
  Calls Tryz.prog 57 #[Value.agg #[v0_0,v0_1,Value.int .i64 a0.rule,Value.string a0.main,Value.int .i64 a0.a,Value.int .i64 a0.b],Value.int .i64 a1] wa (Sc Ha wa (Value.int .i64 r)):=by
 unfold PF.zb0 at hp
 have S0:=St.init hs
 refine zaj (N:=19) (args:=[Value.agg #[v0_0,v0_1,Value.int .i64 a0.rule,Value.string a0.main,Value.int .i64 a0.a,Value.int .i64 a0.b],Value.int .i64 a1]) Tryz.func57 rfl rfl rfl ?_
 refine FW.seq (FW.region ?_)
 obtain ⟨b21,w22,run23,S24⟩:=S0.box (P:=Tryz.prog) 79 [v0_0,v0_1,Value.int .i64 a0.rule,Value.string a0.main,Value.int .i64 a0.a,Value.int .i64 a0.b] (v:=Value.agg #[v0_0,v0_1,Value.int .i64 a0.rule,Value.string a0.main,Value.int .i64 a0.a,Value.int .i64 a0.b]) rfl (zaa p0_0.one (zaa p0_1.one (zaa rfl (zaa rfl (zaa rfl (zaa rfl zag))))))
 refine FL.v (E.box rfl run23) ?_
 obtain ⟨H25,S26,i27,at28⟩:=S24.sealBox (i:=0) (l':=[]) rfl rfl
 refine FL.v (E.assign (v:=Value.int .i64 0) rfl) ?_
 refine FL.nil (FW.seq (FW.region ?_))
 refine FL.v (E.fieldAddr tf79_0 rfl) ?_
 refine FL.v (E.load rfl (zao Tryz.isAgg77 Tryz.sizeOf77 ((at28.now S26.sl).sub (j:=0) (n:=2) (c:=[v0_0,v0_1]) rfl) rfl)) ?_
 refine FL.v (E.move (v:=Value.int .i64 a1) rfl) ?_
 obtain ⟨r29,hr30,hp⟩:=bnd hp
 refine FL.call rfl rfl rfl (E.call Tryz.call106 (A2 rfl rfl)) (w_laws_szSequent S26.sl a0.seq v0_0 (p0_0.mono i27) v0_1 (p0_1.mono i27) a1 hr30) ?_
 rintro e w31 ⟨rfl,r32⟩
 refine ⟨_,rfl,?_⟩
 have S33:=S26.call r32
 refine FL.v (E.assign (v:=Value.int .i64 r29) rfl) ?_
 refine FL.nil (FW.seq (FW.seq (FW.region ?_)))
 refine FL.v (E.move (v:=Value.int .i64 r29) rfl) ?_
 refine FL.v (E.lss rfl rfl) ?_
 refine FL.nil ?_
 rcases ifB hp with ⟨c34,hp⟩|⟨c34,hp⟩
 ·
  refine FW.condT rfl c34 ?_
  refine FW.seq (FW.region ?_)
  refine FL.v (E.assign (v:=Value.int .i64 (-1)) rfl) ?_
  refine FL.nil ?_
  refine FW.ret ?_
  obtain rfl:=Option.some.inj hp
  exact ⟨.inr rfl,res1 rfl rfl ⟨rfl,S33.back⟩⟩
 ·
  refine FW.condF rfl c34 ?_
  refine FW.skip (FW.seq (FW.region ?_))
  refine FL.v (E.move (v:=Value.int .i64 r29) rfl) ?_
  refine FL.v (E.fieldAddr tf79_2 rfl) ?_
  refine FL.v (E.load rfl (zaf Tryz.isAgg9 (at28.now S33.sl) rfl)) ?_
  refine FL.v (E.lenS Tryz.runUnderlying9 rfl) ?_
  refine FL.v (E.sub rfl rfl) ?_
  refine FL.v (E.assign (v:=Value.int .i64 (wr (r29 - (a0.main.size:Int)))) rfl) ?_
  refine FL.nil (FW.seq (FW.seq (FW.region ?_)))
  refine FL.v (E.move (v:=Value.int .i64 (wr (r29 - (a0.main.size:Int)))) rfl) ?_
  refine FL.v (E.lss rfl rfl) ?_
  refine FL.nil ?_
  rcases ifB hp with ⟨c35,hp⟩|⟨c35,hp⟩
  ·
   refine FW.condT rfl c35 ?_
   refine FW.seq (FW.region ?_)
   refine FL.v (E.assign (v:=Value.int .i64 (-1)) rfl) ?_
   refine FL.nil ?_
   refine FW.ret ?_
   obtain rfl:=Option.some.inj hp
   exact ⟨.inr rfl,res1 rfl rfl ⟨rfl,S33.back⟩⟩
  ·
   refine FW.condF rfl c35 ?_
   refine FW.skip (FW.seq (FW.region ?_))
   refine FL.v (E.move (v:=Value.int .i64 (wr (r29 - (a0.main.size:Int)))) rfl) ?_
   refine FL.v (E.assign (v:=Value.int .i64 (wr (r29 - (a0.main.size:Int)))) rfl) ?_
   refine FL.nil ?_
   refine FW.ret ?_
   obtain rfl:=Option.some.inj hp
   exact ⟨.inr rfl,res1 rfl rfl ⟨rfl,S33.back⟩⟩

set_option maxHeartbeats 4000000 in
theorem zd1 {Ha:GH} {wa:World} (hs:Sl Ha wa) (v0:Value) (a0:List zac) (p0:RSl Ha eSeqStep 6 v0 a0) (a1:Int) {r:Int} (hp:(PF.zch a0 a1)=some r) :
  Calls Tryz.prog 18 #[v0,Value.int .i64 a1] wa (Sc Ha wa (Value.int .i64 r)):=by
 unfold PF.zch at hp
 have S0:=St.init hs
 refine zaj (N:=27) (args:=[v0,Value.int .i64 a1]) Tryz.func18 rfl rfl rfl ?_
 refine FW.seq (FW.region ?_)
 refine FL.v (E.assign (v:=Value.int .i64 0) rfl) ?_
 refine FL.nil (FW.seq (FW.region ?_))
 refine FL.v (E.move (v:=Value.int .i64 a1) rfl) ?_
 refine FL.v (E.move (v:=v0) rfl) ?_
 refine FL.v (E.lenP te32 rfl p0) ?_
 refine FL.v (E.sub rfl rfl) ?_
 refine FL.v (E.assign (v:=Value.int .i64 (wr (a1 - (len a0)))) rfl) ?_
 refine FL.nil (FW.seq (FW.seq (FW.region ?_)))
 refine FL.v (E.move (v:=Value.int .i64 (wr (a1 - (len a0)))) rfl) ?_
 refine FL.v (E.lss rfl rfl) ?_
 refine FL.nil ?_
 rcases ifB hp with ⟨c21,hp⟩|⟨c21,hp⟩
 ·
  refine FW.condT rfl c21 ?_
  refine FW.seq (FW.region ?_)
  refine FL.v (E.assign (v:=Value.int .i64 (-1)) rfl) ?_
  refine FL.nil ?_
  refine FW.ret ?_
  obtain rfl:=Option.some.inj hp
  exact ⟨.inr rfl,res1 rfl rfl ⟨rfl,S0.back⟩⟩
 ·
  refine FW.condF rfl c21 ?_
  refine FW.skip (FW.seq (FW.seq (FW.region ?_)))
  refine FL.v (E.assign (v:=Value.int .i64 0) rfl) ?_
  refine FL.nil ?_
  obtain ⟨q23,hq,hp⟩:=bndR hp
  refine FW.block ?_
  refine FW.mono (FW.forL (S:=Int) (X:=Int) (fun (i23:Nat) (s23:Int) f w=>∃ H:GH,St Ha wa H w []∧Inc Ha H∧f 5=Value.int .i64 ((i23:Nat):Int)∧f 0=v0∧f 1=Value.int .i64 s23) (fun q e f w=>match q with|.go s23=>e=Exit.exit 0∧(∃ H:GH,St Ha wa H w []∧Inc Ha H∧f 1=Value.int .i64 s23)|.rt x=>((e=Exit.ret)∧(fun e f w=>(e=Exit.normal∨e=Exit.ret)∧∀ a,Fr (δ:=[]) 27 a f→∃ v,(results Tryz.f18 a.tmps).run Tryz.prog w=.ok v w∧(Sc Ha wa (Value.int .i64 x)) (.returned v) w) e f w)) hq ⟨_,S0,(Inc.rfl _),rfl,rfl,rfl⟩ ?_ ?_) ?_
  ·
   clear hp hq
   rintro i23 y22 s23 f52 w51 ⟨H48,S49,i50,k53,k54,k55⟩ hx23 o72 hp
   refine FW.seq (FW.seq (FW.region ?_))
   refine FL.v (E.move k53) ?_
   refine FL.v (E.move k54) ?_
   refine FL.v (E.lenP te32 rfl p0) ?_
   refine FL.v (E.lssT rfl rfl (zaJ hx23)) ?_
   refine FL.nil ?_
   refine FW.condT rfl rfl ?_
   refine FW.skip (FW.seq (FW.block (FW.seq (FW.region ?_))))
   refine FL.v (E.move k54) ?_
   refine FL.v (E.move k53) ?_
   obtain ⟨p56,cs57,pt58,l59,at60,rel61⟩:=p0.at (zaF hx23)
   obtain ⟨v62,v64,rfl,h63,h65⟩:=zaD rel61
   refine FL.v (E.indexAddr te32 rfl rfl pt58) ?_
   refine FL.v (E.load rfl (zao Tryz.isAgg79 Tryz.sizeOf79 ((at60.mono i50).now S49.sl) rfl)) ?_
   refine FL.v (E.move k55) ?_
   obtain ⟨r66,hr67,hp⟩:=bnd hp
   refine FL.call rfl rfl rfl (E.call Tryz.call57 (A2 rfl rfl)) (w_laws_szSeqStep S49.sl y22 v62 (h63.mono i50) v64 (h65.mono i50) s23 hr67) ?_
   rintro e w68 ⟨rfl,r69⟩
   refine ⟨_,rfl,?_⟩
   have S70:=S49.call r69
   refine FL.v (E.assign (v:=Value.int .i64 r66) rfl) ?_
   refine FL.nil (FW.seq (FW.region ?_))
   refine FL.v (E.move (v:=Value.int .i64 r66) rfl) ?_
   refine FL.v (E.lss rfl rfl) ?_
   refine FL.nil ?_
   rcases ifB hp with ⟨c71,hp⟩|⟨c71,hp⟩
   ·
    refine FW.condT rfl c71 ?_
    refine FW.seq (FW.region ?_)
    refine FL.v (E.assign (v:=Value.int .i64 (-1)) rfl) ?_
    refine FL.nil ?_
    refine FW.ret ?_
    obtain rfl:=Option.some.inj hp
    exact ⟨nofun,rfl,⟨.inr rfl,res1 rfl rfl ⟨rfl,S70.back⟩⟩⟩
   ·
    refine FW.condF rfl c71 ?_
    refine FW.skip (FW.region ?_)
    refine FL.v (E.move k53) ?_
    refine FL.v (E.add rfl rfl) ?_
    refine FL.v (E.assign (v:=Value.int .i64 (wr (((i23:Nat):Int) + 1))) rfl) ?_
    refine FL.nil ?_
    obtain rfl:=Option.some.inj hp
    exact ⟨rfl,⟨_,S70,i50,(zaA rfl (zat hx23) (p0.mono i50).le),k54,rfl⟩⟩
  ·
   clear hp hq
   rintro s23 f83 w82 ⟨H79,S80,i81,k84,k85,k86⟩
   refine FW.seq (FW.seq (FW.region ?_))
   refine FL.v (E.move k84) ?_
   refine FL.v (E.move k85) ?_
   refine FL.v (E.lenP te32 rfl p0) ?_
   refine FL.v (E.lss rfl rfl) ?_
   refine FL.nil ?_
   refine FW.condF rfl zaK ?_
   refine FW.exit ?_
   exact ⟨nofun,rfl,⟨_,S80,i81,k86⟩⟩
  ·
   clear hq
   intro e f77 w76 hD
   rcases q23 with s23|x23
   ·
    obtain ⟨rfl,hD⟩:=hD
    obtain ⟨H73,S74,i75,k78⟩:=hD
    replace hp:=el_go hp
    refine FW.seq (FW.region ?_)
    refine FL.v (E.move k78) ?_
    refine FL.v (E.assign (v:=Value.int .i64 s23) rfl) ?_
    refine FL.nil ?_
    refine FW.ret ?_
    obtain rfl:=Option.some.inj hp
    exact ⟨.inr rfl,res1 rfl rfl ⟨rfl,S74.back⟩⟩
   ·
    obtain ⟨he,hL⟩:=hD
    replace hp:=el_rt hp
    obtain rfl:=Option.some.inj hp
    subst he
    exact hL

@[reducible] def p_laws_toStringS (Ha:GH) (wa:World) (r:(List ByteArray)):Ending→World→Prop :=
 fun e w'=>∃ H':GH,∃ v0:Value,∃ n0:Nat,∃ c0:List Value,e=.returned (v0)∧St Ha wa H' w' [.row 9 1 v0 n0 c0]∧Els (up wa.heap.size H') eS 1 c0 r
theorem zd2 {Ha:GH} {wa:World} (hs:Sl Ha wa) (v0:Value) (a0:List ByteArray) (p0:RSl Ha eS 1 v0 a0) {r:(List ByteArray)} (hp:(PF.zci a0)=some r) :
  Calls Tryz.prog 11 #[v0] wa (p_laws_toStringS Ha wa r):=by
 unfold PF.zci at hp
 have S0:=St.init hs
 refine zaj (N:=22) (args:=[v0]) Tryz.func11 rfl rfl rfl ?_
 refine FW.seq (FW.region ?_)
 refine FL.v (E.assign (v:=Value.slice none 0 0) rfl) ?_
 refine FL.nil (FW.seq (FW.region ?_))
 refine FL.v (E.move (v:=v0) rfl) ?_
 refine FL.v (E.lenP te22 rfl p0) ?_
 obtain ⟨xs21,hm22,hp⟩:=bnd hp
 obtain ⟨v23,w24,n28,cs29,run25,S26,els27,hbl30⟩:=S0.makeEls (P:=Tryz.prog) te22 (G:=(up wa.heap.size Ha)) (En:=eS) (x0:=(ByteArray.empty:ByteArray)) hm22 rfl (zaa rfl zag) .i64 .i64
 refine FL.v (E.makeSlice rfl rfl run25) ?_
 refine FL.v (E.assign (v:=v23) rfl) ?_
 refine FL.nil (FW.seq (FW.seq (FW.region ?_)))
 refine FL.v (E.assign (v:=Value.int .i64 0) rfl) ?_
 refine FL.nil ?_
 obtain ⟨q32,hq,hp⟩:=bndR hp
 refine FW.block ?_
 refine FW.mono (FW.forL (S:=(List ByteArray)) (X:=Empty) (fun (i32:Nat) (s32:(List ByteArray)) f w=>∃ H:GH,∃ v63:Value,∃ n64:Nat,∃ cs65:List Value,St Ha wa H w [.row 9 1 v63 n64 cs65]∧Inc Ha H∧Els (up wa.heap.size H) eS 1 cs65 s32∧f 4=Value.int .i64 ((i32:Nat):Int)∧f 0=v0∧f 3=v63) (fun (q:Rs (List ByteArray) Empty) e f w=>match q with|.go s32=>e=Exit.exit 0∧(∃ H:GH,∃ v63:Value,∃ n64:Nat,∃ cs65:List Value,St Ha wa H w [.row 9 1 v63 n64 cs65]∧Inc Ha H∧Els (up wa.heap.size H) eS 1 cs65 s32∧f 3=v63)|.rt x=>x.elim) hq ⟨_,_,_,_,S26,(Inc.rfl _),els27,rfl,rfl,rfl⟩ ?_ ?_) ?_
 ·
  clear hp hq
  rintro i32 y31 s32 fA1 wA0 ⟨H97,v63,n64,cs65,S98,i99,els66,kA2,kA3,kA4⟩ hx32 oAr hp
  refine FW.seq (FW.seq (FW.region ?_))
  refine FL.v (E.move kA2) ?_
  refine FL.v (E.move kA3) ?_
  refine FL.v (E.lenP te22 rfl p0) ?_
  refine FL.v (E.lssT rfl rfl (zaJ hx32)) ?_
  refine FL.nil ?_
  refine FW.condT rfl rfl ?_
  refine FW.skip (FW.seq (FW.block (FW.region ?_)))
  refine FL.v (E.move kA4) ?_
  refine FL.v (E.move kA2) ?_
  refine FL.v (E.move kA3) ?_
  refine FL.v (E.move kA2) ?_
  obtain ⟨pA5,csA6,ptA7,lA8,atA9,relAa⟩:=p0.at (zaF hx32)
  obtain rfl:=eS_open relAa
  refine FL.v (E.indexAddr te22 rfl rfl ptA7) ?_
  refine FL.v (E.load rfl (zar Tryz.isAgg9 ((atA9.mono i99).now S98.sl) rfl)) ?_
  obtain ⟨xAh,hxAi,hp⟩:=bnd hp
  obtain ⟨pAb,csAc,ptAd,lAe,atAf,relAg⟩:=S98.row_at (i:=0) rfl els66 (by decide) hxAi
  obtain rfl:=eS_open relAg
  refine FL.v (E.indexAddr te22 rfl rfl ptAd) ?_
  obtain ⟨xsAm,hputAn,hp⟩:=bnd hp
  obtain ⟨wAj,csAp,runAk,SAl,elsAo,ceAq⟩:=S98.putEls (P:=Tryz.prog) (t:=9) (i:=0) rfl els66 hputAn ptAd Tryz.sizeOf9 (u:=Value.string y31) (c:=[Value.string y31]) rfl rfl (zaa rfl zag) rfl
  have SAl:St Ha wa H97 wAj [.row 9 1 v63 n64 csAp]:=SAl
  refine FL.act rfl rfl (E.store rfl rfl runAk) ?_
  refine FL.nil (FW.region ?_)
  refine FL.v (E.move kA2) ?_
  refine FL.v (E.add rfl rfl) ?_
  refine FL.v (E.assign (v:=Value.int .i64 (wr (((i32:Nat):Int) + 1))) rfl) ?_
  refine FL.nil ?_
  obtain rfl:=Option.some.inj hp
  exact ⟨rfl,⟨_,_,_,_,SAl,i99,elsAo,(zaA rfl (zat hx32) (p0.mono i99).le),kA3,kA4⟩⟩
 ·
  clear hp hq
  rintro s32 fAC wAB ⟨HAy,v63,n64,cs65,SAz,iAA,els66,kAD,kAE,kAF⟩
  refine FW.seq (FW.seq (FW.region ?_))
  refine FL.v (E.move kAD) ?_
  refine FL.v (E.move kAE) ?_
  refine FL.v (E.lenP te22 rfl p0) ?_
  refine FL.v (E.lss rfl rfl) ?_
  refine FL.nil ?_
  refine FW.condF rfl zaK ?_
  refine FW.exit ?_
  exact ⟨nofun,rfl,⟨_,_,_,_,SAz,iAA,els66,kAF⟩⟩
 ·
  clear hq
  intro e fAw wAv hD
  rcases q32 with s32|x32
  ·
   obtain ⟨rfl,hD⟩:=hD
   obtain ⟨HAs,v63,n64,cs65,SAt,iAu,els66,kAx⟩:=hD
   replace hp:=el_go hp
   refine FW.seq (FW.region ?_)
   refine FL.v (E.move kAx) ?_
   refine FL.v (E.assign (v:=v63) rfl) ?_
   refine FL.nil ?_
   refine FW.ret ?_
   obtain rfl:=Option.some.inj hp
   exact ⟨.inr rfl,res1 rfl rfl ⟨_,_,_,_,rfl,SAt,els66⟩⟩
  ·
   exact x32.elim

@[reducible] def p_laws_toSequent (Ha:GH) (wa:World) (r:zad):Ending→World→Prop :=
 fun e w'=>∃ H':GH,∃ v0_0:Value,∃ v0_1:Value,e=.returned (Value.agg #[v0_0,v0_1])∧Run wa.heap.size Ha wa H' w'∧(∃ c0 c1,Nest (up wa.heap.size H') eS 1 v0_0 r.left c0∧Nest (up wa.heap.size H') eS 1 v0_1 r.right c1∧Ap v0_0 c0 v0_1 c1)
theorem w_laws_toSequent {Ha:GH} {wa:World} (hs:Sl Ha wa) (a0:zad) (v0_0:Value) (p0_0:RSl Ha eS 1 v0_0 a0.left) (v0_1:Value) (p0_1:RSl Ha eS 1 v0_1 a0.right) {r:zad} (hp:(PF.zcM a0)=some r) :
  Calls Tryz.prog 109 #[Value.agg #[v0_0,v0_1]] wa (p_laws_toSequent Ha wa r):=by
 unfold PF.zcM at hp
 have S0:=St.init hs
 refine zaj (N:=13) (args:=[Value.agg #[v0_0,v0_1]]) Tryz.func109 rfl rfl rfl ?_
 refine FW.seq (FW.region ?_)
 obtain ⟨b21,w22,run23,S24⟩:=S0.box (P:=Tryz.prog) 77 [v0_0,v0_1] (v:=Value.agg #[v0_0,v0_1]) rfl (zaa p0_0.one (zaa p0_1.one zag))
 refine FL.v (E.box rfl run23) ?_
 obtain ⟨H25,S26,i27,at28⟩:=S24.sealBox (i:=0) (l':=[]) rfl rfl
 obtain ⟨b29,w30,run31,S32⟩:=S26.alloc (P:=Tryz.prog) 68 [Value.slice none 0 0,Value.slice none 0 0] Tryz.zeroValue68 rfl (zaa rfl (zaa rfl zag))
 refine FL.v (E.alloc run31) ?_
 refine FL.nil (FW.seq (FW.region ?_))
 obtain ⟨b33,w34,run35,S36⟩:=S32.alloc (P:=Tryz.prog) 68 [Value.slice none 0 0,Value.slice none 0 0] Tryz.zeroValue68 rfl (zaa rfl (zaa rfl zag))
 refine FL.v (E.alloc run35) ?_
 refine FL.nil (FW.seq (FW.region ?_))
 refine FL.v (E.fieldAddr tf77_0 rfl) ?_
 refine FL.v (E.load rfl (zaf Tryz.isAgg22 (at28.now S36.sl) rfl)) ?_
 obtain ⟨r37,hr38,hp⟩:=bnd hp
 refine FL.call rfl rfl rfl (E.call Tryz.call11 (A1 rfl)) (zd2 S36.sl v0_0 a0.left (p0_0.mono i27) hr38) ?_
 rintro e w40 ⟨H39,v43,n44,cs45,rfl,r42,els46⟩
 refine ⟨_,rfl,?_⟩
 have els46:=els46.mono (up_le S36.size)
 have S41:=S36.join (l':=[.row 9 1 v43 n44 cs45,.box b33 68 [Value.slice none 0 0,Value.slice none 0 0],.box b29 68 [Value.slice none 0 0,Value.slice none 0 0]]) r42 rfl
 refine FL.v (E.fieldAddr zau rfl) ?_
 obtain ⟨w47,run48,S49⟩:=S41.store (P:=Tryz.prog) (t:=22) (i:=1) (j:=0) (cs':=[v43,Value.slice none 0 0]) (l':=[.row 9 1 v43 n44 cs45,.box b33 68 [v43,Value.slice none 0 0],.box b29 68 [Value.slice none 0 0,Value.slice none 0 0]]) (v:=v43) (c:=[v43]) rfl Tryz.sizeOf22 (Ln.cells (S41.row_ln (i:=0) rfl)) rfl (zaa (Ln.one (S41.row_ln (i:=0) rfl)) zag) (Nat.le_of_ble_eq_true rfl) rfl rfl
 refine FL.act rfl rfl (E.store rfl rfl run48) ?_
 refine FL.nil (FW.seq (FW.region ?_))
 refine FL.v (E.fieldAddr tf77_1 rfl) ?_
 refine FL.v (E.load rfl (zaf Tryz.isAgg22 ((at28.mono r42.run.inc).now S49.sl) rfl)) ?_
 obtain ⟨r50,hr51,hp⟩:=bnd hp
 refine FL.call rfl rfl rfl (E.call Tryz.call11 (A1 rfl)) (zd2 S49.sl v0_1 a0.right (p0_1.mono (i27.tr r42.run.inc)) hr51) ?_
 rintro e w53 ⟨H52,v56,n57,cs58,rfl,r55,els59⟩
 refine ⟨_,rfl,?_⟩
 have els59:=els59.mono (up_le S49.size)
 have S54:=S49.join (l':=[.row 9 1 v56 n57 cs58,.row 9 1 v43 n44 cs45,.box b33 68 [v43,Value.slice none 0 0],.box b29 68 [Value.slice none 0 0,Value.slice none 0 0]]) r55 rfl
 refine FL.v (E.fieldAddr zas rfl) ?_
 obtain ⟨w60,run61,S62⟩:=S54.store (P:=Tryz.prog) (t:=22) (i:=2) (j:=1) (cs':=[v43,v56]) (l':=[.row 9 1 v56 n57 cs58,.row 9 1 v43 n44 cs45,.box b33 68 [v43,v56],.box b29 68 [Value.slice none 0 0,Value.slice none 0 0]]) (v:=v56) (c:=[v56]) rfl Tryz.sizeOf22 (Ln.cells (S54.row_ln (i:=0) rfl)) rfl (zaa (Ln.one (S54.row_ln (i:=0) rfl)) zag) (Nat.le_of_ble_eq_true rfl) rfl rfl
 refine FL.act rfl rfl (E.store rfl rfl run61) ?_
 obtain ⟨H63,S64,i65,h66,nv67⟩:=S62.sealRowU (i:=1) (l':=[.row 9 1 v56 n57 cs58,.box b33 68 [v43,v56],.box b29 68 [Value.slice none 0 0,Value.slice none 0 0]]) rfl (els46.mono (zai r55.run.inc)) (by decide) rfl
 obtain ⟨H68,S69,i70,h71,nv72⟩:=S64.sealRowU (i:=0) (l':=[.box b33 68 [v43,v56],.box b29 68 [Value.slice none 0 0,Value.slice none 0 0]]) rfl (els59.mono (zai i65)) (by decide) rfl
 obtain ⟨H73,S74,i75,at76⟩:=S69.sealBox (i:=0) (l':=[.box b29 68 [Value.slice none 0 0,Value.slice none 0 0]]) rfl rfl
 refine FL.nil (FW.seq (FW.region ?_))
 refine FL.v (E.load rfl (zao Tryz.isAgg68 Tryz.sizeOf68 (at76.now S74.sl) rfl)) ?_
 obtain ⟨w77,run78,S79⟩:=S74.store0 (P:=Tryz.prog) (t:=68) (i:=0) (cs':=[v43,v56]) (l':=[.box b29 68 [v43,v56]]) (v:=Value.agg #[v43,v56]) (c:=[v43,v56]) rfl Tryz.sizeOf68 rfl rfl (zaa h66.one (zaa h71.one zag)) (Nat.le_of_ble_eq_true rfl) rfl rfl
 refine FL.act rfl rfl (E.store rfl rfl run78) ?_
 obtain ⟨H80,S81,i82,at83⟩:=S79.sealBox (i:=0) (l':=[]) rfl rfl
 refine FL.nil ?_
 refine FW.ret ?_
 obtain rfl:=Option.some.inj hp
 exact ⟨.inr rfl,resC rfl rfl (zcG Tryz.isAgg68 Tryz.sizeOf68 (at83.now S81.sl) rfl) ⟨_,_,_,rfl,S81.run,(Ap.flat2 (h66.mono (zai ((i70.tr i75).tr i82))) zaO (by decide) (h71.mono (zai (i75.tr i82))) zaO (by decide) (New.apart (h66.mono (zai (Inc.rfl _))) nv72))⟩⟩

@[reducible] def p_laws_toSeqStep (Ha:GH) (wa:World) (r:zac):Ending→World→Prop :=
 fun e w'=>∃ H':GH,∃ v0_0:Value,∃ v0_1:Value,e=.returned (Value.agg #[v0_0,v0_1,Value.int .i64 r.rule,Value.string r.main,Value.int .i64 r.a,Value.int .i64 r.b])∧Run wa.heap.size Ha wa H' w'∧(∃ c0 c1,Nest (up wa.heap.size H') eS 1 v0_0 r.seq.left c0∧Nest (up wa.heap.size H') eS 1 v0_1 r.seq.right c1∧Ap v0_0 c0 v0_1 c1)
theorem w_laws_toSeqStep {Ha:GH} {wa:World} (hs:Sl Ha wa) (a0:zac) (v0_0:Value) (p0_0:RSl Ha eS 1 v0_0 a0.seq.left) (v0_1:Value) (p0_1:RSl Ha eS 1 v0_1 a0.seq.right) {r:zac} (hp:(PF.zcj a0)=some r) :
  Calls Tryz.prog 61 #[Value.agg #[v0_0,v0_1,Value.int .i64 a0.rule,Value.string a0.main,Value.int .i64 a0.a,Value.int .i64 a0.b]] wa (p_laws_toSeqStep Ha wa r):=by
 unfold PF.zcj at hp
 have S0:=St.init hs
 refine zaj (N:=21) (args:=[Value.agg #[v0_0,v0_1,Value.int .i64 a0.rule,Value.string a0.main,Value.int .i64 a0.a,Value.int .i64 a0.b]]) Tryz.func61 rfl rfl rfl ?_
 refine FW.seq (FW.region ?_)
 obtain ⟨b21,w22,run23,S24⟩:=S0.box (P:=Tryz.prog) 79 [v0_0,v0_1,Value.int .i64 a0.rule,Value.string a0.main,Value.int .i64 a0.a,Value.int .i64 a0.b] (v:=Value.agg #[v0_0,v0_1,Value.int .i64 a0.rule,Value.string a0.main,Value.int .i64 a0.a,Value.int .i64 a0.b]) rfl (zaa p0_0.one (zaa p0_1.one (zaa rfl (zaa rfl (zaa rfl (zaa rfl zag))))))
 refine FL.v (E.box rfl run23) ?_
 obtain ⟨H25,S26,i27,at28⟩:=S24.sealBox (i:=0) (l':=[]) rfl rfl
 obtain ⟨b29,w30,run31,S32⟩:=S26.alloc (P:=Tryz.prog) 74 [Value.slice none 0 0,Value.slice none 0 0,Value.int .i64 0,Value.string ByteArray.empty,Value.int .i64 0,Value.int .i64 0] Tryz.zeroValue74 rfl (zaa rfl (zaa rfl (zaa rfl (zaa rfl (zaa rfl (zaa rfl zag))))))
 refine FL.v (E.alloc run31) ?_
 refine FL.nil (FW.seq (FW.region ?_))
 obtain ⟨b33,w34,run35,S36⟩:=S32.alloc (P:=Tryz.prog) 74 [Value.slice none 0 0,Value.slice none 0 0,Value.int .i64 0,Value.string ByteArray.empty,Value.int .i64 0,Value.int .i64 0] Tryz.zeroValue74 rfl (zaa rfl (zaa rfl (zaa rfl (zaa rfl (zaa rfl (zaa rfl zag))))))
 refine FL.v (E.alloc run35) ?_
 refine FL.nil (FW.seq (FW.region ?_))
 refine FL.v (E.fieldAddr tf79_0 rfl) ?_
 refine FL.v (E.load rfl (zao Tryz.isAgg77 Tryz.sizeOf77 ((at28.now S36.sl).sub (j:=0) (n:=2) (c:=[v0_0,v0_1]) rfl) rfl)) ?_
 obtain ⟨r37,hr38,hp⟩:=bnd hp
 refine FL.call rfl rfl rfl (E.call Tryz.call109 (A1 rfl)) (w_laws_toSequent S36.sl a0.seq v0_0 (p0_0.mono i27) v0_1 (p0_1.mono i27) hr38) ?_
 rintro e w40 ⟨H39,v43,v49,rfl,r42,⟨c46,c52,ns45,ns51,ap55⟩⟩
 refine ⟨_,rfl,?_⟩
 have h44:=ns45.rsl
 have nv47:New H25 c46:=New.of_up S36.sl (fun b hb=>ns45.dom b (.inr hb))
 have nv48:New H25 [v43]:=New.of_up S36.sl h44.dom
 have h44:=h44.mono (up_le S36.size)
 have ns45:=ns45.mono (up_le S36.size)
 have h50:=ns51.rsl
 have nv53:New H25 c52:=New.of_up S36.sl (fun b hb=>ns51.dom b (.inr hb))
 have nv54:New H25 [v49]:=New.of_up S36.sl h50.dom
 have h50:=h50.mono (up_le S36.size)
 have ns51:=ns51.mono (up_le S36.size)
 have S41:=S36.call r42
 refine FL.v (E.fieldAddr zap rfl) ?_
 obtain ⟨w56,run57,S58⟩:=S41.store (P:=Tryz.prog) (t:=68) (i:=0) (j:=0) (cs':=[v43,v49,Value.int .i64 0,Value.string ByteArray.empty,Value.int .i64 0,Value.int .i64 0]) (l':=[.box b33 74 [v43,v49,Value.int .i64 0,Value.string ByteArray.empty,Value.int .i64 0,Value.int .i64 0],.box b29 74 [Value.slice none 0 0,Value.slice none 0 0,Value.int .i64 0,Value.string ByteArray.empty,Value.int .i64 0,Value.int .i64 0]]) (v:=Value.agg #[v43,v49]) (c:=[v43,v49]) rfl Tryz.sizeOf68 rfl rfl (zaa h44.one (zaa h50.one zag)) (Nat.le_of_ble_eq_true rfl) rfl rfl
 refine FL.act rfl rfl (E.store rfl rfl run57) ?_
 refine FL.nil (FW.seq (FW.region ?_))
 refine FL.v (E.fieldAddr tf79_1 rfl) ?_
 refine FL.v (E.load rfl (zaf Tryz.isAgg3 ((at28.mono r42.inc).now S58.sl) rfl)) ?_
 refine FL.v (E.fieldAddr zaT rfl) ?_
 obtain ⟨w59,run60,S61⟩:=S58.store (P:=Tryz.prog) (t:=3) (i:=0) (j:=2) (cs':=[v43,v49,Value.int .i64 a0.rule,Value.string ByteArray.empty,Value.int .i64 0,Value.int .i64 0]) (l':=[.box b33 74 [v43,v49,Value.int .i64 a0.rule,Value.string ByteArray.empty,Value.int .i64 0,Value.int .i64 0],.box b29 74 [Value.slice none 0 0,Value.slice none 0 0,Value.int .i64 0,Value.string ByteArray.empty,Value.int .i64 0,Value.int .i64 0]]) (v:=Value.int .i64 a0.rule) (c:=[Value.int .i64 a0.rule]) rfl Tryz.sizeOf3 rfl rfl (zaa rfl zag) (Nat.le_of_ble_eq_true rfl) rfl rfl
 refine FL.act rfl rfl (E.store rfl rfl run60) ?_
 refine FL.nil (FW.seq (FW.region ?_))
 refine FL.v (E.fieldAddr tf79_2 rfl) ?_
 refine FL.v (E.load rfl (zaf Tryz.isAgg9 ((at28.mono r42.inc).now S61.sl) rfl)) ?_
 refine FL.v (E.fieldAddr zaZ rfl) ?_
 obtain ⟨w62,run63,S64⟩:=S61.store (P:=Tryz.prog) (t:=9) (i:=0) (j:=3) (cs':=[v43,v49,Value.int .i64 a0.rule,Value.string a0.main,Value.int .i64 0,Value.int .i64 0]) (l':=[.box b33 74 [v43,v49,Value.int .i64 a0.rule,Value.string a0.main,Value.int .i64 0,Value.int .i64 0],.box b29 74 [Value.slice none 0 0,Value.slice none 0 0,Value.int .i64 0,Value.string ByteArray.empty,Value.int .i64 0,Value.int .i64 0]]) (v:=Value.string a0.main) (c:=[Value.string a0.main]) rfl Tryz.sizeOf9 rfl rfl (zaa rfl zag) (Nat.le_of_ble_eq_true rfl) rfl rfl
 refine FL.act rfl rfl (E.store rfl rfl run63) ?_
 refine FL.nil (FW.seq (FW.region ?_))
 refine FL.v (E.fieldAddr tf79_3 rfl) ?_
 refine FL.v (E.load rfl (zaf Tryz.isAgg3 ((at28.mono r42.inc).now S64.sl) rfl)) ?_
 refine FL.v (E.fieldAddr zaE rfl) ?_
 obtain ⟨w65,run66,S67⟩:=S64.store (P:=Tryz.prog) (t:=3) (i:=0) (j:=4) (cs':=[v43,v49,Value.int .i64 a0.rule,Value.string a0.main,Value.int .i64 a0.a,Value.int .i64 0]) (l':=[.box b33 74 [v43,v49,Value.int .i64 a0.rule,Value.string a0.main,Value.int .i64 a0.a,Value.int .i64 0],.box b29 74 [Value.slice none 0 0,Value.slice none 0 0,Value.int .i64 0,Value.string ByteArray.empty,Value.int .i64 0,Value.int .i64 0]]) (v:=Value.int .i64 a0.a) (c:=[Value.int .i64 a0.a]) rfl Tryz.sizeOf3 rfl rfl (zaa rfl zag) (Nat.le_of_ble_eq_true rfl) rfl rfl
 refine FL.act rfl rfl (E.store rfl rfl run66) ?_
 refine FL.nil (FW.seq (FW.region ?_))
 refine FL.v (E.fieldAddr tf79_4 rfl) ?_
 refine FL.v (E.load rfl (zaf Tryz.isAgg3 ((at28.mono r42.inc).now S67.sl) rfl)) ?_
 refine FL.v (E.fieldAddr zaH rfl) ?_
 obtain ⟨w68,run69,S70⟩:=S67.store (P:=Tryz.prog) (t:=3) (i:=0) (j:=5) (cs':=[v43,v49,Value.int .i64 a0.rule,Value.string a0.main,Value.int .i64 a0.a,Value.int .i64 a0.b]) (l':=[.box b33 74 [v43,v49,Value.int .i64 a0.rule,Value.string a0.main,Value.int .i64 a0.a,Value.int .i64 a0.b],.box b29 74 [Value.slice none 0 0,Value.slice none 0 0,Value.int .i64 0,Value.string ByteArray.empty,Value.int .i64 0,Value.int .i64 0]]) (v:=Value.int .i64 a0.b) (c:=[Value.int .i64 a0.b]) rfl Tryz.sizeOf3 rfl rfl (zaa rfl zag) (Nat.le_of_ble_eq_true rfl) rfl rfl
 refine FL.act rfl rfl (E.store rfl rfl run69) ?_
 obtain ⟨H71,S72,i73,at74⟩:=S70.sealBox (i:=0) (l':=[.box b29 74 [Value.slice none 0 0,Value.slice none 0 0,Value.int .i64 0,Value.string ByteArray.empty,Value.int .i64 0,Value.int .i64 0]]) rfl rfl
 refine FL.nil (FW.seq (FW.region ?_))
 refine FL.v (E.load rfl (zao Tryz.isAgg74 Tryz.sizeOf74 (at74.now S72.sl) rfl)) ?_
 obtain ⟨w75,run76,S77⟩:=S72.store0 (P:=Tryz.prog) (t:=74) (i:=0) (cs':=[v43,v49,Value.int .i64 a0.rule,Value.string a0.main,Value.int .i64 a0.a,Value.int .i64 a0.b]) (l':=[.box b29 74 [v43,v49,Value.int .i64 a0.rule,Value.string a0.main,Value.int .i64 a0.a,Value.int .i64 a0.b]]) (v:=Value.agg #[v43,v49,Value.int .i64 a0.rule,Value.string a0.main,Value.int .i64 a0.a,Value.int .i64 a0.b]) (c:=[v43,v49,Value.int .i64 a0.rule,Value.string a0.main,Value.int .i64 a0.a,Value.int .i64 a0.b]) rfl Tryz.sizeOf74 rfl rfl (zaa h44.one (zaa h50.one (zaa rfl (zaa rfl (zaa rfl (zaa rfl zag)))))) (Nat.le_of_ble_eq_true rfl) rfl rfl
 refine FL.act rfl rfl (E.store rfl rfl run76) ?_
 obtain ⟨H78,S79,i80,at81⟩:=S77.sealBox (i:=0) (l':=[]) rfl rfl
 refine FL.nil ?_
 refine FW.ret ?_
 obtain rfl:=Option.some.inj hp
 exact ⟨.inr rfl,resC rfl rfl (zcG Tryz.isAgg74 Tryz.sizeOf74 (at81.now S79.sl) rfl) ⟨_,_,_,rfl,S79.run,(Ap.flat2 (h44.mono (zai (i73.tr i80))) zaO (by decide) (h50.mono (zai (i73.tr i80))) zaO (by decide) ap55.dis)⟩⟩

@[reducible] def p_laws_toSeqStepS (Ha:GH) (wa:World) (r:(List zac)):Ending→World→Prop :=
 fun e w'=>∃ H':GH,∃ v0:Value,∃ n0:Nat,∃ c0:List Value,e=.returned (v0)∧St Ha wa H' w' [.row 74 6 v0 n0 c0]∧Els (up wa.heap.size H') eSeqStep 6 c0 r∧(bl c0).Nodup
set_option maxHeartbeats 4000000 in
theorem zbV {Ha:GH} {wa:World} (hs:Sl Ha wa) (v0:Value) (a0:List zac) (p0:RSl Ha eSeqStep 6 v0 a0) {r:(List zac)} (hp:(PF.zbg a0)=some r) :
  Calls Tryz.prog 20 #[v0] wa (p_laws_toSeqStepS Ha wa r):=by
 unfold PF.zbg at hp
 have S0:=St.init hs
 refine zaj (N:=23) (args:=[v0]) Tryz.func20 rfl rfl rfl ?_
 refine FW.seq (FW.region ?_)
 refine FL.v (E.assign (v:=Value.slice none 0 0) rfl) ?_
 refine FL.nil (FW.seq (FW.region ?_))
 refine FL.v (E.move (v:=v0) rfl) ?_
 refine FL.v (E.lenP te32 rfl p0) ?_
 obtain ⟨xs21,hm22,hp⟩:=bnd hp
 obtain ⟨v23,w24,n28,cs29,run25,S26,els27,hbl30⟩:=S0.makeEls (P:=Tryz.prog) te24 (G:=(up wa.heap.size Ha)) (En:=eSeqStep) (x0:=((zac.mk (zad.mk [] []) 0 ByteArray.empty 0 0):zac)) hm22 ⟨_,_,rfl,(RSl.nil _ _ _),(RSl.nil _ _ _)⟩ (zaa rfl (zaa rfl (zaa rfl (zaa rfl (zaa rfl (zaa rfl zag)))))) .i64 .i64
 have nd31:(bl cs29).Nodup:=by rw [hbl30 (by simp [Value.cells,neb])];exact List.nodup_nil
 refine FL.v (E.makeSlice rfl rfl run25) ?_
 refine FL.v (E.assign (v:=v23) rfl) ?_
 refine FL.nil (FW.seq (FW.seq (FW.region ?_)))
 refine FL.v (E.assign (v:=Value.int .i64 0) rfl) ?_
 refine FL.nil ?_
 obtain ⟨q33,hq,hp⟩:=bndR hp
 refine FW.block ?_
 refine FW.mono (FW.forL (S:=(List zac)) (X:=Empty) (fun (i33:Nat) (s33:(List zac)) f w=>∃ H:GH,∃ v92:Value,∃ n93:Nat,∃ cs94:List Value,St Ha wa H w [.row 74 6 v92 n93 cs94]∧Inc Ha H∧Els (up wa.heap.size H) eSeqStep 6 cs94 s33∧(bl cs94).Nodup∧f 4=Value.int .i64 ((i33:Nat):Int)∧f 0=v0∧f 3=v92) (fun (q:Rs (List zac) Empty) e f w=>match q with|.go s33=>e=Exit.exit 0∧(∃ H:GH,∃ v92:Value,∃ n93:Nat,∃ cs94:List Value,St Ha wa H w [.row 74 6 v92 n93 cs94]∧Inc Ha H∧Els (up wa.heap.size H) eSeqStep 6 cs94 s33∧(bl cs94).Nodup∧f 3=v92)|.rt x=>x.elim) hq ⟨_,_,_,_,S26,(Inc.rfl _),els27,nd31,rfl,rfl,rfl⟩ ?_ ?_) ?_
 ·
  clear hp hq
  rintro i33 y32 s33 fAX wAW ⟨HAT,v92,n93,cs94,SAU,iAV,els95,nd96,kAY,kAZ,kB0⟩ hx33 oBP hp
  refine FW.seq (FW.seq (FW.region ?_))
  refine FL.v (E.move kAY) ?_
  refine FL.v (E.move kAZ) ?_
  refine FL.v (E.lenP te32 rfl p0) ?_
  refine FL.v (E.lssT rfl rfl (zaJ hx33)) ?_
  refine FL.nil ?_
  refine FW.condT rfl rfl ?_
  refine FW.skip (FW.seq (FW.block (FW.region ?_)))
  refine FL.v (E.move kB0) ?_
  refine FL.v (E.move kAY) ?_
  refine FL.v (E.move kAZ) ?_
  refine FL.v (E.move kAY) ?_
  obtain ⟨pB1,csB2,ptB3,lB4,atB5,relB6⟩:=p0.at (zaF hx33)
  obtain ⟨vB7,vB9,rfl,hB8,hBa⟩:=zaD relB6
  refine FL.v (E.indexAddr te32 rfl rfl ptB3) ?_
  refine FL.v (E.load rfl (zao Tryz.isAgg79 Tryz.sizeOf79 ((atB5.mono iAV).now SAU.sl) rfl)) ?_
  obtain ⟨rBb,hrBc,hp⟩:=bnd hp
  refine FL.call rfl rfl rfl (E.call Tryz.call61 (A1 rfl)) (w_laws_toSeqStep SAU.sl y32 vB7 (hB8.mono iAV) vB9 (hBa.mono iAV) hrBc) ?_
  rintro e wBe ⟨HBd,vBh,vBn,rfl,rBg,⟨cBk,cBq,nsBj,nsBp,ap191⟩⟩
  refine ⟨_,rfl,?_⟩
  have hBi:=nsBj.rsl
  have nvBl:New HAT cBk:=New.of_up SAU.sl (fun b hb=>nsBj.dom b (.inr hb))
  have nvBm:New HAT [vBh]:=New.of_up SAU.sl hBi.dom
  have hBi:=hBi.mono (up_le SAU.size)
  have nsBj:=nsBj.mono (up_le SAU.size)
  have hBo:=nsBp.rsl
  have nvBr:New HAT cBq:=New.of_up SAU.sl (fun b hb=>nsBp.dom b (.inr hb))
  have nvBs:New HAT [vBn]:=New.of_up SAU.sl hBo.dom
  have hBo:=hBo.mono (up_le SAU.size)
  have nsBp:=nsBp.mono (up_le SAU.size)
  have SBf:=SAU.call rBg
  obtain ⟨xBA,hxBB,hp⟩:=bnd hp
  obtain ⟨pBu,csBv,ptBw,lBx,atBy,relBz⟩:=SBf.row_at (i:=0) rfl els95 (by decide) hxBB
  obtain ⟨vBC,vBE,rfl,hBD,hBF⟩:=zaD relBz
  refine FL.v (E.indexAddr te24 rfl rfl ptBw) ?_
  obtain ⟨xsBJ,hputBK,hp⟩:=bnd hp
  obtain ⟨wBG,csBM,runBH,SBI,elsBL,ceBN⟩:=SBf.putEls (P:=Tryz.prog) (t:=74) (i:=0) rfl (els95.mono (zai rBg.inc)) hputBK ptBw Tryz.sizeOf74 (u:=Value.agg #[vBh,vBn,Value.int .i64 rBb.rule,Value.string rBb.main,Value.int .i64 rBb.a,Value.int .i64 rBb.b]) (c:=[vBh,vBn,Value.int .i64 rBb.rule,Value.string rBb.main,Value.int .i64 rBb.a,Value.int .i64 rBb.b]) rfl rfl (zaa hBi.one (zaa hBo.one (zaa rfl (zaa rfl (zaa rfl (zaa rfl zag)))))) ⟨_,_,rfl,hBi,hBo⟩
  have SBI:St Ha wa HBd wBG [.row 74 6 v92 n93 csBM]:=SBI
  have ndBO:(bl csBM).Nodup:=by rw [ceBN];exact nd_put (Nat.le_add_right _ _) nd96 (by exact zaR ap191.dis) (Els.dom (els95.mono (upI.tr (Inc.rfl _)))) (by exact (New.two nvBm nvBs))
  refine FL.act rfl rfl (E.store rfl rfl runBH) ?_
  refine FL.nil (FW.region ?_)
  refine FL.v (E.move kAY) ?_
  refine FL.v (E.add rfl rfl) ?_
  refine FL.v (E.assign (v:=Value.int .i64 (wr (((i33:Nat):Int) + 1))) rfl) ?_
  refine FL.nil ?_
  obtain rfl:=Option.some.inj hp
  exact ⟨rfl,⟨_,_,_,_,SBI,(iAV.tr rBg.inc),elsBL,ndBO,(zaA rfl (zat hx33) (p0.mono (iAV.tr rBg.inc)).le),kAZ,kB0⟩⟩
 ·
  clear hp hq
  rintro s33 fC0 wBZ ⟨HBW,v92,n93,cs94,SBX,iBY,els95,nd96,kC1,kC2,kC3⟩
  refine FW.seq (FW.seq (FW.region ?_))
  refine FL.v (E.move kC1) ?_
  refine FL.v (E.move kC2) ?_
  refine FL.v (E.lenP te32 rfl p0) ?_
  refine FL.v (E.lss rfl rfl) ?_
  refine FL.nil ?_
  refine FW.condF rfl zaK ?_
  refine FW.exit ?_
  exact ⟨nofun,rfl,⟨_,_,_,_,SBX,iBY,els95,nd96,kC3⟩⟩
 ·
  clear hq
  intro e fBU wBT hD
  rcases q33 with s33|x33
  ·
   obtain ⟨rfl,hD⟩:=hD
   obtain ⟨HBQ,v92,n93,cs94,SBR,iBS,els95,nd96,kBV⟩:=hD
   replace hp:=el_go hp
   refine FW.seq (FW.region ?_)
   refine FL.v (E.move kBV) ?_
   refine FL.v (E.assign (v:=v92) rfl) ?_
   refine FL.nil ?_
   refine FW.ret ?_
   obtain rfl:=Option.some.inj hp
   exact ⟨.inr rfl,res1 rfl rfl ⟨_,_,_,_,rfl,SBR,els95,nd96⟩⟩
  ·
   exact x33.elim

theorem zdF {Ha:GH} {wa:World} (hs:Sl Ha wa) (a0:Int) (a1:Int) (a2:Int) :
  Calls Tryz.prog 107 #[Value.int .i64 a0,Value.int .i64 a1,Value.int .i64 a2] wa (Sc Ha wa (Value.bool (PF.za3 a0 a1 a2))):=by
 obtain ⟨r,hp⟩:∃ r,(PF.za3 a0 a1 a2)=r:=⟨_,rfl⟩
 rw [hp]
 unfold PF.za3 at hp
 have S0:=St.init hs
 refine zaj (N:=15) (args:=[Value.int .i64 a0,Value.int .i64 a1,Value.int .i64 a2]) Tryz.func107 rfl rfl rfl ?_
 refine FW.seq (FW.region ?_)
 refine FL.v (E.assign (v:=Value.bool false) rfl) ?_
 refine FL.nil (FW.seq (FW.region ?_))
 refine FL.v (E.move (v:=Value.int .i64 a0) rfl) ?_
 refine FL.v (E.move (v:=Value.int .i64 a1) rfl) ?_
 refine FL.v (E.geq rfl rfl) ?_
 refine FL.v (E.move (v:=Value.bool (decide (a1≤a0))) rfl) ?_
 refine FL.cut 4 (fun f w=>∃ H:GH,St Ha wa H w []∧Inc Ha H∧f 14=Value.bool (bif (decide (a1≤a0)) then (decide (a0≤a2)) else false)) ?_ ?_
 ·
  rcases bcase (decide (a1≤a0)) with c27|c27
  ·
   refine FL.val (zab rfl rfl rfl c27) rfl rfl (E.move (v:=Value.int .i64 a0) rfl) ?_
   refine FL.val (zab rfl rfl rfl c27) rfl rfl (E.move (v:=Value.int .i64 a2) rfl) ?_
   refine FL.val (zab rfl rfl rfl c27) rfl rfl (E.leq rfl rfl) ?_
   refine FL.v (E.pickT rfl c27 rfl) ?_
   exact FL.nil ⟨rfl,_,S0,(Inc.rfl _),(congrArg Value.bool (bifT c27).symm)⟩
  ·
   refine FL.skip (wF_no rfl rfl rfl c27) rfl ?_
   refine FL.skip (wF_no rfl rfl rfl c27) rfl ?_
   refine FL.skip (wF_no rfl rfl rfl c27) rfl ?_
   refine FL.v (E.pickF rfl c27 rfl) ?_
   exact FL.nil ⟨rfl,_,S0,(Inc.rfl _),(congrArg Value.bool (bifF c27).symm)⟩
 rintro f26 w25 ⟨H22,S23,i24,k28⟩
 refine FL.v (E.assign k28) ?_
 refine FL.nil ?_
 refine FW.ret ?_
 obtain rfl:=hp
 exact ⟨.inr rfl,res1 rfl rfl ⟨rfl,S23.back⟩⟩

set_option maxHeartbeats 4000000 in
theorem w_spec_l22End_B {rec_spec_l22End:ByteArray→Int→Option Int} (hrec_spec_l22End:∀ {Ha:GH} {wa:World} (hs:Sl Ha wa) (a0:ByteArray) (a1:Int) {r:Int} (hp:rec_spec_l22End a0 a1=some r),Calls Tryz.prog 98 #[Value.string a0,Value.int .i64 a1] wa (Sc Ha wa (Value.int .i64 r))) {Ha:GH} {wa:World} (hs:Sl Ha wa) (a0:ByteArray) (a1:Int) {r:Int} (hp:PF.zcN rec_spec_l22End a0 a1=some r) :
  Calls Tryz.prog 98 #[Value.string a0,Value.int .i64 a1] wa (Sc Ha wa (Value.int .i64 r)):=by
 unfold PF.zcN at hp
 have S0:=St.init hs
 refine zaj (N:=100) (args:=[Value.string a0,Value.int .i64 a1]) Tryz.func98 rfl rfl rfl ?_
 refine FW.seq (FW.region ?_)
 refine FL.v (E.assign (v:=Value.int .i64 0) rfl) ?_
 refine FL.nil (FW.seq (FW.seq (FW.region ?_)))
 refine FL.v (E.move (v:=Value.int .i64 a1) rfl) ?_
 refine FL.v (E.move (v:=Value.string a0) rfl) ?_
 refine FL.v (E.lenS Tryz.runUnderlying9 rfl) ?_
 refine FL.v (E.geq rfl rfl) ?_
 refine FL.nil ?_
 rcases ifB hp with ⟨c21,hp⟩|⟨c21,hp⟩
 ·
  refine FW.condT rfl c21 ?_
  refine FW.seq (FW.region ?_)
  refine FL.v (E.assign (v:=Value.int .i64 (-1)) rfl) ?_
  refine FL.nil ?_
  refine FW.ret ?_
  obtain rfl:=Option.some.inj hp
  exact ⟨.inr rfl,res1 rfl rfl ⟨rfl,S0.back⟩⟩
 ·
  refine FW.condF rfl c21 ?_
  refine FW.skip (FW.seq (FW.block (FW.seq (FW.region ?_))))
  refine FL.v (E.move (v:=Value.string a0) rfl) ?_
  refine FL.v (E.move (v:=Value.int .i64 a1) rfl) ?_
  obtain ⟨z22,h23,hp⟩:=bnd hp
  refine FL.v (E.ixS Tryz.runUnderlying9 rfl rfl h23) ?_
  refine FL.v (E.eql rfl rfl) ?_
  refine FL.v (E.move (v:=Value.bool (z22 == 48)) rfl) ?_
  obtain ⟨t26,hqt26,hp⟩:=bnd hp
  refine FL.cut 5 (fun f w=>∃ H:GH,St Ha wa H w []∧Inc Ha H∧f 0=Value.string a0∧f 1=Value.int .i64 a1∧f 21=Value.bool t26) ?_ ?_
  ·
   clear hp;have hp:=hqt26;clear hqt26
   rcases ifB hp with ⟨c32,hp⟩|⟨c32,hp⟩
   ·
    refine FL.skip (wF_no rfl rfl rfl c32) rfl ?_
    refine FL.skip (wF_no rfl rfl rfl c32) rfl ?_
    refine FL.skip (wF_no rfl rfl rfl c32) rfl ?_
    refine FL.skip (wF_no rfl rfl rfl c32) rfl ?_
    obtain rfl:=Option.some.inj hp
    refine FL.v (E.pickT rfl c32 rfl) ?_
    exact FL.nil ⟨rfl,_,S0,(Inc.rfl _),rfl,rfl,rfl⟩
   ·
    refine FL.val (zab rfl rfl rfl c32) rfl rfl (E.move (v:=Value.string a0) rfl) ?_
    refine FL.val (zab rfl rfl rfl c32) rfl rfl (E.move (v:=Value.int .i64 a1) rfl) ?_
    obtain ⟨z33,h34,hp⟩:=bnd hp
    refine FL.val (zab rfl rfl rfl c32) rfl rfl (E.ixS Tryz.runUnderlying9 rfl rfl h34) ?_
    refine FL.val (zab rfl rfl rfl c32) rfl rfl (E.eql rfl rfl) ?_
    obtain rfl:=Option.some.inj hp
    refine FL.v (E.pickF rfl c32 rfl) ?_
    exact FL.nil ⟨rfl,_,S0,(Inc.rfl _),rfl,rfl,rfl⟩
  rintro f31 w30 ⟨H27,S28,i29,k35,k36,k37⟩
  refine FL.v (E.move k37) ?_
  obtain ⟨t55,hqt55,hp⟩:=bnd hp
  refine FL.cut 11 (fun f w=>∃ H:GH,St Ha wa H w []∧Inc H27 H∧f 0=Value.string a0∧f 1=Value.int .i64 a1∧f 33=Value.bool t55) ?_ ?_
  ·
   clear hp;have hp:=hqt55;clear hqt55
   rcases ifB hp with ⟨c61,hp⟩|⟨c61,hp⟩
   ·
    refine FL.skip (wF_no rfl rfl rfl c61) rfl ?_
    refine FL.skip (wF_no rfl rfl rfl c61) rfl ?_
    refine FL.skip (wF_no rfl rfl rfl c61) rfl ?_
    refine FL.skip (wF_no rfl rfl rfl c61) rfl ?_
    refine FL.skip (wF_no rfl rfl rfl c61) rfl ?_
    refine FL.skip (zay rfl rfl rfl) rfl ?_
    refine FL.skip (zay rfl rfl rfl) rfl ?_
    refine FL.skip (zay rfl rfl rfl) rfl ?_
    refine FL.skip (zay rfl rfl rfl) rfl ?_
    refine FL.skip (wF_no rfl rfl rfl c61) rfl ?_
    obtain rfl:=Option.some.inj hp
    refine FL.v (E.pickT rfl c61 rfl) ?_
    exact FL.nil ⟨rfl,_,S28,(Inc.rfl _),k35,k36,rfl⟩
   ·
    refine FL.val (zab rfl rfl rfl c61) rfl rfl (E.move k35) ?_
    refine FL.val (zab rfl rfl rfl c61) rfl rfl (E.move k36) ?_
    obtain ⟨z62,h63,hp⟩:=bnd hp
    refine FL.val (zab rfl rfl rfl c61) rfl rfl (E.ixS Tryz.runUnderlying9 rfl rfl h63) ?_
    refine FL.val (zab rfl rfl rfl c61) rfl rfl (E.geq rfl rfl) ?_
    refine FL.val (zab rfl rfl rfl c61) rfl rfl (E.move (v:=Value.bool (decide (97≤z62))) rfl) ?_
    obtain ⟨t66,hqt66,hp⟩:=bnd hp
    refine FL.cut 5 (fun f w=>∃ H:GH,St Ha wa H w []∧Inc H27 H∧f 0=Value.string a0∧f 1=Value.int .i64 a1∧f 22=Value.bool t26∧f 32=Value.bool t66) ?_ ?_
    ·
     clear hp;have hp:=hqt66;clear hqt66
     rcases ifB hp with ⟨c72,hp⟩|⟨c72,hp⟩
     ·
      refine FL.val (zab rfl rfl rfl c72) rfl rfl (E.move k35) ?_
      refine FL.val (zab rfl rfl rfl c72) rfl rfl (E.move k36) ?_
      obtain ⟨z73,h74,hp⟩:=bnd hp
      refine FL.val (zab rfl rfl rfl c72) rfl rfl (E.ixS Tryz.runUnderlying9 rfl rfl h74) ?_
      refine FL.val (zab rfl rfl rfl c72) rfl rfl (E.leq rfl rfl) ?_
      obtain rfl:=Option.some.inj hp
      refine FL.val (zab rfl rfl rfl c61) rfl rfl (E.pickT rfl c72 rfl) ?_
      exact FL.nil ⟨rfl,_,S28,(Inc.rfl _),k35,k36,rfl,rfl⟩
     ·
      refine FL.skip (wF_no rfl rfl rfl c72) rfl ?_
      refine FL.skip (wF_no rfl rfl rfl c72) rfl ?_
      refine FL.skip (wF_no rfl rfl rfl c72) rfl ?_
      refine FL.skip (wF_no rfl rfl rfl c72) rfl ?_
      obtain rfl:=Option.some.inj hp
      refine FL.val (zab rfl rfl rfl c61) rfl rfl (E.pickF rfl c72 rfl) ?_
      exact FL.nil ⟨rfl,_,S28,(Inc.rfl _),k35,k36,rfl,rfl⟩
    rintro f71 w70 ⟨H67,S68,i69,k75,k76,k77,k78⟩
    obtain rfl:=Option.some.inj hp
    refine FL.v (E.pickF k77 c61 k78) ?_
    exact FL.nil ⟨rfl,_,S68,i69,k75,k76,rfl⟩
  rintro f60 w59 ⟨H56,S57,i58,k79,k80,k81⟩
  refine FL.v (E.assign k81) ?_
  refine FL.nil ?_
  rcases ifB hp with ⟨c82,hp⟩|⟨c82,hp⟩
  ·
   refine FW.condT rfl c82 ?_
   refine FW.seq (FW.region ?_)
   refine FL.v (E.move k80) ?_
   refine FL.v (E.add rfl rfl) ?_
   refine FL.v (E.assign (v:=Value.int .i64 (wr (a1 + 1))) rfl) ?_
   refine FL.nil ?_
   refine FW.ret ?_
   obtain rfl:=Option.some.inj hp
   exact ⟨.inr rfl,res1 rfl rfl ⟨rfl,S57.back⟩⟩
  ·
   refine FW.condF rfl c82 ?_
   refine FW.seq (FW.region ?_)
   refine FL.v (E.move k79) ?_
   refine FL.v (E.move k80) ?_
   obtain ⟨z83,h84,hp⟩:=bnd hp
   refine FL.v (E.ixS Tryz.runUnderlying9 rfl rfl h84) ?_
   refine FL.v (E.eql rfl rfl) ?_
   refine FL.v (E.assign (v:=Value.bool (z83 == 126)) rfl) ?_
   refine FL.nil ?_
   rcases ifB hp with ⟨c85,hp⟩|⟨c85,hp⟩
   ·
    refine FW.condT rfl c85 ?_
    refine FW.seq (FW.region ?_)
    refine FL.v (E.move k79) ?_
    refine FL.v (E.move k80) ?_
    refine FL.v (E.add rfl rfl) ?_
    obtain ⟨r86,hr87,hp⟩:=bnd hp
    refine FL.call rfl rfl rfl (E.call Tryz.call98 (A2 rfl rfl)) (hrec_spec_l22End S57.sl a0 (wr (a1 + 1)) hr87) ?_
    rintro e w88 ⟨rfl,r89⟩
    refine ⟨_,rfl,?_⟩
    have S90:=S57.call r89
    refine FL.v (E.assign (v:=Value.int .i64 r86) rfl) ?_
    refine FL.nil ?_
    refine FW.ret ?_
    obtain rfl:=Option.some.inj hp
    exact ⟨.inr rfl,res1 rfl rfl ⟨rfl,S90.back⟩⟩
   ·
    refine FW.condF rfl c85 ?_
    refine FW.seq (FW.region ?_)
    refine FL.v (E.move k79) ?_
    refine FL.v (E.move k80) ?_
    obtain ⟨z91,h92,hp⟩:=bnd hp
    refine FL.v (E.ixS Tryz.runUnderlying9 rfl rfl h92) ?_
    refine FL.v (E.neq rfl rfl) ?_
    refine FL.v (E.assign (v:=Value.bool (!(z91 == 40))) rfl) ?_
    refine FL.nil ?_
    rcases ifB hp with ⟨c93,hp⟩|⟨c93,hp⟩
    ·
     refine FW.condT rfl c93 ?_
     refine FW.seq (FW.region ?_)
     refine FL.v (E.assign (v:=Value.int .i64 (-1)) rfl) ?_
     refine FL.nil ?_
     refine FW.ret ?_
     obtain rfl:=Option.some.inj hp
     exact ⟨.inr rfl,res1 rfl rfl ⟨rfl,S57.back⟩⟩
    ·
     refine FW.condF rfl c93 ?_
     refine FW.skip (FW.seq (FW.region ?_))
     refine FL.v (E.move k79) ?_
     refine FL.v (E.move k80) ?_
     refine FL.v (E.add rfl rfl) ?_
     obtain ⟨r94,hr95,hp⟩:=bnd hp
     refine FL.call rfl rfl rfl (E.call Tryz.call98 (A2 rfl rfl)) (hrec_spec_l22End S57.sl a0 (wr (a1 + 1)) hr95) ?_
     rintro e w96 ⟨rfl,r97⟩
     refine ⟨_,rfl,?_⟩
     have S98:=S57.call r97
     refine FL.v (E.assign (v:=Value.int .i64 r94) rfl) ?_
     refine FL.nil (FW.seq (FW.seq (FW.region ?_)))
     refine FL.v (E.move (v:=Value.int .i64 r94) rfl) ?_
     refine FL.v (E.lss rfl rfl) ?_
     refine FL.v (E.move (v:=Value.bool (decide (r94 < 0))) rfl) ?_
     refine FL.cut 5 (fun f w=>∃ H:GH,St Ha wa H w []∧Inc H56 H∧f 0=Value.string a0∧f 5=Value.int .i64 r94∧f 61=Value.bool (bif (decide (r94 < 0)) then true else (decide ((a0.size:Int)≤r94)))) ?_ ?_
     ·
      rcases bcase (decide (r94 < 0)) with cA5|cA5
      ·
       refine FL.skip (wF_no rfl rfl rfl cA5) rfl ?_
       refine FL.skip (wF_no rfl rfl rfl cA5) rfl ?_
       refine FL.skip (wF_no rfl rfl rfl cA5) rfl ?_
       refine FL.skip (wF_no rfl rfl rfl cA5) rfl ?_
       refine FL.v (E.pickT rfl cA5 rfl) ?_
       exact FL.nil ⟨rfl,_,S98,(Inc.rfl _),k79,rfl,(congrArg Value.bool (bifT cA5).symm)⟩
      ·
       refine FL.val (zab rfl rfl rfl cA5) rfl rfl (E.move (v:=Value.int .i64 r94) rfl) ?_
       refine FL.val (zab rfl rfl rfl cA5) rfl rfl (E.move k79) ?_
       refine FL.val (zab rfl rfl rfl cA5) rfl rfl (E.lenS Tryz.runUnderlying9 rfl) ?_
       refine FL.val (zab rfl rfl rfl cA5) rfl rfl (E.geq rfl rfl) ?_
       refine FL.v (E.pickF rfl cA5 rfl) ?_
       exact FL.nil ⟨rfl,_,S98,(Inc.rfl _),k79,rfl,(congrArg Value.bool (bifF cA5).symm)⟩
     rintro fA4 wA3 ⟨HA0,SA1,iA2,kA6,kA7,kA8⟩
     refine FL.v (E.move kA8) ?_
     obtain ⟨t141,hqtAF,hp⟩:=bnd hp
     refine FL.cut 17 (fun f w=>∃ H:GH,St Ha wa H w []∧Inc HA0 H∧f 0=Value.string a0∧f 5=Value.int .i64 r94∧f 79=Value.bool t141) ?_ ?_
     ·
      clear hp;have hp:=hqtAF;clear hqtAF
      rcases ifB hp with ⟨cAL,hp⟩|⟨cAL,hp⟩
      ·
       refine FL.skip (wF_no rfl rfl rfl cAL) rfl ?_
       refine FL.skip (wF_no rfl rfl rfl cAL) rfl ?_
       refine FL.skip (wF_no rfl rfl rfl cAL) rfl ?_
       refine FL.skip (wF_no rfl rfl rfl cAL) rfl ?_
       refine FL.skip (wF_no rfl rfl rfl cAL) rfl ?_
       refine FL.skip (zay rfl rfl rfl) rfl ?_
       refine FL.skip (zay rfl rfl rfl) rfl ?_
       refine FL.skip (zay rfl rfl rfl) rfl ?_
       refine FL.skip (zay rfl rfl rfl) rfl ?_
       refine FL.skip (wF_no rfl rfl rfl cAL) rfl ?_
       refine FL.skip (wF_no rfl rfl rfl cAL) rfl ?_
       refine FL.skip (zay rfl rfl rfl) rfl ?_
       refine FL.skip (zay rfl rfl rfl) rfl ?_
       refine FL.skip (zay rfl rfl rfl) rfl ?_
       refine FL.skip (zay rfl rfl rfl) rfl ?_
       refine FL.skip (wF_no rfl rfl rfl cAL) rfl ?_
       obtain rfl:=Option.some.inj hp
       refine FL.v (E.pickT rfl cAL rfl) ?_
       exact FL.nil ⟨rfl,_,SA1,(Inc.rfl _),kA6,kA7,rfl⟩
      ·
       refine FL.val (zab rfl rfl rfl cAL) rfl rfl (E.move kA6) ?_
       refine FL.val (zab rfl rfl rfl cAL) rfl rfl (E.move kA7) ?_
       obtain ⟨zAM,hAN,hp⟩:=bnd hp
       refine FL.val (zab rfl rfl rfl cAL) rfl rfl (E.ixS Tryz.runUnderlying9 rfl rfl hAN) ?_
       refine FL.val (zab rfl rfl rfl cAL) rfl rfl (E.neq rfl rfl) ?_
       refine FL.val (zab rfl rfl rfl cAL) rfl rfl (E.move (v:=Value.bool (!(zAM == 38))) rfl) ?_
       obtain ⟨t152,hqtAQ,hp⟩:=bnd hp
       refine FL.cut 5 (fun f w=>∃ H:GH,St Ha wa H w []∧Inc HA0 H∧f 0=Value.string a0∧f 5=Value.int .i64 r94∧f 62=Value.bool (bif (decide (r94 < 0)) then true else (decide ((a0.size:Int)≤r94)))∧f 72=Value.bool t152) ?_ ?_
       ·
        clear hp;have hp:=hqtAQ;clear hqtAQ
        rcases ifB hp with ⟨cAW,hp⟩|⟨cAW,hp⟩
        ·
         refine FL.val (zab rfl rfl rfl cAW) rfl rfl (E.move kA6) ?_
         refine FL.val (zab rfl rfl rfl cAW) rfl rfl (E.move kA7) ?_
         obtain ⟨zAX,hAY,hp⟩:=bnd hp
         refine FL.val (zab rfl rfl rfl cAW) rfl rfl (E.ixS Tryz.runUnderlying9 rfl rfl hAY) ?_
         refine FL.val (zab rfl rfl rfl cAW) rfl rfl (E.neq rfl rfl) ?_
         obtain rfl:=Option.some.inj hp
         refine FL.val (zab rfl rfl rfl cAL) rfl rfl (E.pickT rfl cAW rfl) ?_
         exact FL.nil ⟨rfl,_,SA1,(Inc.rfl _),kA6,kA7,rfl,rfl⟩
        ·
         refine FL.skip (wF_no rfl rfl rfl cAW) rfl ?_
         refine FL.skip (wF_no rfl rfl rfl cAW) rfl ?_
         refine FL.skip (wF_no rfl rfl rfl cAW) rfl ?_
         refine FL.skip (wF_no rfl rfl rfl cAW) rfl ?_
         obtain rfl:=Option.some.inj hp
         refine FL.val (zab rfl rfl rfl cAL) rfl rfl (E.pickF rfl cAW rfl) ?_
         exact FL.nil ⟨rfl,_,SA1,(Inc.rfl _),kA6,kA7,rfl,rfl⟩
       rintro fAV wAU ⟨HAR,SAS,iAT,kAZ,kB0,kB1,kB2⟩
       refine FL.val (zab rfl rfl kB1 cAL) rfl rfl (E.move kB2) ?_
       obtain ⟨t167,hqtB5,hp⟩:=bnd hp
       refine FL.cut 5 (fun f w=>∃ H:GH,St Ha wa H w []∧Inc HAR H∧f 0=Value.string a0∧f 5=Value.int .i64 r94∧f 62=Value.bool (bif (decide (r94 < 0)) then true else (decide ((a0.size:Int)≤r94)))∧f 78=Value.bool t167) ?_ ?_
       ·
        clear hp;have hp:=hqtB5;clear hqtB5
        rcases ifB hp with ⟨cBb,hp⟩|⟨cBb,hp⟩
        ·
         refine FL.val (zab rfl rfl rfl cBb) rfl rfl (E.move kAZ) ?_
         refine FL.val (zab rfl rfl rfl cBb) rfl rfl (E.move kB0) ?_
         obtain ⟨zBc,hBd,hp⟩:=bnd hp
         refine FL.val (zab rfl rfl rfl cBb) rfl rfl (E.ixS Tryz.runUnderlying9 rfl rfl hBd) ?_
         refine FL.val (zab rfl rfl rfl cBb) rfl rfl (E.neq rfl rfl) ?_
         obtain rfl:=Option.some.inj hp
         refine FL.val (zab rfl rfl kB1 cAL) rfl rfl (E.pickT rfl cBb rfl) ?_
         exact FL.nil ⟨rfl,_,SAS,(Inc.rfl _),kAZ,kB0,kB1,rfl⟩
        ·
         refine FL.skip (wF_no rfl rfl rfl cBb) rfl ?_
         refine FL.skip (wF_no rfl rfl rfl cBb) rfl ?_
         refine FL.skip (wF_no rfl rfl rfl cBb) rfl ?_
         refine FL.skip (wF_no rfl rfl rfl cBb) rfl ?_
         obtain rfl:=Option.some.inj hp
         refine FL.val (zab rfl rfl kB1 cAL) rfl rfl (E.pickF rfl cBb rfl) ?_
         exact FL.nil ⟨rfl,_,SAS,(Inc.rfl _),kAZ,kB0,kB1,rfl⟩
       rintro fBa wB9 ⟨HB6,SB7,iB8,kBe,kBf,kBg,kBh⟩
       obtain rfl:=Option.some.inj hp
       refine FL.v (E.pickF kBg cAL kBh) ?_
       exact FL.nil ⟨rfl,_,SB7,(iAT.tr iB8),kBe,kBf,rfl⟩
     rintro fAK wAJ ⟨HAG,SAH,iAI,kBi,kBj,kBk⟩
     refine FL.nil ?_
     rcases ifB hp with ⟨cBl,hp⟩|⟨cBl,hp⟩
     ·
      refine FW.condT kBk cBl ?_
      refine FW.seq (FW.region ?_)
      refine FL.v (E.assign (v:=Value.int .i64 (-1)) rfl) ?_
      refine FL.nil ?_
      refine FW.ret ?_
      obtain rfl:=Option.some.inj hp
      exact ⟨.inr rfl,res1 rfl rfl ⟨rfl,SAH.back⟩⟩
     ·
      refine FW.condF kBk cBl ?_
      refine FW.skip (FW.seq (FW.region ?_))
      refine FL.v (E.move kBi) ?_
      refine FL.v (E.move kBj) ?_
      refine FL.v (E.add rfl rfl) ?_
      obtain ⟨rBm,hrBn,hp⟩:=bnd hp
      refine FL.call rfl rfl rfl (E.call Tryz.call98 (A2 rfl rfl)) (hrec_spec_l22End SAH.sl a0 (wr (r94 + 1)) hrBn) ?_
      rintro e wBo ⟨rfl,rBp⟩
      refine ⟨_,rfl,?_⟩
      have SBq:=SAH.call rBp
      refine FL.v (E.assign (v:=Value.int .i64 rBm) rfl) ?_
      refine FL.nil (FW.seq (FW.seq (FW.region ?_)))
      refine FL.v (E.move (v:=Value.int .i64 rBm) rfl) ?_
      refine FL.v (E.lss rfl rfl) ?_
      refine FL.v (E.move (v:=Value.bool (decide (rBm < 0))) rfl) ?_
      refine FL.cut 5 (fun f w=>∃ H:GH,St Ha wa H w []∧Inc HAG H∧f 0=Value.string a0∧f 6=Value.int .i64 rBm∧f 91=Value.bool (bif (decide (rBm < 0)) then true else (decide ((a0.size:Int)≤rBm)))) ?_ ?_
      ·
       rcases bcase (decide (rBm < 0)) with cBx|cBx
       ·
        refine FL.skip (wF_no rfl rfl rfl cBx) rfl ?_
        refine FL.skip (wF_no rfl rfl rfl cBx) rfl ?_
        refine FL.skip (wF_no rfl rfl rfl cBx) rfl ?_
        refine FL.skip (wF_no rfl rfl rfl cBx) rfl ?_
        refine FL.v (E.pickT rfl cBx rfl) ?_
        exact FL.nil ⟨rfl,_,SBq,(Inc.rfl _),kBi,rfl,(congrArg Value.bool (bifT cBx).symm)⟩
       ·
        refine FL.val (zab rfl rfl rfl cBx) rfl rfl (E.move (v:=Value.int .i64 rBm) rfl) ?_
        refine FL.val (zab rfl rfl rfl cBx) rfl rfl (E.move kBi) ?_
        refine FL.val (zab rfl rfl rfl cBx) rfl rfl (E.lenS Tryz.runUnderlying9 rfl) ?_
        refine FL.val (zab rfl rfl rfl cBx) rfl rfl (E.geq rfl rfl) ?_
        refine FL.v (E.pickF rfl cBx rfl) ?_
        exact FL.nil ⟨rfl,_,SBq,(Inc.rfl _),kBi,rfl,(congrArg Value.bool (bifF cBx).symm)⟩
      rintro fBw wBv ⟨HBs,SBt,iBu,kBy,kBz,kBA⟩
      refine FL.v (E.move kBA) ?_
      obtain ⟨t201,hqtBD,hp⟩:=bnd hp
      refine FL.cut 5 (fun f w=>∃ H:GH,St Ha wa H w []∧Inc HBs H∧f 6=Value.int .i64 rBm∧f 97=Value.bool t201) ?_ ?_
      ·
       clear hp;have hp:=hqtBD;clear hqtBD
       rcases ifB hp with ⟨cBJ,hp⟩|⟨cBJ,hp⟩
       ·
        refine FL.skip (wF_no rfl rfl rfl cBJ) rfl ?_
        refine FL.skip (wF_no rfl rfl rfl cBJ) rfl ?_
        refine FL.skip (wF_no rfl rfl rfl cBJ) rfl ?_
        refine FL.skip (wF_no rfl rfl rfl cBJ) rfl ?_
        obtain rfl:=Option.some.inj hp
        refine FL.v (E.pickT rfl cBJ rfl) ?_
        exact FL.nil ⟨rfl,_,SBt,(Inc.rfl _),kBz,rfl⟩
       ·
        refine FL.val (zab rfl rfl rfl cBJ) rfl rfl (E.move kBy) ?_
        refine FL.val (zab rfl rfl rfl cBJ) rfl rfl (E.move kBz) ?_
        obtain ⟨zBK,hBL,hp⟩:=bnd hp
        refine FL.val (zab rfl rfl rfl cBJ) rfl rfl (E.ixS Tryz.runUnderlying9 rfl rfl hBL) ?_
        refine FL.val (zab rfl rfl rfl cBJ) rfl rfl (E.neq rfl rfl) ?_
        obtain rfl:=Option.some.inj hp
        refine FL.v (E.pickF rfl cBJ rfl) ?_
        exact FL.nil ⟨rfl,_,SBt,(Inc.rfl _),kBz,rfl⟩
      rintro fBI wBH ⟨HBE,SBF,iBG,kBM,kBN⟩
      refine FL.nil ?_
      rcases ifB hp with ⟨cBO,hp⟩|⟨cBO,hp⟩
      ·
       refine FW.condT kBN cBO ?_
       refine FW.seq (FW.region ?_)
       refine FL.v (E.assign (v:=Value.int .i64 (-1)) rfl) ?_
       refine FL.nil ?_
       refine FW.ret ?_
       obtain rfl:=Option.some.inj hp
       exact ⟨.inr rfl,res1 rfl rfl ⟨rfl,SBF.back⟩⟩
      ·
       refine FW.condF kBN cBO ?_
       refine FW.skip (FW.seq (FW.region ?_))
       refine FL.v (E.move kBM) ?_
       refine FL.v (E.add rfl rfl) ?_
       refine FL.v (E.assign (v:=Value.int .i64 (wr (rBm + 1))) rfl) ?_
       refine FL.nil ?_
       refine FW.ret ?_
       obtain rfl:=Option.some.inj hp
       exact ⟨.inr rfl,res1 rfl rfl ⟨rfl,SBF.back⟩⟩
theorem w_spec_l22End_F (n:Nat):∀ {Ha:GH} {wa:World} (hs:Sl Ha wa) (a0:ByteArray) (a1:Int) {r:Int} (hp:PF.zck n a0 a1=some r),Calls Tryz.prog 98 #[Value.string a0,Value.int .i64 a1] wa (Sc Ha wa (Value.int .i64 r)):=by
 induction n with
 | zero=>intros;rename_i hp;exact nomatch hp
 | succ n ih=>exact w_spec_l22End_B (rec_spec_l22End:=PF.zck n) ih
theorem w_spec_l22End {Ha:GH} {wa:World} (hs:Sl Ha wa) (a0:ByteArray) (a1:Int) {r:Int} (hp:PF.zcO a0 a1=some r) :
  Calls Tryz.prog 98 #[Value.string a0,Value.int .i64 a1] wa (Sc Ha wa (Value.int .i64 r)):=w_spec_l22End_F deep hs a0 a1 hp

theorem zd3 {Ha:GH} {wa:World} (hs:Sl Ha wa) (a0:ByteArray) {r:Bool} (hp:(PF.zcl a0)=some r) :
  Calls Tryz.prog 48 #[Value.string a0] wa (Sc Ha wa (Value.bool r)):=by
 unfold PF.zcl at hp
 have S0:=St.init hs
 refine zaj (N:=18) (args:=[Value.string a0]) Tryz.func48 rfl rfl rfl ?_
 refine FW.seq (FW.region ?_)
 refine FL.v (E.assign (v:=Value.bool false) rfl) ?_
 refine FL.nil (FW.seq (FW.region ?_))
 refine FL.v (E.move (v:=Value.string a0) rfl) ?_
 refine FL.v (E.lenS Tryz.runUnderlying9 rfl) ?_
 refine FL.v (E.gtr rfl rfl) ?_
 refine FL.v (E.move (v:=Value.bool (decide (0 < (a0.size:Int)))) rfl) ?_
 refine FL.cut 4 (fun f w=>∃ H:GH,St Ha wa H w []∧Inc Ha H∧f 0=Value.string a0∧f 10=Value.bool (bif (decide (0 < (a0.size:Int))) then (decide ((a0.size:Int)≤80)) else false)) ?_ ?_
 ·
  rcases bcase (decide (0 < (a0.size:Int))) with c27|c27
  ·
   refine FL.val (zab rfl rfl rfl c27) rfl rfl (E.move (v:=Value.string a0) rfl) ?_
   refine FL.val (zab rfl rfl rfl c27) rfl rfl (E.lenS Tryz.runUnderlying9 rfl) ?_
   refine FL.val (zab rfl rfl rfl c27) rfl rfl (E.leq rfl rfl) ?_
   refine FL.v (E.pickT rfl c27 rfl) ?_
   exact FL.nil ⟨rfl,_,S0,(Inc.rfl _),rfl,(congrArg Value.bool (bifT c27).symm)⟩
  ·
   refine FL.skip (wF_no rfl rfl rfl c27) rfl ?_
   refine FL.skip (wF_no rfl rfl rfl c27) rfl ?_
   refine FL.skip (wF_no rfl rfl rfl c27) rfl ?_
   refine FL.v (E.pickF rfl c27 rfl) ?_
   exact FL.nil ⟨rfl,_,S0,(Inc.rfl _),rfl,(congrArg Value.bool (bifF c27).symm)⟩
 rintro f26 w25 ⟨H22,S23,i24,k28,k29⟩
 refine FL.v (E.move k29) ?_
 obtain ⟨t35,hqt35,hp⟩:=bnd hp
 refine FL.cut 6 (fun f w=>∃ H:GH,St Ha wa H w []∧Inc H22 H∧f 17=Value.bool t35) ?_ ?_
 ·
  clear hp;have hp:=hqt35;clear hqt35
  rcases ifB hp with ⟨c41,hp⟩|⟨c41,hp⟩
  ·
   refine FL.val (zab rfl rfl rfl c41) rfl rfl (E.move k28) ?_
   obtain ⟨r42,hr43,hp⟩:=bnd hp
   refine FL.call (zab rfl rfl rfl c41) rfl rfl (E.call Tryz.call98 (A2 rfl rfl)) (w_spec_l22End S23.sl a0 0 hr43) ?_
   rintro e w44 ⟨rfl,r45⟩
   refine ⟨_,rfl,?_⟩
   have S46:=S23.call r45
   refine FL.val (zab rfl rfl rfl c41) rfl rfl (E.move k28) ?_
   refine FL.val (zab rfl rfl rfl c41) rfl rfl (E.lenS Tryz.runUnderlying9 rfl) ?_
   refine FL.val (zab rfl rfl rfl c41) rfl rfl (E.eql rfl rfl) ?_
   obtain rfl:=Option.some.inj hp
   refine FL.v (E.pickT rfl c41 rfl) ?_
   exact FL.nil ⟨rfl,_,S46,(Inc.rfl _),rfl⟩
  ·
   refine FL.skip (wF_no rfl rfl rfl c41) rfl ?_
   refine FL.skip (wF_no rfl rfl rfl c41) rfl ?_
   refine FL.skip (wF_no rfl rfl rfl c41) rfl ?_
   refine FL.skip (wF_no rfl rfl rfl c41) rfl ?_
   refine FL.skip (wF_no rfl rfl rfl c41) rfl ?_
   obtain rfl:=Option.some.inj hp
   refine FL.v (E.pickF rfl c41 rfl) ?_
   exact FL.nil ⟨rfl,_,S23,(Inc.rfl _),rfl⟩
 rintro f40 w39 ⟨H36,S37,i38,k47⟩
 refine FL.v (E.assign k47) ?_
 refine FL.nil ?_
 refine FW.ret ?_
 obtain rfl:=Option.some.inj hp
 exact ⟨.inr rfl,res1 rfl rfl ⟨rfl,S37.back⟩⟩

theorem zd4 {Ha:GH} {wa:World} (hs:Sl Ha wa) (a0:ByteArray) (a1:ByteArray) :
  Calls Tryz.prog 152 #[Value.string a0,Value.string a1] wa (Sc Ha wa (Value.bool (PF.zbv a0 a1))):=by
 obtain ⟨r,hp⟩:∃ r,(PF.zbv a0 a1)=r:=⟨_,rfl⟩
 rw [hp]
 unfold PF.zbv at hp
 have S0:=St.init hs
 refine zaj (N:=18) (args:=[Value.string a0,Value.string a1]) Tryz.func152 rfl rfl rfl ?_
 refine FW.seq (FW.region ?_)
 refine FL.v (E.assign (v:=Value.bool false) rfl) ?_
 refine FL.nil (FW.seq (FW.seq (FW.region ?_)))
 refine FL.v (E.move (v:=Value.string a0) rfl) ?_
 refine FL.v (E.lenS Tryz.runUnderlying9 rfl) ?_
 refine FL.v (E.move (v:=Value.string a1) rfl) ?_
 refine FL.v (E.lenS Tryz.runUnderlying9 rfl) ?_
 refine FL.v (E.neq rfl rfl) ?_
 refine FL.nil ?_
 rcases ifT hp with ⟨c21,hp⟩|⟨c21,hp⟩
 ·
  refine FW.condT rfl c21 ?_
  refine FW.seq (FW.region ?_)
  refine FL.v (E.move (v:=Value.string a0) rfl) ?_
  refine FL.v (E.lenS Tryz.runUnderlying9 rfl) ?_
  refine FL.v (E.move (v:=Value.string a1) rfl) ?_
  refine FL.v (E.lenS Tryz.runUnderlying9 rfl) ?_
  refine FL.v (E.lss rfl rfl) ?_
  refine FL.v (E.assign (v:=Value.bool (decide ((a0.size:Int) < (a1.size:Int)))) rfl) ?_
  refine FL.nil ?_
  refine FW.ret ?_
  obtain rfl:=hp
  exact ⟨.inr rfl,res1 rfl rfl ⟨rfl,S0.back⟩⟩
 ·
  refine FW.condF rfl c21 ?_
  refine FW.skip (FW.seq (FW.region ?_))
  refine FL.v (E.move (v:=Value.string a0) rfl) ?_
  refine FL.v (E.move (v:=Value.string a1) rfl) ?_
  refine FL.v (E.lssS rfl rfl) ?_
  refine FL.v (E.assign (v:=Value.bool (ltS a0 a1)) rfl) ?_
  refine FL.nil ?_
  refine FW.ret ?_
  obtain rfl:=hp
  exact ⟨.inr rfl,res1 rfl rfl ⟨rfl,S0.back⟩⟩

set_option maxHeartbeats 4000000 in
theorem zd5 {Ha:GH} {wa:World} (hs:Sl Ha wa) (v0:Value) (a0:List ByteArray) (p0:RSl Ha eS 1 v0 a0) {r:Bool} (hp:(PF.zcm a0)=some r) :
  Calls Tryz.prog 145 #[v0] wa (Sc Ha wa (Value.bool r)):=by
 unfold PF.zcm at hp
 have S0:=St.init hs
 refine zaj (N:=36) (args:=[v0]) Tryz.func145 rfl rfl rfl ?_
 refine FW.seq (FW.region ?_)
 refine FL.v (E.assign (v:=Value.bool false) rfl) ?_
 refine FL.nil (FW.seq (FW.seq (FW.region ?_)))
 refine FL.v (E.move (v:=v0) rfl) ?_
 refine FL.v (E.lenP te22 rfl p0) ?_
 refine FL.v (E.gtr rfl rfl) ?_
 refine FL.nil ?_
 rcases ifB hp with ⟨c21,hp⟩|⟨c21,hp⟩
 ·
  refine FW.condT rfl c21 ?_
  refine FW.seq (FW.region ?_)
  refine FL.v (E.assign (v:=Value.bool false) rfl) ?_
  refine FL.nil ?_
  refine FW.ret ?_
  obtain rfl:=Option.some.inj hp
  exact ⟨.inr rfl,res1 rfl rfl ⟨rfl,S0.back⟩⟩
 ·
  refine FW.condF rfl c21 ?_
  refine FW.skip (FW.seq (FW.seq (FW.region ?_)))
  refine FL.v (E.assign (v:=Value.int .i64 0) rfl) ?_
  refine FL.nil ?_
  obtain ⟨q23,hq,hp⟩:=bndR hp
  refine FW.block ?_
  refine FW.mono (FW.forL (S:=Unit) (X:=Bool) (fun (i23:Nat) (s23:Unit) f w=>∃ H:GH,St Ha wa H w []∧Inc Ha H∧f 3=Value.int .i64 ((i23:Nat):Int)∧f 0=v0) (fun q e f w=>match q with|.go s23=>e=Exit.exit 0∧(∃ H:GH,St Ha wa H w []∧Inc Ha H)|.rt x=>((e=Exit.ret)∧(fun e f w=>(e=Exit.normal∨e=Exit.ret)∧∀ a,Fr (δ:=[]) 36 a f→∃ v,(results Tryz.f145 a.tmps).run Tryz.prog w=.ok v w∧(Sc Ha wa (Value.bool x)) (.returned v) w) e f w)) hq ⟨_,S0,(Inc.rfl _),rfl,rfl⟩ ?_ ?_) ?_
  ·
   clear hp hq
   rintro i23 y22 s23 fAA wAz ⟨HAw,SAx,iAy,kAB,kAC⟩ hx23 oCg hp
   refine FW.seq (FW.seq (FW.region ?_))
   refine FL.v (E.move kAB) ?_
   refine FL.v (E.move kAC) ?_
   refine FL.v (E.lenP te22 rfl p0) ?_
   refine FL.v (E.lssT rfl rfl (zaJ hx23)) ?_
   refine FL.nil ?_
   refine FW.condT rfl rfl ?_
   refine FW.skip (FW.seq (FW.block (FW.seq ?_)))
   refine FW.draw (fun w'=>Run wAz.heap.size HAw wAz HAw w') (by kernel_rfl) (by kernel_rfl) (zaN SAx.sl) ?_
   refine FD.val rfl rfl rfl (fun w' hw'=>(E.move kAC)) ?_
   refine FD.val rfl rfl rfl (fun w' hw'=>(E.move kAB)) ?_
   obtain ⟨pAE,csAF,ptAG,lAH,atAI,relAJ⟩:=p0.at (zaF hx23)
   obtain rfl:=eS_open relAJ
   refine FD.val rfl rfl rfl (fun w' hw'=>(E.indexAddr te22 rfl rfl ptAG)) ?_
   refine FD.val rfl rfl rfl (fun w' hw'=>(E.load rfl (zar Tryz.isAgg9 ((atAI.mono iAy).now (SAx.call hw').sl) rfl))) ?_
   obtain ⟨rAK,hrAL,hp⟩:=bnd hp
   refine FD.call rfl rfl rfl (fun w' hw'=>(E.call Tryz.call48 (A1 rfl))) (fun w' hw'=>Calls.cls hw' (zd3 (SAx.call hw').sl y22 hrAL)) ?_
   refine FD.val rfl rfl rfl (fun w' hw'=>(E.not rfl)) ?_
   refine FD.val rfl rfl rfl (fun w' hw'=>(E.move (v:=Value.bool (!rAK)) rfl)) ?_
   obtain ⟨t187,hqtBp,hp⟩:=bnd hp
   refine FD.cut 16 (fun f=>f 0=v0∧f 3=Value.int .i64 ((i23:Nat):Int)∧f 35=Value.bool t187) ?_ ?_
   ·
    clear hp;have hp:=hqtBp;clear hqtBp
    rcases ifB hp with ⟨cBv,hp⟩|⟨cBv,hp⟩
    ·
     refine FD.skip (wF_no rfl rfl rfl cBv) rfl ?_
     refine FD.skip (wF_no rfl rfl rfl cBv) rfl ?_
     refine FD.skip (wF_no rfl rfl rfl cBv) rfl ?_
     refine FD.skip (zay rfl rfl rfl) rfl ?_
     refine FD.skip (zay rfl rfl rfl) rfl ?_
     refine FD.skip (zay rfl rfl rfl) rfl ?_
     refine FD.skip (zay rfl rfl rfl) rfl ?_
     refine FD.skip (zay rfl rfl rfl) rfl ?_
     refine FD.skip (zay rfl rfl rfl) rfl ?_
     refine FD.skip (zay rfl rfl rfl) rfl ?_
     refine FD.skip (zay rfl rfl rfl) rfl ?_
     refine FD.skip (zay rfl rfl rfl) rfl ?_
     refine FD.skip (zay rfl rfl rfl) rfl ?_
     refine FD.skip (zay rfl rfl rfl) rfl ?_
     refine FD.skip (wF_no rfl rfl rfl cBv) rfl ?_
     obtain rfl:=Option.some.inj hp
     refine FD.val rfl rfl rfl (fun w' hw'=>(E.pickT rfl cBv rfl)) ?_
     exact FD.nil ⟨kAC,kAB,rfl⟩
    ·
     refine FD.val (zab rfl rfl rfl cBv) rfl rfl (fun w' hw'=>(E.move kAB)) ?_
     refine FD.val (zab rfl rfl rfl cBv) rfl rfl (fun w' hw'=>(E.gtr rfl rfl)) ?_
     refine FD.val (zab rfl rfl rfl cBv) rfl rfl (fun w' hw'=>(E.move (v:=Value.bool (decide (0 < ((i23:Nat):Int)))) rfl)) ?_
     obtain ⟨t208,hqtBK,hp⟩:=bnd hp
     refine FD.cut 12 (fun f=>f 0=v0∧f 3=Value.int .i64 ((i23:Nat):Int)∧f 19=Value.bool (!rAK)∧f 34=Value.bool t208) ?_ ?_
     ·
      clear hp;have hp:=hqtBK;clear hqtBK
      rcases ifB hp with ⟨cBQ,hp⟩|⟨cBQ,hp⟩
      ·
       refine FD.val (zab rfl rfl rfl cBQ) rfl rfl (fun w' hw'=>(E.move kAC)) ?_
       refine FD.val (zab rfl rfl rfl cBQ) rfl rfl (fun w' hw'=>(E.move kAB)) ?_
       refine FD.val (zab rfl rfl rfl cBQ) rfl rfl (fun w' hw'=>(E.sub rfl rfl)) ?_
       obtain ⟨xBX,hxBY,hp⟩:=bnd hp
       obtain ⟨pBR,csBS,ptBT,lBU,atBV,relBW⟩:=p0.at hxBY
       obtain rfl:=eS_open relBW
       refine FD.val (zab rfl rfl rfl cBQ) rfl rfl (fun w' hw'=>(E.indexAddr te22 rfl rfl ptBT)) ?_
       refine FD.val (zab rfl rfl rfl cBQ) rfl rfl (fun w' hw'=>(E.load rfl (zar Tryz.isAgg9 ((atBV.mono iAy).now (SAx.call hw').sl) rfl))) ?_
       refine FD.val (zab rfl rfl rfl cBQ) rfl rfl (fun w' hw'=>(E.move kAC)) ?_
       refine FD.val (zab rfl rfl rfl cBQ) rfl rfl (fun w' hw'=>(E.move kAB)) ?_
       obtain ⟨pBZ,csC0,ptC1,lC2,atC3,relC4⟩:=p0.at (zaF hx23)
       obtain rfl:=eS_open relC4
       refine FD.val (zab rfl rfl rfl cBQ) rfl rfl (fun w' hw'=>(E.indexAddr te22 rfl rfl ptC1)) ?_
       refine FD.val (zab rfl rfl rfl cBQ) rfl rfl (fun w' hw'=>(E.load rfl (zar Tryz.isAgg9 ((atC3.mono iAy).now (SAx.call hw').sl) rfl))) ?_
       refine FD.call (zab rfl rfl rfl cBQ) rfl rfl (fun w' hw'=>(E.call Tryz.call152 (A2 rfl rfl))) (fun w' hw'=>Calls.cls hw' (zd4 (SAx.call hw').sl xBX y22)) ?_
       refine FD.val (zab rfl rfl rfl cBQ) rfl rfl (fun w' hw'=>(E.not rfl)) ?_
       obtain rfl:=Option.some.inj hp
       refine FD.val (zab rfl rfl rfl cBv) rfl rfl (fun w' hw'=>(E.pickT rfl cBQ rfl)) ?_
       exact FD.nil ⟨kAC,kAB,rfl,rfl⟩
      ·
       refine FD.skip (wF_no rfl rfl rfl cBQ) rfl ?_
       refine FD.skip (wF_no rfl rfl rfl cBQ) rfl ?_
       refine FD.skip (wF_no rfl rfl rfl cBQ) rfl ?_
       refine FD.skip (wF_no rfl rfl rfl cBQ) rfl ?_
       refine FD.skip (wF_no rfl rfl rfl cBQ) rfl ?_
       refine FD.skip (wF_no rfl rfl rfl cBQ) rfl ?_
       refine FD.skip (wF_no rfl rfl rfl cBQ) rfl ?_
       refine FD.skip (wF_no rfl rfl rfl cBQ) rfl ?_
       refine FD.skip (wF_no rfl rfl rfl cBQ) rfl ?_
       refine FD.skip (wF_no rfl rfl rfl cBQ) rfl ?_
       refine FD.skip (wF_no rfl rfl rfl cBQ) rfl ?_
       obtain rfl:=Option.some.inj hp
       refine FD.val (zab rfl rfl rfl cBv) rfl rfl (fun w' hw'=>(E.pickF rfl cBQ rfl)) ?_
       exact FD.nil ⟨kAC,kAB,rfl,rfl⟩
     rintro fBP ⟨kC5,kC6,kC7,kC8⟩
     obtain rfl:=Option.some.inj hp
     refine FD.val rfl rfl rfl (fun w' hw'=>(E.pickF kC7 cBv kC8)) ?_
     exact FD.nil ⟨kC5,kC6,rfl⟩
   rintro fBu ⟨kC9,kCa,kCb⟩
   refine FD.nil ?_
   intro wCc rCe
   have SCd:=SAx.call rCe
   rcases ifB hp with ⟨cCf,hp⟩|⟨cCf,hp⟩
   ·
    refine FW.condT kCb cCf ?_
    refine FW.seq (FW.region ?_)
    refine FL.v (E.assign (v:=Value.bool false) rfl) ?_
    refine FL.nil ?_
    refine FW.ret ?_
    obtain rfl:=Option.some.inj hp
    exact ⟨nofun,rfl,⟨.inr rfl,res1 rfl rfl ⟨rfl,SCd.back⟩⟩⟩
   ·
    refine FW.condF kCb cCf ?_
    refine FW.skip (FW.region ?_)
    refine FL.v (E.move kCa) ?_
    refine FL.v (E.add rfl rfl) ?_
    refine FL.v (E.assign (v:=Value.int .i64 (wr (((i23:Nat):Int) + 1))) rfl) ?_
    refine FL.nil ?_
    obtain rfl:=Option.some.inj hp
    exact ⟨rfl,⟨_,SCd,iAy,(zaA rfl (zat hx23) (p0.mono iAy).le),kC9⟩⟩
  ·
   clear hp hq
   rintro s23 fCq wCp ⟨HCm,SCn,iCo,kCr,kCs⟩
   refine FW.seq (FW.seq (FW.region ?_))
   refine FL.v (E.move kCr) ?_
   refine FL.v (E.move kCs) ?_
   refine FL.v (E.lenP te22 rfl p0) ?_
   refine FL.v (E.lss rfl rfl) ?_
   refine FL.nil ?_
   refine FW.condF rfl zaK ?_
   refine FW.exit ?_
   exact ⟨nofun,rfl,⟨_,SCn,iCo⟩⟩
  ·
   clear hq
   intro e fCl wCk hD
   rcases q23 with s23|x23
   ·
    obtain ⟨rfl,hD⟩:=hD
    obtain ⟨HCh,SCi,iCj⟩:=hD
    replace hp:=el_go hp
    refine FW.seq (FW.region ?_)
    refine FL.v (E.assign (v:=Value.bool true) rfl) ?_
    refine FL.nil ?_
    refine FW.ret ?_
    obtain rfl:=Option.some.inj hp
    exact ⟨.inr rfl,res1 rfl rfl ⟨rfl,SCi.back⟩⟩
   ·
    obtain ⟨he,hL⟩:=hD
    replace hp:=el_rt hp
    obtain rfl:=Option.some.inj hp
    subst he
    exact hL

theorem zd6 {Ha:GH} {wa:World} (hs:Sl Ha wa) (a0:zad) (v0_0:Value) (p0_0:RSl Ha eS 1 v0_0 a0.left) (v0_1:Value) (p0_1:RSl Ha eS 1 v0_1 a0.right) {r:Bool} (hp:(PF.zcn a0)=some r) :
  Calls Tryz.prog 99 #[Value.agg #[v0_0,v0_1]] wa (Sc Ha wa (Value.bool r)):=by
 unfold PF.zcn at hp
 have S0:=St.init hs
 refine zaj (N:=11) (args:=[Value.agg #[v0_0,v0_1]]) Tryz.func99 rfl rfl rfl ?_
 refine FW.seq (FW.region ?_)
 obtain ⟨b21,w22,run23,S24⟩:=S0.box (P:=Tryz.prog) 68 [v0_0,v0_1] (v:=Value.agg #[v0_0,v0_1]) rfl (zaa p0_0.one (zaa p0_1.one zag))
 refine FL.v (E.box rfl run23) ?_
 obtain ⟨H25,S26,i27,at28⟩:=S24.sealBox (i:=0) (l':=[]) rfl rfl
 refine FL.v (E.assign (v:=Value.bool false) rfl) ?_
 refine FL.nil (FW.seq (FW.region ?_))
 refine FL.v (E.fieldAddr zau rfl) ?_
 refine FL.v (E.load rfl (zaf Tryz.isAgg22 (at28.now S26.sl) rfl)) ?_
 obtain ⟨r29,hr30,hp⟩:=bnd hp
 refine FL.call rfl rfl rfl (E.call Tryz.call145 (A1 rfl)) (zd5 S26.sl v0_0 a0.left (p0_0.mono i27) hr30) ?_
 rintro e w31 ⟨rfl,r32⟩
 refine ⟨_,rfl,?_⟩
 have S33:=S26.call r32
 refine FL.v (E.move (v:=Value.bool r29) rfl) ?_
 obtain ⟨t39,hqt39,hp⟩:=bnd hp
 refine FL.cut 4 (fun f w=>∃ H:GH,St Ha wa H w []∧Inc H25 H∧f 10=Value.bool t39) ?_ ?_
 ·
  clear hp;have hp:=hqt39;clear hqt39
  rcases ifB hp with ⟨c45,hp⟩|⟨c45,hp⟩
  ·
   refine FL.val (zab rfl rfl rfl c45) rfl rfl (E.fieldAddr zas rfl) ?_
   refine FL.val (zab rfl rfl rfl c45) rfl rfl (E.load rfl (zaf Tryz.isAgg22 (at28.now S33.sl) rfl)) ?_
   obtain ⟨r46,hr47,hp⟩:=bnd hp
   refine FL.call (zab rfl rfl rfl c45) rfl rfl (E.call Tryz.call145 (A1 rfl)) (zd5 S33.sl v0_1 a0.right (p0_1.mono i27) hr47) ?_
   rintro e w48 ⟨rfl,r49⟩
   refine ⟨_,rfl,?_⟩
   have S50:=S33.call r49
   obtain rfl:=Option.some.inj hp
   refine FL.v (E.pickT rfl c45 rfl) ?_
   exact FL.nil ⟨rfl,_,S50,(Inc.rfl _),rfl⟩
  ·
   refine FL.skip (wF_no rfl rfl rfl c45) rfl ?_
   refine FL.skip (wF_no rfl rfl rfl c45) rfl ?_
   refine FL.skip (wF_no rfl rfl rfl c45) rfl ?_
   obtain rfl:=Option.some.inj hp
   refine FL.v (E.pickF rfl c45 rfl) ?_
   exact FL.nil ⟨rfl,_,S33,(Inc.rfl _),rfl⟩
 rintro f44 w43 ⟨H40,S41,i42,k51⟩
 refine FL.v (E.assign k51) ?_
 refine FL.nil ?_
 refine FW.ret ?_
 obtain rfl:=Option.some.inj hp
 exact ⟨.inr rfl,res1 rfl rfl ⟨rfl,S41.back⟩⟩

theorem zdq {Ha:GH} {wa:World} (hs:Sl Ha wa) (v0:Value) (a0:List ByteArray) (p0:RSl Ha eS 1 v0 a0) (a1:ByteArray) {r:Bool} (hp:(PF.zbN a0 a1)=some r) :
  Calls Tryz.prog 121 #[v0,Value.string a1] wa (Sc Ha wa (Value.bool r)):=by
 unfold PF.zbN at hp
 have S0:=St.init hs
 refine zaj (N:=18) (args:=[v0,Value.string a1]) Tryz.func121 rfl rfl rfl ?_
 refine FW.seq (FW.region ?_)
 refine FL.v (E.assign (v:=Value.bool false) rfl) ?_
 refine FL.nil (FW.seq (FW.seq (FW.region ?_)))
 refine FL.v (E.assign (v:=Value.int .i64 0) rfl) ?_
 refine FL.nil ?_
 obtain ⟨q22,hq,hp⟩:=bndR hp
 refine FW.block ?_
 refine FW.mono (FW.forL (S:=Unit) (X:=Bool) (fun (i22:Nat) (s22:Unit) f w=>∃ H:GH,St Ha wa H w []∧Inc Ha H∧f 5=Value.int .i64 ((i22:Nat):Int)∧f 0=v0∧f 1=Value.string a1) (fun q e f w=>match q with|.go s22=>e=Exit.exit 0∧(∃ H:GH,St Ha wa H w []∧Inc Ha H)|.rt x=>((e=Exit.ret)∧(fun e f w=>(e=Exit.normal∨e=Exit.ret)∧∀ a,Fr (δ:=[]) 18 a f→∃ v,(results Tryz.f121 a.tmps).run Tryz.prog w=.ok v w∧(Sc Ha wa (Value.bool x)) (.returned v) w) e f w)) hq ⟨_,S0,(Inc.rfl _),rfl,rfl,rfl⟩ ?_ ?_) ?_
 ·
  clear hp hq
  rintro i22 y21 s22 f42 w41 ⟨H38,S39,i40,k43,k44,k45⟩ hx22 o53 hp
  refine FW.seq (FW.seq (FW.region ?_))
  refine FL.v (E.move k43) ?_
  refine FL.v (E.move k44) ?_
  refine FL.v (E.lenP te22 rfl p0) ?_
  refine FL.v (E.lssT rfl rfl (zaJ hx22)) ?_
  refine FL.nil ?_
  refine FW.condT rfl rfl ?_
  refine FW.skip (FW.seq (FW.block (FW.seq (FW.region ?_))))
  refine FL.v (E.move k44) ?_
  refine FL.v (E.move k43) ?_
  obtain ⟨p46,cs47,pt48,l49,at50,rel51⟩:=p0.at (zaF hx22)
  obtain rfl:=eS_open rel51
  refine FL.v (E.indexAddr te22 rfl rfl pt48) ?_
  refine FL.v (E.load rfl (zar Tryz.isAgg9 ((at50.mono i40).now S39.sl) rfl)) ?_
  refine FL.v (E.move k45) ?_
  refine FL.v (E.eqlS rfl rfl) ?_
  refine FL.nil ?_
  rcases ifB hp with ⟨c52,hp⟩|⟨c52,hp⟩
  ·
   refine FW.condT rfl c52 ?_
   refine FW.seq (FW.region ?_)
   refine FL.v (E.assign (v:=Value.bool true) rfl) ?_
   refine FL.nil ?_
   refine FW.ret ?_
   obtain rfl:=Option.some.inj hp
   exact ⟨nofun,rfl,⟨.inr rfl,res1 rfl rfl ⟨rfl,S39.back⟩⟩⟩
  ·
   refine FW.condF rfl c52 ?_
   refine FW.skip (FW.region ?_)
   refine FL.v (E.move k43) ?_
   refine FL.v (E.add rfl rfl) ?_
   refine FL.v (E.assign (v:=Value.int .i64 (wr (((i22:Nat):Int) + 1))) rfl) ?_
   refine FL.nil ?_
   obtain rfl:=Option.some.inj hp
   exact ⟨rfl,⟨_,S39,i40,(zaA rfl (zat hx22) (p0.mono i40).le),k44,k45⟩⟩
 ·
  clear hp hq
  rintro s22 f63 w62 ⟨H59,S60,i61,k64,k65,k66⟩
  refine FW.seq (FW.seq (FW.region ?_))
  refine FL.v (E.move k64) ?_
  refine FL.v (E.move k65) ?_
  refine FL.v (E.lenP te22 rfl p0) ?_
  refine FL.v (E.lss rfl rfl) ?_
  refine FL.nil ?_
  refine FW.condF rfl zaK ?_
  refine FW.exit ?_
  exact ⟨nofun,rfl,⟨_,S60,i61⟩⟩
 ·
  clear hq
  intro e f58 w57 hD
  rcases q22 with s22|x22
  ·
   obtain ⟨rfl,hD⟩:=hD
   obtain ⟨H54,S55,i56⟩:=hD
   replace hp:=el_go hp
   refine FW.seq (FW.region ?_)
   refine FL.v (E.assign (v:=Value.bool false) rfl) ?_
   refine FL.nil ?_
   refine FW.ret ?_
   obtain rfl:=Option.some.inj hp
   exact ⟨.inr rfl,res1 rfl rfl ⟨rfl,S55.back⟩⟩
  ·
   obtain ⟨he,hL⟩:=hD
   replace hp:=el_rt hp
   obtain rfl:=Option.some.inj hp
   subst he
   exact hL

set_option maxHeartbeats 4000000 in
theorem w_spec_l23Axiom {Ha:GH} {wa:World} (hs:Sl Ha wa) (a0:zad) (v0_0:Value) (p0_0:RSl Ha eS 1 v0_0 a0.left) (v0_1:Value) (p0_1:RSl Ha eS 1 v0_1 a0.right) {r:Bool} (hp:(PF.zco a0)=some r) :
  Calls Tryz.prog 146 #[Value.agg #[v0_0,v0_1]] wa (Sc Ha wa (Value.bool r)):=by
 unfold PF.zco at hp
 have S0:=St.init hs
 refine zaj (N:=30) (args:=[Value.agg #[v0_0,v0_1]]) Tryz.func146 rfl rfl rfl ?_
 refine FW.seq (FW.region ?_)
 obtain ⟨b21,w22,run23,S24⟩:=S0.box (P:=Tryz.prog) 68 [v0_0,v0_1] (v:=Value.agg #[v0_0,v0_1]) rfl (zaa p0_0.one (zaa p0_1.one zag))
 refine FL.v (E.box rfl run23) ?_
 obtain ⟨H25,S26,i27,at28⟩:=S24.sealBox (i:=0) (l':=[]) rfl rfl
 refine FL.v (E.assign (v:=Value.bool false) rfl) ?_
 refine FL.nil (FW.seq (FW.seq (FW.region ?_)))
 refine FL.v (E.assign (v:=Value.int .i64 0) rfl) ?_
 refine FL.nil ?_
 obtain ⟨q29,hq,hp⟩:=bndR hp
 refine FW.block ?_
 refine FW.mono (FW.iter (S:=Int) (X:=Bool) (fun (s29:Int) f w=>∃ H:GH,St Ha wa H w []∧Inc H25 H∧f 1=Value.pointer (some ⟨b21,0,none⟩)∧f 3=Value.int .i64 s29) (fun q e f w=>match q with|.go s29=>e=Exit.exit 0∧(∃ H:GH,St Ha wa H w []∧Inc H25 H∧f 1=Value.pointer (some ⟨b21,0,none⟩))|.rt x=>((e=Exit.ret)∧(fun e f w=>(e=Exit.normal∨e=Exit.ret)∧∀ a,Fr (δ:=[]) 30 a f→∃ v,(results Tryz.f146 a.tmps).run Tryz.prog w=.ok v w∧(Sc Ha wa (Value.bool x)) (.returned v) w) e f w)) hq ⟨_,S26,(Inc.rfl _),rfl,rfl⟩ ?_) ?_
 ·
  clear hp hq
  rintro s29 f85 w84 ⟨H81,S82,i83,k86,k87⟩ oAw hp
  refine FW.seq (FW.seq (FW.region ?_))
  refine FL.v (E.move k87) ?_
  refine FL.v (E.fieldAddr zau k86) ?_
  refine FL.v (E.load rfl (zaf Tryz.isAgg22 ((at28.mono i83).now S82.sl) rfl)) ?_
  refine FL.v (E.lenP te22 rfl p0_0) ?_
  refine FL.v (E.lss rfl rfl) ?_
  refine FL.nil ?_
  rcases ifB hp with ⟨c88,hp⟩|⟨c88,hp⟩
  ·
   refine FW.condT rfl c88 ?_
   refine FW.skip (FW.seq (FW.block (FW.seq ?_)))
   refine FW.draw (fun w'=>Run w84.heap.size H81 w84 H81 w') (by kernel_rfl) (by kernel_rfl) (zaN S82.sl) ?_
   refine FD.val rfl rfl rfl (fun w' hw'=>(E.fieldAddr zau k86)) ?_
   refine FD.val rfl rfl rfl (fun w' hw'=>(E.load rfl (zaf Tryz.isAgg22 ((at28.mono i83).now (S82.call hw').sl) rfl))) ?_
   refine FD.val rfl rfl rfl (fun w' hw'=>(E.move k87)) ?_
   obtain ⟨x96,hx97,hp⟩:=bnd hp
   obtain ⟨p90,cs91,pt92,l93,at94,rel95⟩:=p0_0.at hx97
   obtain rfl:=eS_open rel95
   refine FD.val rfl rfl rfl (fun w' hw'=>(E.indexAddr te22 rfl rfl pt92)) ?_
   refine FD.val rfl rfl rfl (fun w' hw'=>(E.load rfl (zar Tryz.isAgg9 ((at94.mono (i27.tr i83)).now (S82.call hw').sl) rfl))) ?_
   refine FD.val rfl rfl rfl (fun w' hw'=>(E.eqlS rfl rfl)) ?_
   refine FD.val rfl rfl rfl (fun w' hw'=>(E.move (v:=Value.bool (x96.toList == (ByteArray.mk #[48]).toList)) rfl)) ?_
   obtain ⟨t108,hqtA8,hp⟩:=bnd hp
   refine FD.cut 9 (fun f=>f 1=Value.pointer (some ⟨b21,0,none⟩)∧f 3=Value.int .i64 s29∧f 26=Value.bool t108) ?_ ?_
   ·
    clear hp;have hp:=hqtA8;clear hqtA8
    rcases ifB hp with ⟨cAe,hp⟩|⟨cAe,hp⟩
    ·
     refine FD.skip (wF_no rfl rfl rfl cAe) rfl ?_
     refine FD.skip (wF_no rfl rfl rfl cAe) rfl ?_
     refine FD.skip (wF_no rfl rfl rfl cAe) rfl ?_
     refine FD.skip (wF_no rfl rfl rfl cAe) rfl ?_
     refine FD.skip (wF_no rfl rfl rfl cAe) rfl ?_
     refine FD.skip (wF_no rfl rfl rfl cAe) rfl ?_
     refine FD.skip (wF_no rfl rfl rfl cAe) rfl ?_
     refine FD.skip (wF_no rfl rfl rfl cAe) rfl ?_
     obtain rfl:=Option.some.inj hp
     refine FD.val rfl rfl rfl (fun w' hw'=>(E.pickT rfl cAe rfl)) ?_
     exact FD.nil ⟨k86,k87,rfl⟩
    ·
     refine FD.val (zab rfl rfl rfl cAe) rfl rfl (fun w' hw'=>(E.fieldAddr zas k86)) ?_
     refine FD.val (zab rfl rfl rfl cAe) rfl rfl (fun w' hw'=>(E.load rfl (zaf Tryz.isAgg22 ((at28.mono i83).now (S82.call hw').sl) rfl))) ?_
     refine FD.val (zab rfl rfl rfl cAe) rfl rfl (fun w' hw'=>(E.fieldAddr zau k86)) ?_
     refine FD.val (zab rfl rfl rfl cAe) rfl rfl (fun w' hw'=>(E.load rfl (zaf Tryz.isAgg22 ((at28.mono i83).now (S82.call hw').sl) rfl))) ?_
     refine FD.val (zab rfl rfl rfl cAe) rfl rfl (fun w' hw'=>(E.move k87)) ?_
     obtain ⟨xAl,hxAm,hp⟩:=bnd hp
     obtain ⟨pAf,csAg,ptAh,lAi,atAj,relAk⟩:=p0_0.at hxAm
     obtain rfl:=eS_open relAk
     refine FD.val (zab rfl rfl rfl cAe) rfl rfl (fun w' hw'=>(E.indexAddr te22 rfl rfl ptAh)) ?_
     refine FD.val (zab rfl rfl rfl cAe) rfl rfl (fun w' hw'=>(E.load rfl (zar Tryz.isAgg9 ((atAj.mono (i27.tr i83)).now (S82.call hw').sl) rfl))) ?_
     obtain ⟨rAn,hrAo,hp⟩:=bnd hp
     refine FD.call (zab rfl rfl rfl cAe) rfl rfl (fun w' hw'=>(E.call Tryz.call121 (A2 rfl rfl))) (fun w' hw'=>Calls.cls hw' (zdq (S82.call hw').sl v0_1 a0.right (p0_1.mono (i27.tr i83)) xAl hrAo)) ?_
     obtain rfl:=Option.some.inj hp
     refine FD.val rfl rfl rfl (fun w' hw'=>(E.pickF rfl cAe rfl)) ?_
     exact FD.nil ⟨k86,k87,rfl⟩
   rintro fAd ⟨kAp,kAq,kAr⟩
   refine FD.nil ?_
   intro wAs rAu
   have SAt:=S82.call rAu
   rcases ifB hp with ⟨cAv,hp⟩|⟨cAv,hp⟩
   ·
    refine FW.condT kAr cAv ?_
    refine FW.seq (FW.region ?_)
    refine FL.v (E.assign (v:=Value.bool true) rfl) ?_
    refine FL.nil ?_
    refine FW.ret ?_
    obtain rfl:=Option.some.inj hp
    exact ⟨nofun,rfl,⟨.inr rfl,res1 rfl rfl ⟨rfl,SAt.back⟩⟩⟩
   ·
    refine FW.condF kAr cAv ?_
    refine FW.skip (FW.region ?_)
    refine FL.v (E.move kAq) ?_
    refine FL.v (E.add rfl rfl) ?_
    refine FL.v (E.assign (v:=Value.int .i64 (wr (s29 + 1))) rfl) ?_
    refine FL.nil ?_
    obtain rfl:=Option.some.inj hp
    exact ⟨rfl,⟨_,SAt,i83,kAp,rfl⟩⟩
  ·
   refine FW.condF rfl c88 ?_
   refine FW.exit ?_
   obtain rfl:=Option.some.inj hp
   exact ⟨nofun,rfl,⟨_,S82,i83,k86⟩⟩
 ·
  clear hq
  intro e fAB wAA hD
  rcases q29 with s29|x29
  ·
   obtain ⟨rfl,hD⟩:=hD
   obtain ⟨HAx,SAy,iAz,kAC⟩:=hD
   replace hp:=el_go hp
   refine FW.seq (FW.region ?_)
   refine FL.v (E.fieldAddr zas kAC) ?_
   refine FL.v (E.load rfl (zaf Tryz.isAgg22 ((at28.mono iAz).now SAy.sl) rfl)) ?_
   obtain ⟨rAD,hrAE,hp⟩:=bnd hp
   refine FL.call rfl rfl rfl (E.call Tryz.call121 (A2 rfl rfl)) (zdq SAy.sl v0_1 a0.right (p0_1.mono (i27.tr iAz)) (ByteArray.mk #[49]) hrAE) ?_
   rintro e wAF ⟨rfl,rAG⟩
   refine ⟨_,rfl,?_⟩
   have SAH:=SAy.call rAG
   refine FL.v (E.assign (v:=Value.bool rAD) rfl) ?_
   refine FL.nil ?_
   refine FW.ret ?_
   obtain rfl:=Option.some.inj hp
   exact ⟨.inr rfl,res1 rfl rfl ⟨rfl,SAH.back⟩⟩
  ·
   obtain ⟨he,hL⟩:=hD
   replace hp:=el_rt hp
   obtain rfl:=Option.some.inj hp
   subst he
   exact hL

theorem zd7 {Ha:GH} {wa:World} (hs:Sl Ha wa) (v0:Value) (a0:List zac) (p0:RSl Ha eSeqStep 6 v0 a0) (a1:Int) (a2:Int) {r:Bool} (hp:(PF.zb1 a0 a1 a2)=some r) :
  Calls Tryz.prog 192 #[v0,Value.int .i64 a1,Value.int .i64 a2] wa (Sc Ha wa (Value.bool r)):=by
 unfold PF.zb1 at hp
 have S0:=St.init hs
 refine zaj (N:=19) (args:=[v0,Value.int .i64 a1,Value.int .i64 a2]) Tryz.func192 rfl rfl rfl ?_
 refine FW.seq (FW.region ?_)
 refine FL.v (E.assign (v:=Value.bool false) rfl) ?_
 refine FL.nil (FW.seq (FW.region ?_))
 refine FL.v (E.move (v:=Value.int .i64 a2) rfl) ?_
 refine FL.v (E.move (v:=Value.int .i64 a1) rfl) ?_
 refine FL.v (E.sub rfl rfl) ?_
 refine FL.call rfl rfl rfl (E.call Tryz.call107 (A3 rfl rfl rfl)) (zdF S0.sl a2 0 (wr (a1 - 1))) ?_
 rintro e w21 ⟨rfl,r22⟩
 refine ⟨_,rfl,?_⟩
 have S23:=S0.call r22
 refine FL.v (E.move (v:=Value.bool (PF.za3 a2 0 (wr (a1 - 1)))) rfl) ?_
 obtain ⟨t41,hqt41,hp⟩:=bnd hp
 refine FL.cut 7 (fun f w=>∃ H:GH,St Ha wa H w []∧Inc Ha H∧f 18=Value.bool t41) ?_ ?_
 ·
  clear hp;have hp:=hqt41;clear hqt41
  rcases ifB hp with ⟨c47,hp⟩|⟨c47,hp⟩
  ·
   refine FL.val (zab rfl rfl rfl c47) rfl rfl (E.move (v:=v0) rfl) ?_
   refine FL.val (zab rfl rfl rfl c47) rfl rfl (E.move (v:=Value.int .i64 a2) rfl) ?_
   obtain ⟨x54,hx55,hp⟩:=bnd hp
   obtain ⟨p48,cs49,pt50,l51,at52,rel53⟩:=p0.at hx55
   obtain ⟨v56,v58,rfl,h57,h59⟩:=zaD rel53
   refine FL.val (zab rfl rfl rfl c47) rfl rfl (E.indexAddr te24 rfl rfl pt50) ?_
   refine FL.val (zab rfl rfl rfl c47) rfl rfl (E.fieldAddr zap rfl) ?_
   refine FL.val (zab rfl rfl rfl c47) rfl rfl (E.load rfl (zao Tryz.isAgg68 Tryz.sizeOf68 ((at52.now S23.sl).sub (j:=0) (n:=2) (c:=[v56,v58]) rfl) rfl)) ?_
   obtain ⟨r60,hr61,hp⟩:=bnd hp
   refine FL.call (zab rfl rfl rfl c47) rfl rfl (E.call Tryz.call99 (A1 rfl)) (zd6 S23.sl x54.seq v56 h57 v58 h59 hr61) ?_
   rintro e w62 ⟨rfl,r63⟩
   refine ⟨_,rfl,?_⟩
   have S64:=S23.call r63
   obtain rfl:=Option.some.inj hp
   refine FL.v (E.pickT rfl c47 rfl) ?_
   exact FL.nil ⟨rfl,_,S64,(Inc.rfl _),rfl⟩
  ·
   refine FL.skip (wF_no rfl rfl rfl c47) rfl ?_
   refine FL.skip (wF_no rfl rfl rfl c47) rfl ?_
   refine FL.skip (wF_no rfl rfl rfl c47) rfl ?_
   refine FL.skip (wF_no rfl rfl rfl c47) rfl ?_
   refine FL.skip (wF_no rfl rfl rfl c47) rfl ?_
   refine FL.skip (wF_no rfl rfl rfl c47) rfl ?_
   obtain rfl:=Option.some.inj hp
   refine FL.v (E.pickF rfl c47 rfl) ?_
   exact FL.nil ⟨rfl,_,S23,(Inc.rfl _),rfl⟩
 rintro f46 w45 ⟨H42,S43,i44,k65⟩
 refine FL.v (E.assign k65) ?_
 refine FL.nil ?_
 refine FW.ret ?_
 obtain rfl:=Option.some.inj hp
 exact ⟨.inr rfl,res1 rfl rfl ⟨rfl,S43.back⟩⟩

theorem zdr {Ha:GH} {wa:World} (hs:Sl Ha wa) (v0:Value) (a0:List ByteArray) (p0:RSl Ha eS 1 v0 a0) (v1:Value) (a1:List ByteArray) (p1:RSl Ha eS 1 v1 a1) {r:Bool} (hp:(PF.zbO a0 a1)=some r) :
  Calls Tryz.prog 72 #[v0,v1] wa (Sc Ha wa (Value.bool r)):=by
 unfold PF.zbO at hp
 have S0:=St.init hs
 refine zaj (N:=19) (args:=[v0,v1]) Tryz.func72 rfl rfl rfl ?_
 refine FW.seq (FW.region ?_)
 refine FL.v (E.assign (v:=Value.bool false) rfl) ?_
 refine FL.nil (FW.seq (FW.seq (FW.region ?_)))
 refine FL.v (E.assign (v:=Value.int .i64 0) rfl) ?_
 refine FL.nil ?_
 obtain ⟨q22,hq,hp⟩:=bndR hp
 refine FW.block ?_
 refine FW.mono (FW.forL (S:=Unit) (X:=Bool) (fun (i22:Nat) (s22:Unit) f w=>∃ H:GH,St Ha wa H w []∧Inc Ha H∧f 5=Value.int .i64 ((i22:Nat):Int)∧f 0=v0∧f 1=v1) (fun q e f w=>match q with|.go s22=>e=Exit.exit 0∧(∃ H:GH,St Ha wa H w []∧Inc Ha H)|.rt x=>((e=Exit.ret)∧(fun e f w=>(e=Exit.normal∨e=Exit.ret)∧∀ a,Fr (δ:=[]) 19 a f→∃ v,(results Tryz.f72 a.tmps).run Tryz.prog w=.ok v w∧(Sc Ha wa (Value.bool x)) (.returned v) w) e f w)) hq ⟨_,S0,(Inc.rfl _),rfl,rfl,rfl⟩ ?_ ?_) ?_
 ·
  clear hp hq
  rintro i22 y21 s22 f47 w46 ⟨H43,S44,i45,k48,k49,k50⟩ hx22 o63 hp
  refine FW.seq (FW.seq (FW.region ?_))
  refine FL.v (E.move k48) ?_
  refine FL.v (E.move k49) ?_
  refine FL.v (E.lenP te22 rfl p0) ?_
  refine FL.v (E.lssT rfl rfl (zaJ hx22)) ?_
  refine FL.nil ?_
  refine FW.condT rfl rfl ?_
  refine FW.skip (FW.seq (FW.block (FW.seq (FW.region ?_))))
  refine FL.v (E.move k50) ?_
  refine FL.v (E.move k49) ?_
  refine FL.v (E.move k48) ?_
  obtain ⟨p51,cs52,pt53,l54,at55,rel56⟩:=p0.at (zaF hx22)
  obtain rfl:=eS_open rel56
  refine FL.v (E.indexAddr te22 rfl rfl pt53) ?_
  refine FL.v (E.load rfl (zar Tryz.isAgg9 ((at55.mono i45).now S44.sl) rfl)) ?_
  obtain ⟨r57,hr58,hp⟩:=bnd hp
  refine FL.call rfl rfl rfl (E.call Tryz.call121 (A2 rfl rfl)) (zdq S44.sl v1 a1 (p1.mono i45) y21 hr58) ?_
  rintro e w59 ⟨rfl,r60⟩
  refine ⟨_,rfl,?_⟩
  have S61:=S44.call r60
  refine FL.v (E.not rfl) ?_
  refine FL.nil ?_
  rcases ifB hp with ⟨c62,hp⟩|⟨c62,hp⟩
  ·
   refine FW.condT rfl c62 ?_
   refine FW.seq (FW.region ?_)
   refine FL.v (E.assign (v:=Value.bool false) rfl) ?_
   refine FL.nil ?_
   refine FW.ret ?_
   obtain rfl:=Option.some.inj hp
   exact ⟨nofun,rfl,⟨.inr rfl,res1 rfl rfl ⟨rfl,S61.back⟩⟩⟩
  ·
   refine FW.condF rfl c62 ?_
   refine FW.skip (FW.region ?_)
   refine FL.v (E.move k48) ?_
   refine FL.v (E.add rfl rfl) ?_
   refine FL.v (E.assign (v:=Value.int .i64 (wr (((i22:Nat):Int) + 1))) rfl) ?_
   refine FL.nil ?_
   obtain rfl:=Option.some.inj hp
   exact ⟨rfl,⟨_,S61,i45,(zaA rfl (zat hx22) (p0.mono i45).le),k49,k50⟩⟩
 ·
  clear hp hq
  rintro s22 f73 w72 ⟨H69,S70,i71,k74,k75,k76⟩
  refine FW.seq (FW.seq (FW.region ?_))
  refine FL.v (E.move k74) ?_
  refine FL.v (E.move k75) ?_
  refine FL.v (E.lenP te22 rfl p0) ?_
  refine FL.v (E.lss rfl rfl) ?_
  refine FL.nil ?_
  refine FW.condF rfl zaK ?_
  refine FW.exit ?_
  exact ⟨nofun,rfl,⟨_,S70,i71⟩⟩
 ·
  clear hq
  intro e f68 w67 hD
  rcases q22 with s22|x22
  ·
   obtain ⟨rfl,hD⟩:=hD
   obtain ⟨H64,S65,i66⟩:=hD
   replace hp:=el_go hp
   refine FW.seq (FW.region ?_)
   refine FL.v (E.assign (v:=Value.bool true) rfl) ?_
   refine FL.nil ?_
   refine FW.ret ?_
   obtain rfl:=Option.some.inj hp
   exact ⟨.inr rfl,res1 rfl rfl ⟨rfl,S65.back⟩⟩
  ·
   obtain ⟨he,hL⟩:=hD
   replace hp:=el_rt hp
   obtain rfl:=Option.some.inj hp
   subst he
   exact hL

theorem zdG {Ha:GH} {wa:World} (hs:Sl Ha wa) (a0:ByteArray) {r:(Int×ByteArray×ByteArray)} (hp:(PF.zb2 a0)=some r) :
  Calls Tryz.prog 73 #[Value.string a0] wa (Sc Ha wa (Value.tuple #[Value.int .u8 r.1,Value.string r.2.1,Value.string r.2.2])):=by
 unfold PF.zb2 at hp
 have S0:=St.init hs
 refine zaj (N:=31) (args:=[Value.string a0]) Tryz.func73 rfl rfl rfl ?_
 refine FW.seq (FW.region ?_)
 refine FL.v (E.assign (v:=Value.int .u8 0) rfl) ?_
 refine FL.v (E.assign (v:=Value.string (ByteArray.mk #[])) rfl) ?_
 refine FL.v (E.assign (v:=Value.string (ByteArray.mk #[])) rfl) ?_
 refine FL.nil (FW.seq (FW.seq (FW.region ?_)))
 refine FL.v (E.move (v:=Value.string a0) rfl) ?_
 obtain ⟨z21,h22,hp⟩:=bnd hp
 refine FL.v (E.ixS Tryz.runUnderlying9 rfl rfl h22) ?_
 refine FL.v (E.eql rfl rfl) ?_
 refine FL.nil ?_
 rcases ifB hp with ⟨c23,hp⟩|⟨c23,hp⟩
 ·
  refine FW.condT rfl c23 ?_
  refine FW.seq ?_
  refine FW.draw (fun w'=>Run wa.heap.size Ha wa Ha w') (by kernel_rfl) (by kernel_rfl) (zaN S0.sl) ?_
  refine FD.val rfl rfl rfl (fun w' hw'=>(E.move (v:=Value.string a0) rfl)) ?_
  obtain ⟨z25,h26,hp⟩:=bnd hp
  refine FD.val rfl rfl rfl (fun w' hw'=>(E.cutS (kl:=.i64) (kh:=.i64) Tryz.underlying9 rfl (.inr ⟨_,rfl,rfl⟩) (.inl ⟨rfl,rfl⟩) h26)) ?_
  refine FD.val rfl rfl rfl (fun w' hw'=>(E.assign (v:=Value.int .u8 126) rfl)) ?_
  refine FD.val rfl rfl rfl (fun w' hw'=>(E.assign (v:=Value.string z25) rfl)) ?_
  refine FD.val rfl rfl rfl (fun w' hw'=>(E.assign (v:=Value.string (ByteArray.mk #[])) rfl)) ?_
  refine FD.nil ?_
  intro w27 r29
  have S28:=S0.call r29
  refine FW.ret ?_
  obtain rfl:=Option.some.inj hp
  exact ⟨.inr rfl,res3 rfl rfl rfl rfl ⟨rfl,S28.back⟩⟩
 ·
  refine FW.condF rfl c23 ?_
  refine FW.skip (FW.seq (FW.seq (FW.region ?_)))
  refine FL.v (E.move (v:=Value.string a0) rfl) ?_
  obtain ⟨z30,h31,hp⟩:=bnd hp
  refine FL.v (E.ixS Tryz.runUnderlying9 rfl rfl h31) ?_
  refine FL.v (E.neq rfl rfl) ?_
  refine FL.nil ?_
  rcases ifB hp with ⟨c32,hp⟩|⟨c32,hp⟩
  ·
   refine FW.condT rfl c32 ?_
   refine FW.seq (FW.region ?_)
   refine FL.v (E.move (v:=Value.string a0) rfl) ?_
   obtain ⟨z33,h34,hp⟩:=bnd hp
   refine FL.v (E.ixS Tryz.runUnderlying9 rfl rfl h34) ?_
   refine FL.v (E.assign (v:=Value.int .u8 z33) rfl) ?_
   refine FL.v (E.assign (v:=Value.string (ByteArray.mk #[])) rfl) ?_
   refine FL.v (E.assign (v:=Value.string (ByteArray.mk #[])) rfl) ?_
   refine FL.nil ?_
   refine FW.ret ?_
   obtain rfl:=Option.some.inj hp
   exact ⟨.inr rfl,res3 rfl rfl rfl rfl ⟨rfl,S0.back⟩⟩
  ·
   refine FW.condF rfl c32 ?_
   refine FW.skip (FW.seq (FW.region ?_))
   refine FL.v (E.move (v:=Value.string a0) rfl) ?_
   obtain ⟨r35,hr36,hp⟩:=bnd hp
   refine FL.call rfl rfl rfl (E.call Tryz.call98 (A2 rfl rfl)) (w_spec_l22End S0.sl a0 1 hr36) ?_
   rintro e w37 ⟨rfl,r38⟩
   refine ⟨_,rfl,?_⟩
   have S39:=S0.call r38
   refine FL.v (E.assign (v:=Value.int .i64 r35) rfl) ?_
   refine FL.nil (FW.seq ?_)
   refine FW.draw (fun w'=>Run w37.heap.size Ha w37 Ha w') (by kernel_rfl) (by kernel_rfl) (zaN S39.sl) ?_
   refine FD.val rfl rfl rfl (fun w' hw'=>(E.move (v:=Value.string a0) rfl)) ?_
   refine FD.val rfl rfl rfl (fun w' hw'=>(E.move (v:=Value.int .i64 r35) rfl)) ?_
   obtain ⟨z41,h42,hp⟩:=bnd hp
   refine FD.val rfl rfl rfl (fun w' hw'=>(E.ixS Tryz.runUnderlying9 rfl rfl h42)) ?_
   refine FD.val rfl rfl rfl (fun w' hw'=>(E.move (v:=Value.string a0) rfl)) ?_
   refine FD.val rfl rfl rfl (fun w' hw'=>(E.move (v:=Value.int .i64 r35) rfl)) ?_
   obtain ⟨z43,h44,hp⟩:=bnd hp
   refine FD.val rfl rfl rfl (fun w' hw'=>(E.cutS (kl:=.i64) (kh:=.i64) Tryz.underlying9 rfl (.inr ⟨_,rfl,rfl⟩) (.inr ⟨_,rfl,rfl⟩) h44)) ?_
   refine FD.val rfl rfl rfl (fun w' hw'=>(E.move (v:=Value.string a0) rfl)) ?_
   refine FD.val rfl rfl rfl (fun w' hw'=>(E.move (v:=Value.int .i64 r35) rfl)) ?_
   refine FD.val rfl rfl rfl (fun w' hw'=>(E.add rfl rfl)) ?_
   refine FD.val rfl rfl rfl (fun w' hw'=>(E.move (v:=Value.string a0) rfl)) ?_
   refine FD.val rfl rfl rfl (fun w' hw'=>(E.lenS Tryz.runUnderlying9 rfl)) ?_
   refine FD.val rfl rfl rfl (fun w' hw'=>(E.sub rfl rfl)) ?_
   obtain ⟨z45,h46,hp⟩:=bnd hp
   refine FD.val rfl rfl rfl (fun w' hw'=>(E.cutS (kl:=.i64) (kh:=.i64) Tryz.underlying9 rfl (.inr ⟨_,rfl,rfl⟩) (.inr ⟨_,rfl,rfl⟩) h46)) ?_
   refine FD.val rfl rfl rfl (fun w' hw'=>(E.assign (v:=Value.int .u8 z41) rfl)) ?_
   refine FD.val rfl rfl rfl (fun w' hw'=>(E.assign (v:=Value.string z43) rfl)) ?_
   refine FD.val rfl rfl rfl (fun w' hw'=>(E.assign (v:=Value.string z45) rfl)) ?_
   refine FD.nil ?_
   intro w47 r49
   have S48:=S39.call r49
   refine FW.ret ?_
   obtain rfl:=Option.some.inj hp
   exact ⟨.inr rfl,res3 rfl rfl rfl rfl ⟨rfl,S48.back⟩⟩

set_option maxHeartbeats 4000000 in
theorem w_spec_l23Rule {Ha:GH} {wa:World} (hs:Sl Ha wa) (a0:ByteArray) (a1:Bool) {r:Int} (hp:(PF.zcP a0 a1)=some r) :
  Calls Tryz.prog 150 #[Value.string a0,Value.bool a1] wa (Sc Ha wa (Value.int .i64 r)):=by
 unfold PF.zcP at hp
 have S0:=St.init hs
 refine zaj (N:=29) (args:=[Value.string a0,Value.bool a1]) Tryz.func150 rfl rfl rfl ?_
 refine FW.seq (FW.region ?_)
 refine FL.v (E.assign (v:=Value.int .i64 0) rfl) ?_
 refine FL.nil (FW.seq (FW.region ?_))
 refine FL.v (E.move (v:=Value.string a0) rfl) ?_
 obtain ⟨r21,hr22,hp⟩:=bnd hp
 refine FL.call rfl rfl rfl (E.call Tryz.call73 (A1 rfl)) (zdG S0.sl a0 hr22) ?_
 rintro e w23 ⟨rfl,r24⟩
 refine ⟨_,rfl,?_⟩
 have S25:=S0.call r24
 refine FL.v (E.move (v:=Value.tuple #[Value.int .u8 r21.1,Value.string r21.2.1,Value.string r21.2.2]) rfl) ?_
 refine FL.v (E.extract (i:=0) rfl rfl) ?_
 refine FL.v (E.extract (i:=1) rfl rfl) ?_
 refine FL.v (E.extract (i:=2) rfl rfl) ?_
 refine FL.v (E.assign (v:=Value.int .u8 r21.1) rfl) ?_
 refine FL.v (E.assign (v:=Value.string r21.2.1) rfl) ?_
 refine FL.v (E.assign (v:=Value.string r21.2.2) rfl) ?_
 refine FL.nil (FW.seq (FW.region ?_))
 refine FL.v (E.assign (v:=Value.int .i64 0) rfl) ?_
 refine FL.nil (FW.seq (FW.seq (FW.region ?_)))
 refine FL.v (E.move (v:=Value.int .u8 r21.1) rfl) ?_
 refine FL.nil (FW.block (FW.seq (FW.region ?_)))
 refine FL.v (E.eql rfl rfl) ?_
 refine FL.v (E.assign (v:=Value.bool (r21.1 == 126)) rfl) ?_
 refine FL.nil ?_
 rcases ifB hp with ⟨c26,hp⟩|⟨c26,hp⟩
 ·
  refine FW.condT rfl c26 ?_
  refine FW.region ?_
  refine FL.v (E.assign (v:=Value.int .i64 2) rfl) ?_
  refine FL.nil (FW.seq (FW.seq (FW.region ?_)))
  refine FL.v (E.move (v:=Value.bool a1) rfl) ?_
  refine FL.v (E.not rfl) ?_
  refine FL.nil ?_
  rcases ifB hp with ⟨c27,hp⟩|⟨c27,hp⟩
  ·
   refine FW.condT rfl c27 ?_
   refine FW.region ?_
   refine FL.v (E.move (v:=Value.int .i64 2) rfl) ?_
   refine FL.v (E.add rfl rfl) ?_
   refine FL.v (E.assign (v:=Value.int .i64 (wr (2 + 1))) rfl) ?_
   refine FL.nil (FW.seq (FW.region ?_))
   refine FL.v (E.move (v:=Value.int .i64 (wr (2 + 1))) rfl) ?_
   refine FL.v (E.assign (v:=Value.int .i64 (wr (2 + 1))) rfl) ?_
   refine FL.nil ?_
   refine FW.ret ?_
   obtain rfl:=Option.some.inj hp
   exact ⟨.inr rfl,res1 rfl rfl ⟨rfl,S25.back⟩⟩
  ·
   refine FW.condF rfl c27 ?_
   refine FW.skip (FW.seq (FW.region ?_))
   refine FL.v (E.move (v:=Value.int .i64 2) rfl) ?_
   refine FL.v (E.assign (v:=Value.int .i64 2) rfl) ?_
   refine FL.nil ?_
   refine FW.ret ?_
   obtain rfl:=Option.some.inj hp
   exact ⟨.inr rfl,res1 rfl rfl ⟨rfl,S25.back⟩⟩
 ·
  refine FW.condF rfl c26 ?_
  refine FW.seq (FW.region ?_)
  refine FL.v (E.eql rfl rfl) ?_
  refine FL.v (E.assign (v:=Value.bool (r21.1 == 38)) rfl) ?_
  refine FL.nil ?_
  rcases ifB hp with ⟨c28,hp⟩|⟨c28,hp⟩
  ·
   refine FW.condT rfl c28 ?_
   refine FW.region ?_
   refine FL.v (E.assign (v:=Value.int .i64 4) rfl) ?_
   refine FL.nil (FW.seq (FW.seq (FW.region ?_)))
   refine FL.v (E.move (v:=Value.bool a1) rfl) ?_
   refine FL.v (E.not rfl) ?_
   refine FL.nil ?_
   rcases ifB hp with ⟨c29,hp⟩|⟨c29,hp⟩
   ·
    refine FW.condT rfl c29 ?_
    refine FW.region ?_
    refine FL.v (E.move (v:=Value.int .i64 4) rfl) ?_
    refine FL.v (E.add rfl rfl) ?_
    refine FL.v (E.assign (v:=Value.int .i64 (wr (4 + 1))) rfl) ?_
    refine FL.nil (FW.seq (FW.region ?_))
    refine FL.v (E.move (v:=Value.int .i64 (wr (4 + 1))) rfl) ?_
    refine FL.v (E.assign (v:=Value.int .i64 (wr (4 + 1))) rfl) ?_
    refine FL.nil ?_
    refine FW.ret ?_
    obtain rfl:=Option.some.inj hp
    exact ⟨.inr rfl,res1 rfl rfl ⟨rfl,S25.back⟩⟩
   ·
    refine FW.condF rfl c29 ?_
    refine FW.skip (FW.seq (FW.region ?_))
    refine FL.v (E.move (v:=Value.int .i64 4) rfl) ?_
    refine FL.v (E.assign (v:=Value.int .i64 4) rfl) ?_
    refine FL.nil ?_
    refine FW.ret ?_
    obtain rfl:=Option.some.inj hp
    exact ⟨.inr rfl,res1 rfl rfl ⟨rfl,S25.back⟩⟩
  ·
   refine FW.condF rfl c28 ?_
   refine FW.seq (FW.region ?_)
   refine FL.v (E.eql rfl rfl) ?_
   refine FL.v (E.assign (v:=Value.bool (r21.1 == 124)) rfl) ?_
   refine FL.nil ?_
   rcases ifB hp with ⟨c30,hp⟩|⟨c30,hp⟩
   ·
    refine FW.condT rfl c30 ?_
    refine FW.region ?_
    refine FL.v (E.assign (v:=Value.int .i64 6) rfl) ?_
    refine FL.nil (FW.seq (FW.seq (FW.region ?_)))
    refine FL.v (E.move (v:=Value.bool a1) rfl) ?_
    refine FL.v (E.not rfl) ?_
    refine FL.nil ?_
    rcases ifB hp with ⟨c31,hp⟩|⟨c31,hp⟩
    ·
     refine FW.condT rfl c31 ?_
     refine FW.region ?_
     refine FL.v (E.move (v:=Value.int .i64 6) rfl) ?_
     refine FL.v (E.add rfl rfl) ?_
     refine FL.v (E.assign (v:=Value.int .i64 (wr (6 + 1))) rfl) ?_
     refine FL.nil (FW.seq (FW.region ?_))
     refine FL.v (E.move (v:=Value.int .i64 (wr (6 + 1))) rfl) ?_
     refine FL.v (E.assign (v:=Value.int .i64 (wr (6 + 1))) rfl) ?_
     refine FL.nil ?_
     refine FW.ret ?_
     obtain rfl:=Option.some.inj hp
     exact ⟨.inr rfl,res1 rfl rfl ⟨rfl,S25.back⟩⟩
    ·
     refine FW.condF rfl c31 ?_
     refine FW.skip (FW.seq (FW.region ?_))
     refine FL.v (E.move (v:=Value.int .i64 6) rfl) ?_
     refine FL.v (E.assign (v:=Value.int .i64 6) rfl) ?_
     refine FL.nil ?_
     refine FW.ret ?_
     obtain rfl:=Option.some.inj hp
     exact ⟨.inr rfl,res1 rfl rfl ⟨rfl,S25.back⟩⟩
   ·
    refine FW.condF rfl c30 ?_
    refine FW.seq (FW.region ?_)
    refine FL.v (E.eql rfl rfl) ?_
    refine FL.v (E.assign (v:=Value.bool (r21.1 == 62)) rfl) ?_
    refine FL.nil ?_
    rcases ifB hp with ⟨c32,hp⟩|⟨c32,hp⟩
    ·
     refine FW.condT rfl c32 ?_
     refine FW.region ?_
     refine FL.v (E.assign (v:=Value.int .i64 8) rfl) ?_
     refine FL.nil (FW.seq (FW.seq (FW.region ?_)))
     refine FL.v (E.move (v:=Value.bool a1) rfl) ?_
     refine FL.v (E.not rfl) ?_
     refine FL.nil ?_
     rcases ifB hp with ⟨c33,hp⟩|⟨c33,hp⟩
     ·
      refine FW.condT rfl c33 ?_
      refine FW.region ?_
      refine FL.v (E.move (v:=Value.int .i64 8) rfl) ?_
      refine FL.v (E.add rfl rfl) ?_
      refine FL.v (E.assign (v:=Value.int .i64 (wr (8 + 1))) rfl) ?_
      refine FL.nil (FW.seq (FW.region ?_))
      refine FL.v (E.move (v:=Value.int .i64 (wr (8 + 1))) rfl) ?_
      refine FL.v (E.assign (v:=Value.int .i64 (wr (8 + 1))) rfl) ?_
      refine FL.nil ?_
      refine FW.ret ?_
      obtain rfl:=Option.some.inj hp
      exact ⟨.inr rfl,res1 rfl rfl ⟨rfl,S25.back⟩⟩
     ·
      refine FW.condF rfl c33 ?_
      refine FW.skip (FW.seq (FW.region ?_))
      refine FL.v (E.move (v:=Value.int .i64 8) rfl) ?_
      refine FL.v (E.assign (v:=Value.int .i64 8) rfl) ?_
      refine FL.nil ?_
      refine FW.ret ?_
      obtain rfl:=Option.some.inj hp
      exact ⟨.inr rfl,res1 rfl rfl ⟨rfl,S25.back⟩⟩
    ·
     refine FW.condF rfl c32 ?_
     refine FW.seq (FW.region ?_)
     refine FL.v (E.assign (v:=Value.int .i64 0) rfl) ?_
     refine FL.nil ?_
     refine FW.ret ?_
     obtain rfl:=Option.some.inj hp
     exact ⟨.inr rfl,res1 rfl rfl ⟨rfl,S25.back⟩⟩

@[reducible] def p_spec_l23Without (Ha:GH) (wa:World) (r:(List ByteArray)):Ending→World→Prop :=
 fun e w'=>∃ H':GH,∃ v0:Value,∃ n0:Nat,∃ c0:List Value,e=.returned (v0)∧St Ha wa H' w' [.row 9 1 v0 n0 c0]∧Els (up wa.heap.size H') eS 1 c0 r
set_option maxHeartbeats 4000000 in
theorem zdH {Ha:GH} {wa:World} (hs:Sl Ha wa) (v0:Value) (a0:List ByteArray) (p0:RSl Ha eS 1 v0 a0) (a1:ByteArray) {r:(List ByteArray)} (hp:(PF.zb3 a0 a1)=some r) :
  Calls Tryz.prog 124 #[v0,Value.string a1] wa (p_spec_l23Without Ha wa r):=by
 unfold PF.zb3 at hp
 have S0:=St.init hs
 refine zaj (N:=28) (args:=[v0,Value.string a1]) Tryz.func124 rfl rfl rfl ?_
 refine FW.seq (FW.region ?_)
 refine FL.v (E.assign (v:=Value.slice none 0 0) rfl) ?_
 refine FL.nil (FW.seq (FW.region ?_))
 obtain ⟨v21,w22,run23,S24⟩:=S0.buildSlice (P:=Tryz.prog) te22 [] (parts:=#[]) (cells:=[]) rfl zal zak zag (Nat.le_of_ble_eq_true rfl)
 have els25:Els (up wa.heap.size Ha) eS 1 [] []:=Els.nil
 refine FL.v (E.buildSlice (B0) run23) ?_
 refine FL.v (E.assign (v:=v21) rfl) ?_
 refine FL.nil (FW.seq (FW.seq (FW.region ?_)))
 refine FL.v (E.assign (v:=Value.int .i64 0) rfl) ?_
 refine FL.nil ?_
 obtain ⟨q27,hq,hp⟩:=bndR hp
 refine FW.block ?_
 refine FW.mono (FW.forL (S:=(List ByteArray)) (X:=Empty) (fun (i27:Nat) (s27:(List ByteArray)) f w=>∃ H:GH,∃ v28:Value,∃ n29:Nat,∃ cs30:List Value,St Ha wa H w [.row 9 1 v28 n29 cs30]∧Inc Ha H∧Els (up wa.heap.size H) eS 1 cs30 s27∧f 6=Value.int .i64 ((i27:Nat):Int)∧f 0=v0∧f 1=Value.string a1∧f 5=v28) (fun (q:Rs (List ByteArray) Empty) e f w=>match q with|.go s27=>e=Exit.exit 0∧(∃ H:GH,∃ v28:Value,∃ n29:Nat,∃ cs30:List Value,St Ha wa H w [.row 9 1 v28 n29 cs30]∧Inc Ha H∧Els (up wa.heap.size H) eS 1 cs30 s27∧f 5=v28)|.rt x=>x.elim) hq ⟨_,_,_,_,S24,(Inc.rfl _),els25,rfl,rfl,rfl,rfl⟩ ?_ ?_) ?_
 ·
  clear hp hq
  rintro i27 y26 s27 f74 w73 ⟨H70,v28,n29,cs30,S71,i72,els31,k75,k76,k77,k78⟩ hx27 oA8 hp
  refine FW.seq (FW.seq (FW.region ?_))
  refine FL.v (E.move k75) ?_
  refine FL.v (E.move k76) ?_
  refine FL.v (E.lenP te22 rfl p0) ?_
  refine FL.v (E.lssT rfl rfl (zaJ hx27)) ?_
  refine FL.nil ?_
  refine FW.condT rfl rfl ?_
  refine FW.skip (FW.seq (FW.block (FW.seq (FW.region ?_))))
  refine FL.v (E.move k76) ?_
  refine FL.v (E.move k75) ?_
  obtain ⟨p79,cs80,pt81,l82,at83,rel84⟩:=p0.at (zaF hx27)
  obtain rfl:=eS_open rel84
  refine FL.v (E.indexAddr te22 rfl rfl pt81) ?_
  refine FL.v (E.load rfl (zar Tryz.isAgg9 ((at83.mono i72).now S71.sl) rfl)) ?_
  refine FL.v (E.move k77) ?_
  refine FL.v (E.neqS rfl rfl) ?_
  refine FL.nil ?_
  rcases ifB hp with ⟨c85,hp⟩|⟨c85,hp⟩
  ·
   refine FW.condT rfl c85 ?_
   refine FW.region ?_
   refine FL.v (E.move k78) ?_
   refine FL.v (E.move k76) ?_
   refine FL.v (E.move k75) ?_
   obtain ⟨p86,cs87,pt88,l89,at90,rel91⟩:=p0.at (zaF hx27)
   obtain rfl:=eS_open rel91
   refine FL.v (E.indexAddr te22 rfl rfl pt88) ?_
   refine FL.v (E.load rfl (zar Tryz.isAgg9 ((at90.mono i72).now S71.sl) rfl)) ?_
   obtain ⟨v92,w93,run94,S95⟩:=S71.buildSlice (P:=Tryz.prog) te22 [Value.string y26] (parts:=#[(0,Value.string y26)]) (cells:=[Value.string y26]) rfl (zan rfl zal) (zam rfl zak) (zaa rfl zag) (Nat.le_of_ble_eq_true rfl)
   have els96:Els (up wa.heap.size H70) eS 1 [Value.string y26] [y26]:=(Els.snoc (H:=(up wa.heap.size H70)) (E:=eS) (k:=1) (c:=[Value.string y26]) (x:=y26) Els.nil rfl rfl)
   refine FL.v (E.buildSlice (B1 rfl) run94) ?_
   obtain ⟨xs97,hz98,hp⟩:=bnd hp
   obtain ⟨v99,wA2,nA0,csA1,runA3,SA4,elsA5,ceA6⟩:=S95.appendO (P:=Tryz.prog) te22 (i:=1) (j:=0) rfl els31 rfl els96 hz98
   have SA4:St Ha wa H70 wA2 [.row 9 1 v92 1 [Value.string y26],.row 9 1 v99 nA0 csA1]:=SA4
   have SA7:St Ha wa H70 wA2 [.row 9 1 v99 nA0 csA1]:=SA4.drop 0
   refine FL.v (E.append rfl rfl runA3) ?_
   refine FL.v (E.assign (v:=v99) rfl) ?_
   refine FL.nil (FW.region ?_)
   refine FL.v (E.move k75) ?_
   refine FL.v (E.add rfl rfl) ?_
   refine FL.v (E.assign (v:=Value.int .i64 (wr (((i27:Nat):Int) + 1))) rfl) ?_
   refine FL.nil ?_
   obtain rfl:=Option.some.inj hp
   exact ⟨rfl,⟨_,_,_,_,SA7,i72,elsA5,(zaA rfl (zat hx27) (p0.mono i72).le),k76,k77,rfl⟩⟩
  ·
   refine FW.condF rfl c85 ?_
   refine FW.skip (FW.region ?_)
   refine FL.v (E.move k75) ?_
   refine FL.v (E.add rfl rfl) ?_
   refine FL.v (E.assign (v:=Value.int .i64 (wr (((i27:Nat):Int) + 1))) rfl) ?_
   refine FL.nil ?_
   obtain rfl:=Option.some.inj hp
   exact ⟨rfl,⟨_,_,_,_,S71,i72,els31,(zaA rfl (zat hx27) (p0.mono i72).le),k76,k77,k78⟩⟩
 ·
  clear hp hq
  rintro s27 fAj wAi ⟨HAf,v28,n29,cs30,SAg,iAh,els31,kAk,kAl,kAm,kAn⟩
  refine FW.seq (FW.seq (FW.region ?_))
  refine FL.v (E.move kAk) ?_
  refine FL.v (E.move kAl) ?_
  refine FL.v (E.lenP te22 rfl p0) ?_
  refine FL.v (E.lss rfl rfl) ?_
  refine FL.nil ?_
  refine FW.condF rfl zaK ?_
  refine FW.exit ?_
  exact ⟨nofun,rfl,⟨_,_,_,_,SAg,iAh,els31,kAn⟩⟩
 ·
  clear hq
  intro e fAd wAc hD
  rcases q27 with s27|x27
  ·
   obtain ⟨rfl,hD⟩:=hD
   obtain ⟨HA9,v28,n29,cs30,SAa,iAb,els31,kAe⟩:=hD
   replace hp:=el_go hp
   refine FW.seq (FW.region ?_)
   refine FL.v (E.move kAe) ?_
   refine FL.v (E.assign (v:=v28) rfl) ?_
   refine FL.nil ?_
   refine FW.ret ?_
   obtain rfl:=Option.some.inj hp
   exact ⟨.inr rfl,res1 rfl rfl ⟨_,_,_,_,rfl,SAa,els31⟩⟩
  ·
   exact x27.elim

@[reducible] def p_spec_l22Put (Ha:GH) (wa:World) (r:(List ByteArray)):Ending→World→Prop :=
 fun e w'=>∃ H':GH,∃ v0:Value,e=.returned (v0)∧Run wa.heap.size Ha wa H' w'∧RSl H' eS 1 v0 r
set_option maxHeartbeats 4000000 in
theorem zbB {Ha:GH} {wa:World} (hs:Sl Ha wa) (v0:Value) (a0:List ByteArray) (p0:RSl Ha eS 1 v0 a0) (a1:ByteArray) {r:(List ByteArray)} (hp:(PF.za4 a0 a1)=some r) :
  Calls Tryz.prog 101 #[v0,Value.string a1] wa (p_spec_l22Put Ha wa r):=by
 unfold PF.za4 at hp
 have S0:=St.init hs
 refine zaj (N:=45) (args:=[v0,Value.string a1]) Tryz.func101 rfl rfl rfl ?_
 refine FW.seq (FW.region ?_)
 refine FL.v (E.assign (v:=Value.slice none 0 0) rfl) ?_
 refine FL.nil (FW.seq (FW.region ?_))
 refine FL.v (E.assign (v:=Value.int .i64 0) rfl) ?_
 refine FL.nil (FW.seq ?_)
 obtain ⟨q21,hq,hp⟩:=bndR hp
 refine FW.block ?_
 refine FW.mono (FW.iter (S:=Int) (X:=Empty) (fun (s21:Int) f w=>∃ H:GH,St Ha wa H w []∧Inc Ha H∧f 0=v0∧f 1=Value.string a1∧f 5=Value.int .i64 s21) (fun (q:Rs Int Empty) e f w=>match q with|.go s21=>e=Exit.exit 0∧(∃ H:GH,St Ha wa H w []∧Inc Ha H∧f 0=v0∧f 1=Value.string a1∧f 5=Value.int .i64 s21)|.rt x=>x.elim) hq ⟨_,S0,(Inc.rfl _),rfl,rfl,rfl⟩ ?_) ?_
 ·
  clear hp hq
  rintro s21 f68 w67 ⟨H64,S65,i66,k69,k70,k71⟩ oA6 hp
  refine FW.seq (FW.seq (FW.region ?_))
  refine FL.v (E.move k71) ?_
  refine FL.v (E.move k69) ?_
  refine FL.v (E.lenP te22 rfl p0) ?_
  refine FL.v (E.lss rfl rfl) ?_
  refine FL.v (E.move (v:=Value.bool (decide (s21 < (len a0)))) rfl) ?_
  obtain ⟨t83,hqt83,hp⟩:=bnd hp
  refine FL.cut 7 (fun f w=>∃ H:GH,St Ha wa H w []∧Inc H64 H∧f 0=v0∧f 1=Value.string a1∧f 5=Value.int .i64 s21∧f 17=Value.bool t83) ?_ ?_
  ·
   clear hp;have hp:=hqt83;clear hqt83
   rcases ifB hp with ⟨c89,hp⟩|⟨c89,hp⟩
   ·
    refine FL.val (zab rfl rfl rfl c89) rfl rfl (E.move k69) ?_
    refine FL.val (zab rfl rfl rfl c89) rfl rfl (E.move k71) ?_
    obtain ⟨x96,hx97,hp⟩:=bnd hp
    obtain ⟨p90,cs91,pt92,l93,at94,rel95⟩:=p0.at hx97
    obtain rfl:=eS_open rel95
    refine FL.val (zab rfl rfl rfl c89) rfl rfl (E.indexAddr te22 rfl rfl pt92) ?_
    refine FL.val (zab rfl rfl rfl c89) rfl rfl (E.load rfl (zar Tryz.isAgg9 ((at94.mono i66).now S65.sl) rfl)) ?_
    refine FL.val (zab rfl rfl rfl c89) rfl rfl (E.move k70) ?_
    refine FL.call (zab rfl rfl rfl c89) rfl rfl (E.call Tryz.call152 (A2 rfl rfl)) (zd4 S65.sl x96 a1) ?_
    rintro e w98 ⟨rfl,r99⟩
    refine ⟨_,rfl,?_⟩
    have SA0:=S65.call r99
    obtain rfl:=Option.some.inj hp
    refine FL.v (E.pickT rfl c89 rfl) ?_
    exact FL.nil ⟨rfl,_,SA0,(Inc.rfl _),k69,k70,k71,rfl⟩
   ·
    refine FL.skip (wF_no rfl rfl rfl c89) rfl ?_
    refine FL.skip (wF_no rfl rfl rfl c89) rfl ?_
    refine FL.skip (wF_no rfl rfl rfl c89) rfl ?_
    refine FL.skip (wF_no rfl rfl rfl c89) rfl ?_
    refine FL.skip (wF_no rfl rfl rfl c89) rfl ?_
    refine FL.skip (wF_no rfl rfl rfl c89) rfl ?_
    obtain rfl:=Option.some.inj hp
    refine FL.v (E.pickF rfl c89 rfl) ?_
    exact FL.nil ⟨rfl,_,S65,(Inc.rfl _),k69,k70,k71,rfl⟩
  rintro f88 w87 ⟨H84,S85,i86,kA1,kA2,kA3,kA4⟩
  refine FL.nil ?_
  rcases ifB hp with ⟨cA5,hp⟩|⟨cA5,hp⟩
  ·
   refine FW.condT kA4 cA5 ?_
   refine FW.skip (FW.block (FW.region ?_))
   refine FL.v (E.move kA3) ?_
   refine FL.v (E.add rfl rfl) ?_
   refine FL.v (E.assign (v:=Value.int .i64 (wr (s21 + 1))) rfl) ?_
   refine FL.nil ?_
   obtain rfl:=Option.some.inj hp
   exact ⟨rfl,⟨_,S85,(i66.tr i86),kA1,kA2,rfl⟩⟩
  ·
   refine FW.condF kA4 cA5 ?_
   refine FW.exit ?_
   obtain rfl:=Option.some.inj hp
   exact ⟨nofun,rfl,⟨_,S85,(i66.tr i86),kA1,kA2,kA3⟩⟩
 ·
  clear hq
  intro e fAb wAa hD
  rcases q21 with s21|x21
  ·
   obtain ⟨rfl,hD⟩:=hD
   obtain ⟨HA7,SA8,iA9,kAc,kAd,kAe⟩:=hD
   replace hp:=el_go hp
   refine FW.seq (FW.seq (FW.region ?_))
   refine FL.v (E.move kAe) ?_
   refine FL.v (E.move kAc) ?_
   refine FL.v (E.lenP te22 rfl p0) ?_
   refine FL.v (E.lss rfl rfl) ?_
   refine FL.v (E.move (v:=Value.bool (decide (s21 < (len a0)))) rfl) ?_
   obtain ⟨t123,hqtAn,hp⟩:=bnd hp
   refine FL.cut 7 (fun f w=>∃ H:GH,St Ha wa H w []∧Inc HA7 H∧f 0=v0∧f 1=Value.string a1∧f 5=Value.int .i64 s21∧f 31=Value.bool t123) ?_ ?_
   ·
    clear hp;have hp:=hqtAn;clear hqtAn
    rcases ifB hp with ⟨cAt,hp⟩|⟨cAt,hp⟩
    ·
     refine FL.val (zab rfl rfl rfl cAt) rfl rfl (E.move kAc) ?_
     refine FL.val (zab rfl rfl rfl cAt) rfl rfl (E.move kAe) ?_
     obtain ⟨xAA,hxAB,hp⟩:=bnd hp
     obtain ⟨pAu,csAv,ptAw,lAx,atAy,relAz⟩:=p0.at hxAB
     obtain rfl:=eS_open relAz
     refine FL.val (zab rfl rfl rfl cAt) rfl rfl (E.indexAddr te22 rfl rfl ptAw) ?_
     refine FL.val (zab rfl rfl rfl cAt) rfl rfl (E.load rfl (zar Tryz.isAgg9 ((atAy.mono iA9).now SA8.sl) rfl)) ?_
     refine FL.val (zab rfl rfl rfl cAt) rfl rfl (E.move kAd) ?_
     refine FL.val (zab rfl rfl rfl cAt) rfl rfl (E.eqlS rfl rfl) ?_
     obtain rfl:=Option.some.inj hp
     refine FL.v (E.pickT rfl cAt rfl) ?_
     exact FL.nil ⟨rfl,_,SA8,(Inc.rfl _),kAc,kAd,kAe,rfl⟩
    ·
     refine FL.skip (wF_no rfl rfl rfl cAt) rfl ?_
     refine FL.skip (wF_no rfl rfl rfl cAt) rfl ?_
     refine FL.skip (wF_no rfl rfl rfl cAt) rfl ?_
     refine FL.skip (wF_no rfl rfl rfl cAt) rfl ?_
     refine FL.skip (wF_no rfl rfl rfl cAt) rfl ?_
     refine FL.skip (wF_no rfl rfl rfl cAt) rfl ?_
     obtain rfl:=Option.some.inj hp
     refine FL.v (E.pickF rfl cAt rfl) ?_
     exact FL.nil ⟨rfl,_,SA8,(Inc.rfl _),kAc,kAd,kAe,rfl⟩
   rintro fAs wAr ⟨HAo,SAp,iAq,kAC,kAD,kAE,kAF⟩
   refine FL.nil ?_
   rcases ifB hp with ⟨cAG,hp⟩|⟨cAG,hp⟩
   ·
    refine FW.condT kAF cAG ?_
    refine FW.seq (FW.region ?_)
    refine FL.v (E.move kAC) ?_
    refine FL.v (E.assign (v:=v0) rfl) ?_
    refine FL.nil ?_
    refine FW.ret ?_
    obtain rfl:=Option.some.inj hp
    exact ⟨.inr rfl,res1 rfl rfl ⟨_,_,rfl,SAp.run,(p0.mono (iA9.tr iAq))⟩⟩
   ·
    refine FW.condF kAF cAG ?_
    refine FW.skip (FW.seq ?_)
    obtain ⟨xs28,hc29,hp⟩:=bnd hp
    obtain ⟨xs33,hz34,hp⟩:=bnd hp
    obtain ⟨xs47,hz48,hp⟩:=bnd hp
    obtain ⟨xs58,hc59,hp⟩:=bnd hp
    obtain ⟨xs63,hz72,hp⟩:=bnd hp
    refine FW.drawB (Sl HAo) (fun f w=>∃ H:GH,∃ v80:Value,∃ n81:Nat,∃ cs82:List Value,St Ha wa H w [.row 9 1 v80 n81 cs82]∧Inc HAo H∧Els (up wa.heap.size H) eS 1 cs82 xs63∧f 4=v80) (by kernel_rfl) SAp.sl ?_ ?_
    ·
     intro wAH rAI
     have SAJ:=SAp.call rAI
     refine FB.t (i:=1) (bs 13 2) rfl (SP.nil SAJ.sl) rfl (fun w' hw'=>(E.move kAC)) ?_
     refine FB.t (i:=2) (bs 13 6) rfl (SP.nil SAJ.sl) rfl (fun w' hw'=>(E.move kAE)) ?_
     obtain ⟨v30,run31,h32⟩:=p0.cut te22 hc29 (lo:=none) (hi:=some (Value.int .i64 s21)) (.inl ⟨rfl,rfl⟩) (.inr ⟨_,rfl⟩)
     refine FB.t (i:=3) (bs 13 14) rfl (SP.nil SAJ.sl) rfl (fun w' hw'=>(E.slice te22 rfl rfl (congrArg some rfl) rfl (run31 _))) ?_
     refine FB.t (i:=5) (bs 13 46) rfl (SP.nil SAJ.sl) rfl (fun w' hw'=>(E.move kAD)) ?_
     refine FB.t (i:=8) (bs 13 302) rfl (SP.nil SAJ.sl) rfl (fun w' hw'=>(E.move kAC)) ?_
     refine FB.t (i:=9) (bs 13 814) rfl (SP.nil SAJ.sl) rfl (fun w' hw'=>(E.move kAE)) ?_
     obtain ⟨v60,run61,h62⟩:=p0.cut te22 hc59 (lo:=some (Value.int .i64 s21)) (hi:=none) (.inr ⟨_,rfl⟩) (.inl ⟨rfl,rfl⟩)
     refine FB.t (i:=10) (bs 13 1838) rfl (SP.nil SAJ.sl) rfl (fun w' hw'=>(E.slice te22 rfl (congrArg some rfl) rfl rfl (run61 _))) ?_
     refine FB.all2 (i:=0) (j:=6) (by kernel_rfl) ?_ ?_
     ·
      obtain ⟨v23,w24,run25,S26⟩:=SAJ.buildSlice (P:=Tryz.prog) te22 [] (parts:=#[]) (cells:=[]) rfl zal zak zag (Nat.le_of_ble_eq_true rfl)
      have els27:Els (up wa.heap.size HAo) eS 1 [] []:=Els.nil
      refine FC.val (l':=(bs 13 1839)) rfl (by kernel_rfl) rfl rfl rfl (E.buildSlice (B0) run25) ?_
      refine ⟨(SP.nil S26.sl),?_⟩
      refine FB.all2 (i:=4) (j:=6) (by kernel_rfl) ?_ ?_
      ·
       obtain ⟨v35,w38,n36,cs37,run39,S40,els41⟩:=S26.appendP (P:=Tryz.prog) (Inc.rfl _) te22 (i:=0) rfl (els27.mono upI) (h32.mono (iA9.tr iAq)) hz34
       have S40:St Ha wa HAo w38 [.row 9 1 v35 n36 cs37]:=S40
       have els41:Els (up wa.heap.size HAo) eS 1 cs37 xs33:=els41.any (fun _ _ _ _ h=>h)
       refine FC.val (l':=(bs 13 1855)) rfl (by kernel_rfl) rfl rfl rfl (E.append rfl rfl run39) ?_
       refine ⟨(SP.nil S40.sl),?_⟩
       refine FB.all1 (i:=6) (by kernel_rfl) ?_
       ·
        obtain ⟨v42,w43,run44,S45⟩:=S40.buildSlice (P:=Tryz.prog) te22 [Value.string a1] (parts:=#[(0,Value.string a1)]) (cells:=[Value.string a1]) rfl (zan rfl zal) (zam rfl zak) (zaa rfl zag) (Nat.le_of_ble_eq_true rfl)
        have els46:Els (up wa.heap.size HAo) eS 1 [Value.string a1] [a1]:=(Els.snoc (H:=(up wa.heap.size HAo)) (E:=eS) (k:=1) (c:=[Value.string a1]) (x:=a1) Els.nil rfl rfl)
        refine FC.val (l':=(bs 13 1919)) rfl (by kernel_rfl) rfl rfl rfl (E.buildSlice (B1 rfl) run44) ?_
        refine ⟨(SP.nil S45.sl),?_⟩
        refine FB.all1 (i:=7) (by kernel_rfl) ?_
        ·
         obtain ⟨v49,w52,n50,cs51,run53,S54,els55,ce56⟩:=S45.appendO (P:=Tryz.prog) te22 (i:=1) (j:=0) rfl els41 rfl els46 hz48
         have S54:St Ha wa HAo w52 [.row 9 1 v42 1 [Value.string a1],.row 9 1 v49 n50 cs51]:=S54
         have S57:St Ha wa HAo w52 [.row 9 1 v49 n50 cs51]:=S54.drop 0
         refine FC.val (l':=(bs 13 2047)) rfl (by kernel_rfl) rfl rfl rfl (E.append rfl rfl run53) ?_
         refine ⟨(SP.nil S57.sl),?_⟩
         refine FB.all1 (i:=11) (by kernel_rfl) ?_
         ·
          obtain ⟨v73,w76,n74,cs75,run77,S78,els79⟩:=S57.appendP (P:=Tryz.prog) (Inc.rfl _) te22 (i:=0) rfl (els55.mono upI) (h62.mono (iA9.tr iAq)) hz72
          have S78:St Ha wa HAo w76 [.row 9 1 v73 n74 cs75]:=S78
          have els79:Els (up wa.heap.size HAo) eS 1 cs75 xs63:=els79.any (fun _ _ _ _ h=>h)
          refine FC.val (l':=(bs 13 4095)) rfl (by kernel_rfl) rfl rfl rfl (E.append rfl rfl run77) ?_
          refine ⟨(SP.nil S78.sl),?_⟩
          refine FB.t (i:=12) (bs 13 8191) rfl (SP.nil S78.sl) rfl (fun w' hw'=>(E.assign (v:=v73) rfl)) ?_
          exact FB.done (by kernel_rfl) ⟨_,_,_,_,S78,(Inc.rfl _),els79,rfl⟩
      ·
       obtain ⟨v42,w43,run44,S45⟩:=S26.buildSlice (P:=Tryz.prog) te22 [Value.string a1] (parts:=#[(0,Value.string a1)]) (cells:=[Value.string a1]) rfl (zan rfl zal) (zam rfl zak) (zaa rfl zag) (Nat.le_of_ble_eq_true rfl)
       have els46:Els (up wa.heap.size HAo) eS 1 [Value.string a1] [a1]:=(Els.snoc (H:=(up wa.heap.size HAo)) (E:=eS) (k:=1) (c:=[Value.string a1]) (x:=a1) Els.nil rfl rfl)
       refine FC.val (l':=(bs 13 1903)) rfl (by kernel_rfl) rfl rfl rfl (E.buildSlice (B1 rfl) run44) ?_
       refine ⟨(SP.nil S45.sl),?_⟩
       refine FB.all1 (i:=4) (by kernel_rfl) ?_
       ·
        obtain ⟨v35,w38,n36,cs37,run39,S40,els41⟩:=S45.appendP (P:=Tryz.prog) (Inc.rfl _) te22 (i:=1) rfl (els27.mono upI) (h32.mono (iA9.tr iAq)) hz34
        have S40:St Ha wa HAo w38 [.row 9 1 v42 1 [Value.string a1],.row 9 1 v35 n36 cs37]:=S40
        have els41:Els (up wa.heap.size HAo) eS 1 cs37 xs33:=els41.any (fun _ _ _ _ h=>h)
        refine FC.val (l':=(bs 13 1919)) rfl (by kernel_rfl) rfl rfl rfl (E.append rfl rfl run39) ?_
        refine ⟨(SP.nil S40.sl),?_⟩
        refine FB.all1 (i:=7) (by kernel_rfl) ?_
        ·
         obtain ⟨v49,w52,n50,cs51,run53,S54,els55,ce56⟩:=S40.appendO (P:=Tryz.prog) te22 (i:=1) (j:=0) rfl els41 rfl els46 hz48
         have S54:St Ha wa HAo w52 [.row 9 1 v42 1 [Value.string a1],.row 9 1 v49 n50 cs51]:=S54
         have S57:St Ha wa HAo w52 [.row 9 1 v49 n50 cs51]:=S54.drop 0
         refine FC.val (l':=(bs 13 2047)) rfl (by kernel_rfl) rfl rfl rfl (E.append rfl rfl run53) ?_
         refine ⟨(SP.nil S57.sl),?_⟩
         refine FB.all1 (i:=11) (by kernel_rfl) ?_
         ·
          obtain ⟨v73,w76,n74,cs75,run77,S78,els79⟩:=S57.appendP (P:=Tryz.prog) (Inc.rfl _) te22 (i:=0) rfl (els55.mono upI) (h62.mono (iA9.tr iAq)) hz72
          have S78:St Ha wa HAo w76 [.row 9 1 v73 n74 cs75]:=S78
          have els79:Els (up wa.heap.size HAo) eS 1 cs75 xs63:=els79.any (fun _ _ _ _ h=>h)
          refine FC.val (l':=(bs 13 4095)) rfl (by kernel_rfl) rfl rfl rfl (E.append rfl rfl run77) ?_
          refine ⟨(SP.nil S78.sl),?_⟩
          refine FB.t (i:=12) (bs 13 8191) rfl (SP.nil S78.sl) rfl (fun w' hw'=>(E.assign (v:=v73) rfl)) ?_
          exact FB.done (by kernel_rfl) ⟨_,_,_,_,S78,(Inc.rfl _),els79,rfl⟩
     ·
      obtain ⟨v42,w43,run44,S45⟩:=SAJ.buildSlice (P:=Tryz.prog) te22 [Value.string a1] (parts:=#[(0,Value.string a1)]) (cells:=[Value.string a1]) rfl (zan rfl zal) (zam rfl zak) (zaa rfl zag) (Nat.le_of_ble_eq_true rfl)
      have els46:Els (up wa.heap.size HAo) eS 1 [Value.string a1] [a1]:=(Els.snoc (H:=(up wa.heap.size HAo)) (E:=eS) (k:=1) (c:=[Value.string a1]) (x:=a1) Els.nil rfl rfl)
      refine FC.val (l':=(bs 13 1902)) rfl (by kernel_rfl) rfl rfl rfl (E.buildSlice (B1 rfl) run44) ?_
      refine ⟨(SP.nil S45.sl),?_⟩
      refine FB.all1 (i:=0) (by kernel_rfl) ?_
      ·
       obtain ⟨v23,w24,run25,S26⟩:=S45.buildSlice (P:=Tryz.prog) te22 [] (parts:=#[]) (cells:=[]) rfl zal zak zag (Nat.le_of_ble_eq_true rfl)
       have els27:Els (up wa.heap.size HAo) eS 1 [] []:=Els.nil
       refine FC.val (l':=(bs 13 1903)) rfl (by kernel_rfl) rfl rfl rfl (E.buildSlice (B0) run25) ?_
       refine ⟨(SP.nil S26.sl),?_⟩
       refine FB.all1 (i:=4) (by kernel_rfl) ?_
       ·
        obtain ⟨v35,w38,n36,cs37,run39,S40,els41⟩:=S26.appendP (P:=Tryz.prog) (Inc.rfl _) te22 (i:=0) rfl (els27.mono upI) (h32.mono (iA9.tr iAq)) hz34
        have S40:St Ha wa HAo w38 [.row 9 1 v35 n36 cs37,.row 9 1 v42 1 [Value.string a1]]:=S40
        have els41:Els (up wa.heap.size HAo) eS 1 cs37 xs33:=els41.any (fun _ _ _ _ h=>h)
        refine FC.val (l':=(bs 13 1919)) rfl (by kernel_rfl) rfl rfl rfl (E.append rfl rfl run39) ?_
        refine ⟨(SP.nil S40.sl),?_⟩
        refine FB.all1 (i:=7) (by kernel_rfl) ?_
        ·
         obtain ⟨v49,w52,n50,cs51,run53,S54,els55,ce56⟩:=S40.appendO (P:=Tryz.prog) te22 (i:=0) (j:=1) rfl els41 rfl els46 hz48
         have S54:St Ha wa HAo w52 [.row 9 1 v49 n50 cs51,.row 9 1 v42 1 [Value.string a1]]:=S54
         have S57:St Ha wa HAo w52 [.row 9 1 v49 n50 cs51]:=S54.drop 1
         refine FC.val (l':=(bs 13 2047)) rfl (by kernel_rfl) rfl rfl rfl (E.append rfl rfl run53) ?_
         refine ⟨(SP.nil S57.sl),?_⟩
         refine FB.all1 (i:=11) (by kernel_rfl) ?_
         ·
          obtain ⟨v73,w76,n74,cs75,run77,S78,els79⟩:=S57.appendP (P:=Tryz.prog) (Inc.rfl _) te22 (i:=0) rfl (els55.mono upI) (h62.mono (iA9.tr iAq)) hz72
          have S78:St Ha wa HAo w76 [.row 9 1 v73 n74 cs75]:=S78
          have els79:Els (up wa.heap.size HAo) eS 1 cs75 xs63:=els79.any (fun _ _ _ _ h=>h)
          refine FC.val (l':=(bs 13 4095)) rfl (by kernel_rfl) rfl rfl rfl (E.append rfl rfl run77) ?_
          refine ⟨(SP.nil S78.sl),?_⟩
          refine FB.t (i:=12) (bs 13 8191) rfl (SP.nil S78.sl) rfl (fun w' hw'=>(E.assign (v:=v73) rfl)) ?_
          exact FB.done (by kernel_rfl) ⟨_,_,_,_,S78,(Inc.rfl _),els79,rfl⟩
    ·
     rintro fAk wAj ⟨HAg,v80,n81,cs82,SAh,iAi,elsAf,kAl⟩
     refine FW.ret ?_
     obtain ⟨HAm,SAK,iAL,hAM,nvAN⟩:=SAh.sealRowU (i:=0) (l':=[]) rfl elsAf (by decide) rfl
     obtain rfl:=Option.some.inj hp
     exact ⟨.inr rfl,res1 rfl kAl ⟨_,_,rfl,SAK.run,(hAM.mono upI)⟩⟩
  ·
   exact x21.elim

@[reducible] def p_spec_l23With (Ha:GH) (wa:World) (r:(List ByteArray)):Ending→World→Prop :=
 fun e w'=>∃ H':GH,∃ v0:Value,e=.returned (v0)∧Run wa.heap.size Ha wa H' w'∧RSl H' eS 1 v0 r
theorem zbd {Ha:GH} {wa:World} (hs:Sl Ha wa) (v0:Value) (a0:List ByteArray) (p0:RSl Ha eS 1 v0 a0) (a1:ByteArray) {r:(List ByteArray)} (hp:(PF.zaY a0 a1)=some r) :
  Calls Tryz.prog 123 #[v0,Value.string a1] wa (p_spec_l23With Ha wa r):=by
 unfold PF.zaY at hp
 have S0:=St.init hs
 refine zaj (N:=10) (args:=[v0,Value.string a1]) Tryz.func123 rfl rfl rfl ?_
 refine FW.seq (FW.region ?_)
 refine FL.v (E.assign (v:=Value.slice none 0 0) rfl) ?_
 refine FL.nil (FW.seq (FW.region ?_))
 obtain ⟨v21,w22,run23,S24⟩:=S0.buildSlice (P:=Tryz.prog) te22 [] (parts:=#[]) (cells:=[]) rfl zal zak zag (Nat.le_of_ble_eq_true rfl)
 have els25:Els (up wa.heap.size Ha) eS 1 [] []:=Els.nil
 refine FL.v (E.buildSlice (B0) run23) ?_
 refine FL.v (E.move (v:=v0) rfl) ?_
 obtain ⟨xs26,hz27,hp⟩:=bnd hp
 obtain ⟨v28,w31,n29,cs30,run32,S33,els34⟩:=S24.appendP (P:=Tryz.prog) (Inc.rfl _) te22 (i:=0) rfl (els25.mono upI) p0 hz27
 have S33:St Ha wa Ha w31 [.row 9 1 v28 n29 cs30]:=S33
 have els34:Els (up wa.heap.size Ha) eS 1 cs30 xs26:=els34.any (fun _ _ _ _ h=>h)
 refine FL.v (E.append rfl rfl run32) ?_
 refine FL.v (E.move (v:=Value.string a1) rfl) ?_
 obtain ⟨H36,S37,i38,h39,nv40⟩:=S33.sealRowU (i:=0) (l':=[]) rfl els34 (by decide) rfl
 obtain ⟨r41,hr42,hp⟩:=bnd hp
 refine FL.call rfl rfl rfl (E.call Tryz.call101 (A2 rfl rfl)) (zbB S37.sl v28 xs26 (h39.mono upI) a1 hr42) ?_
 rintro e w44 ⟨H43,v47,rfl,r46,h48⟩
 refine ⟨_,rfl,?_⟩
 have S45:=S37.call r46
 refine FL.v (E.assign (v:=v47) rfl) ?_
 refine FL.nil ?_
 refine FW.ret ?_
 obtain rfl:=Option.some.inj hp
 exact ⟨.inr rfl,res1 rfl rfl ⟨_,_,rfl,S45.run,h48⟩⟩

@[reducible] def p_spec_l23Premises (Ha:GH) (wa:World) (r:(List zad)):Ending→World→Prop :=
 fun e w'=>∃ H':GH,∃ v0:Value,∃ n0:Nat,∃ c0:List Value,e=.returned (v0)∧St Ha wa H' w' [.row 68 2 v0 n0 c0]∧Els H' eSequent 2 c0 r
set_option maxHeartbeats 4000000 in
theorem w_spec_l23Premises {Ha:GH} {wa:World} (hs:Sl Ha wa) (a0:zad) (v0_0:Value) (p0_0:RSl Ha eS 1 v0_0 a0.left) (v0_1:Value) (p0_1:RSl Ha eS 1 v0_1 a0.right) (a1:Int) (a2:ByteArray) {r:(List zad)} (hp:(PF.zb4 a0 a1 a2)=some r) :
  Calls Tryz.prog 151 #[Value.agg #[v0_0,v0_1],Value.int .i64 a1,Value.string a2] wa (p_spec_l23Premises Ha wa r):=by
 unfold PF.zb4 at hp
 have S0:=St.init hs
 refine zaj (N:=138) (args:=[Value.agg #[v0_0,v0_1],Value.int .i64 a1,Value.string a2]) Tryz.func151 rfl rfl rfl ?_
 refine FW.seq (FW.region ?_)
 obtain ⟨b21,w22,run23,S24⟩:=S0.box (P:=Tryz.prog) 68 [v0_0,v0_1] (v:=Value.agg #[v0_0,v0_1]) rfl (zaa p0_0.one (zaa p0_1.one zag))
 refine FL.v (E.box rfl run23) ?_
 obtain ⟨H25,S26,i27,at28⟩:=S24.sealBox (i:=0) (l':=[]) rfl rfl
 refine FL.v (E.assign (v:=Value.slice none 0 0) rfl) ?_
 refine FL.nil (FW.seq (FW.region ?_))
 refine FL.v (E.move (v:=Value.string a2) rfl) ?_
 obtain ⟨r29,hr30,hp⟩:=bnd hp
 refine FL.call rfl rfl rfl (E.call Tryz.call73 (A1 rfl)) (zdG S26.sl a2 hr30) ?_
 rintro e w31 ⟨rfl,r32⟩
 refine ⟨_,rfl,?_⟩
 have S33:=S26.call r32
 refine FL.v (E.move (v:=Value.tuple #[Value.int .u8 r29.1,Value.string r29.2.1,Value.string r29.2.2]) rfl) ?_
 refine FL.v (E.extract (i:=0) rfl rfl) ?_
 refine FL.v (E.extract (i:=1) rfl rfl) ?_
 refine FL.v (E.extract (i:=2) rfl rfl) ?_
 refine FL.v (E.assign (v:=Value.int .u8 r29.1) rfl) ?_
 refine FL.v (E.assign (v:=Value.string r29.2.1) rfl) ?_
 refine FL.v (E.assign (v:=Value.string r29.2.2) rfl) ?_
 refine FL.nil (FW.seq ?_)
 obtain ⟨r37,hr38,hp⟩:=bnd hp
 obtain ⟨r47,hr48,hp⟩:=bnd hp
 refine FW.drawB (Sl H25) (fun f w=>∃ H:GH,∃ v57:Value,∃ n58:Nat,∃ cs59:List Value,∃ v61:Value,∃ n62:Nat,∃ cs63:List Value,St Ha wa H w [.row 9 1 v57 n58 cs59,.row 9 1 v61 n62 cs63]∧Inc H25 H∧Els (up wa.heap.size H) eS 1 cs59 r37∧Els (up wa.heap.size H) eS 1 cs63 r47∧f 1=Value.int .i64 a1∧f 2=Value.string a2∧f 3=Value.pointer (some ⟨b21,0,none⟩)∧f 8=Value.string r29.2.1∧f 9=Value.string r29.2.2∧f 10=v57∧f 11=v61) (by kernel_rfl) S33.sl ?_ ?_
 ·
  intro w34 r35
  have S36:=S33.call r35
  refine FB.t (i:=0) (bs 10 1) rfl (SP.nil S36.sl) rfl (fun w' hw'=>(E.fieldAddr zau rfl)) ?_
  refine FB.t (i:=1) (bs 10 3) rfl (SP.nil S36.sl) rfl (fun w' hw'=>(E.load rfl (zaf Tryz.isAgg22 (at28.now hw') rfl))) ?_
  refine FB.t (i:=2) (bs 10 7) rfl (SP.nil S36.sl) rfl (fun w' hw'=>(E.move (v:=Value.string a2) rfl)) ?_
  refine FB.t (i:=4) (bs 10 23) rfl (SP.nil S36.sl) rfl (fun w' hw'=>(E.fieldAddr zas rfl)) ?_
  refine FB.t (i:=5) (bs 10 55) rfl (SP.nil S36.sl) rfl (fun w' hw'=>(E.load rfl (zaf Tryz.isAgg22 (at28.now hw') rfl))) ?_
  refine FB.t (i:=6) (bs 10 119) rfl (SP.nil S36.sl) rfl (fun w' hw'=>(E.move (v:=Value.string a2) rfl)) ?_
  refine FB.all1 (i:=3) (by kernel_rfl) ?_
  ·
   refine FC.call (l':=(bs 10 127)) rfl (by kernel_rfl) rfl rfl rfl (E.call Tryz.call124 (A2 rfl rfl)) (zdH S36.sl v0_0 a0.left (p0_0.mono i27) a2 hr38) ?_
   rintro e w40 ⟨H39,v43,n44,cs45,rfl,r42,els46⟩
   refine ⟨_,rfl,?_⟩
   have els46:=els46.mono (up_le S36.size)
   have S41:=S36.join (l':=[.row 9 1 v43 n44 cs45]) r42 rfl
   refine ⟨(SP.nil (Sl.of_inc r42.run.inc S41.sl)),?_⟩
   refine FB.all1 (i:=7) (by kernel_rfl) ?_
   ·
    refine FC.call (l':=(bs 10 255)) rfl (by kernel_rfl) rfl rfl rfl (E.call Tryz.call124 (A2 rfl rfl)) (zdH S41.sl v0_1 a0.right (p0_1.mono (i27.tr r42.run.inc)) a2 hr48) ?_
    rintro e w50 ⟨H49,v53,n54,cs55,rfl,r52,els56⟩
    refine ⟨_,rfl,?_⟩
    have els56:=els56.mono (up_le S41.size)
    have S51:=S41.join (l':=[.row 9 1 v53 n54 cs55,.row 9 1 v43 n44 cs45]) r52 rfl
    refine ⟨(SP.nil (Sl.of_inc (r42.run.inc.tr r52.run.inc) S51.sl)),?_⟩
    refine FB.t (i:=8) (bs 10 511) rfl (SP.nil (Sl.of_inc (r42.run.inc.tr r52.run.inc) S51.sl)) rfl (fun w' hw'=>(E.assign (v:=v43) rfl)) ?_
    refine FB.t (i:=9) (bs 10 1023) rfl (SP.nil (Sl.of_inc (r42.run.inc.tr r52.run.inc) S51.sl)) rfl (fun w' hw'=>(E.assign (v:=v53) rfl)) ?_
    exact FB.done (by kernel_rfl) ⟨_,_,_,_,_,_,_,(S51.sel [1,0] (by decide) rfl),(r42.run.inc.tr r52.run.inc),(els46.mono (zai r52.run.inc)),els56,rfl,rfl,rfl,rfl,rfl,rfl,rfl⟩
 ·
  rintro f70 w69 ⟨H65,v57,n58,cs59,v61,n62,cs63,S66,i67,els60,els64,k71,k72,k73,k74,k75,k76,k77⟩
  refine FW.seq (FW.seq (FW.region ?_))
  refine FL.v (E.move k71) ?_
  refine FL.nil (FW.block (FW.seq (FW.region ?_)))
  refine FL.v (E.eql rfl rfl) ?_
  refine FL.v (E.assign (v:=Value.bool (a1 == 2)) rfl) ?_
  refine FL.nil ?_
  rcases ifB hp with ⟨c78,hp⟩|⟨c78,hp⟩
  ·
   refine FW.condT rfl c78 ?_
   refine FW.seq (FW.region ?_)
   refine FL.v (E.move k76) ?_
   refine FL.v (E.fieldAddr zas k73) ?_
   refine FL.v (E.load rfl (zaf Tryz.isAgg22 ((at28.mono i67).now S66.sl) rfl)) ?_
   refine FL.v (E.move k74) ?_
   obtain ⟨r79,hr80,hp⟩:=bnd hp
   refine FL.call rfl rfl rfl (E.call Tryz.call123 (A2 rfl rfl)) (zbd S66.sl v0_1 a0.right (p0_1.mono (i27.tr i67)) r29.2.1 hr80) ?_
   rintro e w82 ⟨H81,v85,rfl,r84,h86⟩
   refine ⟨_,rfl,?_⟩
   have S83:=S66.call r84
   refine FL.v (E.build (B2 rfl rfl) (run_build _ 68 #[(0,v57),(1,v85)] #[v57,v85] (by obtain ⟨_,_,rfl⟩:=RSl.ln h86;obtain ⟨_,_,rfl⟩:=S83.row_ln (i:=0) rfl;rfl))) ?_
   obtain ⟨H87,S88,i89,h90,nv91⟩:=S83.sealRowU (i:=0) (l':=[.row 9 1 v61 n62 cs63]) rfl (els60.mono (zai r84.inc)) (by decide) rfl
   obtain ⟨v92,w93,run94,S95⟩:=S88.buildSlice (P:=Tryz.prog) te172 [Value.agg #[v57,v85]] (parts:=#[(0,Value.agg #[v57,v85])]) (cells:=[v57,v85]) rfl (zan rfl zal) (zam rfl zak) (zaa h90.one (zaa h86.one zag)) (Nat.le_of_ble_eq_true rfl)
   have els96:Els H87 eSequent 2 [v57,v85] [(zad.mk r37 r79)]:=(Els.snoc (H:=H87) (E:=eSequent) (k:=2) (c:=[v57,v85]) (x:=(zad.mk r37 r79)) Els.nil rfl ⟨_,_,rfl,(h90.mono upI),(h86.mono i89)⟩)
   refine FL.v (E.buildSlice (B1 rfl) run94) ?_
   refine FL.v (E.assign (v:=v92) rfl) ?_
   refine FL.nil ?_
   refine FW.ret ?_
   obtain rfl:=Option.some.inj hp
   exact ⟨.inr rfl,res1 rfl rfl ⟨_,_,_,_,rfl,(S95.sel [0] (by decide) rfl),els96⟩⟩
  ·
   refine FW.condF rfl c78 ?_
   refine FW.seq (FW.region ?_)
   refine FL.v (E.eql rfl rfl) ?_
   refine FL.v (E.assign (v:=Value.bool (a1 == 3)) rfl) ?_
   refine FL.nil ?_
   rcases ifB hp with ⟨c97,hp⟩|⟨c97,hp⟩
   ·
    refine FW.condT rfl c97 ?_
    refine FW.seq (FW.region ?_)
    refine FL.v (E.fieldAddr zau k73) ?_
    refine FL.v (E.load rfl (zaf Tryz.isAgg22 ((at28.mono i67).now S66.sl) rfl)) ?_
    refine FL.v (E.move k74) ?_
    obtain ⟨r98,hr99,hp⟩:=bnd hp
    refine FL.call rfl rfl rfl (E.call Tryz.call123 (A2 rfl rfl)) (zbd S66.sl v0_0 a0.left (p0_0.mono (i27.tr i67)) r29.2.1 hr99) ?_
    rintro e wA1 ⟨HA0,vA4,rfl,rA3,hA5⟩
    refine ⟨_,rfl,?_⟩
    have SA2:=S66.call rA3
    refine FL.v (E.move k77) ?_
    refine FL.v (E.build (B2 rfl rfl) (run_build _ 68 #[(0,vA4),(1,v61)] #[vA4,v61] (by obtain ⟨_,_,rfl⟩:=RSl.ln hA5;obtain ⟨_,_,rfl⟩:=SA2.row_ln (i:=1) rfl;rfl))) ?_
    obtain ⟨HA6,SA7,iA8,hA9,nvAa⟩:=SA2.sealRowU (i:=1) (l':=[.row 9 1 v57 n58 cs59]) rfl (els64.mono (zai rA3.inc)) (by decide) rfl
    obtain ⟨vAb,wAc,runAd,SAe⟩:=SA7.buildSlice (P:=Tryz.prog) te172 [Value.agg #[vA4,v61]] (parts:=#[(0,Value.agg #[vA4,v61])]) (cells:=[vA4,v61]) rfl (zan rfl zal) (zam rfl zak) (zaa hA5.one (zaa hA9.one zag)) (Nat.le_of_ble_eq_true rfl)
    have elsAf:Els HA6 eSequent 2 [vA4,v61] [(zad.mk r98 r47)]:=(Els.snoc (H:=HA6) (E:=eSequent) (k:=2) (c:=[vA4,v61]) (x:=(zad.mk r98 r47)) Els.nil rfl ⟨_,_,rfl,(hA5.mono iA8),(hA9.mono upI)⟩)
    refine FL.v (E.buildSlice (B1 rfl) runAd) ?_
    refine FL.v (E.assign (v:=vAb) rfl) ?_
    refine FL.nil ?_
    refine FW.ret ?_
    obtain rfl:=Option.some.inj hp
    exact ⟨.inr rfl,res1 rfl rfl ⟨_,_,_,_,rfl,(SAe.sel [0] (by decide) rfl),elsAf⟩⟩
   ·
    refine FW.condF rfl c97 ?_
    refine FW.seq (FW.region ?_)
    refine FL.v (E.eql rfl rfl) ?_
    refine FL.v (E.assign (v:=Value.bool (a1 == 4)) rfl) ?_
    refine FL.nil ?_
    rcases ifB hp with ⟨cAg,hp⟩|⟨cAg,hp⟩
    ·
     refine FW.condT rfl cAg ?_
     refine FW.seq ?_
     obtain ⟨sAk,hqAk,hp⟩:=bnd hp
     obtain ⟨rAT,hrAU,hp⟩:=bnd hp
     refine FW.drawB (Sl H65) (fun f w=>∃ H:GH,∃ vB6:Value,∃ nB7:Nat,∃ csB8:List Value,St Ha wa H w [.row 68 2 vB6 nB7 csB8]∧Inc H65 H∧Els H eSequent 2 csB8 [(zad.mk rAT a0.right)]∧f 6=vB6) (by kernel_rfl) S66.sl ?_ ?_
     ·
      intro wAh rAi
      have SAj:=S66.call rAi
      refine FB.t (i:=0) (bs 10 1) rfl (SP.nil SAj.sl) rfl (fun w' hw'=>(E.move k76)) ?_
      refine FB.t (i:=1) (bs 10 3) rfl (SP.nil SAj.sl) rfl (fun w' hw'=>(E.move k74)) ?_
      refine FB.t (i:=3) (bs 10 11) rfl (SP.nil SAj.sl) rfl (fun w' hw'=>(E.move k75)) ?_
      refine FB.t (i:=5) (bs 10 43) rfl (SP.nil SAj.sl) rfl (fun w' hw'=>(E.fieldAddr zas k73)) ?_
      refine FB.t (i:=6) (bs 10 107) rfl (SP.nil SAj.sl) rfl (fun w' hw'=>(E.load rfl (zaf Tryz.isAgg22 ((at28.mono i67).now hw') rfl))) ?_
      refine FB.all1 (i:=2) (by kernel_rfl) ?_
      ·
       obtain ⟨R120,hRAk⟩:∃ R120:(List ByteArray)→Ending→World→Prop,R120=(fun sAk e w=>∃ H:GH,∃ vAl:Value,e=Ending.returned (vAl)∧St Ha wa H w [.row 9 1 v57 n58 cs59,.row 9 1 v61 n62 cs63]∧Inc H65 H∧RSl H eS 1 vAl sAk):=⟨_,rfl⟩
       have hcAk:Calls Tryz.prog 123 #[v57,Value.string r29.2.1] wAh (R120 sAk):=by
        clear hp;have hp:=hqAk;clear hqAk
        refine zaj (N:=10) (args:=[v57,Value.string r29.2.1]) Tryz.func123 rfl rfl rfl ?_
        refine FW.seq (FW.region ?_)
        refine FL.v (E.assign (v:=Value.slice none 0 0) rfl) ?_
        refine FL.nil (FW.seq (FW.region ?_))
        obtain ⟨vAn,wAo,runAp,SAq⟩:=SAj.buildSlice (P:=Tryz.prog) te22 [] (parts:=#[]) (cells:=[]) rfl zal zak zag (Nat.le_of_ble_eq_true rfl)
        have elsAr:Els (up wa.heap.size H65) eS 1 [] []:=Els.nil
        refine FL.v (E.buildSlice (B0) runAp) ?_
        refine FL.v (E.move (v:=v57) rfl) ?_
        obtain ⟨xsAs,hzAt,hp⟩:=bnd hp
        obtain ⟨vAu,wAx,nAv,csAw,runAy,SAz,elsAA,ceAB⟩:=SAq.appendO (P:=Tryz.prog) te22 (i:=0) (j:=1) rfl elsAr rfl els60 hzAt
        have SAz:St Ha wa H65 wAx [.row 9 1 vAu nAv csAw,.row 9 1 v57 n58 cs59,.row 9 1 v61 n62 cs63]:=SAz
        refine FL.v (E.append rfl rfl runAy) ?_
        refine FL.v (E.move (v:=Value.string r29.2.1) rfl) ?_
        obtain ⟨HAC,SAD,iAE,hAF,nvAG⟩:=SAz.sealRowU (i:=0) (l':=[.row 9 1 v57 n58 cs59,.row 9 1 v61 n62 cs63]) rfl elsAA (by decide) rfl
        obtain ⟨rAH,hrAI,hp⟩:=bnd hp
        refine FL.call rfl rfl rfl (E.call Tryz.call101 (A2 rfl rfl)) (zbB SAD.sl vAu xsAs (hAF.mono upI) r29.2.1 hrAI) ?_
        rintro e wAK ⟨HAJ,vAN,rfl,rAM,hAO⟩
        refine ⟨_,rfl,?_⟩
        have SAL:=SAD.call rAM
        refine FL.v (E.assign (v:=vAN) rfl) ?_
        refine FL.nil ?_
        refine FW.ret ?_
        obtain rfl:=Option.some.inj hp
        exact ⟨.inr rfl,res1 rfl rfl (by rw [hRAk];exact ⟨_,_,rfl,SAL,(iAE.tr rAM.inc),hAO⟩)⟩
       clear hqAk
       refine FC.call (l':=(bs 10 111)) rfl (by kernel_rfl) rfl rfl rfl (E.call Tryz.call123 (A2 rfl rfl)) hcAk ?_
       intro e wAS hQAk
       rw [hRAk] at hQAk
       obtain ⟨HAP,vAl,rfl,SAQ,iAR,hAm⟩:=hQAk
       refine ⟨_,rfl,?_⟩
       refine ⟨(SP.nil (Sl.of_inc iAR SAQ.sl)),?_⟩
       refine FB.all1 (i:=4) (by kernel_rfl) ?_
       ·
        refine FC.call (l':=(bs 10 127)) rfl (by kernel_rfl) rfl rfl rfl (E.call Tryz.call123 (A2 rfl rfl)) (zbd SAQ.sl vAl sAk hAm r29.2.2 hrAU) ?_
        rintro e wAW ⟨HAV,vAZ,rfl,rAY,hB0⟩
        refine ⟨_,rfl,?_⟩
        have SAX:=SAQ.call rAY
        refine ⟨(SP.nil (Sl.of_inc (iAR.tr rAY.inc) SAX.sl)),?_⟩
        refine FB.t (i:=7) (bs 10 255) rfl (SP.nil (Sl.of_inc (iAR.tr rAY.inc) SAX.sl)) rfl (fun w' hw'=>(E.build (B2 rfl rfl) (run_build _ 68 #[(0,vAZ),(1,v0_1)] #[vAZ,v0_1] (by obtain ⟨_,_,rfl⟩:=RSl.ln hB0;obtain ⟨_,_,rfl⟩:=RSl.ln (p0_1.mono (((i27.tr i67).tr iAR).tr rAY.inc));rfl)))) ?_
        refine FB.all1 (i:=8) (by kernel_rfl) ?_
        ·
         obtain ⟨vB1,wB2,runB3,SB4⟩:=SAX.buildSlice (P:=Tryz.prog) te172 [Value.agg #[vAZ,v0_1]] (parts:=#[(0,Value.agg #[vAZ,v0_1])]) (cells:=[vAZ,v0_1]) rfl (zan rfl zal) (zam rfl zak) (zaa hB0.one (zaa p0_1.one zag)) (Nat.le_of_ble_eq_true rfl)
         have elsB5:Els HAV eSequent 2 [vAZ,v0_1] [(zad.mk rAT a0.right)]:=(Els.snoc (H:=HAV) (E:=eSequent) (k:=2) (c:=[vAZ,v0_1]) (x:=(zad.mk rAT a0.right)) Els.nil rfl ⟨_,_,rfl,hB0,(p0_1.mono (((i27.tr i67).tr iAR).tr rAY.inc))⟩)
         refine FC.val (l':=(bs 10 511)) rfl (by kernel_rfl) rfl rfl rfl (E.buildSlice (B1 rfl) runB3) ?_
         refine ⟨(SP.nil (Sl.of_inc (iAR.tr rAY.inc) SB4.sl)),?_⟩
         refine FB.t (i:=9) (bs 10 1023) rfl (SP.nil (Sl.of_inc (iAR.tr rAY.inc) SB4.sl)) rfl (fun w' hw'=>(E.assign (v:=vB1) rfl)) ?_
         exact FB.done (by kernel_rfl) ⟨_,_,_,_,(SB4.sel [0] (by decide) rfl),(iAR.tr rAY.inc),elsB5,rfl⟩
     ·
      rintro fBf wBe ⟨HBb,vB6,nB7,csB8,SBc,iBd,elsB9,kBg⟩
      refine FW.ret ?_
      obtain rfl:=Option.some.inj hp
      exact ⟨.inr rfl,res1 rfl kBg ⟨_,_,_,_,rfl,SBc,elsB9⟩⟩
    ·
     refine FW.condF rfl cAg ?_
     refine FW.seq (FW.region ?_)
     refine FL.v (E.eql rfl rfl) ?_
     refine FL.v (E.assign (v:=Value.bool (a1 == 5)) rfl) ?_
     refine FL.nil ?_
     rcases ifB hp with ⟨cBh,hp⟩|⟨cBh,hp⟩
     ·
      refine FW.condT rfl cBh ?_
      refine FW.seq ?_
      obtain ⟨sBl,hqBl,hp⟩:=bnd hp
      obtain ⟨sBU,hqBU,hp⟩:=bnd hp
      refine FW.drawB (Sl H65) (fun f w=>∃ H:GH,∃ vCy:Value,∃ nCz:Nat,∃ csCA:List Value,St Ha wa H w [.row 68 2 vCy nCz csCA]∧Inc H65 H∧Els H eSequent 2 csCA [(zad.mk a0.left sBl),(zad.mk a0.left sBU)]∧f 6=vCy) (by kernel_rfl) S66.sl ?_ ?_
      ·
       intro wBi rBj
       have SBk:=S66.call rBj
       refine FB.t (i:=0) (bs 14 1) rfl (SP.nil SBk.sl) rfl (fun w' hw'=>(E.fieldAddr zau k73)) ?_
       refine FB.t (i:=1) (bs 14 3) rfl (SP.nil SBk.sl) rfl (fun w' hw'=>(E.load rfl (zaf Tryz.isAgg22 ((at28.mono i67).now hw') rfl))) ?_
       refine FB.t (i:=2) (bs 14 7) rfl (SP.nil SBk.sl) rfl (fun w' hw'=>(E.move k77)) ?_
       refine FB.t (i:=3) (bs 14 15) rfl (SP.nil SBk.sl) rfl (fun w' hw'=>(E.move k74)) ?_
       refine FB.t (i:=6) (bs 14 79) rfl (SP.nil SBk.sl) rfl (fun w' hw'=>(E.fieldAddr zau k73)) ?_
       refine FB.t (i:=7) (bs 14 207) rfl (SP.nil SBk.sl) rfl (fun w' hw'=>(E.load rfl (zaf Tryz.isAgg22 ((at28.mono i67).now hw') rfl))) ?_
       refine FB.t (i:=8) (bs 14 463) rfl (SP.nil SBk.sl) rfl (fun w' hw'=>(E.move k77)) ?_
       refine FB.t (i:=9) (bs 14 975) rfl (SP.nil SBk.sl) rfl (fun w' hw'=>(E.move k75)) ?_
       refine FB.all1 (i:=4) (by kernel_rfl) ?_
       ·
        obtain ⟨R183,hRBl⟩:∃ R183:(List ByteArray)→Ending→World→Prop,R183=(fun sBl e w=>∃ H:GH,∃ vBm:Value,e=Ending.returned (vBm)∧St Ha wa H w [.row 9 1 v57 n58 cs59,.row 9 1 v61 n62 cs63]∧Inc H65 H∧RSl H eS 1 vBm sBl):=⟨_,rfl⟩
        have hcBl:Calls Tryz.prog 123 #[v61,Value.string r29.2.1] wBi (R183 sBl):=by
         clear hp;have hp:=hqBl;clear hqBl
         refine zaj (N:=10) (args:=[v61,Value.string r29.2.1]) Tryz.func123 rfl rfl rfl ?_
         refine FW.seq (FW.region ?_)
         refine FL.v (E.assign (v:=Value.slice none 0 0) rfl) ?_
         refine FL.nil (FW.seq (FW.region ?_))
         obtain ⟨vBo,wBp,runBq,SBr⟩:=SBk.buildSlice (P:=Tryz.prog) te22 [] (parts:=#[]) (cells:=[]) rfl zal zak zag (Nat.le_of_ble_eq_true rfl)
         have elsBs:Els (up wa.heap.size H65) eS 1 [] []:=Els.nil
         refine FL.v (E.buildSlice (B0) runBq) ?_
         refine FL.v (E.move (v:=v61) rfl) ?_
         obtain ⟨xsBt,hzBu,hp⟩:=bnd hp
         obtain ⟨vBv,wBy,nBw,csBx,runBz,SBA,elsBB,ceBC⟩:=SBr.appendO (P:=Tryz.prog) te22 (i:=0) (j:=2) rfl elsBs rfl els64 hzBu
         have SBA:St Ha wa H65 wBy [.row 9 1 vBv nBw csBx,.row 9 1 v57 n58 cs59,.row 9 1 v61 n62 cs63]:=SBA
         refine FL.v (E.append rfl rfl runBz) ?_
         refine FL.v (E.move (v:=Value.string r29.2.1) rfl) ?_
         obtain ⟨HBD,SBE,iBF,hBG,nvBH⟩:=SBA.sealRowU (i:=0) (l':=[.row 9 1 v57 n58 cs59,.row 9 1 v61 n62 cs63]) rfl elsBB (by decide) rfl
         obtain ⟨rBI,hrBJ,hp⟩:=bnd hp
         refine FL.call rfl rfl rfl (E.call Tryz.call101 (A2 rfl rfl)) (zbB SBE.sl vBv xsBt (hBG.mono upI) r29.2.1 hrBJ) ?_
         rintro e wBL ⟨HBK,vBO,rfl,rBN,hBP⟩
         refine ⟨_,rfl,?_⟩
         have SBM:=SBE.call rBN
         refine FL.v (E.assign (v:=vBO) rfl) ?_
         refine FL.nil ?_
         refine FW.ret ?_
         obtain rfl:=Option.some.inj hp
         exact ⟨.inr rfl,res1 rfl rfl (by rw [hRBl];exact ⟨_,_,rfl,SBM,(iBF.tr rBN.inc),hBP⟩)⟩
        clear hqBl
        refine FC.call (l':=(bs 14 991)) rfl (by kernel_rfl) rfl rfl rfl (E.call Tryz.call123 (A2 rfl rfl)) hcBl ?_
        intro e wBT hQBl
        rw [hRBl] at hQBl
        obtain ⟨HBQ,vBm,rfl,SBR,iBS,hBn⟩:=hQBl
        refine ⟨_,rfl,?_⟩
        refine ⟨(SP.nil (Sl.of_inc iBS SBR.sl)),?_⟩
        refine FB.t (i:=5) (bs 14 1023) rfl (SP.nil (Sl.of_inc iBS SBR.sl)) rfl (fun w' hw'=>(E.build (B2 rfl rfl) (run_build _ 68 #[(0,v0_0),(1,vBm)] #[v0_0,vBm] (by obtain ⟨_,_,rfl⟩:=RSl.ln (p0_0.mono ((i27.tr i67).tr iBS));obtain ⟨_,_,rfl⟩:=RSl.ln hBn;rfl)))) ?_
        refine FB.all1 (i:=10) (by kernel_rfl) ?_
        ·
         obtain ⟨R218,hRBU⟩:∃ R218:(List ByteArray)→Ending→World→Prop,R218=(fun sBU e w=>∃ H:GH,∃ vBV:Value,e=Ending.returned (vBV)∧St Ha wa H w [.row 9 1 v57 n58 cs59,.row 9 1 v61 n62 cs63]∧Inc HBQ H∧RSl H eS 1 vBV sBU):=⟨_,rfl⟩
         have hcBU:Calls Tryz.prog 123 #[v61,Value.string r29.2.2] wBT (R218 sBU):=by
          clear hp;have hp:=hqBU;clear hqBU
          refine zaj (N:=10) (args:=[v61,Value.string r29.2.2]) Tryz.func123 rfl rfl rfl ?_
          refine FW.seq (FW.region ?_)
          refine FL.v (E.assign (v:=Value.slice none 0 0) rfl) ?_
          refine FL.nil (FW.seq (FW.region ?_))
          obtain ⟨vBX,wBY,runBZ,SC0⟩:=SBR.buildSlice (P:=Tryz.prog) te22 [] (parts:=#[]) (cells:=[]) rfl zal zak zag (Nat.le_of_ble_eq_true rfl)
          have elsC1:Els (up wa.heap.size HBQ) eS 1 [] []:=Els.nil
          refine FL.v (E.buildSlice (B0) runBZ) ?_
          refine FL.v (E.move (v:=v61) rfl) ?_
          obtain ⟨xsC2,hzC3,hp⟩:=bnd hp
          obtain ⟨vC4,wC7,nC5,csC6,runC8,SC9,elsCa,ceCb⟩:=SC0.appendO (P:=Tryz.prog) te22 (i:=0) (j:=2) rfl elsC1 rfl (els64.mono (zai iBS)) hzC3
          have SC9:St Ha wa HBQ wC7 [.row 9 1 vC4 nC5 csC6,.row 9 1 v57 n58 cs59,.row 9 1 v61 n62 cs63]:=SC9
          refine FL.v (E.append rfl rfl runC8) ?_
          refine FL.v (E.move (v:=Value.string r29.2.2) rfl) ?_
          obtain ⟨HCc,SCd,iCe,hCf,nvCg⟩:=SC9.sealRowU (i:=0) (l':=[.row 9 1 v57 n58 cs59,.row 9 1 v61 n62 cs63]) rfl elsCa (by decide) rfl
          obtain ⟨rCh,hrCi,hp⟩:=bnd hp
          refine FL.call rfl rfl rfl (E.call Tryz.call101 (A2 rfl rfl)) (zbB SCd.sl vC4 xsC2 (hCf.mono upI) r29.2.2 hrCi) ?_
          rintro e wCk ⟨HCj,vCn,rfl,rCm,hCo⟩
          refine ⟨_,rfl,?_⟩
          have SCl:=SCd.call rCm
          refine FL.v (E.assign (v:=vCn) rfl) ?_
          refine FL.nil ?_
          refine FW.ret ?_
          obtain rfl:=Option.some.inj hp
          exact ⟨.inr rfl,res1 rfl rfl (by rw [hRBU];exact ⟨_,_,rfl,SCl,(iCe.tr rCm.inc),hCo⟩)⟩
         clear hqBU
         refine FC.call (l':=(bs 14 2047)) rfl (by kernel_rfl) rfl rfl rfl (E.call Tryz.call123 (A2 rfl rfl)) hcBU ?_
         intro e wCs hQBU
         rw [hRBU] at hQBU
         obtain ⟨HCp,vBV,rfl,SCq,iCr,hBW⟩:=hQBU
         refine ⟨_,rfl,?_⟩
         refine ⟨(SP.nil (Sl.of_inc (iBS.tr iCr) SCq.sl)),?_⟩
         refine FB.t (i:=11) (bs 14 4095) rfl (SP.nil (Sl.of_inc (iBS.tr iCr) SCq.sl)) rfl (fun w' hw'=>(E.build (B2 rfl rfl) (run_build _ 68 #[(0,v0_0),(1,vBV)] #[v0_0,vBV] (by obtain ⟨_,_,rfl⟩:=RSl.ln (p0_0.mono (((i27.tr i67).tr iBS).tr iCr));obtain ⟨_,_,rfl⟩:=RSl.ln hBW;rfl)))) ?_
         refine FB.all1 (i:=12) (by kernel_rfl) ?_
         ·
          obtain ⟨vCt,wCu,runCv,SCw⟩:=SCq.buildSlice (P:=Tryz.prog) te172 [Value.agg #[v0_0,vBm],Value.agg #[v0_0,vBV]] (parts:=#[(0,Value.agg #[v0_0,vBm]),(1,Value.agg #[v0_0,vBV])]) (cells:=[v0_0,vBm,v0_0,vBV]) rfl (zan rfl (zan rfl zal)) (zam rfl (zam rfl zak)) (zaa p0_0.one (zaa hBn.one (zaa p0_0.one (zaa hBW.one zag)))) (Nat.le_of_ble_eq_true rfl)
          have elsCx:Els HCp eSequent 2 [v0_0,vBm,v0_0,vBV] [(zad.mk a0.left sBl),(zad.mk a0.left sBU)]:=(Els.snoc (H:=HCp) (E:=eSequent) (k:=2) (c:=[v0_0,vBV]) (x:=(zad.mk a0.left sBU)) (Els.snoc (H:=HCp) (E:=eSequent) (k:=2) (c:=[v0_0,vBm]) (x:=(zad.mk a0.left sBl)) Els.nil rfl ⟨_,_,rfl,(p0_0.mono (((i27.tr i67).tr iBS).tr iCr)),(hBn.mono iCr)⟩) rfl ⟨_,_,rfl,(p0_0.mono (((i27.tr i67).tr iBS).tr iCr)),hBW⟩)
          refine FC.val (l':=(bs 14 8191)) rfl (by kernel_rfl) rfl rfl rfl (E.buildSlice (B2 rfl rfl) runCv) ?_
          refine ⟨(SP.nil (Sl.of_inc (iBS.tr iCr) SCw.sl)),?_⟩
          refine FB.t (i:=13) (bs 14 16383) rfl (SP.nil (Sl.of_inc (iBS.tr iCr) SCw.sl)) rfl (fun w' hw'=>(E.assign (v:=vCt) rfl)) ?_
          exact FB.done (by kernel_rfl) ⟨_,_,_,_,(SCw.sel [0] (by decide) rfl),(iBS.tr iCr),elsCx,rfl⟩
      ·
       rintro fCG wCF ⟨HCC,vCy,nCz,csCA,SCD,iCE,elsCB,kCH⟩
       refine FW.ret ?_
       obtain rfl:=Option.some.inj hp
       exact ⟨.inr rfl,res1 rfl kCH ⟨_,_,_,_,rfl,SCD,elsCB⟩⟩
     ·
      refine FW.condF rfl cBh ?_
      refine FW.seq (FW.region ?_)
      refine FL.v (E.eql rfl rfl) ?_
      refine FL.v (E.assign (v:=Value.bool (a1 == 6)) rfl) ?_
      refine FL.nil ?_
      rcases ifB hp with ⟨cCI,hp⟩|⟨cCI,hp⟩
      ·
       refine FW.condT rfl cCI ?_
       refine FW.seq ?_
       obtain ⟨sCM,hqCM,hp⟩:=bnd hp
       obtain ⟨sDl,hqDl,hp⟩:=bnd hp
       refine FW.drawB (Sl H65) (fun f w=>∃ H:GH,∃ vDZ:Value,∃ nE0:Nat,∃ csE1:List Value,St Ha wa H w [.row 68 2 vDZ nE0 csE1]∧Inc H65 H∧Els H eSequent 2 csE1 [(zad.mk sCM a0.right),(zad.mk sDl a0.right)]∧f 6=vDZ) (by kernel_rfl) S66.sl ?_ ?_
       ·
        intro wCJ rCK
        have SCL:=S66.call rCK
        refine FB.t (i:=0) (bs 14 1) rfl (SP.nil SCL.sl) rfl (fun w' hw'=>(E.move k76)) ?_
        refine FB.t (i:=1) (bs 14 3) rfl (SP.nil SCL.sl) rfl (fun w' hw'=>(E.move k74)) ?_
        refine FB.t (i:=3) (bs 14 11) rfl (SP.nil SCL.sl) rfl (fun w' hw'=>(E.fieldAddr zas k73)) ?_
        refine FB.t (i:=4) (bs 14 27) rfl (SP.nil SCL.sl) rfl (fun w' hw'=>(E.load rfl (zaf Tryz.isAgg22 ((at28.mono i67).now hw') rfl))) ?_
        refine FB.t (i:=6) (bs 14 91) rfl (SP.nil SCL.sl) rfl (fun w' hw'=>(E.move k76)) ?_
        refine FB.t (i:=7) (bs 14 219) rfl (SP.nil SCL.sl) rfl (fun w' hw'=>(E.move k75)) ?_
        refine FB.t (i:=9) (bs 14 731) rfl (SP.nil SCL.sl) rfl (fun w' hw'=>(E.fieldAddr zas k73)) ?_
        refine FB.t (i:=10) (bs 14 1755) rfl (SP.nil SCL.sl) rfl (fun w' hw'=>(E.load rfl (zaf Tryz.isAgg22 ((at28.mono i67).now hw') rfl))) ?_
        refine FB.all1 (i:=2) (by kernel_rfl) ?_
        ·
         obtain ⟨R272,hRCM⟩:∃ R272:(List ByteArray)→Ending→World→Prop,R272=(fun sCM e w=>∃ H:GH,∃ vCN:Value,e=Ending.returned (vCN)∧St Ha wa H w [.row 9 1 v57 n58 cs59,.row 9 1 v61 n62 cs63]∧Inc H65 H∧RSl H eS 1 vCN sCM):=⟨_,rfl⟩
         have hcCM:Calls Tryz.prog 123 #[v57,Value.string r29.2.1] wCJ (R272 sCM):=by
          clear hp;have hp:=hqCM;clear hqCM
          refine zaj (N:=10) (args:=[v57,Value.string r29.2.1]) Tryz.func123 rfl rfl rfl ?_
          refine FW.seq (FW.region ?_)
          refine FL.v (E.assign (v:=Value.slice none 0 0) rfl) ?_
          refine FL.nil (FW.seq (FW.region ?_))
          obtain ⟨vCP,wCQ,runCR,SCS⟩:=SCL.buildSlice (P:=Tryz.prog) te22 [] (parts:=#[]) (cells:=[]) rfl zal zak zag (Nat.le_of_ble_eq_true rfl)
          have elsCT:Els (up wa.heap.size H65) eS 1 [] []:=Els.nil
          refine FL.v (E.buildSlice (B0) runCR) ?_
          refine FL.v (E.move (v:=v57) rfl) ?_
          obtain ⟨xsCU,hzCV,hp⟩:=bnd hp
          obtain ⟨vCW,wCZ,nCX,csCY,runD0,SD1,elsD2,ceD3⟩:=SCS.appendO (P:=Tryz.prog) te22 (i:=0) (j:=1) rfl elsCT rfl els60 hzCV
          have SD1:St Ha wa H65 wCZ [.row 9 1 vCW nCX csCY,.row 9 1 v57 n58 cs59,.row 9 1 v61 n62 cs63]:=SD1
          refine FL.v (E.append rfl rfl runD0) ?_
          refine FL.v (E.move (v:=Value.string r29.2.1) rfl) ?_
          obtain ⟨HD4,SD5,iD6,hD7,nvD8⟩:=SD1.sealRowU (i:=0) (l':=[.row 9 1 v57 n58 cs59,.row 9 1 v61 n62 cs63]) rfl elsD2 (by decide) rfl
          obtain ⟨rD9,hrDa,hp⟩:=bnd hp
          refine FL.call rfl rfl rfl (E.call Tryz.call101 (A2 rfl rfl)) (zbB SD5.sl vCW xsCU (hD7.mono upI) r29.2.1 hrDa) ?_
          rintro e wDc ⟨HDb,vDf,rfl,rDe,hDg⟩
          refine ⟨_,rfl,?_⟩
          have SDd:=SD5.call rDe
          refine FL.v (E.assign (v:=vDf) rfl) ?_
          refine FL.nil ?_
          refine FW.ret ?_
          obtain rfl:=Option.some.inj hp
          exact ⟨.inr rfl,res1 rfl rfl (by rw [hRCM];exact ⟨_,_,rfl,SDd,(iD6.tr rDe.inc),hDg⟩)⟩
         clear hqCM
         refine FC.call (l':=(bs 14 1759)) rfl (by kernel_rfl) rfl rfl rfl (E.call Tryz.call123 (A2 rfl rfl)) hcCM ?_
         intro e wDk hQCM
         rw [hRCM] at hQCM
         obtain ⟨HDh,vCN,rfl,SDi,iDj,hCO⟩:=hQCM
         refine ⟨_,rfl,?_⟩
         refine ⟨(SP.nil (Sl.of_inc iDj SDi.sl)),?_⟩
         refine FB.t (i:=5) (bs 14 1791) rfl (SP.nil (Sl.of_inc iDj SDi.sl)) rfl (fun w' hw'=>(E.build (B2 rfl rfl) (run_build _ 68 #[(0,vCN),(1,v0_1)] #[vCN,v0_1] (by obtain ⟨_,_,rfl⟩:=RSl.ln hCO;obtain ⟨_,_,rfl⟩:=RSl.ln (p0_1.mono ((i27.tr i67).tr iDj));rfl)))) ?_
         refine FB.all1 (i:=8) (by kernel_rfl) ?_
         ·
          obtain ⟨R307,hRDl⟩:∃ R307:(List ByteArray)→Ending→World→Prop,R307=(fun sDl e w=>∃ H:GH,∃ vDm:Value,e=Ending.returned (vDm)∧St Ha wa H w [.row 9 1 v57 n58 cs59,.row 9 1 v61 n62 cs63]∧Inc HDh H∧RSl H eS 1 vDm sDl):=⟨_,rfl⟩
          have hcDl:Calls Tryz.prog 123 #[v57,Value.string r29.2.2] wDk (R307 sDl):=by
           clear hp;have hp:=hqDl;clear hqDl
           refine zaj (N:=10) (args:=[v57,Value.string r29.2.2]) Tryz.func123 rfl rfl rfl ?_
           refine FW.seq (FW.region ?_)
           refine FL.v (E.assign (v:=Value.slice none 0 0) rfl) ?_
           refine FL.nil (FW.seq (FW.region ?_))
           obtain ⟨vDo,wDp,runDq,SDr⟩:=SDi.buildSlice (P:=Tryz.prog) te22 [] (parts:=#[]) (cells:=[]) rfl zal zak zag (Nat.le_of_ble_eq_true rfl)
           have elsDs:Els (up wa.heap.size HDh) eS 1 [] []:=Els.nil
           refine FL.v (E.buildSlice (B0) runDq) ?_
           refine FL.v (E.move (v:=v57) rfl) ?_
           obtain ⟨xsDt,hzDu,hp⟩:=bnd hp
           obtain ⟨vDv,wDy,nDw,csDx,runDz,SDA,elsDB,ceDC⟩:=SDr.appendO (P:=Tryz.prog) te22 (i:=0) (j:=1) rfl elsDs rfl (els60.mono (zai iDj)) hzDu
           have SDA:St Ha wa HDh wDy [.row 9 1 vDv nDw csDx,.row 9 1 v57 n58 cs59,.row 9 1 v61 n62 cs63]:=SDA
           refine FL.v (E.append rfl rfl runDz) ?_
           refine FL.v (E.move (v:=Value.string r29.2.2) rfl) ?_
           obtain ⟨HDD,SDE,iDF,hDG,nvDH⟩:=SDA.sealRowU (i:=0) (l':=[.row 9 1 v57 n58 cs59,.row 9 1 v61 n62 cs63]) rfl elsDB (by decide) rfl
           obtain ⟨rDI,hrDJ,hp⟩:=bnd hp
           refine FL.call rfl rfl rfl (E.call Tryz.call101 (A2 rfl rfl)) (zbB SDE.sl vDv xsDt (hDG.mono upI) r29.2.2 hrDJ) ?_
           rintro e wDL ⟨HDK,vDO,rfl,rDN,hDP⟩
           refine ⟨_,rfl,?_⟩
           have SDM:=SDE.call rDN
           refine FL.v (E.assign (v:=vDO) rfl) ?_
           refine FL.nil ?_
           refine FW.ret ?_
           obtain rfl:=Option.some.inj hp
           exact ⟨.inr rfl,res1 rfl rfl (by rw [hRDl];exact ⟨_,_,rfl,SDM,(iDF.tr rDN.inc),hDP⟩)⟩
          clear hqDl
          refine FC.call (l':=(bs 14 2047)) rfl (by kernel_rfl) rfl rfl rfl (E.call Tryz.call123 (A2 rfl rfl)) hcDl ?_
          intro e wDT hQDl
          rw [hRDl] at hQDl
          obtain ⟨HDQ,vDm,rfl,SDR,iDS,hDn⟩:=hQDl
          refine ⟨_,rfl,?_⟩
          refine ⟨(SP.nil (Sl.of_inc (iDj.tr iDS) SDR.sl)),?_⟩
          refine FB.t (i:=11) (bs 14 4095) rfl (SP.nil (Sl.of_inc (iDj.tr iDS) SDR.sl)) rfl (fun w' hw'=>(E.build (B2 rfl rfl) (run_build _ 68 #[(0,vDm),(1,v0_1)] #[vDm,v0_1] (by obtain ⟨_,_,rfl⟩:=RSl.ln hDn;obtain ⟨_,_,rfl⟩:=RSl.ln (p0_1.mono (((i27.tr i67).tr iDj).tr iDS));rfl)))) ?_
          refine FB.all1 (i:=12) (by kernel_rfl) ?_
          ·
           obtain ⟨vDU,wDV,runDW,SDX⟩:=SDR.buildSlice (P:=Tryz.prog) te172 [Value.agg #[vCN,v0_1],Value.agg #[vDm,v0_1]] (parts:=#[(0,Value.agg #[vCN,v0_1]),(1,Value.agg #[vDm,v0_1])]) (cells:=[vCN,v0_1,vDm,v0_1]) rfl (zan rfl (zan rfl zal)) (zam rfl (zam rfl zak)) (zaa hCO.one (zaa p0_1.one (zaa hDn.one (zaa p0_1.one zag)))) (Nat.le_of_ble_eq_true rfl)
           have elsDY:Els HDQ eSequent 2 [vCN,v0_1,vDm,v0_1] [(zad.mk sCM a0.right),(zad.mk sDl a0.right)]:=(Els.snoc (H:=HDQ) (E:=eSequent) (k:=2) (c:=[vDm,v0_1]) (x:=(zad.mk sDl a0.right)) (Els.snoc (H:=HDQ) (E:=eSequent) (k:=2) (c:=[vCN,v0_1]) (x:=(zad.mk sCM a0.right)) Els.nil rfl ⟨_,_,rfl,(hCO.mono iDS),(p0_1.mono (((i27.tr i67).tr iDj).tr iDS))⟩) rfl ⟨_,_,rfl,hDn,(p0_1.mono (((i27.tr i67).tr iDj).tr iDS))⟩)
           refine FC.val (l':=(bs 14 8191)) rfl (by kernel_rfl) rfl rfl rfl (E.buildSlice (B2 rfl rfl) runDW) ?_
           refine ⟨(SP.nil (Sl.of_inc (iDj.tr iDS) SDX.sl)),?_⟩
           refine FB.t (i:=13) (bs 14 16383) rfl (SP.nil (Sl.of_inc (iDj.tr iDS) SDX.sl)) rfl (fun w' hw'=>(E.assign (v:=vDU) rfl)) ?_
           exact FB.done (by kernel_rfl) ⟨_,_,_,_,(SDX.sel [0] (by decide) rfl),(iDj.tr iDS),elsDY,rfl⟩
       ·
        rintro fE7 wE6 ⟨HE3,vDZ,nE0,csE1,SE4,iE5,elsE2,kE8⟩
        refine FW.ret ?_
        obtain rfl:=Option.some.inj hp
        exact ⟨.inr rfl,res1 rfl kE8 ⟨_,_,_,_,rfl,SE4,elsE2⟩⟩
      ·
       refine FW.condF rfl cCI ?_
       refine FW.seq (FW.region ?_)
       refine FL.v (E.eql rfl rfl) ?_
       refine FL.v (E.assign (v:=Value.bool (a1 == 7)) rfl) ?_
       refine FL.nil ?_
       rcases ifB hp with ⟨cE9,hp⟩|⟨cE9,hp⟩
       ·
        refine FW.condT rfl cE9 ?_
        refine FW.seq ?_
        obtain ⟨sEd,hqEd,hp⟩:=bnd hp
        obtain ⟨rEM,hrEN,hp⟩:=bnd hp
        refine FW.drawB (Sl H65) (fun f w=>∃ H:GH,∃ vEZ:Value,∃ nF0:Nat,∃ csF1:List Value,St Ha wa H w [.row 68 2 vEZ nF0 csF1]∧Inc H65 H∧Els H eSequent 2 csF1 [(zad.mk a0.left rEM)]∧f 6=vEZ) (by kernel_rfl) S66.sl ?_ ?_
        ·
         intro wEa rEb
         have SEc:=S66.call rEb
         refine FB.t (i:=0) (bs 10 1) rfl (SP.nil SEc.sl) rfl (fun w' hw'=>(E.fieldAddr zau k73)) ?_
         refine FB.t (i:=1) (bs 10 3) rfl (SP.nil SEc.sl) rfl (fun w' hw'=>(E.load rfl (zaf Tryz.isAgg22 ((at28.mono i67).now hw') rfl))) ?_
         refine FB.t (i:=2) (bs 10 7) rfl (SP.nil SEc.sl) rfl (fun w' hw'=>(E.move k77)) ?_
         refine FB.t (i:=3) (bs 10 15) rfl (SP.nil SEc.sl) rfl (fun w' hw'=>(E.move k74)) ?_
         refine FB.t (i:=5) (bs 10 47) rfl (SP.nil SEc.sl) rfl (fun w' hw'=>(E.move k75)) ?_
         refine FB.all1 (i:=4) (by kernel_rfl) ?_
         ·
          obtain ⟨R361,hREd⟩:∃ R361:(List ByteArray)→Ending→World→Prop,R361=(fun sEd e w=>∃ H:GH,∃ vEe:Value,e=Ending.returned (vEe)∧St Ha wa H w [.row 9 1 v57 n58 cs59,.row 9 1 v61 n62 cs63]∧Inc H65 H∧RSl H eS 1 vEe sEd):=⟨_,rfl⟩
          have hcEd:Calls Tryz.prog 123 #[v61,Value.string r29.2.1] wEa (R361 sEd):=by
           clear hp;have hp:=hqEd;clear hqEd
           refine zaj (N:=10) (args:=[v61,Value.string r29.2.1]) Tryz.func123 rfl rfl rfl ?_
           refine FW.seq (FW.region ?_)
           refine FL.v (E.assign (v:=Value.slice none 0 0) rfl) ?_
           refine FL.nil (FW.seq (FW.region ?_))
           obtain ⟨vEg,wEh,runEi,SEj⟩:=SEc.buildSlice (P:=Tryz.prog) te22 [] (parts:=#[]) (cells:=[]) rfl zal zak zag (Nat.le_of_ble_eq_true rfl)
           have elsEk:Els (up wa.heap.size H65) eS 1 [] []:=Els.nil
           refine FL.v (E.buildSlice (B0) runEi) ?_
           refine FL.v (E.move (v:=v61) rfl) ?_
           obtain ⟨xsEl,hzEm,hp⟩:=bnd hp
           obtain ⟨vEn,wEq,nEo,csEp,runEr,SEs,elsEt,ceEu⟩:=SEj.appendO (P:=Tryz.prog) te22 (i:=0) (j:=2) rfl elsEk rfl els64 hzEm
           have SEs:St Ha wa H65 wEq [.row 9 1 vEn nEo csEp,.row 9 1 v57 n58 cs59,.row 9 1 v61 n62 cs63]:=SEs
           refine FL.v (E.append rfl rfl runEr) ?_
           refine FL.v (E.move (v:=Value.string r29.2.1) rfl) ?_
           obtain ⟨HEv,SEw,iEx,hEy,nvEz⟩:=SEs.sealRowU (i:=0) (l':=[.row 9 1 v57 n58 cs59,.row 9 1 v61 n62 cs63]) rfl elsEt (by decide) rfl
           obtain ⟨rEA,hrEB,hp⟩:=bnd hp
           refine FL.call rfl rfl rfl (E.call Tryz.call101 (A2 rfl rfl)) (zbB SEw.sl vEn xsEl (hEy.mono upI) r29.2.1 hrEB) ?_
           rintro e wED ⟨HEC,vEG,rfl,rEF,hEH⟩
           refine ⟨_,rfl,?_⟩
           have SEE:=SEw.call rEF
           refine FL.v (E.assign (v:=vEG) rfl) ?_
           refine FL.nil ?_
           refine FW.ret ?_
           obtain rfl:=Option.some.inj hp
           exact ⟨.inr rfl,res1 rfl rfl (by rw [hREd];exact ⟨_,_,rfl,SEE,(iEx.tr rEF.inc),hEH⟩)⟩
          clear hqEd
          refine FC.call (l':=(bs 10 63)) rfl (by kernel_rfl) rfl rfl rfl (E.call Tryz.call123 (A2 rfl rfl)) hcEd ?_
          intro e wEL hQEd
          rw [hREd] at hQEd
          obtain ⟨HEI,vEe,rfl,SEJ,iEK,hEf⟩:=hQEd
          refine ⟨_,rfl,?_⟩
          refine ⟨(SP.nil (Sl.of_inc iEK SEJ.sl)),?_⟩
          refine FB.all1 (i:=6) (by kernel_rfl) ?_
          ·
           refine FC.call (l':=(bs 10 127)) rfl (by kernel_rfl) rfl rfl rfl (E.call Tryz.call123 (A2 rfl rfl)) (zbd SEJ.sl vEe sEd hEf r29.2.2 hrEN) ?_
           rintro e wEP ⟨HEO,vES,rfl,rER,hET⟩
           refine ⟨_,rfl,?_⟩
           have SEQ:=SEJ.call rER
           refine ⟨(SP.nil (Sl.of_inc (iEK.tr rER.inc) SEQ.sl)),?_⟩
           refine FB.t (i:=7) (bs 10 255) rfl (SP.nil (Sl.of_inc (iEK.tr rER.inc) SEQ.sl)) rfl (fun w' hw'=>(E.build (B2 rfl rfl) (run_build _ 68 #[(0,v0_0),(1,vES)] #[v0_0,vES] (by obtain ⟨_,_,rfl⟩:=RSl.ln (p0_0.mono (((i27.tr i67).tr iEK).tr rER.inc));obtain ⟨_,_,rfl⟩:=RSl.ln hET;rfl)))) ?_
           refine FB.all1 (i:=8) (by kernel_rfl) ?_
           ·
            obtain ⟨vEU,wEV,runEW,SEX⟩:=SEQ.buildSlice (P:=Tryz.prog) te172 [Value.agg #[v0_0,vES]] (parts:=#[(0,Value.agg #[v0_0,vES])]) (cells:=[v0_0,vES]) rfl (zan rfl zal) (zam rfl zak) (zaa p0_0.one (zaa hET.one zag)) (Nat.le_of_ble_eq_true rfl)
            have elsEY:Els HEO eSequent 2 [v0_0,vES] [(zad.mk a0.left rEM)]:=(Els.snoc (H:=HEO) (E:=eSequent) (k:=2) (c:=[v0_0,vES]) (x:=(zad.mk a0.left rEM)) Els.nil rfl ⟨_,_,rfl,(p0_0.mono (((i27.tr i67).tr iEK).tr rER.inc)),hET⟩)
            refine FC.val (l':=(bs 10 511)) rfl (by kernel_rfl) rfl rfl rfl (E.buildSlice (B1 rfl) runEW) ?_
            refine ⟨(SP.nil (Sl.of_inc (iEK.tr rER.inc) SEX.sl)),?_⟩
            refine FB.t (i:=9) (bs 10 1023) rfl (SP.nil (Sl.of_inc (iEK.tr rER.inc) SEX.sl)) rfl (fun w' hw'=>(E.assign (v:=vEU) rfl)) ?_
            exact FB.done (by kernel_rfl) ⟨_,_,_,_,(SEX.sel [0] (by decide) rfl),(iEK.tr rER.inc),elsEY,rfl⟩
        ·
         rintro fF7 wF6 ⟨HF3,vEZ,nF0,csF1,SF4,iF5,elsF2,kF8⟩
         refine FW.ret ?_
         obtain rfl:=Option.some.inj hp
         exact ⟨.inr rfl,res1 rfl kF8 ⟨_,_,_,_,rfl,SF4,elsF2⟩⟩
       ·
        refine FW.condF rfl cE9 ?_
        refine FW.seq (FW.region ?_)
        refine FL.v (E.eql rfl rfl) ?_
        refine FL.v (E.assign (v:=Value.bool (a1 == 8)) rfl) ?_
        refine FL.nil ?_
        rcases ifB hp with ⟨cF9,hp⟩|⟨cF9,hp⟩
        ·
         refine FW.condT rfl cF9 ?_
         refine FW.seq ?_
         obtain ⟨rFd,hrFe,hp⟩:=bnd hp
         obtain ⟨rFq,hrFr,hp⟩:=bnd hp
         refine FW.drawB (Sl H65) (fun f w=>∃ H:GH,∃ vFD:Value,∃ nFE:Nat,∃ csFF:List Value,St Ha wa H w [.row 68 2 vFD nFE csFF]∧Inc H65 H∧Els H eSequent 2 csFF [(zad.mk r37 rFd),(zad.mk rFq a0.right)]∧f 6=vFD) (by kernel_rfl) S66.sl ?_ ?_
         ·
          intro wFa rFb
          have SFc:=S66.call rFb
          refine FB.t (i:=0) (bs 14 1) rfl (SP.nil SFc.sl) rfl (fun w' hw'=>(E.move k76)) ?_
          refine FB.t (i:=1) (bs 14 3) rfl (SP.nil SFc.sl) rfl (fun w' hw'=>(E.fieldAddr zas k73)) ?_
          refine FB.t (i:=2) (bs 14 7) rfl (SP.nil SFc.sl) rfl (fun w' hw'=>(E.load rfl (zaf Tryz.isAgg22 ((at28.mono i67).now hw') rfl))) ?_
          refine FB.t (i:=3) (bs 14 15) rfl (SP.nil SFc.sl) rfl (fun w' hw'=>(E.move k74)) ?_
          refine FB.t (i:=6) (bs 14 79) rfl (SP.nil SFc.sl) rfl (fun w' hw'=>(E.move k76)) ?_
          refine FB.t (i:=7) (bs 14 207) rfl (SP.nil SFc.sl) rfl (fun w' hw'=>(E.move k75)) ?_
          refine FB.t (i:=9) (bs 14 719) rfl (SP.nil SFc.sl) rfl (fun w' hw'=>(E.fieldAddr zas k73)) ?_
          refine FB.t (i:=10) (bs 14 1743) rfl (SP.nil SFc.sl) rfl (fun w' hw'=>(E.load rfl (zaf Tryz.isAgg22 ((at28.mono i67).now hw') rfl))) ?_
          refine FB.all1 (i:=4) (by kernel_rfl) ?_
          ·
           refine FC.call (l':=(bs 14 1759)) rfl (by kernel_rfl) rfl rfl rfl (E.call Tryz.call123 (A2 rfl rfl)) (zbd SFc.sl v0_1 a0.right (p0_1.mono (i27.tr i67)) r29.2.1 hrFe) ?_
           rintro e wFg ⟨HFf,vFj,rfl,rFi,hFk⟩
           refine ⟨_,rfl,?_⟩
           have SFh:=SFc.call rFi
           refine ⟨(SP.nil (Sl.of_inc rFi.inc SFh.sl)),?_⟩
           obtain ⟨HFl,SFm,iFn,hFo,nvFp⟩:=SFh.sealRowU (i:=0) (l':=[.row 9 1 v61 n62 cs63]) rfl (els60.mono (zai rFi.inc)) (by decide) rfl
           refine FB.t (i:=5) (bs 14 1791) rfl (SP.nil (Sl.of_inc rFi.inc SFh.sl)) rfl (fun w' hw'=>(E.build (B2 rfl rfl) (run_build _ 68 #[(0,v57),(1,vFj)] #[v57,vFj] (by obtain ⟨_,_,rfl⟩:=RSl.ln (hFo.mono upI);obtain ⟨_,_,rfl⟩:=RSl.ln (hFk.mono iFn);rfl)))) ?_
           refine FB.all1 (i:=8) (by kernel_rfl) ?_
           ·
            refine FC.call (l':=(bs 14 2047)) rfl (by kernel_rfl) rfl rfl rfl (E.call Tryz.call123 (A2 rfl rfl)) (zbd SFm.sl v57 r37 (hFo.mono upI) r29.2.2 hrFr) ?_
            rintro e wFt ⟨HFs,vFw,rfl,rFv,hFx⟩
            refine ⟨_,rfl,?_⟩
            have SFu:=SFm.call rFv
            refine ⟨(SP.nil (Sl.of_inc ((rFi.inc.tr iFn).tr rFv.inc) SFu.sl)),?_⟩
            refine FB.t (i:=11) (bs 14 4095) rfl (SP.nil (Sl.of_inc ((rFi.inc.tr iFn).tr rFv.inc) SFu.sl)) rfl (fun w' hw'=>(E.build (B2 rfl rfl) (run_build _ 68 #[(0,vFw),(1,v0_1)] #[vFw,v0_1] (by obtain ⟨_,_,rfl⟩:=RSl.ln hFx;obtain ⟨_,_,rfl⟩:=RSl.ln (p0_1.mono ((((i27.tr i67).tr rFi.inc).tr iFn).tr rFv.inc));rfl)))) ?_
            refine FB.all1 (i:=12) (by kernel_rfl) ?_
            ·
             obtain ⟨vFy,wFz,runFA,SFB⟩:=SFu.buildSlice (P:=Tryz.prog) te172 [Value.agg #[v57,vFj],Value.agg #[vFw,v0_1]] (parts:=#[(0,Value.agg #[v57,vFj]),(1,Value.agg #[vFw,v0_1])]) (cells:=[v57,vFj,vFw,v0_1]) rfl (zan rfl (zan rfl zal)) (zam rfl (zam rfl zak)) (zaa hFo.one (zaa hFk.one (zaa hFx.one (zaa p0_1.one zag)))) (Nat.le_of_ble_eq_true rfl)
             have elsFC:Els HFs eSequent 2 [v57,vFj,vFw,v0_1] [(zad.mk r37 rFd),(zad.mk rFq a0.right)]:=(Els.snoc (H:=HFs) (E:=eSequent) (k:=2) (c:=[vFw,v0_1]) (x:=(zad.mk rFq a0.right)) (Els.snoc (H:=HFs) (E:=eSequent) (k:=2) (c:=[v57,vFj]) (x:=(zad.mk r37 rFd)) Els.nil rfl ⟨_,_,rfl,(hFo.mono (upI.tr rFv.inc)),(hFk.mono (iFn.tr rFv.inc))⟩) rfl ⟨_,_,rfl,hFx,(p0_1.mono ((((i27.tr i67).tr rFi.inc).tr iFn).tr rFv.inc))⟩)
             refine FC.val (l':=(bs 14 8191)) rfl (by kernel_rfl) rfl rfl rfl (E.buildSlice (B2 rfl rfl) runFA) ?_
             refine ⟨(SP.nil (Sl.of_inc ((rFi.inc.tr iFn).tr rFv.inc) SFB.sl)),?_⟩
             refine FB.t (i:=13) (bs 14 16383) rfl (SP.nil (Sl.of_inc ((rFi.inc.tr iFn).tr rFv.inc) SFB.sl)) rfl (fun w' hw'=>(E.assign (v:=vFy) rfl)) ?_
             exact FB.done (by kernel_rfl) ⟨_,_,_,_,(SFB.sel [0] (by decide) rfl),((rFi.inc.tr iFn).tr rFv.inc),elsFC,rfl⟩
         ·
          rintro fFL wFK ⟨HFH,vFD,nFE,csFF,SFI,iFJ,elsFG,kFM⟩
          refine FW.ret ?_
          obtain rfl:=Option.some.inj hp
          exact ⟨.inr rfl,res1 rfl kFM ⟨_,_,_,_,rfl,SFI,elsFG⟩⟩
        ·
         refine FW.condF rfl cF9 ?_
         refine FW.seq (FW.region ?_)
         refine FL.v (E.eql rfl rfl) ?_
         refine FL.v (E.assign (v:=Value.bool (a1 == 9)) rfl) ?_
         refine FL.nil ?_
         rcases ifB hp with ⟨cFN,hp⟩|⟨cFN,hp⟩
         ·
          refine FW.condT rfl cFN ?_
          refine FW.seq (FW.region ?_)
          refine FL.v (E.fieldAddr zau k73) ?_
          refine FL.v (E.load rfl (zaf Tryz.isAgg22 ((at28.mono i67).now S66.sl) rfl)) ?_
          refine FL.v (E.move k74) ?_
          obtain ⟨rFO,hrFP,hp⟩:=bnd hp
          refine FL.call rfl rfl rfl (E.call Tryz.call123 (A2 rfl rfl)) (zbd S66.sl v0_0 a0.left (p0_0.mono (i27.tr i67)) r29.2.1 hrFP) ?_
          rintro e wFR ⟨HFQ,vFU,rfl,rFT,hFV⟩
          refine ⟨_,rfl,?_⟩
          have SFS:=S66.call rFT
          refine FL.v (E.move k77) ?_
          refine FL.v (E.move k75) ?_
          obtain ⟨sFW,hqFW,hp⟩:=bnd hp
          obtain ⟨R468,hRFW⟩:∃ R468:(List ByteArray)→Ending→World→Prop,R468=(fun sFW e w=>∃ H:GH,∃ vFX:Value,e=Ending.returned (vFX)∧St Ha wa H w [.row 9 1 v57 n58 cs59,.row 9 1 v61 n62 cs63]∧Inc HFQ H∧RSl H eS 1 vFX sFW):=⟨_,rfl⟩
          have hcFW:Calls Tryz.prog 123 #[v61,Value.string r29.2.2] wFR (R468 sFW):=by
           clear hp;have hp:=hqFW;clear hqFW
           refine zaj (N:=10) (args:=[v61,Value.string r29.2.2]) Tryz.func123 rfl rfl rfl ?_
           refine FW.seq (FW.region ?_)
           refine FL.v (E.assign (v:=Value.slice none 0 0) rfl) ?_
           refine FL.nil (FW.seq (FW.region ?_))
           obtain ⟨vFZ,wG0,runG1,SG2⟩:=SFS.buildSlice (P:=Tryz.prog) te22 [] (parts:=#[]) (cells:=[]) rfl zal zak zag (Nat.le_of_ble_eq_true rfl)
           have elsG3:Els (up wa.heap.size HFQ) eS 1 [] []:=Els.nil
           refine FL.v (E.buildSlice (B0) runG1) ?_
           refine FL.v (E.move (v:=v61) rfl) ?_
           obtain ⟨xsG4,hzG5,hp⟩:=bnd hp
           obtain ⟨vG6,wG9,nG7,csG8,runGa,SGb,elsGc,ceGd⟩:=SG2.appendO (P:=Tryz.prog) te22 (i:=0) (j:=2) rfl elsG3 rfl (els64.mono (zai rFT.inc)) hzG5
           have SGb:St Ha wa HFQ wG9 [.row 9 1 vG6 nG7 csG8,.row 9 1 v57 n58 cs59,.row 9 1 v61 n62 cs63]:=SGb
           refine FL.v (E.append rfl rfl runGa) ?_
           refine FL.v (E.move (v:=Value.string r29.2.2) rfl) ?_
           obtain ⟨HGe,SGf,iGg,hGh,nvGi⟩:=SGb.sealRowU (i:=0) (l':=[.row 9 1 v57 n58 cs59,.row 9 1 v61 n62 cs63]) rfl elsGc (by decide) rfl
           obtain ⟨rGj,hrGk,hp⟩:=bnd hp
           refine FL.call rfl rfl rfl (E.call Tryz.call101 (A2 rfl rfl)) (zbB SGf.sl vG6 xsG4 (hGh.mono upI) r29.2.2 hrGk) ?_
           rintro e wGm ⟨HGl,vGp,rfl,rGo,hGq⟩
           refine ⟨_,rfl,?_⟩
           have SGn:=SGf.call rGo
           refine FL.v (E.assign (v:=vGp) rfl) ?_
           refine FL.nil ?_
           refine FW.ret ?_
           obtain rfl:=Option.some.inj hp
           exact ⟨.inr rfl,res1 rfl rfl (by rw [hRFW];exact ⟨_,_,rfl,SGn,(iGg.tr rGo.inc),hGq⟩)⟩
          clear hqFW
          refine FL.call rfl rfl rfl (E.call Tryz.call123 (A2 rfl rfl)) hcFW ?_
          intro e wGu hQFW
          rw [hRFW] at hQFW
          obtain ⟨HGr,vFX,rfl,SGs,iGt,hFY⟩:=hQFW
          refine ⟨_,rfl,?_⟩
          refine FL.v (E.build (B2 rfl rfl) (run_build _ 68 #[(0,vFU),(1,vFX)] #[vFU,vFX] (by obtain ⟨_,_,rfl⟩:=RSl.ln (hFV.mono iGt);obtain ⟨_,_,rfl⟩:=RSl.ln hFY;rfl))) ?_
          obtain ⟨vGv,wGw,runGx,SGy⟩:=SGs.buildSlice (P:=Tryz.prog) te172 [Value.agg #[vFU,vFX]] (parts:=#[(0,Value.agg #[vFU,vFX])]) (cells:=[vFU,vFX]) rfl (zan rfl zal) (zam rfl zak) (zaa hFV.one (zaa hFY.one zag)) (Nat.le_of_ble_eq_true rfl)
          have elsGz:Els HGr eSequent 2 [vFU,vFX] [(zad.mk rFO sFW)]:=(Els.snoc (H:=HGr) (E:=eSequent) (k:=2) (c:=[vFU,vFX]) (x:=(zad.mk rFO sFW)) Els.nil rfl ⟨_,_,rfl,(hFV.mono iGt),hFY⟩)
          refine FL.v (E.buildSlice (B1 rfl) runGx) ?_
          refine FL.v (E.assign (v:=vGv) rfl) ?_
          refine FL.nil ?_
          refine FW.ret ?_
          obtain rfl:=Option.some.inj hp
          exact ⟨.inr rfl,res1 rfl rfl ⟨_,_,_,_,rfl,(SGy.sel [0] (by decide) rfl),elsGz⟩⟩
         ·
          refine FW.condF rfl cFN ?_
          refine FW.skip (FW.seq ?_)
          obtain ⟨rGD,hrGE,hp⟩:=bnd hp
          obtain ⟨rGL,hrGM,hp⟩:=bnd hp
          refine FW.drawB (Sl H65) (fun f w=>∃ H:GH,∃ vGY:Value,∃ nGZ:Nat,∃ csH0:List Value,St Ha wa H w [.row 68 2 vGY nGZ csH0]∧Inc H65 H∧Els H eSequent 2 csH0 [(zad.mk a0.left rGD),(zad.mk rGL a0.right)]∧f 6=vGY) (by kernel_rfl) S66.sl ?_ ?_
          ·
           intro wGA rGB
           have SGC:=S66.call rGB
           refine FB.t (i:=0) (bs 16 1) rfl (SP.nil SGC.sl) rfl (fun w' hw'=>(E.fieldAddr zau k73)) ?_
           refine FB.t (i:=1) (bs 16 3) rfl (SP.nil SGC.sl) rfl (fun w' hw'=>(E.load rfl (zaf Tryz.isAgg22 ((at28.mono i67).now hw') rfl))) ?_
           refine FB.t (i:=2) (bs 16 7) rfl (SP.nil SGC.sl) rfl (fun w' hw'=>(E.fieldAddr zas k73)) ?_
           refine FB.t (i:=3) (bs 16 15) rfl (SP.nil SGC.sl) rfl (fun w' hw'=>(E.load rfl (zaf Tryz.isAgg22 ((at28.mono i67).now hw') rfl))) ?_
           refine FB.t (i:=4) (bs 16 31) rfl (SP.nil SGC.sl) rfl (fun w' hw'=>(E.move k72)) ?_
           refine FB.t (i:=7) (bs 16 159) rfl (SP.nil SGC.sl) rfl (fun w' hw'=>(E.fieldAddr zau k73)) ?_
           refine FB.t (i:=8) (bs 16 415) rfl (SP.nil SGC.sl) rfl (fun w' hw'=>(E.load rfl (zaf Tryz.isAgg22 ((at28.mono i67).now hw') rfl))) ?_
           refine FB.t (i:=9) (bs 16 927) rfl (SP.nil SGC.sl) rfl (fun w' hw'=>(E.move k72)) ?_
           refine FB.t (i:=11) (bs 16 2975) rfl (SP.nil SGC.sl) rfl (fun w' hw'=>(E.fieldAddr zas k73)) ?_
           refine FB.t (i:=12) (bs 16 7071) rfl (SP.nil SGC.sl) rfl (fun w' hw'=>(E.load rfl (zaf Tryz.isAgg22 ((at28.mono i67).now hw') rfl))) ?_
           refine FB.all1 (i:=5) (by kernel_rfl) ?_
           ·
            refine FC.call (l':=(bs 16 7103)) rfl (by kernel_rfl) rfl rfl rfl (E.call Tryz.call123 (A2 rfl rfl)) (zbd SGC.sl v0_1 a0.right (p0_1.mono (i27.tr i67)) a2 hrGE) ?_
            rintro e wGG ⟨HGF,vGJ,rfl,rGI,hGK⟩
            refine ⟨_,rfl,?_⟩
            have SGH:=SGC.call rGI
            refine ⟨(SP.nil (Sl.of_inc rGI.inc SGH.sl)),?_⟩
            refine FB.t (i:=6) (bs 16 7167) rfl (SP.nil (Sl.of_inc rGI.inc SGH.sl)) rfl (fun w' hw'=>(E.build (B2 rfl rfl) (run_build _ 68 #[(0,v0_0),(1,vGJ)] #[v0_0,vGJ] (by obtain ⟨_,_,rfl⟩:=RSl.ln (p0_0.mono ((i27.tr i67).tr rGI.inc));obtain ⟨_,_,rfl⟩:=RSl.ln hGK;rfl)))) ?_
            refine FB.all1 (i:=10) (by kernel_rfl) ?_
            ·
             refine FC.call (l':=(bs 16 8191)) rfl (by kernel_rfl) rfl rfl rfl (E.call Tryz.call123 (A2 rfl rfl)) (zbd SGH.sl v0_0 a0.left (p0_0.mono ((i27.tr i67).tr rGI.inc)) a2 hrGM) ?_
             rintro e wGO ⟨HGN,vGR,rfl,rGQ,hGS⟩
             refine ⟨_,rfl,?_⟩
             have SGP:=SGH.call rGQ
             refine ⟨(SP.nil (Sl.of_inc (rGI.inc.tr rGQ.inc) SGP.sl)),?_⟩
             refine FB.t (i:=13) (bs 16 16383) rfl (SP.nil (Sl.of_inc (rGI.inc.tr rGQ.inc) SGP.sl)) rfl (fun w' hw'=>(E.build (B2 rfl rfl) (run_build _ 68 #[(0,vGR),(1,v0_1)] #[vGR,v0_1] (by obtain ⟨_,_,rfl⟩:=RSl.ln hGS;obtain ⟨_,_,rfl⟩:=RSl.ln (p0_1.mono (((i27.tr i67).tr rGI.inc).tr rGQ.inc));rfl)))) ?_
             refine FB.all1 (i:=14) (by kernel_rfl) ?_
             ·
              obtain ⟨vGT,wGU,runGV,SGW⟩:=SGP.buildSlice (P:=Tryz.prog) te172 [Value.agg #[v0_0,vGJ],Value.agg #[vGR,v0_1]] (parts:=#[(0,Value.agg #[v0_0,vGJ]),(1,Value.agg #[vGR,v0_1])]) (cells:=[v0_0,vGJ,vGR,v0_1]) rfl (zan rfl (zan rfl zal)) (zam rfl (zam rfl zak)) (zaa p0_0.one (zaa hGK.one (zaa hGS.one (zaa p0_1.one zag)))) (Nat.le_of_ble_eq_true rfl)
              have elsGX:Els HGN eSequent 2 [v0_0,vGJ,vGR,v0_1] [(zad.mk a0.left rGD),(zad.mk rGL a0.right)]:=(Els.snoc (H:=HGN) (E:=eSequent) (k:=2) (c:=[vGR,v0_1]) (x:=(zad.mk rGL a0.right)) (Els.snoc (H:=HGN) (E:=eSequent) (k:=2) (c:=[v0_0,vGJ]) (x:=(zad.mk a0.left rGD)) Els.nil rfl ⟨_,_,rfl,(p0_0.mono (((i27.tr i67).tr rGI.inc).tr rGQ.inc)),(hGK.mono rGQ.inc)⟩) rfl ⟨_,_,rfl,hGS,(p0_1.mono (((i27.tr i67).tr rGI.inc).tr rGQ.inc))⟩)
              refine FC.val (l':=(bs 16 32767)) rfl (by kernel_rfl) rfl rfl rfl (E.buildSlice (B2 rfl rfl) runGV) ?_
              refine ⟨(SP.nil (Sl.of_inc (rGI.inc.tr rGQ.inc) SGW.sl)),?_⟩
              refine FB.t (i:=15) (bs 16 65535) rfl (SP.nil (Sl.of_inc (rGI.inc.tr rGQ.inc) SGW.sl)) rfl (fun w' hw'=>(E.assign (v:=vGT) rfl)) ?_
              exact FB.done (by kernel_rfl) ⟨_,_,_,_,(SGW.sel [0] (by decide) rfl),(rGI.inc.tr rGQ.inc),elsGX,rfl⟩
          ·
           rintro fH6 wH5 ⟨HH2,vGY,nGZ,csH0,SH3,iH4,elsH1,kH7⟩
           refine FW.ret ?_
           obtain rfl:=Option.some.inj hp
           exact ⟨.inr rfl,res1 rfl kH7 ⟨_,_,_,_,rfl,SH3,elsH1⟩⟩

set_option maxHeartbeats 4000000 in
theorem zd8 {Ha:GH} {wa:World} (hs:Sl Ha wa) (a0:zad) (v0_0:Value) (p0_0:RSl Ha eS 1 v0_0 a0.left) (v0_1:Value) (p0_1:RSl Ha eS 1 v0_1 a0.right) {r:ByteArray} (hp:(PF.zcp a0)=some r) :
  Calls Tryz.prog 240 #[Value.agg #[v0_0,v0_1]] wa (Sc Ha wa (Value.string r)):=by
 unfold PF.zcp at hp
 have S0:=St.init hs
 refine zaj (N:=45) (args:=[Value.agg #[v0_0,v0_1]]) Tryz.func240 rfl rfl rfl ?_
 refine FW.seq (FW.region ?_)
 obtain ⟨b21,w22,run23,S24⟩:=S0.box (P:=Tryz.prog) 68 [v0_0,v0_1] (v:=Value.agg #[v0_0,v0_1]) rfl (zaa p0_0.one (zaa p0_1.one zag))
 refine FL.v (E.box rfl run23) ?_
 obtain ⟨H25,S26,i27,at28⟩:=S24.sealBox (i:=0) (l':=[]) rfl rfl
 refine FL.v (E.assign (v:=Value.string (ByteArray.mk #[])) rfl) ?_
 refine FL.nil (FW.seq (FW.region ?_))
 refine FL.v (E.assign (v:=Value.string (ByteArray.mk #[])) rfl) ?_
 refine FL.nil (FW.seq (FW.seq (FW.region ?_)))
 refine FL.v (E.assign (v:=Value.int .i64 0) rfl) ?_
 refine FL.nil ?_
 obtain ⟨q29,hq,hp⟩:=bndR hp
 refine FW.block ?_
 refine FW.mono (FW.iter (S:=(ByteArray×Int)) (X:=Empty) (fun (s29:(ByteArray×Int)) f w=>∃ H:GH,St Ha wa H w []∧Inc H25 H∧f 1=Value.pointer (some ⟨b21,0,none⟩)∧f 3=Value.string s29.1∧f 4=Value.int .i64 s29.2) (fun (q:Rs (ByteArray×Int) Empty) e f w=>match q with|.go s29=>e=Exit.exit 0∧(∃ H:GH,St Ha wa H w []∧Inc H25 H∧f 1=Value.pointer (some ⟨b21,0,none⟩)∧f 3=Value.string s29.1)|.rt x=>x.elim) hq ⟨_,S26,(Inc.rfl _),rfl,rfl,rfl⟩ ?_) ?_
 ·
  clear hp hq
  rintro s29 f66 w65 ⟨H62,S63,i64,k67,k68,k69⟩ o94 hp
  refine FW.seq (FW.seq (FW.region ?_))
  refine FL.v (E.move k69) ?_
  refine FL.v (E.fieldAddr zau k67) ?_
  refine FL.v (E.load rfl (zaf Tryz.isAgg22 ((at28.mono i64).now S63.sl) rfl)) ?_
  refine FL.v (E.lenP te22 rfl p0_0) ?_
  refine FL.v (E.lss rfl rfl) ?_
  refine FL.nil ?_
  rcases ifB hp with ⟨c70,hp⟩|⟨c70,hp⟩
  ·
   refine FW.condT rfl c70 ?_
   refine FW.skip (FW.seq (FW.block (FW.seq (FW.seq (FW.region ?_)))))
   refine FL.v (E.move k69) ?_
   refine FL.v (E.gtr rfl rfl) ?_
   refine FL.nil ?_
   rcases ifB hp with ⟨c71,hp⟩|⟨c71,hp⟩
   ·
    refine FW.condT rfl c71 ?_
    refine FW.region ?_
    refine FL.v (E.move k68) ?_
    obtain ⟨z72,h73,hp⟩:=bnd hp
    refine FL.v (E.addT rfl rfl h73) ?_
    refine FL.v (E.assign (v:=Value.string z72) rfl) ?_
    refine FL.nil (FW.region ?_)
    refine FL.v (E.move (v:=Value.string z72) rfl) ?_
    refine FL.v (E.fieldAddr zau k67) ?_
    refine FL.v (E.load rfl (zaf Tryz.isAgg22 ((at28.mono i64).now S63.sl) rfl)) ?_
    refine FL.v (E.move k69) ?_
    obtain ⟨x80,hx81,hp⟩:=bnd hp
    obtain ⟨p74,cs75,pt76,l77,at78,rel79⟩:=p0_0.at hx81
    obtain rfl:=eS_open rel79
    refine FL.v (E.indexAddr te22 rfl rfl pt76) ?_
    refine FL.v (E.load rfl (zar Tryz.isAgg9 ((at78.mono (i27.tr i64)).now S63.sl) rfl)) ?_
    obtain ⟨z82,h83,hp⟩:=bnd hp
    refine FL.v (E.addT rfl rfl h83) ?_
    refine FL.v (E.assign (v:=Value.string z82) rfl) ?_
    refine FL.nil (FW.region ?_)
    refine FL.v (E.move k69) ?_
    refine FL.v (E.add rfl rfl) ?_
    refine FL.v (E.assign (v:=Value.int .i64 (wr (s29.2 + 1))) rfl) ?_
    refine FL.nil ?_
    obtain rfl:=Option.some.inj hp
    exact ⟨rfl,⟨_,S63,i64,k67,rfl,rfl⟩⟩
   ·
    refine FW.condF rfl c71 ?_
    refine FW.skip (FW.region ?_)
    refine FL.v (E.move k68) ?_
    refine FL.v (E.fieldAddr zau k67) ?_
    refine FL.v (E.load rfl (zaf Tryz.isAgg22 ((at28.mono i64).now S63.sl) rfl)) ?_
    refine FL.v (E.move k69) ?_
    obtain ⟨x90,hx91,hp⟩:=bnd hp
    obtain ⟨p84,cs85,pt86,l87,at88,rel89⟩:=p0_0.at hx91
    obtain rfl:=eS_open rel89
    refine FL.v (E.indexAddr te22 rfl rfl pt86) ?_
    refine FL.v (E.load rfl (zar Tryz.isAgg9 ((at88.mono (i27.tr i64)).now S63.sl) rfl)) ?_
    obtain ⟨z92,h93,hp⟩:=bnd hp
    refine FL.v (E.addT rfl rfl h93) ?_
    refine FL.v (E.assign (v:=Value.string z92) rfl) ?_
    refine FL.nil (FW.region ?_)
    refine FL.v (E.move k69) ?_
    refine FL.v (E.add rfl rfl) ?_
    refine FL.v (E.assign (v:=Value.int .i64 (wr (s29.2 + 1))) rfl) ?_
    refine FL.nil ?_
    obtain rfl:=Option.some.inj hp
    exact ⟨rfl,⟨_,S63,i64,k67,rfl,rfl⟩⟩
  ·
   refine FW.condF rfl c70 ?_
   refine FW.exit ?_
   obtain rfl:=Option.some.inj hp
   exact ⟨nofun,rfl,⟨_,S63,i64,k67,k68⟩⟩
 ·
  clear hq
  intro e f99 w98 hD
  rcases q29 with s29|x29
  ·
   obtain ⟨rfl,hD⟩:=hD
   obtain ⟨H95,S96,i97,kA0,kA1⟩:=hD
   replace hp:=el_go hp
   refine FW.seq (FW.region ?_)
   refine FL.v (E.move kA1) ?_
   obtain ⟨zA2,hA3,hp⟩:=bnd hp
   refine FL.v (E.addT rfl rfl hA3) ?_
   refine FL.v (E.assign (v:=Value.string zA2) rfl) ?_
   refine FL.nil (FW.seq (FW.seq (FW.region ?_)))
   refine FL.v (E.assign (v:=Value.int .i64 0) rfl) ?_
   refine FL.nil ?_
   obtain ⟨qA4,hq,hp⟩:=bndR hp
   refine FW.block ?_
   refine FW.mono (FW.iter (S:=(ByteArray×Int)) (X:=Empty) (fun (sA4:(ByteArray×Int)) f w=>∃ H:GH,St Ha wa H w []∧Inc H95 H∧f 1=Value.pointer (some ⟨b21,0,none⟩)∧f 3=Value.string sA4.1∧f 5=Value.int .i64 sA4.2) (fun (q:Rs (ByteArray×Int) Empty) e f w=>match q with|.go sA4=>e=Exit.exit 2∧(∃ H:GH,St Ha wa H w []∧Inc H95 H∧f 3=Value.string sA4.1)|.rt x=>x.elim) hq ⟨_,S96,(Inc.rfl _),kA0,rfl,rfl⟩ ?_) ?_
   ·
    clear hp hq
    rintro sA4 fAF wAE ⟨HAB,SAC,iAD,kAG,kAH,kAI⟩ oB7 hp
    refine FW.seq (FW.seq (FW.region ?_))
    refine FL.v (E.move kAI) ?_
    refine FL.v (E.fieldAddr zas kAG) ?_
    refine FL.v (E.load rfl (zaf Tryz.isAgg22 ((at28.mono (i97.tr iAD)).now SAC.sl) rfl)) ?_
    refine FL.v (E.lenP te22 rfl p0_1) ?_
    refine FL.v (E.lss rfl rfl) ?_
    refine FL.nil ?_
    rcases ifB hp with ⟨cAJ,hp⟩|⟨cAJ,hp⟩
    ·
     refine FW.condT rfl cAJ ?_
     refine FW.skip (FW.seq (FW.block (FW.seq (FW.seq (FW.region ?_)))))
     refine FL.v (E.move kAI) ?_
     refine FL.v (E.gtr rfl rfl) ?_
     refine FL.nil ?_
     rcases ifB hp with ⟨cAK,hp⟩|⟨cAK,hp⟩
     ·
      refine FW.condT rfl cAK ?_
      refine FW.region ?_
      refine FL.v (E.move kAH) ?_
      obtain ⟨zAL,hAM,hp⟩:=bnd hp
      refine FL.v (E.addT rfl rfl hAM) ?_
      refine FL.v (E.assign (v:=Value.string zAL) rfl) ?_
      refine FL.nil (FW.region ?_)
      refine FL.v (E.move (v:=Value.string zAL) rfl) ?_
      refine FL.v (E.fieldAddr zas kAG) ?_
      refine FL.v (E.load rfl (zaf Tryz.isAgg22 ((at28.mono (i97.tr iAD)).now SAC.sl) rfl)) ?_
      refine FL.v (E.move kAI) ?_
      obtain ⟨xAT,hxAU,hp⟩:=bnd hp
      obtain ⟨pAN,csAO,ptAP,lAQ,atAR,relAS⟩:=p0_1.at hxAU
      obtain rfl:=eS_open relAS
      refine FL.v (E.indexAddr te22 rfl rfl ptAP) ?_
      refine FL.v (E.load rfl (zar Tryz.isAgg9 ((atAR.mono ((i27.tr i97).tr iAD)).now SAC.sl) rfl)) ?_
      obtain ⟨zAV,hAW,hp⟩:=bnd hp
      refine FL.v (E.addT rfl rfl hAW) ?_
      refine FL.v (E.assign (v:=Value.string zAV) rfl) ?_
      refine FL.nil (FW.region ?_)
      refine FL.v (E.move kAI) ?_
      refine FL.v (E.add rfl rfl) ?_
      refine FL.v (E.assign (v:=Value.int .i64 (wr (sA4.2 + 1))) rfl) ?_
      refine FL.nil ?_
      obtain rfl:=Option.some.inj hp
      exact ⟨rfl,⟨_,SAC,iAD,kAG,rfl,rfl⟩⟩
     ·
      refine FW.condF rfl cAK ?_
      refine FW.skip (FW.region ?_)
      refine FL.v (E.move kAH) ?_
      refine FL.v (E.fieldAddr zas kAG) ?_
      refine FL.v (E.load rfl (zaf Tryz.isAgg22 ((at28.mono (i97.tr iAD)).now SAC.sl) rfl)) ?_
      refine FL.v (E.move kAI) ?_
      obtain ⟨xB3,hxB4,hp⟩:=bnd hp
      obtain ⟨pAX,csAY,ptAZ,lB0,atB1,relB2⟩:=p0_1.at hxB4
      obtain rfl:=eS_open relB2
      refine FL.v (E.indexAddr te22 rfl rfl ptAZ) ?_
      refine FL.v (E.load rfl (zar Tryz.isAgg9 ((atB1.mono ((i27.tr i97).tr iAD)).now SAC.sl) rfl)) ?_
      obtain ⟨zB5,hB6,hp⟩:=bnd hp
      refine FL.v (E.addT rfl rfl hB6) ?_
      refine FL.v (E.assign (v:=Value.string zB5) rfl) ?_
      refine FL.nil (FW.region ?_)
      refine FL.v (E.move kAI) ?_
      refine FL.v (E.add rfl rfl) ?_
      refine FL.v (E.assign (v:=Value.int .i64 (wr (sA4.2 + 1))) rfl) ?_
      refine FL.nil ?_
      obtain rfl:=Option.some.inj hp
      exact ⟨rfl,⟨_,SAC,iAD,kAG,rfl,rfl⟩⟩
    ·
     refine FW.condF rfl cAJ ?_
     refine FW.exit ?_
     obtain rfl:=Option.some.inj hp
     exact ⟨nofun,rfl,⟨_,SAC,iAD,kAH⟩⟩
   ·
    clear hq
    intro e fBc wBb hD
    rcases qA4 with sA4|xA4
    ·
     obtain ⟨rfl,hD⟩:=hD
     obtain ⟨HB8,SB9,iBa,kBd⟩:=hD
     replace hp:=el_go hp
     refine FW.seq (FW.region ?_)
     refine FL.v (E.move kBd) ?_
     refine FL.v (E.assign (v:=Value.string sA4.1) rfl) ?_
     refine FL.nil ?_
     refine FW.ret ?_
     obtain rfl:=Option.some.inj hp
     exact ⟨.inr rfl,res1 rfl rfl ⟨rfl,SB9.back⟩⟩
    ·
     exact xA4.elim
  ·
   exact x29.elim

theorem zd9 {Ha:GH} {wa:World} (hs:Sl Ha wa) (a0:zad) (v0_0:Value) (p0_0:RSl Ha eS 1 v0_0 a0.left) (v0_1:Value) (p0_1:RSl Ha eS 1 v0_1 a0.right) (a1:zad) (v1_0:Value) (p1_0:RSl Ha eS 1 v1_0 a1.left) (v1_1:Value) (p1_1:RSl Ha eS 1 v1_1 a1.right) {r:Bool} (hp:(PF.zbP a0 a1)=some r) :
  Calls Tryz.prog 193 #[Value.agg #[v0_0,v0_1],Value.agg #[v1_0,v1_1]] wa (Sc Ha wa (Value.bool r)):=by
 unfold PF.zbP at hp
 have S0:=St.init hs
 refine zaj (N:=10) (args:=[Value.agg #[v0_0,v0_1],Value.agg #[v1_0,v1_1]]) Tryz.func193 rfl rfl rfl ?_
 refine FW.seq (FW.region ?_)
 obtain ⟨b21,w22,run23,S24⟩:=S0.box (P:=Tryz.prog) 68 [v0_0,v0_1] (v:=Value.agg #[v0_0,v0_1]) rfl (zaa p0_0.one (zaa p0_1.one zag))
 refine FL.v (E.box rfl run23) ?_
 obtain ⟨H25,S26,i27,at28⟩:=S24.sealBox (i:=0) (l':=[]) rfl rfl
 obtain ⟨b29,w30,run31,S32⟩:=S26.box (P:=Tryz.prog) 68 [v1_0,v1_1] (v:=Value.agg #[v1_0,v1_1]) rfl (zaa p1_0.one (zaa p1_1.one zag))
 refine FL.v (E.box rfl run31) ?_
 obtain ⟨H33,S34,i35,at36⟩:=S32.sealBox (i:=0) (l':=[]) rfl rfl
 refine FL.v (E.assign (v:=Value.bool false) rfl) ?_
 refine FL.nil (FW.seq ?_)
 refine FW.draw (fun w'=>Run w30.heap.size H33 w30 H33 w') (by kernel_rfl) (by kernel_rfl) (zaN S34.sl) ?_
 refine FD.val rfl rfl rfl (fun w' hw'=>(E.load rfl (zao Tryz.isAgg68 Tryz.sizeOf68 ((at28.mono i35).now (S34.call hw').sl) rfl))) ?_
 obtain ⟨r38,hr39,hp⟩:=bnd hp
 refine FD.call rfl rfl rfl (fun w' hw'=>(E.call Tryz.call240 (A1 rfl))) (fun w' hw'=>Calls.cls hw' (zd8 (S34.call hw').sl a0 v0_0 (p0_0.mono (i27.tr i35)) v0_1 (p0_1.mono (i27.tr i35)) hr39)) ?_
 refine FD.val rfl rfl rfl (fun w' hw'=>(E.load rfl (zao Tryz.isAgg68 Tryz.sizeOf68 (at36.now (S34.call hw').sl) rfl))) ?_
 obtain ⟨r40,hr41,hp⟩:=bnd hp
 refine FD.call rfl rfl rfl (fun w' hw'=>(E.call Tryz.call240 (A1 rfl))) (fun w' hw'=>Calls.cls hw' (zd8 (S34.call hw').sl a1 v1_0 (p1_0.mono (i27.tr i35)) v1_1 (p1_1.mono (i27.tr i35)) hr41)) ?_
 refine FD.val rfl rfl rfl (fun w' hw'=>(E.eqlS rfl rfl)) ?_
 refine FD.val rfl rfl rfl (fun w' hw'=>(E.assign (v:=Value.bool (r38.toList == r40.toList)) rfl)) ?_
 refine FD.nil ?_
 intro w42 r44
 have S43:=S34.call r44
 refine FW.ret ?_
 obtain rfl:=Option.some.inj hp
 exact ⟨.inr rfl,res1 rfl rfl ⟨rfl,S43.back⟩⟩

set_option maxHeartbeats 4000000 in
theorem w_spec_l23Correct {Ha:GH} {wa:World} (hs:Sl Ha wa) (v0:Value) (a0:List zac) (p0:RSl Ha eSeqStep 6 v0 a0) (a1:Int) {r:Bool} (hp:(PF.zb5 a0 a1)=some r) :
  Calls Tryz.prog 157 #[v0,Value.int .i64 a1] wa (Sc Ha wa (Value.bool r)):=by
 unfold PF.zb5 at hp
 have S0:=St.init hs
 refine zaj (N:=160) (args:=[v0,Value.int .i64 a1]) Tryz.func157 rfl rfl rfl ?_
 refine FW.seq (FW.region ?_)
 refine FL.v (E.assign (v:=Value.bool false) rfl) ?_
 refine FL.nil (FW.seq (FW.region ?_))
 refine FL.v (E.move (v:=v0) rfl) ?_
 refine FL.v (E.move (v:=Value.int .i64 a1) rfl) ?_
 obtain ⟨x27,hx28,hp⟩:=bnd hp
 obtain ⟨p21,cs22,pt23,l24,at25,rel26⟩:=p0.at hx28
 obtain ⟨v29,v31,rfl,h30,h32⟩:=zaD rel26
 refine FL.v (E.indexAddr te24 rfl rfl pt23) ?_
 refine FL.v (E.load rfl (zao Tryz.isAgg74 Tryz.sizeOf74 (at25.now S0.sl) rfl)) ?_
 obtain ⟨b33,w34,run35,S36⟩:=S0.alloc (P:=Tryz.prog) 74 [Value.slice none 0 0,Value.slice none 0 0,Value.int .i64 0,Value.string ByteArray.empty,Value.int .i64 0,Value.int .i64 0] Tryz.zeroValue74 rfl (zaa rfl (zaa rfl (zaa rfl (zaa rfl (zaa rfl (zaa rfl zag))))))
 refine FL.v (E.alloc run35) ?_
 obtain ⟨w37,run38,S39⟩:=S36.store0 (P:=Tryz.prog) (t:=74) (i:=0) (cs':=[v29,v31,Value.int .i64 x27.rule,Value.string x27.main,Value.int .i64 x27.a,Value.int .i64 x27.b]) (l':=[.box b33 74 [v29,v31,Value.int .i64 x27.rule,Value.string x27.main,Value.int .i64 x27.a,Value.int .i64 x27.b]]) (v:=Value.agg #[v29,v31,Value.int .i64 x27.rule,Value.string x27.main,Value.int .i64 x27.a,Value.int .i64 x27.b]) (c:=[v29,v31,Value.int .i64 x27.rule,Value.string x27.main,Value.int .i64 x27.a,Value.int .i64 x27.b]) rfl Tryz.sizeOf74 rfl rfl (zaa h30.one (zaa h32.one (zaa rfl (zaa rfl (zaa rfl (zaa rfl zag)))))) (Nat.le_of_ble_eq_true rfl) rfl rfl
 refine FL.act rfl rfl (E.store rfl rfl run38) ?_
 obtain ⟨H40,S41,i42,at43⟩:=S39.sealBox (i:=0) (l':=[]) rfl rfl
 refine FL.nil (FW.seq (FW.seq (FW.region ?_)))
 refine FL.v (E.fieldAddr zap rfl) ?_
 refine FL.v (E.load rfl (zao Tryz.isAgg68 Tryz.sizeOf68 ((at43.now S41.sl).sub (j:=0) (n:=2) (c:=[v29,v31]) rfl) rfl)) ?_
 obtain ⟨r44,hr45,hp⟩:=bnd hp
 refine FL.call rfl rfl rfl (E.call Tryz.call99 (A1 rfl)) (zd6 S41.sl x27.seq v29 (h30.mono i42) v31 (h32.mono i42) hr45) ?_
 rintro e w46 ⟨rfl,r47⟩
 refine ⟨_,rfl,?_⟩
 have S48:=S41.call r47
 refine FL.v (E.not rfl) ?_
 refine FL.v (E.move (v:=Value.bool (!r44)) rfl) ?_
 refine FL.cut 5 (fun f w=>∃ H:GH,St Ha wa H w []∧Inc H40 H∧f 0=v0∧f 1=Value.int .i64 a1∧f 5=Value.pointer (some ⟨b33,0,none⟩)∧f 22=Value.bool (bif (!r44) then true else (!(PF.za3 x27.rule 1 11)))) ?_ ?_
 ·
  rcases bcase (!r44) with c58|c58
  ·
   refine FL.skip (wF_no rfl rfl rfl c58) rfl ?_
   refine FL.skip (wF_no rfl rfl rfl c58) rfl ?_
   refine FL.skip (wF_no rfl rfl rfl c58) rfl ?_
   refine FL.skip (wF_no rfl rfl rfl c58) rfl ?_
   refine FL.v (E.pickT rfl c58 rfl) ?_
   exact FL.nil ⟨rfl,_,S48,(Inc.rfl _),rfl,rfl,rfl,(congrArg Value.bool (bifT c58).symm)⟩
  ·
   refine FL.val (zab rfl rfl rfl c58) rfl rfl (E.fieldAddr zaT rfl) ?_
   refine FL.val (zab rfl rfl rfl c58) rfl rfl (E.load rfl (zaf Tryz.isAgg3 (at43.now S48.sl) rfl)) ?_
   refine FL.call (zab rfl rfl rfl c58) rfl rfl (E.call Tryz.call107 (A3 rfl rfl rfl)) (zdF S48.sl x27.rule 1 11) ?_
   rintro e w59 ⟨rfl,r60⟩
   refine ⟨_,rfl,?_⟩
   have S61:=S48.call r60
   refine FL.val (zab rfl rfl rfl c58) rfl rfl (E.not rfl) ?_
   refine FL.v (E.pickF rfl c58 rfl) ?_
   exact FL.nil ⟨rfl,_,S61,(Inc.rfl _),rfl,rfl,rfl,(congrArg Value.bool (bifF c58).symm)⟩
 rintro f57 w56 ⟨H53,S54,i55,k62,k63,k64,k65⟩
 refine FL.nil ?_
 rcases ifB hp with ⟨c66,hp⟩|⟨c66,hp⟩
 ·
  refine FW.condT k65 c66 ?_
  refine FW.seq (FW.region ?_)
  refine FL.v (E.assign (v:=Value.bool false) rfl) ?_
  refine FL.nil ?_
  refine FW.ret ?_
  obtain rfl:=Option.some.inj hp
  exact ⟨.inr rfl,res1 rfl rfl ⟨rfl,S54.back⟩⟩
 ·
  refine FW.condF k65 c66 ?_
  refine FW.skip (FW.seq (FW.seq (FW.region ?_)))
  refine FL.v (E.fieldAddr zaT k64) ?_
  refine FL.v (E.load rfl (zaf Tryz.isAgg3 ((at43.mono i55).now S54.sl) rfl)) ?_
  refine FL.v (E.eql rfl rfl) ?_
  refine FL.nil ?_
  rcases ifB hp with ⟨c67,hp⟩|⟨c67,hp⟩
  ·
   refine FW.condT rfl c67 ?_
   refine FW.seq (FW.region ?_)
   refine FL.v (E.fieldAddr zaZ k64) ?_
   refine FL.v (E.load rfl (zaf Tryz.isAgg9 ((at43.mono i55).now S54.sl) rfl)) ?_
   refine FL.v (E.eqlS rfl rfl) ?_
   refine FL.v (E.move (v:=Value.bool (x27.main.toList == (ByteArray.mk #[]).toList)) rfl) ?_
   refine FL.cut 4 (fun f w=>∃ H:GH,St Ha wa H w []∧Inc H53 H∧f 5=Value.pointer (some ⟨b33,0,none⟩)∧f 33=Value.bool (bif (x27.main.toList == (ByteArray.mk #[]).toList) then (x27.a == 0) else false)) ?_ ?_
   ·
    rcases bcase (x27.main.toList == (ByteArray.mk #[]).toList) with c74|c74
    ·
     refine FL.val (zab rfl rfl rfl c74) rfl rfl (E.fieldAddr zaE k64) ?_
     refine FL.val (zab rfl rfl rfl c74) rfl rfl (E.load rfl (zaf Tryz.isAgg3 ((at43.mono i55).now S54.sl) rfl)) ?_
     refine FL.val (zab rfl rfl rfl c74) rfl rfl (E.eql rfl rfl) ?_
     refine FL.v (E.pickT rfl c74 rfl) ?_
     exact FL.nil ⟨rfl,_,S54,(Inc.rfl _),k64,(congrArg Value.bool (bifT c74).symm)⟩
    ·
     refine FL.skip (wF_no rfl rfl rfl c74) rfl ?_
     refine FL.skip (wF_no rfl rfl rfl c74) rfl ?_
     refine FL.skip (wF_no rfl rfl rfl c74) rfl ?_
     refine FL.v (E.pickF rfl c74 rfl) ?_
     exact FL.nil ⟨rfl,_,S54,(Inc.rfl _),k64,(congrArg Value.bool (bifF c74).symm)⟩
   rintro f73 w72 ⟨H69,S70,i71,k75,k76⟩
   refine FL.v (E.move k76) ?_
   refine FL.cut 4 (fun f w=>∃ H:GH,St Ha wa H w []∧Inc H69 H∧f 5=Value.pointer (some ⟨b33,0,none⟩)∧f 38=Value.bool (bif (bif (x27.main.toList == (ByteArray.mk #[]).toList) then (x27.a == 0) else false) then (x27.b == 0) else false)) ?_ ?_
   ·
    rcases bcase (bif (x27.main.toList == (ByteArray.mk #[]).toList) then (x27.a == 0) else false) with c83|c83
    ·
     refine FL.val (zab rfl rfl rfl c83) rfl rfl (E.fieldAddr zaH k75) ?_
     refine FL.val (zab rfl rfl rfl c83) rfl rfl (E.load rfl (zaf Tryz.isAgg3 ((at43.mono (i55.tr i71)).now S70.sl) rfl)) ?_
     refine FL.val (zab rfl rfl rfl c83) rfl rfl (E.eql rfl rfl) ?_
     refine FL.v (E.pickT rfl c83 rfl) ?_
     exact FL.nil ⟨rfl,_,S70,(Inc.rfl _),k75,(congrArg Value.bool (bifT c83).symm)⟩
    ·
     refine FL.skip (wF_no rfl rfl rfl c83) rfl ?_
     refine FL.skip (wF_no rfl rfl rfl c83) rfl ?_
     refine FL.skip (wF_no rfl rfl rfl c83) rfl ?_
     refine FL.v (E.pickF rfl c83 rfl) ?_
     exact FL.nil ⟨rfl,_,S70,(Inc.rfl _),k75,(congrArg Value.bool (bifF c83).symm)⟩
   rintro f82 w81 ⟨H78,S79,i80,k84,k85⟩
   refine FL.v (E.move k85) ?_
   obtain ⟨t91,hqt91,hp⟩:=bnd hp
   refine FL.cut 4 (fun f w=>∃ H:GH,St Ha wa H w []∧Inc H78 H∧f 43=Value.bool t91) ?_ ?_
   ·
    clear hp;have hp:=hqt91;clear hqt91
    rcases ifB hp with ⟨c97,hp⟩|⟨c97,hp⟩
    ·
     refine FL.val (zab rfl rfl rfl c97) rfl rfl (E.fieldAddr zap k84) ?_
     refine FL.val (zab rfl rfl rfl c97) rfl rfl (E.load rfl (zao Tryz.isAgg68 Tryz.sizeOf68 (((at43.mono ((i55.tr i71).tr i80)).now S79.sl).sub (j:=0) (n:=2) (c:=[v29,v31]) rfl) rfl)) ?_
     obtain ⟨r98,hr99,hp⟩:=bnd hp
     refine FL.call (zab rfl rfl rfl c97) rfl rfl (E.call Tryz.call146 (A1 rfl)) (w_spec_l23Axiom S79.sl x27.seq v29 (h30.mono (((i42.tr i55).tr i71).tr i80)) v31 (h32.mono (((i42.tr i55).tr i71).tr i80)) hr99) ?_
     rintro e wA0 ⟨rfl,rA1⟩
     refine ⟨_,rfl,?_⟩
     have SA2:=S79.call rA1
     obtain rfl:=Option.some.inj hp
     refine FL.v (E.pickT rfl c97 rfl) ?_
     exact FL.nil ⟨rfl,_,SA2,(Inc.rfl _),rfl⟩
    ·
     refine FL.skip (wF_no rfl rfl rfl c97) rfl ?_
     refine FL.skip (wF_no rfl rfl rfl c97) rfl ?_
     refine FL.skip (wF_no rfl rfl rfl c97) rfl ?_
     obtain rfl:=Option.some.inj hp
     refine FL.v (E.pickF rfl c97 rfl) ?_
     exact FL.nil ⟨rfl,_,S79,(Inc.rfl _),rfl⟩
   rintro f96 w95 ⟨H92,S93,i94,kA3⟩
   refine FL.v (E.assign kA3) ?_
   refine FL.nil ?_
   refine FW.ret ?_
   obtain rfl:=Option.some.inj hp
   exact ⟨.inr rfl,res1 rfl rfl ⟨rfl,S93.back⟩⟩
  ·
   refine FW.condF rfl c67 ?_
   refine FW.skip (FW.seq (FW.seq (FW.region ?_)))
   refine FL.v (E.move k62) ?_
   refine FL.v (E.move k63) ?_
   refine FL.v (E.fieldAddr zaE k64) ?_
   refine FL.v (E.load rfl (zaf Tryz.isAgg3 ((at43.mono i55).now S54.sl) rfl)) ?_
   obtain ⟨rA4,hrA5,hp⟩:=bnd hp
   refine FL.call rfl rfl rfl (E.call Tryz.call192 (A3 rfl rfl rfl)) (zd7 S54.sl v0 a0 (p0.mono (i42.tr i55)) a1 x27.a hrA5) ?_
   rintro e wA6 ⟨rfl,rA7⟩
   refine ⟨_,rfl,?_⟩
   have SA8:=S54.call rA7
   refine FL.v (E.not rfl) ?_
   refine FL.nil ?_
   rcases ifB hp with ⟨cA9,hp⟩|⟨cA9,hp⟩
   ·
    refine FW.condT rfl cA9 ?_
    refine FW.seq (FW.region ?_)
    refine FL.v (E.assign (v:=Value.bool false) rfl) ?_
    refine FL.nil ?_
    refine FW.ret ?_
    obtain rfl:=Option.some.inj hp
    exact ⟨.inr rfl,res1 rfl rfl ⟨rfl,SA8.back⟩⟩
   ·
    refine FW.condF rfl cA9 ?_
    refine FW.skip (FW.seq (FW.seq (FW.region ?_)))
    refine FL.v (E.fieldAddr zaT k64) ?_
    refine FL.v (E.load rfl (zaf Tryz.isAgg3 ((at43.mono i55).now SA8.sl) rfl)) ?_
    refine FL.v (E.eql rfl rfl) ?_
    refine FL.nil ?_
    rcases ifB hp with ⟨cAa,hp⟩|⟨cAa,hp⟩
    ·
     refine FW.condT rfl cAa ?_
     refine FW.seq ?_
     refine FW.draw (fun w'=>Run wA6.heap.size H53 wA6 H53 w') (by kernel_rfl) (by kernel_rfl) (zaN SA8.sl) ?_
     refine FD.val rfl rfl rfl (fun w' hw'=>(E.fieldAddr zaZ k64)) ?_
     refine FD.val rfl rfl rfl (fun w' hw'=>(E.load rfl (zaf Tryz.isAgg9 ((at43.mono i55).now (SA8.call hw').sl) rfl))) ?_
     refine FD.val rfl rfl rfl (fun w' hw'=>(E.eqlS rfl rfl)) ?_
     refine FD.val rfl rfl rfl (fun w' hw'=>(E.move (v:=Value.bool (x27.main.toList == (ByteArray.mk #[]).toList)) rfl)) ?_
     refine FD.cut 4 (fun f=>f 0=v0∧f 5=Value.pointer (some ⟨b33,0,none⟩)∧f 60=Value.bool (bif (x27.main.toList == (ByteArray.mk #[]).toList) then (x27.b == 0) else false)) ?_ ?_
     ·
      rcases bcase (x27.main.toList == (ByteArray.mk #[]).toList) with cAi|cAi
      ·
       refine FD.val (zab rfl rfl rfl cAi) rfl rfl (fun w' hw'=>(E.fieldAddr zaH k64)) ?_
       refine FD.val (zab rfl rfl rfl cAi) rfl rfl (fun w' hw'=>(E.load rfl (zaf Tryz.isAgg3 ((at43.mono i55).now (SA8.call hw').sl) rfl))) ?_
       refine FD.val (zab rfl rfl rfl cAi) rfl rfl (fun w' hw'=>(E.eql rfl rfl)) ?_
       refine FD.val rfl rfl rfl (fun w' hw'=>(E.pickT rfl cAi rfl)) ?_
       exact FD.nil ⟨k62,k64,(congrArg Value.bool (bifT cAi).symm)⟩
      ·
       refine FD.skip (wF_no rfl rfl rfl cAi) rfl ?_
       refine FD.skip (wF_no rfl rfl rfl cAi) rfl ?_
       refine FD.skip (wF_no rfl rfl rfl cAi) rfl ?_
       refine FD.val rfl rfl rfl (fun w' hw'=>(E.pickF rfl cAi rfl)) ?_
       exact FD.nil ⟨k62,k64,(congrArg Value.bool (bifF cAi).symm)⟩
     rintro fAh ⟨kAj,kAk,kAl⟩
     refine FD.val rfl rfl rfl (fun w' hw'=>(E.move kAl)) ?_
     obtain ⟨t136,hqtAA,hp⟩:=bnd hp
     refine FD.cut 12 (fun f=>f 0=v0∧f 5=Value.pointer (some ⟨b33,0,none⟩)∧f 73=Value.bool t136) ?_ ?_
     ·
      clear hp;have hp:=hqtAA;clear hqtAA
      rcases ifB hp with ⟨cAG,hp⟩|⟨cAG,hp⟩
      ·
       refine FD.val (zab rfl rfl rfl cAG) rfl rfl (fun w' hw'=>(E.move kAj)) ?_
       refine FD.val (zab rfl rfl rfl cAG) rfl rfl (fun w' hw'=>(E.fieldAddr zaE kAk)) ?_
       refine FD.val (zab rfl rfl rfl cAG) rfl rfl (fun w' hw'=>(E.load rfl (zaf Tryz.isAgg3 ((at43.mono i55).now (SA8.call hw').sl) rfl))) ?_
       obtain ⟨xAN,hxAO,hp⟩:=bnd hp
       obtain ⟨pAH,csAI,ptAJ,lAK,atAL,relAM⟩:=p0.at hxAO
       obtain ⟨vAP,vAR,rfl,hAQ,hAS⟩:=zaD relAM
       refine FD.val (zab rfl rfl rfl cAG) rfl rfl (fun w' hw'=>(E.indexAddr te24 rfl rfl ptAJ)) ?_
       refine FD.val (zab rfl rfl rfl cAG) rfl rfl (fun w' hw'=>(E.fieldAddr zap rfl)) ?_
       refine FD.val (zab rfl rfl rfl cAG) rfl rfl (fun w' hw'=>(E.fieldAddrN zau rfl rfl)) ?_
       refine FD.val (zab rfl rfl rfl cAG) rfl rfl (fun w' hw'=>(E.load rfl (zaf Tryz.isAgg22 ((atAL.mono (i42.tr i55)).now (SA8.call hw').sl) rfl))) ?_
       refine FD.val (zab rfl rfl rfl cAG) rfl rfl (fun w' hw'=>(E.fieldAddr zap kAk)) ?_
       refine FD.val (zab rfl rfl rfl cAG) rfl rfl (fun w' hw'=>(E.fieldAddrN zau rfl rfl)) ?_
       refine FD.val (zab rfl rfl rfl cAG) rfl rfl (fun w' hw'=>(E.load rfl (zaf Tryz.isAgg22 ((at43.mono i55).now (SA8.call hw').sl) rfl))) ?_
       obtain ⟨rAT,hrAU,hp⟩:=bnd hp
       refine FD.call (zab rfl rfl rfl cAG) rfl rfl (fun w' hw'=>(E.call Tryz.call72 (A2 rfl rfl))) (fun w' hw'=>Calls.cls hw' (zdr (SA8.call hw').sl vAP xAN.seq.left (hAQ.mono (i42.tr i55)) v29 x27.seq.left (h30.mono (i42.tr i55)) hrAU)) ?_
       obtain rfl:=Option.some.inj hp
       refine FD.val rfl rfl rfl (fun w' hw'=>(E.pickT rfl cAG rfl)) ?_
       exact FD.nil ⟨kAj,kAk,rfl⟩
      ·
       refine FD.skip (wF_no rfl rfl rfl cAG) rfl ?_
       refine FD.skip (wF_no rfl rfl rfl cAG) rfl ?_
       refine FD.skip (wF_no rfl rfl rfl cAG) rfl ?_
       refine FD.skip (wF_no rfl rfl rfl cAG) rfl ?_
       refine FD.skip (wF_no rfl rfl rfl cAG) rfl ?_
       refine FD.skip (wF_no rfl rfl rfl cAG) rfl ?_
       refine FD.skip (wF_no rfl rfl rfl cAG) rfl ?_
       refine FD.skip (wF_no rfl rfl rfl cAG) rfl ?_
       refine FD.skip (wF_no rfl rfl rfl cAG) rfl ?_
       refine FD.skip (wF_no rfl rfl rfl cAG) rfl ?_
       refine FD.skip (wF_no rfl rfl rfl cAG) rfl ?_
       obtain rfl:=Option.some.inj hp
       refine FD.val rfl rfl rfl (fun w' hw'=>(E.pickF rfl cAG rfl)) ?_
       exact FD.nil ⟨kAj,kAk,rfl⟩
     rintro fAF ⟨kAV,kAW,kAX⟩
     refine FD.val rfl rfl rfl (fun w' hw'=>(E.move kAX)) ?_
     obtain ⟨t174,hqtBc,hp⟩:=bnd hp
     refine FD.cut 12 (fun f=>f 86=Value.bool t174) ?_ ?_
     ·
      clear hp;have hp:=hqtBc;clear hqtBc
      rcases ifB hp with ⟨cBi,hp⟩|⟨cBi,hp⟩
      ·
       refine FD.val (zab rfl rfl rfl cBi) rfl rfl (fun w' hw'=>(E.move kAV)) ?_
       refine FD.val (zab rfl rfl rfl cBi) rfl rfl (fun w' hw'=>(E.fieldAddr zaE kAW)) ?_
       refine FD.val (zab rfl rfl rfl cBi) rfl rfl (fun w' hw'=>(E.load rfl (zaf Tryz.isAgg3 ((at43.mono i55).now (SA8.call hw').sl) rfl))) ?_
       obtain ⟨xBp,hxBq,hp⟩:=bnd hp
       obtain ⟨pBj,csBk,ptBl,lBm,atBn,relBo⟩:=p0.at hxBq
       obtain ⟨vBr,vBt,rfl,hBs,hBu⟩:=zaD relBo
       refine FD.val (zab rfl rfl rfl cBi) rfl rfl (fun w' hw'=>(E.indexAddr te24 rfl rfl ptBl)) ?_
       refine FD.val (zab rfl rfl rfl cBi) rfl rfl (fun w' hw'=>(E.fieldAddr zap rfl)) ?_
       refine FD.val (zab rfl rfl rfl cBi) rfl rfl (fun w' hw'=>(E.fieldAddrN zas rfl rfl)) ?_
       refine FD.val (zab rfl rfl rfl cBi) rfl rfl (fun w' hw'=>(E.load rfl (zaf Tryz.isAgg22 ((atBn.mono (i42.tr i55)).now (SA8.call hw').sl) rfl))) ?_
       refine FD.val (zab rfl rfl rfl cBi) rfl rfl (fun w' hw'=>(E.fieldAddr zap kAW)) ?_
       refine FD.val (zab rfl rfl rfl cBi) rfl rfl (fun w' hw'=>(E.fieldAddrN zas rfl rfl)) ?_
       refine FD.val (zab rfl rfl rfl cBi) rfl rfl (fun w' hw'=>(E.load rfl (zaf Tryz.isAgg22 ((at43.mono i55).now (SA8.call hw').sl) rfl))) ?_
       obtain ⟨rBv,hrBw,hp⟩:=bnd hp
       refine FD.call (zab rfl rfl rfl cBi) rfl rfl (fun w' hw'=>(E.call Tryz.call72 (A2 rfl rfl))) (fun w' hw'=>Calls.cls hw' (zdr (SA8.call hw').sl vBt xBp.seq.right (hBu.mono (i42.tr i55)) v31 x27.seq.right (h32.mono (i42.tr i55)) hrBw)) ?_
       obtain rfl:=Option.some.inj hp
       refine FD.val rfl rfl rfl (fun w' hw'=>(E.pickT rfl cBi rfl)) ?_
       exact FD.nil rfl
      ·
       refine FD.skip (wF_no rfl rfl rfl cBi) rfl ?_
       refine FD.skip (wF_no rfl rfl rfl cBi) rfl ?_
       refine FD.skip (wF_no rfl rfl rfl cBi) rfl ?_
       refine FD.skip (wF_no rfl rfl rfl cBi) rfl ?_
       refine FD.skip (wF_no rfl rfl rfl cBi) rfl ?_
       refine FD.skip (wF_no rfl rfl rfl cBi) rfl ?_
       refine FD.skip (wF_no rfl rfl rfl cBi) rfl ?_
       refine FD.skip (wF_no rfl rfl rfl cBi) rfl ?_
       refine FD.skip (wF_no rfl rfl rfl cBi) rfl ?_
       refine FD.skip (wF_no rfl rfl rfl cBi) rfl ?_
       refine FD.skip (wF_no rfl rfl rfl cBi) rfl ?_
       obtain rfl:=Option.some.inj hp
       refine FD.val rfl rfl rfl (fun w' hw'=>(E.pickF rfl cBi rfl)) ?_
       exact FD.nil rfl
     intro fBh kBx
     refine FD.val rfl rfl rfl (fun w' hw'=>(E.assign kBx)) ?_
     refine FD.nil ?_
     intro wBy rBA
     have SBz:=SA8.call rBA
     refine FW.ret ?_
     obtain rfl:=Option.some.inj hp
     exact ⟨.inr rfl,res1 rfl rfl ⟨rfl,SBz.back⟩⟩
    ·
     refine FW.condF rfl cAa ?_
     refine FW.skip (FW.seq (FW.seq (FW.region ?_)))
     refine FL.v (E.fieldAddr zaZ k64) ?_
     refine FL.v (E.load rfl (zaf Tryz.isAgg9 ((at43.mono i55).now SA8.sl) rfl)) ?_
     obtain ⟨rBB,hrBC,hp⟩:=bnd hp
     refine FL.call rfl rfl rfl (E.call Tryz.call48 (A1 rfl)) (zd3 SA8.sl x27.main hrBC) ?_
     rintro e wBD ⟨rfl,rBE⟩
     refine ⟨_,rfl,?_⟩
     have SBF:=SA8.call rBE
     refine FL.v (E.not rfl) ?_
     refine FL.nil ?_
     rcases ifB hp with ⟨cBG,hp⟩|⟨cBG,hp⟩
     ·
      refine FW.condT rfl cBG ?_
      refine FW.seq (FW.region ?_)
      refine FL.v (E.assign (v:=Value.bool false) rfl) ?_
      refine FL.nil ?_
      refine FW.ret ?_
      obtain rfl:=Option.some.inj hp
      exact ⟨.inr rfl,res1 rfl rfl ⟨rfl,SBF.back⟩⟩
     ·
      refine FW.condF rfl cBG ?_
      refine FW.skip (FW.seq (FW.region ?_))
      refine FL.v (E.fieldAddr zaT k64) ?_
      refine FL.v (E.load rfl (zaf Tryz.isAgg3 ((at43.mono i55).now SBF.sl) rfl)) ?_
      refine FL.v (E.rem rfl rfl (by decide)) ?_
      refine FL.v (E.eql rfl rfl) ?_
      refine FL.v (E.assign (v:=Value.bool ((x27.rule.tmod 2) == 0)) rfl) ?_
      refine FL.nil (FW.seq (FW.seq (FW.region ?_)))
      refine FL.v (E.fieldAddr zaT k64) ?_
      refine FL.v (E.load rfl (zaf Tryz.isAgg3 ((at43.mono i55).now SBF.sl) rfl)) ?_
      refine FL.v (E.neq rfl rfl) ?_
      refine FL.nil ?_
      obtain ⟨qCl,hq,hp⟩:=bndR hp
      refine FW.joinE (S:=Unit) (X:=Bool) (q:=qCl) (fun sCk f w=>∃ H:GH,St Ha wa H w []∧Inc H53 H∧f 0=v0∧f 1=Value.int .i64 a1∧f 5=Value.pointer (some ⟨b33,0,none⟩)) (fun x e f w=>(e=Exit.ret)∧(fun e f w=>(e=Exit.normal∨e=Exit.ret)∧∀ a,Fr (δ:=[]) 160 a f→∃ v,(results Tryz.f157 a.tmps).run Tryz.prog w=.ok v w∧(Sc Ha wa (Value.bool x)) (.returned v) w) e f w) ?_ ?_ ?_
      ·
       clear hp;have hp:=hq;clear hq
       rcases ifB hp with ⟨cCn,hp⟩|⟨cCn,hp⟩
       ·
        refine FW.condT rfl cCn ?_
        refine FW.seq (FW.region ?_)
        refine FL.v (E.fieldAddr zap k64) ?_
        refine FL.v (E.fieldAddrN zas rfl rfl) ?_
        refine FL.v (E.load rfl (zaf Tryz.isAgg22 ((at43.mono i55).now SBF.sl) rfl)) ?_
        refine FL.v (E.assign (v:=v31) rfl) ?_
        refine FL.nil (FW.seq (FW.seq (FW.region ?_)))
        refine FL.v (E.move (v:=Value.bool ((x27.rule.tmod 2) == 0)) rfl) ?_
        refine FL.nil ?_
        obtain ⟨qCq,hq,hp⟩:=bndR hp
        refine FW.joinE (S:=(List ByteArray)) (X:=Empty) (q:=qCq) (fun sCp f w=>∃ H:GH,∃ vCs:Value,St Ha wa H w []∧Inc H53 H∧RSl H eS 1 vCs sCp∧f 0=v0∧f 1=Value.int .i64 a1∧f 5=Value.pointer (some ⟨b33,0,none⟩)∧f 6=Value.bool ((x27.rule.tmod 2) == 0)∧f 7=vCs) (fun (_:Empty) _ _ _=>False) ?_ ?_ ?_
        ·
         clear hp;have hp:=hq;clear hq
         rcases ifB hp with ⟨cCu,hp⟩|⟨cCu,hp⟩
         ·
          refine FW.condT rfl cCu ?_
          refine FW.region ?_
          refine FL.v (E.fieldAddr zap k64) ?_
          refine FL.v (E.fieldAddrN zau rfl rfl) ?_
          refine FL.v (E.load rfl (zaf Tryz.isAgg22 ((at43.mono i55).now SBF.sl) rfl)) ?_
          refine FL.v (E.assign (v:=v29) rfl) ?_
          refine FL.nil ?_
          obtain rfl:=Option.some.inj hp
          exact ⟨rfl,⟨_,_,SBF,(Inc.rfl _),(h30.mono (i42.tr i55)),k62,k63,k64,rfl,rfl⟩⟩
         ·
          refine FW.condF rfl cCu ?_
          refine FW.skip ?_
          obtain rfl:=Option.some.inj hp
          exact ⟨rfl,⟨_,_,SBF,(Inc.rfl _),(h32.mono (i42.tr i55)),k62,k63,k64,rfl,rfl⟩⟩
        ·
         rintro sCp rfl fCz wCy ⟨HCv,vCs,SCw,iCx,hCt,kCA,kCB,kCC,kCD,kCE⟩
         replace hp:=el_go hp
         refine FW.seq ?_
         refine FW.draw (fun w'=>Run wCy.heap.size HCv wCy HCv w') (by kernel_rfl) (by kernel_rfl) (zaN SCw.sl) ?_
         refine FD.val rfl rfl rfl (fun w' hw'=>(E.fieldAddr zaZ kCC)) ?_
         refine FD.val rfl rfl rfl (fun w' hw'=>(E.load rfl (zaf Tryz.isAgg9 ((at43.mono (i55.tr iCx)).now (SCw.call hw').sl) rfl))) ?_
         refine FD.val rfl rfl rfl (fun w' hw'=>(E.move kCD)) ?_
         obtain ⟨rCG,hrCH,hp⟩:=bnd hp
         refine FD.call rfl rfl rfl (fun w' hw'=>(E.call Tryz.call150 (A2 rfl rfl))) (fun w' hw'=>Calls.cls hw' (w_spec_l23Rule (SCw.call hw').sl x27.main ((x27.rule.tmod 2) == 0) hrCH)) ?_
         refine FD.val rfl rfl rfl (fun w' hw'=>(E.fieldAddr zaT kCC)) ?_
         refine FD.val rfl rfl rfl (fun w' hw'=>(E.load rfl (zaf Tryz.isAgg3 ((at43.mono (i55.tr iCx)).now (SCw.call hw').sl) rfl))) ?_
         refine FD.val rfl rfl rfl (fun w' hw'=>(E.neq rfl rfl)) ?_
         refine FD.val rfl rfl rfl (fun w' hw'=>(E.move (v:=Value.bool (!(rCG == x27.rule))) rfl)) ?_
         obtain ⟨t270,hqtCK,hp⟩:=bnd hp
         refine FD.cut 6 (fun f=>f 0=v0∧f 1=Value.int .i64 a1∧f 5=Value.pointer (some ⟨b33,0,none⟩)∧f 118=Value.bool t270) ?_ ?_
         ·
          clear hp;have hp:=hqtCK;clear hqtCK
          rcases ifB hp with ⟨cCQ,hp⟩|⟨cCQ,hp⟩
          ·
           refine FD.skip (wF_no rfl rfl rfl cCQ) rfl ?_
           refine FD.skip (wF_no rfl rfl rfl cCQ) rfl ?_
           refine FD.skip (wF_no rfl rfl rfl cCQ) rfl ?_
           refine FD.skip (wF_no rfl rfl rfl cCQ) rfl ?_
           refine FD.skip (wF_no rfl rfl rfl cCQ) rfl ?_
           obtain rfl:=Option.some.inj hp
           refine FD.val rfl rfl rfl (fun w' hw'=>(E.pickT rfl cCQ rfl)) ?_
           exact FD.nil ⟨kCA,kCB,kCC,rfl⟩
          ·
           refine FD.val (zab rfl rfl rfl cCQ) rfl rfl (fun w' hw'=>(E.move kCE)) ?_
           refine FD.val (zab rfl rfl rfl cCQ) rfl rfl (fun w' hw'=>(E.fieldAddr zaZ kCC)) ?_
           refine FD.val (zab rfl rfl rfl cCQ) rfl rfl (fun w' hw'=>(E.load rfl (zaf Tryz.isAgg9 ((at43.mono (i55.tr iCx)).now (SCw.call hw').sl) rfl))) ?_
           obtain ⟨rCR,hrCS,hp⟩:=bnd hp
           refine FD.call (zab rfl rfl rfl cCQ) rfl rfl (fun w' hw'=>(E.call Tryz.call121 (A2 rfl rfl))) (fun w' hw'=>Calls.cls hw' (zdq (SCw.call hw').sl vCs sCp hCt x27.main hrCS)) ?_
           refine FD.val (zab rfl rfl rfl cCQ) rfl rfl (fun w' hw'=>(E.not rfl)) ?_
           obtain rfl:=Option.some.inj hp
           refine FD.val rfl rfl rfl (fun w' hw'=>(E.pickF rfl cCQ rfl)) ?_
           exact FD.nil ⟨kCA,kCB,kCC,rfl⟩
         rintro fCP ⟨kCT,kCU,kCV,kCW⟩
         refine FD.nil ?_
         intro wCX rCZ
         have SCY:=SCw.call rCZ
         rcases ifB hp with ⟨cD0,hp⟩|⟨cD0,hp⟩
         ·
          refine FW.condT kCW cD0 ?_
          refine FW.seq (FW.region ?_)
          refine FL.v (E.assign (v:=Value.bool false) rfl) ?_
          refine FL.nil ?_
          refine FW.ret ?_
          obtain rfl:=Option.some.inj hp
          exact ⟨nofun,rfl,⟨.inr rfl,res1 rfl rfl ⟨rfl,SCY.back⟩⟩⟩
         ·
          refine FW.condF kCW cD0 ?_
          refine FW.skip ?_
          obtain rfl:=Option.some.inj hp
          exact ⟨rfl,⟨_,SCY,iCx,kCT,kCU,kCV⟩⟩
        ·
         intro xCr;exact xCr.elim
       ·
        refine FW.condF rfl cCn ?_
        refine FW.skip ?_
        obtain rfl:=Option.some.inj hp
        exact ⟨rfl,⟨_,SBF,(Inc.rfl _),k62,k63,k64⟩⟩
      ·
       rintro sCk rfl fD5 wD4 ⟨HD1,SD2,iD3,kD6,kD7,kD8⟩
       replace hp:=el_go hp
       refine FW.seq (FW.region ?_)
       refine FL.v (E.fieldAddr zap kD8) ?_
       refine FL.v (E.load rfl (zao Tryz.isAgg68 Tryz.sizeOf68 (((at43.mono (i55.tr iD3)).now SD2.sl).sub (j:=0) (n:=2) (c:=[v29,v31]) rfl) rfl)) ?_
       refine FL.v (E.fieldAddr zaT kD8) ?_
       refine FL.v (E.load rfl (zaf Tryz.isAgg3 ((at43.mono (i55.tr iD3)).now SD2.sl) rfl)) ?_
       refine FL.v (E.fieldAddr zaZ kD8) ?_
       refine FL.v (E.load rfl (zaf Tryz.isAgg9 ((at43.mono (i55.tr iD3)).now SD2.sl) rfl)) ?_
       obtain ⟨rD9,hrDa,hp⟩:=bnd hp
       refine FL.call rfl rfl rfl (E.call Tryz.call151 (A3 rfl rfl rfl)) (w_spec_l23Premises SD2.sl x27.seq v29 (h30.mono ((i42.tr i55).tr iD3)) v31 (h32.mono ((i42.tr i55).tr iD3)) x27.rule x27.main hrDa) ?_
       rintro e wDc ⟨HDb,vDf,nDg,csDh,rfl,rDe,elsDi⟩
       refine ⟨_,rfl,?_⟩
       have SDd:=SD2.join (l':=[.row 68 2 vDf nDg csDh]) rDe rfl
       refine FL.v (E.assign (v:=vDf) rfl) ?_
       refine FL.nil (FW.seq (FW.seq ?_))
       refine FW.draw (fun w'=>Run wDc.heap.size HDb wDc HDb w') (by kernel_rfl) (by kernel_rfl) (zaN SDd.sl) ?_
       refine FD.val rfl rfl rfl (fun w' hw'=>(E.move (v:=vDf) rfl)) ?_
       obtain ⟨xDq,hxDr,hp⟩:=bnd hp
       obtain ⟨pDk,csDl,ptDm,lDn,atDo,relDp⟩:=SDd.row_at (i:=0) rfl elsDi (by decide) hxDr
       obtain ⟨vDs,vDu,rfl,hDt,hDv⟩:=eSequent_open relDp
       refine FD.val rfl rfl rfl (fun w' hw'=>(E.indexAddr te172 rfl rfl ptDm)) ?_
       refine FD.val rfl rfl rfl (fun w' hw'=>(E.load rfl (zao Tryz.isAgg68 Tryz.sizeOf68 (atDo.cls hw') rfl))) ?_
       refine FD.val rfl rfl rfl (fun w' hw'=>(E.move kD6)) ?_
       refine FD.val rfl rfl rfl (fun w' hw'=>(E.fieldAddr zaE kD8)) ?_
       refine FD.val rfl rfl rfl (fun w' hw'=>(E.load rfl (zaf Tryz.isAgg3 ((at43.mono ((i55.tr iD3).tr rDe.run.inc)).now (SDd.call hw').sl) rfl))) ?_
       obtain ⟨xDC,hxDD,hp⟩:=bnd hp
       obtain ⟨pDw,csDx,ptDy,lDz,atDA,relDB⟩:=p0.at hxDD
       obtain ⟨vDE,vDG,rfl,hDF,hDH⟩:=zaD relDB
       refine FD.val rfl rfl rfl (fun w' hw'=>(E.indexAddr te24 rfl rfl ptDy)) ?_
       refine FD.val rfl rfl rfl (fun w' hw'=>(E.fieldAddr zap rfl)) ?_
       refine FD.val rfl rfl rfl (fun w' hw'=>(E.load rfl (zao Tryz.isAgg68 Tryz.sizeOf68 (((atDA.mono (((i42.tr i55).tr iD3).tr rDe.run.inc)).now (SDd.call hw').sl).sub (j:=0) (n:=2) (c:=[vDE,vDG]) rfl) rfl))) ?_
       obtain ⟨rDI,hrDJ,hp⟩:=bnd hp
       refine FD.call rfl rfl rfl (fun w' hw'=>(E.call Tryz.call193 (A2 rfl rfl))) (fun w' hw'=>Calls.cls hw' (zd9 (SDd.call hw').sl xDq vDs hDt vDu hDv xDC.seq vDE (hDF.mono (((i42.tr i55).tr iD3).tr rDe.run.inc)) vDG (hDH.mono (((i42.tr i55).tr iD3).tr rDe.run.inc)) hrDJ)) ?_
       refine FD.val rfl rfl rfl (fun w' hw'=>(E.not rfl)) ?_
       refine FD.nil ?_
       intro wDK rDM
       have SDL:=SDd.call rDM
       rcases ifB hp with ⟨cDN,hp⟩|⟨cDN,hp⟩
       ·
        refine FW.condT rfl cDN ?_
        refine FW.seq (FW.region ?_)
        refine FL.v (E.assign (v:=Value.bool false) rfl) ?_
        refine FL.nil ?_
        refine FW.ret ?_
        obtain rfl:=Option.some.inj hp
        exact ⟨.inr rfl,res1 rfl rfl ⟨rfl,SDL.back⟩⟩
       ·
        refine FW.condF rfl cDN ?_
        refine FW.skip (FW.seq (FW.seq (FW.region ?_)))
        refine FL.v (E.move (v:=vDf) rfl) ?_
        refine FL.v (E.lenO te172 rfl SDL (i:=0) rfl elsDi (by decide)) ?_
        refine FL.v (E.eql rfl rfl) ?_
        refine FL.nil ?_
        rcases ifB hp with ⟨cDO,hp⟩|⟨cDO,hp⟩
        ·
         refine FW.condT rfl cDO ?_
         refine FW.seq (FW.region ?_)
         refine FL.v (E.fieldAddr zaH kD8) ?_
         refine FL.v (E.load rfl (zaf Tryz.isAgg3 ((at43.mono ((i55.tr iD3).tr rDe.run.inc)).now SDL.sl) rfl)) ?_
         refine FL.v (E.eql rfl rfl) ?_
         refine FL.v (E.assign (v:=Value.bool (x27.b == 0)) rfl) ?_
         refine FL.nil ?_
         refine FW.ret ?_
         obtain rfl:=Option.some.inj hp
         exact ⟨.inr rfl,res1 rfl rfl ⟨rfl,SDL.back⟩⟩
        ·
         refine FW.condF rfl cDO ?_
         refine FW.skip (FW.seq ?_)
         refine FW.draw (fun w'=>Run wDK.heap.size HDb wDK HDb w') (by kernel_rfl) (by kernel_rfl) (zaN SDL.sl) ?_
         refine FD.val rfl rfl rfl (fun w' hw'=>(E.move kD6)) ?_
         refine FD.val rfl rfl rfl (fun w' hw'=>(E.move kD7)) ?_
         refine FD.val rfl rfl rfl (fun w' hw'=>(E.fieldAddr zaH kD8)) ?_
         refine FD.val rfl rfl rfl (fun w' hw'=>(E.load rfl (zaf Tryz.isAgg3 ((at43.mono ((i55.tr iD3).tr rDe.run.inc)).now (SDL.call hw').sl) rfl))) ?_
         obtain ⟨rDQ,hrDR,hp⟩:=bnd hp
         refine FD.call rfl rfl rfl (fun w' hw'=>(E.call Tryz.call192 (A3 rfl rfl rfl))) (fun w' hw'=>Calls.cls hw' (zd7 (SDL.call hw').sl v0 a0 (p0.mono (((i42.tr i55).tr iD3).tr rDe.run.inc)) a1 x27.b hrDR)) ?_
         refine FD.val rfl rfl rfl (fun w' hw'=>(E.move (v:=Value.bool rDQ) rfl)) ?_
         obtain ⟨t366,hqtEi,hp⟩:=bnd hp
         refine FD.cut 11 (fun f=>f 159=Value.bool t366) ?_ ?_
         ·
          clear hp;have hp:=hqtEi;clear hqtEi
          rcases ifB hp with ⟨cEo,hp⟩|⟨cEo,hp⟩
          ·
           refine FD.val (zab rfl rfl rfl cEo) rfl rfl (fun w' hw'=>(E.move (v:=vDf) rfl)) ?_
           obtain ⟨xEv,hxEw,hp⟩:=bnd hp
           obtain ⟨pEp,csEq,ptEr,lEs,atEt,relEu⟩:=SDL.row_at (i:=0) rfl elsDi (by decide) hxEw
           obtain ⟨vEx,vEz,rfl,hEy,hEA⟩:=eSequent_open relEu
           refine FD.val (zab rfl rfl rfl cEo) rfl rfl (fun w' hw'=>(E.indexAddr te172 rfl rfl ptEr)) ?_
           refine FD.val (zab rfl rfl rfl cEo) rfl rfl (fun w' hw'=>(E.load rfl (zao Tryz.isAgg68 Tryz.sizeOf68 (atEt.cls hw') rfl))) ?_
           refine FD.val (zab rfl rfl rfl cEo) rfl rfl (fun w' hw'=>(E.move kD6)) ?_
           refine FD.val (zab rfl rfl rfl cEo) rfl rfl (fun w' hw'=>(E.fieldAddr zaH kD8)) ?_
           refine FD.val (zab rfl rfl rfl cEo) rfl rfl (fun w' hw'=>(E.load rfl (zaf Tryz.isAgg3 ((at43.mono ((i55.tr iD3).tr rDe.run.inc)).now (SDL.call hw').sl) rfl))) ?_
           obtain ⟨xEH,hxEI,hp⟩:=bnd hp
           obtain ⟨pEB,csEC,ptED,lEE,atEF,relEG⟩:=p0.at hxEI
           obtain ⟨vEJ,vEL,rfl,hEK,hEM⟩:=zaD relEG
           refine FD.val (zab rfl rfl rfl cEo) rfl rfl (fun w' hw'=>(E.indexAddr te24 rfl rfl ptED)) ?_
           refine FD.val (zab rfl rfl rfl cEo) rfl rfl (fun w' hw'=>(E.fieldAddr zap rfl)) ?_
           refine FD.val (zab rfl rfl rfl cEo) rfl rfl (fun w' hw'=>(E.load rfl (zao Tryz.isAgg68 Tryz.sizeOf68 (((atEF.mono (((i42.tr i55).tr iD3).tr rDe.run.inc)).now (SDL.call hw').sl).sub (j:=0) (n:=2) (c:=[vEJ,vEL]) rfl) rfl))) ?_
           obtain ⟨rEN,hrEO,hp⟩:=bnd hp
           refine FD.call (zab rfl rfl rfl cEo) rfl rfl (fun w' hw'=>(E.call Tryz.call193 (A2 rfl rfl))) (fun w' hw'=>Calls.cls hw' (zd9 (SDL.call hw').sl xEv vEx hEy vEz hEA xEH.seq vEJ (hEK.mono (((i42.tr i55).tr iD3).tr rDe.run.inc)) vEL (hEM.mono (((i42.tr i55).tr iD3).tr rDe.run.inc)) hrEO)) ?_
           obtain rfl:=Option.some.inj hp
           refine FD.val rfl rfl rfl (fun w' hw'=>(E.pickT rfl cEo rfl)) ?_
           exact FD.nil rfl
          ·
           refine FD.skip (wF_no rfl rfl rfl cEo) rfl ?_
           refine FD.skip (wF_no rfl rfl rfl cEo) rfl ?_
           refine FD.skip (wF_no rfl rfl rfl cEo) rfl ?_
           refine FD.skip (wF_no rfl rfl rfl cEo) rfl ?_
           refine FD.skip (wF_no rfl rfl rfl cEo) rfl ?_
           refine FD.skip (wF_no rfl rfl rfl cEo) rfl ?_
           refine FD.skip (wF_no rfl rfl rfl cEo) rfl ?_
           refine FD.skip (wF_no rfl rfl rfl cEo) rfl ?_
           refine FD.skip (wF_no rfl rfl rfl cEo) rfl ?_
           refine FD.skip (wF_no rfl rfl rfl cEo) rfl ?_
           obtain rfl:=Option.some.inj hp
           refine FD.val rfl rfl rfl (fun w' hw'=>(E.pickF rfl cEo rfl)) ?_
           exact FD.nil rfl
         intro fEn kEP
         refine FD.val rfl rfl rfl (fun w' hw'=>(E.assign kEP)) ?_
         refine FD.nil ?_
         intro wEQ rES
         have SER:=SDL.call rES
         refine FW.ret ?_
         obtain rfl:=Option.some.inj hp
         exact ⟨.inr rfl,res1 rfl rfl ⟨rfl,SER.back⟩⟩
      ·
       rintro xCm rfl e f w hne ⟨he,hL⟩
       replace hp:=el_rt hp
       obtain rfl:=Option.some.inj hp
       subst he
       exact hL

theorem w_spec_l23First {Ha:GH} {wa:World} (hs:Sl Ha wa) (v0:Value) (a0:List zac) (p0:RSl Ha eSeqStep 6 v0 a0) {r:Int} (hp:(PF.zdh a0)=some r) :
  Calls Tryz.prog 108 #[v0] wa (Sc Ha wa (Value.int .i64 r)):=by
 unfold PF.zdh at hp
 have S0:=St.init hs
 refine zaj (N:=15) (args:=[v0]) Tryz.func108 rfl rfl rfl ?_
 refine FW.seq (FW.region ?_)
 refine FL.v (E.assign (v:=Value.int .i64 0) rfl) ?_
 refine FL.nil (FW.seq (FW.seq (FW.region ?_)))
 refine FL.v (E.assign (v:=Value.int .i64 0) rfl) ?_
 refine FL.nil ?_
 obtain ⟨q22,hq,hp⟩:=bndR hp
 refine FW.block ?_
 refine FW.mono (FW.forL (S:=Unit) (X:=Int) (fun (i22:Nat) (s22:Unit) f w=>∃ H:GH,St Ha wa H w []∧Inc Ha H∧f 3=Value.int .i64 ((i22:Nat):Int)∧f 0=v0) (fun q e f w=>match q with|.go s22=>e=Exit.exit 0∧(∃ H:GH,St Ha wa H w []∧Inc Ha H)|.rt x=>((e=Exit.ret)∧(fun e f w=>(e=Exit.normal∨e=Exit.ret)∧∀ a,Fr (δ:=[]) 15 a f→∃ v,(results Tryz.f108 a.tmps).run Tryz.prog w=.ok v w∧(Sc Ha wa (Value.int .i64 x)) (.returned v) w) e f w)) hq ⟨_,S0,(Inc.rfl _),rfl,rfl⟩ ?_ ?_) ?_
 ·
  clear hp hq
  rintro i22 y21 s22 f40 w39 ⟨H36,S37,i38,k41,k42⟩ hx22 o49 hp
  refine FW.seq (FW.seq (FW.region ?_))
  refine FL.v (E.move k41) ?_
  refine FL.v (E.move k42) ?_
  refine FL.v (E.lenP te24 rfl p0) ?_
  refine FL.v (E.lssT rfl rfl (zaJ hx22)) ?_
  refine FL.nil ?_
  refine FW.condT rfl rfl ?_
  refine FW.skip (FW.seq (FW.block (FW.seq (FW.region ?_))))
  refine FL.v (E.move k42) ?_
  refine FL.v (E.move k41) ?_
  obtain ⟨r43,hr44,hp⟩:=bnd hp
  refine FL.call rfl rfl rfl (E.call Tryz.call157 (A2 rfl rfl)) (w_spec_l23Correct S37.sl v0 a0 (p0.mono i38) ((i22:Nat):Int) hr44) ?_
  rintro e w45 ⟨rfl,r46⟩
  refine ⟨_,rfl,?_⟩
  have S47:=S37.call r46
  refine FL.v (E.not rfl) ?_
  refine FL.nil ?_
  rcases ifB hp with ⟨c48,hp⟩|⟨c48,hp⟩
  ·
   refine FW.condT rfl c48 ?_
   refine FW.seq (FW.region ?_)
   refine FL.v (E.move k41) ?_
   refine FL.v (E.assign (v:=Value.int .i64 ((i22:Nat):Int)) rfl) ?_
   refine FL.nil ?_
   refine FW.ret ?_
   obtain rfl:=Option.some.inj hp
   exact ⟨nofun,rfl,⟨.inr rfl,res1 rfl rfl ⟨rfl,S47.back⟩⟩⟩
  ·
   refine FW.condF rfl c48 ?_
   refine FW.skip (FW.region ?_)
   refine FL.v (E.move k41) ?_
   refine FL.v (E.add rfl rfl) ?_
   refine FL.v (E.assign (v:=Value.int .i64 (wr (((i22:Nat):Int) + 1))) rfl) ?_
   refine FL.nil ?_
   obtain rfl:=Option.some.inj hp
   exact ⟨rfl,⟨_,S47,i38,(zaA rfl (zat hx22) (p0.mono i38).le),k42⟩⟩
 ·
  clear hp hq
  rintro s22 f59 w58 ⟨H55,S56,i57,k60,k61⟩
  refine FW.seq (FW.seq (FW.region ?_))
  refine FL.v (E.move k60) ?_
  refine FL.v (E.move k61) ?_
  refine FL.v (E.lenP te24 rfl p0) ?_
  refine FL.v (E.lss rfl rfl) ?_
  refine FL.nil ?_
  refine FW.condF rfl zaK ?_
  refine FW.exit ?_
  exact ⟨nofun,rfl,⟨_,S56,i57⟩⟩
 ·
  clear hq
  intro e f54 w53 hD
  rcases q22 with s22|x22
  ·
   obtain ⟨rfl,hD⟩:=hD
   obtain ⟨H50,S51,i52⟩:=hD
   replace hp:=el_go hp
   refine FW.seq (FW.region ?_)
   refine FL.v (E.assign (v:=Value.int .i64 (-1)) rfl) ?_
   refine FL.nil ?_
   refine FW.ret ?_
   obtain rfl:=Option.some.inj hp
   exact ⟨.inr rfl,res1 rfl rfl ⟨rfl,S51.back⟩⟩
  ·
   obtain ⟨he,hL⟩:=hD
   replace hp:=el_rt hp
   obtain rfl:=Option.some.inj hp
   subst he
   exact hL

theorem zdI {Ha:GH} {wa:World} (hs:Sl Ha wa) (v0:Value) (a0:List zac) (p0:RSl Ha eSeqStep 6 v0 a0) {r:Bool} (hp:(PF.zbQ a0)=some r) :
  Calls Tryz.prog 58 #[v0] wa (Sc Ha wa (Value.bool r)):=by
 unfold PF.zbQ at hp
 have S0:=St.init hs
 refine zaj (N:=11) (args:=[v0]) Tryz.func58 rfl rfl rfl ?_
 refine FW.seq (FW.region ?_)
 refine FL.v (E.assign (v:=Value.bool false) rfl) ?_
 refine FL.nil (FW.seq (FW.region ?_))
 refine FL.v (E.move (v:=v0) rfl) ?_
 refine FL.v (E.lenP te24 rfl p0) ?_
 refine FL.call rfl rfl rfl (E.call Tryz.call107 (A3 rfl rfl rfl)) (zdF S0.sl (len a0) 1 200) ?_
 rintro e w21 ⟨rfl,r22⟩
 refine ⟨_,rfl,?_⟩
 have S23:=S0.call r22
 refine FL.v (E.move (v:=Value.bool (PF.za3 (len a0) 1 200)) rfl) ?_
 obtain ⟨t29,hqt29,hp⟩:=bnd hp
 refine FL.cut 4 (fun f w=>∃ H:GH,St Ha wa H w []∧Inc Ha H∧f 10=Value.bool t29) ?_ ?_
 ·
  clear hp;have hp:=hqt29;clear hqt29
  rcases ifB hp with ⟨c35,hp⟩|⟨c35,hp⟩
  ·
   refine FL.val (zab rfl rfl rfl c35) rfl rfl (E.move (v:=v0) rfl) ?_
   obtain ⟨r36,hr37,hp⟩:=bnd hp
   refine FL.call (zab rfl rfl rfl c35) rfl rfl (E.call Tryz.call108 (A1 rfl)) (w_spec_l23First S23.sl v0 a0 p0 hr37) ?_
   rintro e w38 ⟨rfl,r39⟩
   refine ⟨_,rfl,?_⟩
   have S40:=S23.call r39
   refine FL.val (zab rfl rfl rfl c35) rfl rfl (E.lss rfl rfl) ?_
   obtain rfl:=Option.some.inj hp
   refine FL.v (E.pickT rfl c35 rfl) ?_
   exact FL.nil ⟨rfl,_,S40,(Inc.rfl _),rfl⟩
  ·
   refine FL.skip (wF_no rfl rfl rfl c35) rfl ?_
   refine FL.skip (wF_no rfl rfl rfl c35) rfl ?_
   refine FL.skip (wF_no rfl rfl rfl c35) rfl ?_
   obtain rfl:=Option.some.inj hp
   refine FL.v (E.pickF rfl c35 rfl) ?_
   exact FL.nil ⟨rfl,_,S23,(Inc.rfl _),rfl⟩
 rintro f34 w33 ⟨H30,S31,i32,k41⟩
 refine FL.v (E.assign k41) ?_
 refine FL.nil ?_
 refine FW.ret ?_
 obtain rfl:=Option.some.inj hp
 exact ⟨.inr rfl,res1 rfl rfl ⟨rfl,S31.back⟩⟩

@[reducible] def p_spec_l23Own (Ha:GH) (wa:World) (r:zad):Ending→World→Prop :=
 fun e w'=>∃ H':GH,∃ v0_0:Value,∃ v0_1:Value,e=.returned (Value.agg #[v0_0,v0_1])∧Run wa.heap.size Ha wa H' w'∧(∃ c0 c1,Nest (up wa.heap.size H') eS 1 v0_0 r.left c0∧Nest (up wa.heap.size H') eS 1 v0_1 r.right c1∧Ap v0_0 c0 v0_1 c1)
set_option maxHeartbeats 4000000 in
theorem w_spec_l23Own {Ha:GH} {wa:World} (hs:Sl Ha wa) (a0:zad) (v0_0:Value) (p0_0:RSl Ha eS 1 v0_0 a0.left) (v0_1:Value) (p0_1:RSl Ha eS 1 v0_1 a0.right) {r:zad} (hp:(PF.zbw a0)=some r) :
  Calls Tryz.prog 60 #[Value.agg #[v0_0,v0_1]] wa (p_spec_l23Own Ha wa r):=by
 unfold PF.zbw at hp
 have S0:=St.init hs
 refine zaj (N:=12) (args:=[Value.agg #[v0_0,v0_1]]) Tryz.func60 rfl rfl rfl ?_
 refine FW.seq (FW.region ?_)
 obtain ⟨b21,w22,run23,S24⟩:=S0.box (P:=Tryz.prog) 68 [v0_0,v0_1] (v:=Value.agg #[v0_0,v0_1]) rfl (zaa p0_0.one (zaa p0_1.one zag))
 refine FL.v (E.box rfl run23) ?_
 obtain ⟨H25,S26,i27,at28⟩:=S24.sealBox (i:=0) (l':=[]) rfl rfl
 obtain ⟨b29,w30,run31,S32⟩:=S26.alloc (P:=Tryz.prog) 68 [Value.slice none 0 0,Value.slice none 0 0] Tryz.zeroValue68 rfl (zaa rfl (zaa rfl zag))
 refine FL.v (E.alloc run31) ?_
 refine FL.nil (FW.seq ?_)
 obtain ⟨xs41,hz42,hp⟩:=bnd hp
 obtain ⟨xs55,hz56,hp⟩:=bnd hp
 refine FW.drawB (Sl H25) (fun f w=>∃ H:GH,∃ v78:Value,∃ v81:Value,St Ha wa H w [.box b29 68 [v78,v81]]∧Inc H25 H∧RSl (up wa.heap.size H) eS 1 v78 xs41∧RSl (up wa.heap.size H) eS 1 v81 xs55∧New H25 [v78]∧New H25 [v81]∧(∀ b∈bl [v78],b ∉ bl [v81])∧f 2=Value.pointer (some (⟨b29,0,none⟩:Addr))) (by kernel_rfl) S32.sl ?_ ?_
 ·
  intro w33 r34
  have S35:=S32.call r34
  refine FB.t (i:=1) (bs 10 2) rfl (SP.nil S35.sl) rfl (fun w' hw'=>(E.fieldAddr zau rfl)) ?_
  refine FB.t (i:=2) (bs 10 6) rfl (SP.nil S35.sl) rfl (fun w' hw'=>(E.load rfl (zaf Tryz.isAgg22 (at28.now hw') rfl))) ?_
  refine FB.t (i:=5) (bs 10 38) rfl (SP.nil S35.sl) rfl (fun w' hw'=>(E.fieldAddr zas rfl)) ?_
  refine FB.t (i:=6) (bs 10 102) rfl (SP.nil S35.sl) rfl (fun w' hw'=>(E.load rfl (zaf Tryz.isAgg22 (at28.now hw') rfl))) ?_
  refine FB.all2 (i:=0) (j:=4) (by kernel_rfl) ?_ ?_
  ·
   obtain ⟨v36,w37,run38,S39⟩:=S35.buildSlice (P:=Tryz.prog) te22 [] (parts:=#[]) (cells:=[]) rfl zal zak zag (Nat.le_of_ble_eq_true rfl)
   have els40:Els (up wa.heap.size H25) eS 1 [] []:=Els.nil
   refine FC.val (l':=(bs 10 103)) rfl (by kernel_rfl) rfl rfl rfl (E.buildSlice (B0) run38) ?_
   refine ⟨(SP.nil S39.sl),?_⟩
   refine FB.all2 (i:=3) (j:=4) (by kernel_rfl) ?_ ?_
   ·
    obtain ⟨v43,w46,n44,cs45,run47,S48,els49⟩:=S39.appendP (P:=Tryz.prog) (Inc.rfl _) te22 (i:=0) rfl (els40.mono upI) (p0_0.mono i27) hz42
    have S48:St Ha wa H25 w46 [.row 9 1 v43 n44 cs45,.box b29 68 [Value.slice none 0 0,Value.slice none 0 0]]:=S48
    have els49:Els (up wa.heap.size H25) eS 1 cs45 xs41:=els49.any (fun _ _ _ _ h=>h)
    refine FC.val (l':=(bs 10 111)) rfl (by kernel_rfl) rfl rfl rfl (E.append rfl rfl run47) ?_
    refine ⟨(SP.nil S48.sl),?_⟩
    refine FB.all1 (i:=4) (by kernel_rfl) ?_
    ·
     obtain ⟨v50,w51,run52,S53⟩:=S48.buildSlice (P:=Tryz.prog) te22 [] (parts:=#[]) (cells:=[]) rfl zal zak zag (Nat.le_of_ble_eq_true rfl)
     have els54:Els (up wa.heap.size H25) eS 1 [] []:=Els.nil
     refine FC.val (l':=(bs 10 127)) rfl (by kernel_rfl) rfl rfl rfl (E.buildSlice (B0) run52) ?_
     refine ⟨(SP.nil S53.sl),?_⟩
     refine FB.all1 (i:=7) (by kernel_rfl) ?_
     ·
      obtain ⟨v57,w60,n58,cs59,run61,S62,els63⟩:=S53.appendP (P:=Tryz.prog) (Inc.rfl _) te22 (i:=0) rfl (els54.mono upI) (p0_1.mono i27) hz56
      have S62:St Ha wa H25 w60 [.row 9 1 v57 n58 cs59,.row 9 1 v43 n44 cs45,.box b29 68 [Value.slice none 0 0,Value.slice none 0 0]]:=S62
      have els63:Els (up wa.heap.size H25) eS 1 cs59 xs55:=els63.any (fun _ _ _ _ h=>h)
      refine FC.val (l':=(bs 10 255)) rfl (by kernel_rfl) rfl rfl rfl (E.append rfl rfl run61) ?_
      refine ⟨(SP.nil S62.sl),?_⟩
      obtain ⟨H64,S65,i66,h67,nv69⟩:=S62.sealRowU (i:=1) (l':=[.row 9 1 v57 n58 cs59,.box b29 68 [Value.slice none 0 0,Value.slice none 0 0]]) rfl els49 (by decide) rfl
      obtain ⟨H70,S71,i72,h73,nv74⟩:=S65.sealRowU (i:=0) (l':=[.box b29 68 [Value.slice none 0 0,Value.slice none 0 0]]) rfl (els63.mono (zai i66)) (by decide) rfl
      refine FB.t (i:=8) (bs 10 511) rfl (SP.nil S62.sl) rfl (fun w' hw'=>(E.build (B2 rfl rfl) (run_build _ 68 #[(0,v43),(1,v57)] #[v43,v57] (by obtain ⟨_,_,rfl⟩:=RSl.ln (h67.mono (upI.tr i72));obtain ⟨_,_,rfl⟩:=RSl.ln (h73.mono upI);rfl)))) ?_
      refine FB.all1 (i:=9) (by kernel_rfl) ?_
      ·
       obtain ⟨w75,run76,S77⟩:=S71.store0 (P:=Tryz.prog) (t:=68) (i:=0) (cs':=[v43,v57]) (l':=[.box b29 68 [v43,v57]]) (v:=Value.agg #[v43,v57]) (c:=[v43,v57]) rfl Tryz.sizeOf68 rfl rfl (zaa h67.one (zaa h73.one zag)) (Nat.le_of_ble_eq_true rfl) rfl rfl
       refine FC.act (l':=(bs 10 1023)) rfl (by kernel_rfl) rfl rfl (E.store rfl rfl run76) ?_
       refine ⟨(SP.nil (Sl.of_inc (i66.tr i72) S77.sl)),?_⟩
       exact FB.done (by kernel_rfl) ⟨_,_,_,S77,(i66.tr i72),(h67.mono (zai i72)),h73,(nv69.anti (Inc.rfl _)),(nv74.anti i66),(New.apart (h67.mono (zai (Inc.rfl _))) nv74),rfl⟩
   ·
    obtain ⟨v50,w51,run52,S53⟩:=S39.buildSlice (P:=Tryz.prog) te22 [] (parts:=#[]) (cells:=[]) rfl zal zak zag (Nat.le_of_ble_eq_true rfl)
    have els54:Els (up wa.heap.size H25) eS 1 [] []:=Els.nil
    refine FC.val (l':=(bs 10 119)) rfl (by kernel_rfl) rfl rfl rfl (E.buildSlice (B0) run52) ?_
    refine ⟨(SP.nil S53.sl),?_⟩
    refine FB.all1 (i:=3) (by kernel_rfl) ?_
    ·
     obtain ⟨v43,w46,n44,cs45,run47,S48,els49⟩:=S53.appendP (P:=Tryz.prog) (Inc.rfl _) te22 (i:=1) rfl (els40.mono upI) (p0_0.mono i27) hz42
     have S48:St Ha wa H25 w46 [.row 9 1 v50 0 [],.row 9 1 v43 n44 cs45,.box b29 68 [Value.slice none 0 0,Value.slice none 0 0]]:=S48
     have els49:Els (up wa.heap.size H25) eS 1 cs45 xs41:=els49.any (fun _ _ _ _ h=>h)
     refine FC.val (l':=(bs 10 127)) rfl (by kernel_rfl) rfl rfl rfl (E.append rfl rfl run47) ?_
     refine ⟨(SP.nil S48.sl),?_⟩
     refine FB.all1 (i:=7) (by kernel_rfl) ?_
     ·
      obtain ⟨v57,w60,n58,cs59,run61,S62,els63⟩:=S48.appendP (P:=Tryz.prog) (Inc.rfl _) te22 (i:=0) rfl (els54.mono upI) (p0_1.mono i27) hz56
      have S62:St Ha wa H25 w60 [.row 9 1 v57 n58 cs59,.row 9 1 v43 n44 cs45,.box b29 68 [Value.slice none 0 0,Value.slice none 0 0]]:=S62
      have els63:Els (up wa.heap.size H25) eS 1 cs59 xs55:=els63.any (fun _ _ _ _ h=>h)
      refine FC.val (l':=(bs 10 255)) rfl (by kernel_rfl) rfl rfl rfl (E.append rfl rfl run61) ?_
      refine ⟨(SP.nil S62.sl),?_⟩
      obtain ⟨H64,S65,i66,h67,nv69⟩:=S62.sealRowU (i:=1) (l':=[.row 9 1 v57 n58 cs59,.box b29 68 [Value.slice none 0 0,Value.slice none 0 0]]) rfl els49 (by decide) rfl
      obtain ⟨H70,S71,i72,h73,nv74⟩:=S65.sealRowU (i:=0) (l':=[.box b29 68 [Value.slice none 0 0,Value.slice none 0 0]]) rfl (els63.mono (zai i66)) (by decide) rfl
      refine FB.t (i:=8) (bs 10 511) rfl (SP.nil S62.sl) rfl (fun w' hw'=>(E.build (B2 rfl rfl) (run_build _ 68 #[(0,v43),(1,v57)] #[v43,v57] (by obtain ⟨_,_,rfl⟩:=RSl.ln (h67.mono (upI.tr i72));obtain ⟨_,_,rfl⟩:=RSl.ln (h73.mono upI);rfl)))) ?_
      refine FB.all1 (i:=9) (by kernel_rfl) ?_
      ·
       obtain ⟨w75,run76,S77⟩:=S71.store0 (P:=Tryz.prog) (t:=68) (i:=0) (cs':=[v43,v57]) (l':=[.box b29 68 [v43,v57]]) (v:=Value.agg #[v43,v57]) (c:=[v43,v57]) rfl Tryz.sizeOf68 rfl rfl (zaa h67.one (zaa h73.one zag)) (Nat.le_of_ble_eq_true rfl) rfl rfl
       refine FC.act (l':=(bs 10 1023)) rfl (by kernel_rfl) rfl rfl (E.store rfl rfl run76) ?_
       refine ⟨(SP.nil (Sl.of_inc (i66.tr i72) S77.sl)),?_⟩
       exact FB.done (by kernel_rfl) ⟨_,_,_,S77,(i66.tr i72),(h67.mono (zai i72)),h73,(nv69.anti (Inc.rfl _)),(nv74.anti i66),(New.apart (h67.mono (zai (Inc.rfl _))) nv74),rfl⟩
  ·
   obtain ⟨v50,w51,run52,S53⟩:=S35.buildSlice (P:=Tryz.prog) te22 [] (parts:=#[]) (cells:=[]) rfl zal zak zag (Nat.le_of_ble_eq_true rfl)
   have els54:Els (up wa.heap.size H25) eS 1 [] []:=Els.nil
   refine FC.val (l':=(bs 10 118)) rfl (by kernel_rfl) rfl rfl rfl (E.buildSlice (B0) run52) ?_
   refine ⟨(SP.nil S53.sl),?_⟩
   refine FB.all1 (i:=0) (by kernel_rfl) ?_
   ·
    obtain ⟨v36,w37,run38,S39⟩:=S53.buildSlice (P:=Tryz.prog) te22 [] (parts:=#[]) (cells:=[]) rfl zal zak zag (Nat.le_of_ble_eq_true rfl)
    have els40:Els (up wa.heap.size H25) eS 1 [] []:=Els.nil
    refine FC.val (l':=(bs 10 119)) rfl (by kernel_rfl) rfl rfl rfl (E.buildSlice (B0) run38) ?_
    refine ⟨(SP.nil S39.sl),?_⟩
    refine FB.all1 (i:=3) (by kernel_rfl) ?_
    ·
     obtain ⟨v43,w46,n44,cs45,run47,S48,els49⟩:=S39.appendP (P:=Tryz.prog) (Inc.rfl _) te22 (i:=0) rfl (els40.mono upI) (p0_0.mono i27) hz42
     have S48:St Ha wa H25 w46 [.row 9 1 v43 n44 cs45,.row 9 1 v50 0 [],.box b29 68 [Value.slice none 0 0,Value.slice none 0 0]]:=S48
     have els49:Els (up wa.heap.size H25) eS 1 cs45 xs41:=els49.any (fun _ _ _ _ h=>h)
     refine FC.val (l':=(bs 10 127)) rfl (by kernel_rfl) rfl rfl rfl (E.append rfl rfl run47) ?_
     refine ⟨(SP.nil S48.sl),?_⟩
     refine FB.all1 (i:=7) (by kernel_rfl) ?_
     ·
      obtain ⟨v57,w60,n58,cs59,run61,S62,els63⟩:=S48.appendP (P:=Tryz.prog) (Inc.rfl _) te22 (i:=1) rfl (els54.mono upI) (p0_1.mono i27) hz56
      have S62:St Ha wa H25 w60 [.row 9 1 v43 n44 cs45,.row 9 1 v57 n58 cs59,.box b29 68 [Value.slice none 0 0,Value.slice none 0 0]]:=S62
      have els63:Els (up wa.heap.size H25) eS 1 cs59 xs55:=els63.any (fun _ _ _ _ h=>h)
      refine FC.val (l':=(bs 10 255)) rfl (by kernel_rfl) rfl rfl rfl (E.append rfl rfl run61) ?_
      refine ⟨(SP.nil S62.sl),?_⟩
      obtain ⟨H64,S65,i66,h67,nv69⟩:=S62.sealRowU (i:=0) (l':=[.row 9 1 v57 n58 cs59,.box b29 68 [Value.slice none 0 0,Value.slice none 0 0]]) rfl els49 (by decide) rfl
      obtain ⟨H70,S71,i72,h73,nv74⟩:=S65.sealRowU (i:=0) (l':=[.box b29 68 [Value.slice none 0 0,Value.slice none 0 0]]) rfl (els63.mono (zai i66)) (by decide) rfl
      refine FB.t (i:=8) (bs 10 511) rfl (SP.nil S62.sl) rfl (fun w' hw'=>(E.build (B2 rfl rfl) (run_build _ 68 #[(0,v43),(1,v57)] #[v43,v57] (by obtain ⟨_,_,rfl⟩:=RSl.ln (h67.mono (upI.tr i72));obtain ⟨_,_,rfl⟩:=RSl.ln (h73.mono upI);rfl)))) ?_
      refine FB.all1 (i:=9) (by kernel_rfl) ?_
      ·
       obtain ⟨w75,run76,S77⟩:=S71.store0 (P:=Tryz.prog) (t:=68) (i:=0) (cs':=[v43,v57]) (l':=[.box b29 68 [v43,v57]]) (v:=Value.agg #[v43,v57]) (c:=[v43,v57]) rfl Tryz.sizeOf68 rfl rfl (zaa h67.one (zaa h73.one zag)) (Nat.le_of_ble_eq_true rfl) rfl rfl
       refine FC.act (l':=(bs 10 1023)) rfl (by kernel_rfl) rfl rfl (E.store rfl rfl run76) ?_
       refine ⟨(SP.nil (Sl.of_inc (i66.tr i72) S77.sl)),?_⟩
       exact FB.done (by kernel_rfl) ⟨_,_,_,S77,(i66.tr i72),(h67.mono (zai i72)),h73,(nv69.anti (Inc.rfl _)),(nv74.anti i66),(New.apart (h67.mono (zai (Inc.rfl _))) nv74),rfl⟩
 ·
  rintro f89 w88 ⟨H85,v78,v81,S86,i87,h79,h82,nv80,nv83,hd84,k90⟩
  refine FW.ret ?_
  obtain rfl:=Option.some.inj hp
  exact ⟨.inr rfl,resC rfl k90 (zcG Tryz.isAgg68 Tryz.sizeOf68 (S86.box_now (i:=0) rfl) rfl) ⟨_,_,_,rfl,S86.run,(Ap.flat2 h79 zaO (by decide) h82 zaO (by decide) hd84)⟩⟩

end Go.Proofs
