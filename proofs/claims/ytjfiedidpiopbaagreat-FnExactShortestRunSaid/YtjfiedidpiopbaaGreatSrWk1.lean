/- Part of the walks and plain laws behind the claim: it proves helpers, under no condition beyond their own. -/
import Derived.Test.YtjfiedidpiopbaaGreatSrLB
import Derived.Test.YtjfiedidpiopbaaGreatSrLA
import Derived.Test.YtjfiedidpiopbaaGreatSrSh
import Derived.Test.YtjfiedidpiopbaaGreatSrPf
import Derived.Test.YtjfiedidpiopbaaGreatProg
set_option linter.unusedVariables false
set_option maxRecDepth 100000
namespace Go.Proofs
open Go.Mr Go.Pu Go.PF Go.RowKit Tryz

def eCnf:Enc Cnf:=⟨fun H cs s=>∃ v0,cs=[vI s.vars,v0]∧RSl H (eL eI 1) 1 v0 s.clauses,fun hi ⟨v0,h,h0⟩=>⟨_,h,h0.mono hi⟩,by rintro H cs s ⟨v0,rfl,h0⟩;exact (zb1 rfl (zb1 h0.one zad)),by rintro H cs s ⟨v0,rfl,h0⟩ b hb;obtain ⟨u,hu,hn⟩:=mem_bl hb;simp only [List.mem_cons,List.not_mem_nil,or_false] at hu;rcases hu with rfl|rfl <;> first|(cases hn;done)|exact h0.dom b (zb0 hn)⟩
theorem eCnf_open {H:GH} {cs:List Value} {s:Cnf} (h:eCnf.rel H cs s):∃ v0,cs=[vI s.vars,v0]∧RSl H (eL eI 1) 1 v0 s.clauses:=h

def zal:Enc zab:=⟨fun H cs s=>cs=[vI s.kind,vI s.a,vI s.b,vI s.pivot],fun _ h=>h,by rintro H cs s rfl;exact (zb1 rfl (zb1 rfl (zb1 rfl (zb1 rfl zad)))),by rintro H cs s rfl b hb;obtain ⟨u,hu,hn⟩:=mem_bl hb;simp only [List.mem_cons,List.not_mem_nil,or_false] at hu;rcases hu with rfl|rfl|rfl|rfl <;> cases hn⟩
theorem zbM {H:GH} {cs:List Value} {s:zab} (h:zal.rel H cs s):cs=[vI s.kind,vI s.a,vI s.b,vI s.pivot]:=h

theorem zec:FlatE zal:=by rintro H H' cs x rfl;exact ⟨rfl,rfl⟩

def zev (P:Program) (H:GH) (v:Value) (p:(List Int)→(List Int)→Option Int):Prop :=
 ∀ (H':GH) (w':World),Inc H H'→Sl H' w'→∀ (x0:List Int) (y0_0:Value) (_z0_0:RSl H' eI 1 y0_0 x0) (x1:List Int) (y1_0:Value) (_z1_0:RSl H' eI 1 y1_0 x1) (r:Int),p x0 x1=some r →
  ∃ (fid:Nat) (cs:Array Value),v=Value.func (.func fid) #[] cs∧(∀ args w,(callFunc fid args).run P w=.ok (.enter fid args) w)∧Calls P fid (#[y0_0,y1_0]++cs) w' (Sc H' w' (vI r))
def zds (P:Program) (H:GH) (v:Value) (p:Int→Int→Option Int):Prop :=
 ∀ (H':GH) (w':World),Inc H H'→Sl H' w'→∀ (x0:Int) (x1:Int) (r:Int),p x0 x1=some r →
  ∃ (fid:Nat) (cs:Array Value),v=Value.func (.func fid) #[] cs∧(∀ args w,(callFunc fid args).run P w=.ok (.enter fid args) w)∧Calls P fid (#[vI x0,vI x1]++cs) w' (Sc H' w' (vI r))
theorem zds.mono {P:Program} {H H':GH} {v:Value} {p:Int→Int→Option Int} (h:zds P H v p) (hi:Inc H H'):zds P H' v p :=
 fun H2 w2 h2=>h H2 w2 (hi.tr h2)

def zdT (P:Program) (H:GH) (v:Value) (p:(List Int)→Option Bool):Prop :=
 ∀ (H':GH) (w':World),Inc H H'→Sl H' w'→∀ (x0:List Int) (y0_0:Value) (_z0_0:RSl H' eI 1 y0_0 x0) (r:Bool),p x0=some r →
  ∃ (fid:Nat) (cs:Array Value),v=Value.func (.func fid) #[] cs∧(∀ args w,(callFunc fid args).run P w=.ok (.enter fid args) w)∧Calls P fid (#[y0_0]++cs) w' (Sc H' w' (vB r))
theorem zdT.mono {P:Program} {H H':GH} {v:Value} {p:(List Int)→Option Bool} (h:zdT P H v p) (hi:Inc H H'):zdT P H' v p :=
 fun H2 w2 h2=>h H2 w2 (hi.tr h2)

def zdt (P:Program) (H:GH) (v:Value) (p:Int→Option Bool):Prop :=
 ∀ (H':GH) (w':World),Inc H H'→Sl H' w'→∀ (x0:Int) (r:Bool),p x0=some r →
  ∃ (fid:Nat) (cs:Array Value),v=Value.func (.func fid) #[] cs∧(∀ args w,(callFunc fid args).run P w=.ok (.enter fid args) w)∧Calls P fid (#[vI x0]++cs) w' (Sc H' w' (vB r))
theorem zdt.mono {P:Program} {H H':GH} {v:Value} {p:Int→Option Bool} (h:zdt P H v p) (hi:Inc H H'):zdt P H' v p :=
 fun H2 w2 h2=>h H2 w2 (hi.tr h2)

def zdu (P:Program) (H:GH) (v:Value) (p:Int→Option Bool):Prop :=
 ∀ (H':GH) (w':World),Inc H H'→Sl H' w'→∀ (x0:Int) (r:Bool),p x0=some r →
  ∃ (fid:Nat) (cs:Array Value),v=Value.func (.func fid) #[] cs∧(∀ args w,(callFunc fid args).run P w=.ok (.enter fid args) w)∧Calls P fid (#[vJ x0]++cs) w' (Sc H' w' (vB r))
theorem zdu.mono {P:Program} {H H':GH} {v:Value} {p:Int→Option Bool} (h:zdu P H v p) (hi:Inc H H'):zdu P H' v p :=
 fun H2 w2 h2=>h H2 w2 (hi.tr h2)

theorem fd70_5 {cs:List Value} {c:Value} (h:cs[5]?=some c):∃ fields fd,prog.underlying 70=some (.struct fields)∧fields[5]?=some fd∧(∀ w,(isAgg fd.type).run prog w=.ok false w)∧cs[fd.offset]?=some c:=⟨_,_,Tryz.underlying70,rfl,Tryz.isAgg22,h⟩
theorem te101:TE prog 101 106 1 (.int .u16 0):=⟨Tryz.underlying101,⟨Tryz.t106,Tryz.type106,rfl,rfl,by decide⟩,rfl,by decide⟩
theorem te22:TE prog 22 45 1 (.slice none 0 0):=⟨Tryz.underlying22,⟨Tryz.t45,Tryz.type45,rfl,rfl,by decide⟩,rfl,by decide⟩
theorem te34:TE prog 34 57 4 (.agg #[(.int .i64 0),(.int .i64 0),(.int .i64 0),(.int .i64 0)]):=⟨Tryz.underlying34,⟨Tryz.t57,Tryz.type57,rfl,rfl,by decide⟩,rfl,by decide⟩
theorem te45:TE prog 45 3 1 (.int .i64 0):=⟨Tryz.underlying45,⟨Tryz.t3,Tryz.type3,rfl,rfl,by decide⟩,rfl,by decide⟩
theorem te59:TE prog 59 45 1 (.slice none 0 0):=⟨Tryz.underlying59,⟨Tryz.t45,Tryz.type45,rfl,rfl,by decide⟩,rfl,by decide⟩
theorem te72:TE prog 72 4 1 (.bool false):=⟨Tryz.underlying72,⟨Tryz.t4,Tryz.type4,rfl,rfl,by decide⟩,rfl,by decide⟩
theorem te83:TE prog 83 87 1 (.slice none 0 0):=⟨Tryz.underlying83,⟨Tryz.t87,Tryz.type87,rfl,rfl,by decide⟩,rfl,by decide⟩
theorem te87:TE prog 87 63 1 (.int .u64 0):=⟨Tryz.underlying87,⟨Tryz.t63,Tryz.type63,rfl,rfl,by decide⟩,rfl,by decide⟩
theorem zbN:TF prog 103 0 0:=⟨_,_,_,Tryz.underlying103,rfl,rfl,Tryz.sizeOf101,by decide⟩
theorem tf103_1:TF prog 103 1 1:=⟨_,_,_,Tryz.underlying103,rfl,rfl,Tryz.sizeOf100,by decide⟩
theorem tf103_2:TF prog 103 2 2:=⟨_,_,_,Tryz.underlying103,rfl,rfl,Tryz.sizeOf3,by decide⟩
theorem tf24_0:TF prog 24 0 0:=⟨_,_,_,Tryz.underlying24,rfl,rfl,Tryz.sizeOf3,by decide⟩
theorem tf24_1:TF prog 24 1 1:=⟨_,_,_,Tryz.underlying24,rfl,rfl,Tryz.sizeOf22,by decide⟩
theorem zaO:TF prog 28 0 0:=⟨_,_,_,Tryz.underlying28,rfl,rfl,Tryz.sizeOf3,by decide⟩
theorem zaz:TF prog 28 1 1:=⟨_,_,_,Tryz.underlying28,rfl,rfl,Tryz.sizeOf22,by decide⟩
theorem zbx:TF prog 57 0 0:=⟨_,_,_,Tryz.underlying57,rfl,rfl,Tryz.sizeOf3,by decide⟩
theorem zaK:TF prog 57 1 1:=⟨_,_,_,Tryz.underlying57,rfl,rfl,Tryz.sizeOf3,by decide⟩
theorem zbn:TF prog 57 2 2:=⟨_,_,_,Tryz.underlying57,rfl,rfl,Tryz.sizeOf3,by decide⟩
theorem zbo:TF prog 57 3 3:=⟨_,_,_,Tryz.underlying57,rfl,rfl,Tryz.sizeOf3,by decide⟩
theorem tf70_0:TF prog 70 0 0:=⟨_,_,_,Tryz.underlying70,rfl,rfl,Tryz.sizeOf22,by decide⟩
theorem tf70_1:TF prog 70 1 1:=⟨_,_,_,Tryz.underlying70,rfl,rfl,Tryz.sizeOf45,by decide⟩
theorem tf70_2:TF prog 70 2 2:=⟨_,_,_,Tryz.underlying70,rfl,rfl,Tryz.sizeOf45,by decide⟩
theorem tf70_3:TF prog 70 3 3:=⟨_,_,_,Tryz.underlying70,rfl,rfl,Tryz.sizeOf45,by decide⟩
theorem tf70_4:TF prog 70 4 4:=⟨_,_,_,Tryz.underlying70,rfl,rfl,Tryz.sizeOf45,by decide⟩
theorem zbp:TF prog 70 5 5:=⟨_,_,_,Tryz.underlying70,rfl,rfl,Tryz.sizeOf22,by decide⟩
theorem tf74_0:TF prog 74 0 0:=⟨_,_,_,Tryz.underlying74,rfl,rfl,Tryz.sizeOf72,by decide⟩
theorem tf74_1:TF prog 74 1 1:=⟨_,_,_,Tryz.underlying74,rfl,rfl,Tryz.sizeOf22,by decide⟩
theorem tf85_1:TF prog 85 1 2:=⟨_,_,_,Tryz.underlying85,rfl,rfl,Tryz.sizeOf22,by decide⟩
theorem tf85_2:TF prog 85 2 3:=⟨_,_,_,Tryz.underlying85,rfl,rfl,Tryz.sizeOf83,by decide⟩
theorem w_laws_szIntS {Ha:GH} {wa:World} (hs:Sl Ha wa) (v0:Value) (a0:List Int) (p0:RSl Ha eI 1 v0 a0) (a1:Int) :
  Calls prog 41 #[v0,vI a1] wa (Sc Ha wa (vI (PF.zbr a0 a1))):=by
 obtain ⟨r,hp⟩:∃ r,(PF.zbr a0 a1)=r:=⟨_,rfl⟩;rw [hp];unfold PF.zbr at hp;have S0:=St.init hs;refine zag (N:=12) (args:=[v0,vI a1]) func41 rfl rfl rfl ?_;refine FW.sr<|FL.as (v:=vI 0) rfl<|FL.nil<|FW.sr<|FL.mv (v:=vI a1) rfl<|FL.mv (v:=v0) rfl<|FL.v (E.lenP te45 rfl p0) ?_;refine FL.v (E.sub rfl rfl) ?_;refine FL.as (v:=vI (wr (a1 - (len a0)))) rfl<|FL.nil (FW.seq (FW.sr ?_));refine FL.mv (v:=vI (wr (a1 - (len a0)))) rfl<|FL.v (E.lss rfl rfl) ?_;refine FL.nil ?_;rcases ifT hp with ⟨c21,hp⟩|⟨c21,hp⟩
 ·
  refine FW.condT rfl c21 ?_;refine FW.sr<|FL.as (v:=vI (-1)) rfl<|FL.nil (FW.ret ?_);obtain rfl:=hp;exact ⟨.inr rfl,res1 rfl rfl ⟨rfl,S0.back⟩⟩
 ·
  refine FW.condF rfl c21 ?_;refine FW.skip<|FW.sr<|FL.mv (v:=vI (wr (a1 - (len a0)))) rfl<|FL.as (v:=vI (wr (a1 - (len a0)))) rfl<|FL.nil (FW.ret ?_);obtain rfl:=hp;exact ⟨.inr rfl,res1 rfl rfl ⟨rfl,S0.back⟩⟩

set_option maxHeartbeats 4000000 in
theorem w_laws_szIntSS {Ha:GH} {wa:World} (hs:Sl Ha wa) (v0:Value) (a0:List (List Int)) (p0:RSl Ha (eL eI 1) 1 v0 a0) (a1:Int) {r:Int} (hp:(PF.zdG a0 a1)=some r) :
  Calls prog 19 #[v0,vI a1] wa (Sc Ha wa (vI r)):=by
 unfold PF.zdG at hp;have S0:=St.init hs;refine zag (N:=27) (args:=[v0,vI a1]) func19 rfl rfl rfl ?_;refine FW.sr<|FL.as (v:=vI 0) rfl<|FL.nil<|FW.sr<|FL.mv (v:=vI a1) rfl<|FL.mv (v:=v0) rfl<|FL.v (E.lenP te22 rfl p0) ?_;refine FL.v (E.sub rfl rfl) ?_;refine FL.as (v:=vI (wr (a1 - (len a0)))) rfl<|FL.nil (FW.seq (FW.sr ?_));refine FL.mv (v:=vI (wr (a1 - (len a0)))) rfl<|FL.v (E.lss rfl rfl) ?_;refine FL.nil ?_;rcases ifB hp with ⟨c21,hp⟩|⟨c21,hp⟩
 ·
  refine FW.condT rfl c21 ?_;refine FW.sr<|FL.as (v:=vI (-1)) rfl<|FL.nil (FW.ret ?_);cases hp;exact ⟨.inr rfl,res1 rfl rfl ⟨rfl,S0.back⟩⟩
 ·
  refine FW.condF rfl c21 ?_;refine FW.skip (FW.seq (FW.sr ?_));refine FL.as (v:=vI 0) rfl<|FL.nil ?_;obtain ⟨q23,hq,hp⟩:=bndR hp;refine FW.block ?_;refine FW.mono (FW.forL (S:=Int) (X:=Int) (fun (i23:Nat) (s23:Int) f w=>∃ H:GH,St Ha wa H w []∧Inc Ha H∧f 5=vI ((i23:Nat):Int)∧f 0=v0∧f 1=vI s23) (fun q e f w=>match q with|.go s23=>e=Exit.exit 0∧(∃ H:GH,St Ha wa H w []∧Inc Ha H∧f 1=vI s23)|.rt x=>((e=Exit.ret)∧(fun e f w=>(e=Exit.normal∨e=Exit.ret)∧∀ a,Fr (δ:=[]) 27 a f→∃ v,(results Tryz.f19 a.tmps).run prog w=.ok v w∧(Sc Ha wa (vI x)) (.returned v) w) e f w)) hq ⟨_,S0,I0,rfl,rfl,rfl⟩ ?_ ?_) ?_
  ·
   clear hp hq;rintro i23 y22 s23 f48 w47 ⟨H44,S45,i46,k49,k50,k51⟩ hx23 o64 hp;refine FW.seq<|FW.sr<|FL.mv k49<|FL.mv k50<|FL.v (E.lenP te22 rfl p0) ?_;refine FL.v (E.lssT rfl rfl (zan hx23)) ?_;refine FL.nil<|FW.condT rfl rfl ?_;refine FW.skip (FW.seq (FW.block (FW.sr ?_)));refine FL.mv k50<|FL.mv k49 ?_;obtain ⟨p52,cs53,pt54,l55,at56,rel57⟩:=p0.at (zai hx23);obtain ⟨v58,rfl,h59⟩:=eL_open rel57;refine FL.v (E.indexAddr te22 rfl rfl pt54) ?_;refine FL.v (E.load rfl (zac isAgg45 ((at56.mono i46).now S45.sl) rfl)) ?_;refine FL.mv k51 ?_;refine FL.c (E.call call41 (A2 rfl rfl)) (w_laws_szIntS S45.sl v58 y22 (h59.mono i46) s23) ?_;rintro e w60 ⟨rfl,r61⟩;refine ⟨_,rfl,?_⟩;have S62:=S45.call r61;refine FL.as (v:=vI (PF.zbr y22 s23)) rfl<|FL.nil<|FW.sr<|FL.mv (v:=vI (PF.zbr y22 s23)) rfl<|FL.v (E.lss rfl rfl) ?_;refine FL.nil ?_;rcases ifB hp with ⟨c63,hp⟩|⟨c63,hp⟩
   ·
    refine FW.condT rfl c63 ?_;refine FW.sr<|FL.as (v:=vI (-1)) rfl<|FL.nil (FW.ret ?_);cases hp;exact ⟨nofun,rfl,⟨.inr rfl,res1 rfl rfl ⟨rfl,S62.back⟩⟩⟩
   ·
    refine FW.condF rfl c63 ?_;refine FW.skip<|FW.region<|FL.mv k49<|FL.v (E.add rfl rfl) ?_;refine FL.as (v:=vI (wr (((i23:Nat):Int) + 1))) rfl<|FL.nil ?_;cases hp;exact ⟨rfl,⟨_,S62,i46,(zam rfl (zak hx23) (p0.mono i46).le),k50,rfl⟩⟩
  ·
   clear hp hq;rintro s23 f75 w74 ⟨H71,S72,i73,k76,k77,k78⟩;refine FW.seq<|FW.sr<|FL.mv k76<|FL.mv k77<|FL.v (E.lenP te22 rfl p0) ?_;refine FL.v (E.lss rfl rfl) ?_;refine FL.nil<|FW.condF rfl zao ?_;refine FW.exit ?_;exact ⟨nofun,rfl,⟨_,S72,i73,k78⟩⟩
  ·
   clear hq;intro e f69 w68 hD;rcases q23 with s23|x23
   ·
    obtain ⟨rfl,hD⟩:=hD;obtain ⟨H65,S66,i67,k70⟩:=hD;replace hp:=el_go hp;refine FW.sr<|FL.mv k70<|FL.as (v:=vI s23) rfl<|FL.nil (FW.ret ?_);cases hp;exact ⟨.inr rfl,res1 rfl rfl ⟨rfl,S66.back⟩⟩
   ·
    obtain ⟨he,hL⟩:=hD;replace hp:=el_rt hp;cases hp;subst he;exact hL

theorem w_laws_szCnf {Ha:GH} {wa:World} (hs:Sl Ha wa) (a0:Cnf) (v0_1:Value) (p0_1:RSl Ha (eL eI 1) 1 v0_1 a0.clauses) (a1:Int) {r:Int} (hp:(PF.zcZ a0 a1)=some r) :
  Calls prog 6 #[vA #[vI a0.vars,v0_1],vI a1] wa (Sc Ha wa (vI r)):=by
 unfold PF.zcZ at hp;have S0:=St.init hs;refine zag (N:=12) (args:=[vA #[vI a0.vars,v0_1],vI a1]) func6 rfl rfl rfl ?_;refine FW.sr ?_;obtain ⟨b21,w22,run23,S24⟩:=S0.box (P:=prog) 24 [vI a0.vars,v0_1] (v:=vA #[vI a0.vars,v0_1]) rfl (oC rfl (oC p0_1.one zad));refine FL.v (E.box rfl run23) ?_;obtain ⟨H25,S26,i27,at28⟩:=S24.sealBox (i:=0) (l':=[]) rfl rfl;refine FL.as (v:=vI 0) rfl<|FL.nil<|FW.sr<|FL.v (E.fieldAddr tf24_1 rfl) ?_;refine FL.v (E.load rfl (zaf isAgg22 (at28.now S26.sl) rfl)) ?_;refine FL.mv (v:=vI a1) rfl ?_;obtain ⟨r29,hr30,hp⟩:=bnd hp;refine FL.c (E.call call19 (A2 rfl rfl)) (w_laws_szIntSS S26.sl v0_1 a0.clauses (p0_1.mono i27) a1 hr30) ?_;rintro e w31 ⟨rfl,r32⟩;refine ⟨_,rfl,?_⟩;have S33:=S26.call r32;refine FL.as (v:=vI r29) rfl<|FL.nil (FW.seq (FW.sr ?_));refine FL.mv (v:=vI r29) rfl<|FL.v (E.lss rfl rfl) ?_;refine FL.nil ?_;rcases ifB hp with ⟨c34,hp⟩|⟨c34,hp⟩
 ·
  refine FW.condT rfl c34 ?_;refine FW.sr<|FL.as (v:=vI (-1)) rfl<|FL.nil (FW.ret ?_);cases hp;exact ⟨.inr rfl,res1 rfl rfl ⟨rfl,S33.back⟩⟩
 ·
  refine FW.condF rfl c34 ?_;refine FW.skip<|FW.sr<|FL.mv (v:=vI r29) rfl<|FL.as (v:=vI r29) rfl<|FL.nil (FW.ret ?_);cases hp;exact ⟨.inr rfl,res1 rfl rfl ⟨rfl,S33.back⟩⟩

@[reducible] def p_laws_toIntS (Ha:GH) (wa:World) (r:(List Int)):Ending→World→Prop :=
 fun e w'=>∃ H':GH,∃ v0:Value,∃ n0:Nat,∃ c0:List Value,e=.returned (v0)∧St Ha wa H' w' [.row 3 1 v0 n0 c0]∧Els (up wa.heap.size H') eI 1 c0 r
theorem w_laws_toIntS {Ha:GH} {wa:World} (hs:Sl Ha wa) (v0:Value) (a0:List Int) (p0:RSl Ha eI 1 v0 a0) {r:(List Int)} (hp:(PF.zc0 a0)=some r) :
  Calls prog 47 #[v0] wa (p_laws_toIntS Ha wa r):=by
 unfold PF.zc0 at hp;have S0:=St.init hs;refine zag (N:=22) (args:=[v0]) func47 rfl rfl rfl ?_;refine FW.sr<|FL.as (v:=vN) rfl<|FL.nil<|FW.sr<|FL.mv (v:=v0) rfl<|FL.v (E.lenP te45 rfl p0) ?_;obtain ⟨xs21,hm22,hp⟩:=bnd hp;obtain ⟨v23,w24,n28,cs29,run25,S26,els27,hbl30⟩:=S0.makeEls (P:=prog) te45 (G:=(up wa.heap.size Ha)) (En:=eI) (x0:=(0:Int)) hm22 rfl (oC rfl zad) .i64 .i64;refine FL.v (E.makeSlice rfl rfl run25) ?_;refine FL.as (v:=v23) rfl<|FL.nil (FW.seq (FW.sr ?_));refine FL.as (v:=vI 0) rfl<|FL.nil ?_;obtain ⟨q32,hq,hp⟩:=bndR hp;refine FW.block ?_;refine FW.mono (FW.forL (S:=(List Int)) (X:=Empty) (fun (i32:Nat) (s32:(List Int)) f w=>∃ H:GH,∃ v63:Value,∃ n64:Nat,∃ cs65:List Value,St Ha wa H w [.row 3 1 v63 n64 cs65]∧Inc Ha H∧Els (up wa.heap.size H) eI 1 cs65 s32∧f 4=vI ((i32:Nat):Int)∧f 0=v0∧f 3=v63) (fun (q:Rs (List Int) Empty) e f w=>match q with|.go s32=>e=Exit.exit 0∧(∃ H:GH,∃ v63:Value,∃ n64:Nat,∃ cs65:List Value,St Ha wa H w [.row 3 1 v63 n64 cs65]∧Inc Ha H∧Els (up wa.heap.size H) eI 1 cs65 s32∧f 3=v63)|.rt x=>x.elim) hq ⟨_,_,_,_,S26,I0,els27,rfl,rfl,rfl⟩ ?_ ?_) ?_
 ·
  clear hp hq;rintro i32 y31 s32 fA1 wA0 ⟨H97,v63,n64,cs65,S98,i99,els66,kA2,kA3,kA4⟩ hx32 oAr hp;refine FW.seq<|FW.sr<|FL.mv kA2<|FL.mv kA3<|FL.v (E.lenP te45 rfl p0) ?_;refine FL.v (E.lssT rfl rfl (zan hx32)) ?_;refine FL.nil<|FW.condT rfl rfl ?_;refine FW.skip (FW.seq (FW.block (FW.region ?_)));refine FL.mv kA4<|FL.mv kA2<|FL.mv kA3<|FL.mv kA2 ?_;obtain ⟨pA5,csA6,ptA7,lA8,atA9,relAa⟩:=p0.at (zai hx32);obtain rfl:=eI_open relAa;refine FL.v (E.indexAddr te45 rfl rfl ptA7) ?_;refine FL.v (E.load rfl (zac isAgg3 ((atA9.mono i99).now S98.sl) rfl)) ?_;obtain ⟨xAh,hxAi,hp⟩:=bnd hp;obtain ⟨pAb,csAc,ptAd,lAe,atAf,relAg⟩:=S98.row_at (i:=0) rfl els66 (by decide) hxAi;obtain rfl:=eI_open relAg;refine FL.v (E.indexAddr te45 rfl rfl ptAd) ?_;obtain ⟨xsAm,hputAn,hp⟩:=bnd hp;obtain ⟨wAj,csAp,runAk,SAl,elsAo,ceAq⟩:=S98.putEls (P:=prog) (t:=3) (i:=0) rfl els66 hputAn ptAd sizeOf3 (u:=vI y31) (c:=[vI y31]) rfl rfl (oC rfl zad) rfl;refine FL.act rfl rfl (E.store rfl rfl runAk) ?_;refine FL.nil<|FW.region<|FL.mv kA2<|FL.v (E.add rfl rfl) ?_;refine FL.as (v:=vI (wr (((i32:Nat):Int) + 1))) rfl<|FL.nil ?_;cases hp;exact ⟨rfl,⟨_,_,_,_,SAl,i99,elsAo,(zam rfl (zak hx32) (p0.mono i99).le),kA3,kA4⟩⟩
 ·
  clear hp hq;rintro s32 fAC wAB ⟨HAy,v63,n64,cs65,SAz,iAA,els66,kAD,kAE,kAF⟩;refine FW.seq<|FW.sr<|FL.mv kAD<|FL.mv kAE<|FL.v (E.lenP te45 rfl p0) ?_;refine FL.v (E.lss rfl rfl) ?_;refine FL.nil<|FW.condF rfl zao ?_;refine FW.exit ?_;exact ⟨nofun,rfl,⟨_,_,_,_,SAz,iAA,els66,kAF⟩⟩
 ·
  clear hq;intro e fAw wAv hD;rcases q32 with s32|x32
  ·
   obtain ⟨rfl,hD⟩:=hD;obtain ⟨HAs,v63,n64,cs65,SAt,iAu,els66,kAx⟩:=hD;replace hp:=el_go hp;refine FW.sr<|FL.mv kAx<|FL.as (v:=v63) rfl<|FL.nil (FW.ret ?_);cases hp;exact ⟨.inr rfl,res1 rfl rfl ⟨_,_,_,_,rfl,SAt,els66⟩⟩
  ·
   exact x32.elim

@[reducible] def p_laws_toIntSS (Ha:GH) (wa:World) (r:(List (List Int))):Ending→World→Prop :=
 fun e w'=>∃ H':GH,∃ v0:Value,∃ n0:Nat,∃ c0:List Value,e=.returned (v0)∧St Ha wa H' w' [.row 45 1 v0 n0 c0]∧Els (up wa.heap.size H') (eL eI 1) 1 c0 r∧(bl c0).Nodup
set_option maxHeartbeats 4000000 in
theorem w_laws_toIntSS {Ha:GH} {wa:World} (hs:Sl Ha wa) (v0:Value) (a0:List (List Int)) (p0:RSl Ha (eL eI 1) 1 v0 a0) {r:(List (List Int))} (hp:(PF.zdH a0)=some r) :
  Calls prog 24 #[v0] wa (p_laws_toIntSS Ha wa r):=by
 unfold PF.zdH at hp;have S0:=St.init hs;refine zag (N:=23) (args:=[v0]) func24 rfl rfl rfl ?_;refine FW.sr<|FL.as (v:=vN) rfl<|FL.nil<|FW.sr<|FL.mv (v:=v0) rfl<|FL.v (E.lenP te22 rfl p0) ?_;obtain ⟨xs21,hm22,hp⟩:=bnd hp;obtain ⟨v23,w24,n28,cs29,run25,S26,els27,hbl30⟩:=S0.makeEls (P:=prog) te22 (G:=(up wa.heap.size Ha)) (En:=(eL eI 1)) (x0:=([]:List Int)) hm22 ⟨_,rfl,RSl.nil _ _ _⟩ (oC rfl zad) .i64 .i64;have nd31:(bl cs29).Nodup:=by rw [hbl30 (by simp [Value.cells,neb])];exact List.nodup_nil
 refine FL.v (E.makeSlice rfl rfl run25) ?_;refine FL.as (v:=v23) rfl<|FL.nil (FW.seq (FW.sr ?_));refine FL.as (v:=vI 0) rfl<|FL.nil ?_;obtain ⟨q33,hq,hp⟩:=bndR hp;refine FW.block ?_;refine FW.mono (FW.forL (S:=(List (List Int))) (X:=Empty) (fun (i33:Nat) (s33:(List (List Int))) f w=>∃ H:GH,∃ v84:Value,∃ n85:Nat,∃ cs86:List Value,St Ha wa H w [.row 45 1 v84 n85 cs86]∧Inc Ha H∧Els (up wa.heap.size H) (eL eI 1) 1 cs86 s33∧(bl cs86).Nodup∧f 4=vI ((i33:Nat):Int)∧f 0=v0∧f 3=v84) (fun (q:Rs (List (List Int)) Empty) e f w=>match q with|.go s33=>e=Exit.exit 0∧(∃ H:GH,∃ v84:Value,∃ n85:Nat,∃ cs86:List Value,St Ha wa H w [.row 45 1 v84 n85 cs86]∧Inc Ha H∧Els (up wa.heap.size H) (eL eI 1) 1 cs86 s33∧(bl cs86).Nodup∧f 3=v84)|.rt x=>x.elim) hq ⟨_,_,_,_,S26,I0,els27,nd31,rfl,rfl,rfl⟩ ?_ ?_) ?_
 ·
  clear hp hq;rintro i33 y32 s33 fAH wAG ⟨HAD,v84,n85,cs86,SAE,iAF,els87,nd88,kAI,kAJ,kAK⟩ hx33 oBr hp;refine FW.seq<|FW.sr<|FL.mv kAI<|FL.mv kAJ<|FL.v (E.lenP te22 rfl p0) ?_;refine FL.v (E.lssT rfl rfl (zan hx33)) ?_;refine FL.nil<|FW.condT rfl rfl ?_;refine FW.skip (FW.seq (FW.block (FW.region ?_)));refine FL.mv kAK<|FL.mv kAI<|FL.mv kAJ<|FL.mv kAI ?_;obtain ⟨pAL,csAM,ptAN,lAO,atAP,relAQ⟩:=p0.at (zai hx33);obtain ⟨vAR,rfl,hAS⟩:=eL_open relAQ;refine FL.v (E.indexAddr te22 rfl rfl ptAN) ?_;refine FL.v (E.load rfl (zac isAgg45 ((atAP.mono iAF).now SAE.sl) rfl)) ?_;obtain ⟨rAT,hrAU,hp⟩:=bnd hp;refine FL.c (E.call call47 (A1 rfl)) (w_laws_toIntS SAE.sl vAR y32 (hAS.mono iAF) hrAU) ?_;rintro e wAW ⟨HAV,vAZ,nB0,csB1,rfl,rAY,elsB2⟩;refine ⟨_,rfl,?_⟩;have elsB2:=elsB2.mono (up_le SAE.size);have SAX:=SAE.join (l':=[.row 3 1 vAZ nB0 csB1,.row 45 1 v84 n85 cs86]) rAY rfl;obtain ⟨xB9,hxBa,hp⟩:=bnd hp;obtain ⟨pB3,csB4,ptB5,lB6,atB7,relB8⟩:=SAX.row_at (i:=1) rfl els87 (by decide) hxBa;obtain ⟨vBb,rfl,hBc⟩:=eL_open relB8;refine FL.v (E.indexAddr te22 rfl rfl ptB5) ?_;obtain ⟨HBd,SBe,iBf,hBg,nvBh⟩:=SAX.sealRowU (i:=0) (l':=[.row 45 1 v84 n85 cs86]) rfl elsB2 (by decide) rfl;obtain ⟨xsBl,hputBm,hp⟩:=bnd hp;obtain ⟨wBi,csBo,runBj,SBk,elsBn,ceBp⟩:=SBe.putEls (P:=prog) (t:=45) (i:=0) rfl (els87.mono (zae (rAY.run.inc.tr iBf))) hputBm ptB5 sizeOf45 (u:=vAZ) (c:=[vAZ]) hBg.cells rfl (oC hBg.one zad) ⟨_,rfl,hBg⟩;have ndBq:(bl csBo).Nodup:=by rw [ceBp];exact nd_put (Nat.le_add_right _ _) nd88 (by exact nd_one vAZ) (Els.dom (els87.mono (upI.tr rAY.run.inc))) (by exact nvBh)
  refine FL.act rfl rfl (E.store rfl rfl runBj) ?_;refine FL.nil<|FW.region<|FL.mv kAI<|FL.v (E.add rfl rfl) ?_;refine FL.as (v:=vI (wr (((i33:Nat):Int) + 1))) rfl<|FL.nil ?_;cases hp;exact ⟨rfl,⟨_,_,_,_,SBk,((iAF.tr rAY.run.inc).tr iBf),elsBn,ndBq,(zam rfl (zak hx33) (p0.mono ((iAF.tr rAY.run.inc).tr iBf)).le),kAJ,kAK⟩⟩
 ·
  clear hp hq;rintro s33 fBC wBB ⟨HBy,v84,n85,cs86,SBz,iBA,els87,nd88,kBD,kBE,kBF⟩;refine FW.seq<|FW.sr<|FL.mv kBD<|FL.mv kBE<|FL.v (E.lenP te22 rfl p0) ?_;refine FL.v (E.lss rfl rfl) ?_;refine FL.nil<|FW.condF rfl zao ?_;refine FW.exit ?_;exact ⟨nofun,rfl,⟨_,_,_,_,SBz,iBA,els87,nd88,kBF⟩⟩
 ·
  clear hq;intro e fBw wBv hD;rcases q33 with s33|x33
  ·
   obtain ⟨rfl,hD⟩:=hD;obtain ⟨HBs,v84,n85,cs86,SBt,iBu,els87,nd88,kBx⟩:=hD;replace hp:=el_go hp;refine FW.sr<|FL.mv kBx<|FL.as (v:=v84) rfl<|FL.nil (FW.ret ?_);cases hp;exact ⟨.inr rfl,res1 rfl rfl ⟨_,_,_,_,rfl,SBt,els87,nd88⟩⟩
  ·
   exact x33.elim

@[reducible] def p_laws_toCnf (Ha:GH) (wa:World) (r:Cnf):Ending→World→Prop :=
 fun e w'=>∃ H':GH,∃ v0_1:Value,e=.returned (vA #[vI r.vars,v0_1])∧Run wa.heap.size Ha wa H' w'∧(∃ c,Nest (up wa.heap.size H') (eL eI 1) 1 v0_1 r.clauses c)
theorem zdU {Ha:GH} {wa:World} (hs:Sl Ha wa) (a0:Cnf) (v0_1:Value) (p0_1:RSl Ha (eL eI 1) 1 v0_1 a0.clauses) {r:Cnf} (hp:(PF.zbT a0)=some r) :
  Calls prog 8 #[vA #[vI a0.vars,v0_1]] wa (p_laws_toCnf Ha wa r):=by
 unfold PF.zbT at hp;have S0:=St.init hs;refine zag (N:=12) (args:=[vA #[vI a0.vars,v0_1]]) func8 rfl rfl rfl ?_;refine FW.sr ?_;obtain ⟨b21,w22,run23,S24⟩:=S0.box (P:=prog) 24 [vI a0.vars,v0_1] (v:=vA #[vI a0.vars,v0_1]) rfl (oC rfl (oC p0_1.one zad));refine FL.v (E.box rfl run23) ?_;obtain ⟨H25,S26,i27,at28⟩:=S24.sealBox (i:=0) (l':=[]) rfl rfl;obtain ⟨b29,w30,run31,S32⟩:=S26.alloc (P:=prog) 28 [vI 0,vN] zeroValue28 rfl (oC rfl (oC rfl zad));refine FL.v (E.alloc run31) ?_;refine FL.nil<|FW.sr ?_;obtain ⟨b33,w34,run35,S36⟩:=S32.alloc (P:=prog) 28 [vI 0,vN] zeroValue28 rfl (oC rfl (oC rfl zad));refine FL.v (E.alloc run35) ?_;refine FL.nil<|FW.sr<|FL.v (E.fieldAddr tf24_0 rfl) ?_;refine FL.v (E.load rfl (zaf isAgg3 (at28.now S36.sl) rfl)) ?_;refine FL.v (E.fieldAddr zaO rfl) ?_;obtain ⟨w37,run38,S39⟩:=S36.store (P:=prog) (t:=3) (i:=0) (j:=0) (cs':=[vI a0.vars,vN]) (l':=[.box b33 28 [vI a0.vars,vN],.box b29 28 [vI 0,vN]]) (v:=vI a0.vars) (c:=[vI a0.vars]) rfl sizeOf3 rfl rfl (oC rfl zad) (nB rfl) rfl rfl;refine FL.act rfl rfl (E.store rfl rfl run38) ?_;refine FL.nil<|FW.sr<|FL.v (E.fieldAddr tf24_1 rfl) ?_;refine FL.v (E.load rfl (zaf isAgg22 (at28.now S39.sl) rfl)) ?_;obtain ⟨r40,hr41,hp⟩:=bnd hp;refine FL.c (E.call call24 (A1 rfl)) (w_laws_toIntSS S39.sl v0_1 a0.clauses (p0_1.mono i27) hr41) ?_;rintro e w43 ⟨H42,v46,n47,cs48,rfl,r45,els49,nd50⟩;refine ⟨_,rfl,?_⟩;have nv51:New H25 cs48:=New.of_up S39.sl els49.dom;have els49:=els49.mono (up_le S39.size);have S44:=S39.join (l':=[.row 45 1 v46 n47 cs48,.box b33 28 [vI a0.vars,vN],.box b29 28 [vI 0,vN]]) r45 rfl;refine FL.v (E.fieldAddr zaz rfl) ?_;obtain ⟨w52,run53,S54⟩:=S44.store (P:=prog) (t:=22) (i:=1) (j:=1) (cs':=[vI a0.vars,v46]) (l':=[.row 45 1 v46 n47 cs48,.box b33 28 [vI a0.vars,v46],.box b29 28 [vI 0,vN]]) (v:=v46) (c:=[v46]) rfl sizeOf22 (Ln.cells (S44.row_ln (i:=0) rfl)) rfl (oC (Ln.one (S44.row_ln (i:=0) rfl)) zad) (nB rfl) rfl rfl;refine FL.act rfl rfl (E.store rfl rfl run53) ?_;obtain ⟨H55,S56,i57,ns60,nv59⟩:=S54.sealRowN (i:=0) (l':=[.box b33 28 [vI a0.vars,v46],.box b29 28 [vI 0,vN]]) rfl els49 nd50 (by decide) rfl;have h58:=ns60.rsl;obtain ⟨H61,S62,i63,at64⟩:=S56.sealBox (i:=0) (l':=[.box b29 28 [vI 0,vN]]) rfl rfl;refine FL.nil<|FW.sr<|FL.v (E.load rfl (zap isAgg28 sizeOf28 (at64.now S62.sl) rfl)) ?_;obtain ⟨w65,run66,S67⟩:=S62.s0 0 [vI a0.vars,v46] (l':=[.box b29 28 [vI a0.vars,v46]]) sizeOf28 (oC rfl (oC h58.one zad));refine FL.act rfl rfl (E.store rfl rfl run66) ?_;obtain ⟨H68,S69,i70,at71⟩:=S67.sealBox (i:=0) (l':=[]) rfl rfl;refine FL.nil (FW.ret ?_);cases hp;exact ⟨.inr rfl,resC rfl rfl (loadVar_A isAgg28 sizeOf28 (at71.now S69.sl) rfl) ⟨_,_,rfl,S69.run,⟨_,(ns60.mono (zae (i63.tr i70)))⟩⟩⟩

theorem zcj {Ha:GH} {wa:World} (hs:Sl Ha wa) (a0:Int) (a1:Int) (a2:Int) :
  Calls prog 21 #[vI a0,vI a1,vI a2] wa (Sc Ha wa (vB (PF.zay a0 a1 a2))):=by
 obtain ⟨r,hp⟩:∃ r,(PF.zay a0 a1 a2)=r:=⟨_,rfl⟩;rw [hp];unfold PF.zay at hp;have S0:=St.init hs;refine zag (N:=15) (args:=[vI a0,vI a1,vI a2]) func21 rfl rfl rfl ?_;refine FW.sr<|FL.as (v:=vB false) rfl<|FL.nil<|FW.sr<|FL.mv (v:=vI a0) rfl<|FL.mv (v:=vI a1) rfl<|FL.v (E.geq rfl rfl) ?_;refine FL.mv (v:=vB (decide (a1≤a0))) rfl ?_;refine FL.cut 4 (fun f w=>∃ H:GH,St Ha wa H w []∧Inc Ha H∧f 14=vB (bif (decide (a1≤a0)) then (decide (a0≤a2)) else false)) ?_ ?_
 ·
  rcases bcase (decide (a1≤a0)) with c27|c27
  ·
   refine FL.y (wY c27) (E.move (v:=vI a0) rfl) ?_;refine FL.y (wY c27) (E.move (v:=vI a2) rfl) ?_;refine FL.y (wY c27) (E.leq rfl rfl) ?_;refine FL.v (E.pickT rfl c27 rfl) ?_;exact FL.nil ⟨rfl,_,S0,I0,(congrArg vB (bifT c27).symm)⟩
  ·
   refine FL.n c27<|FL.n c27<|FL.n c27<|FL.v (E.pickF rfl c27 rfl) ?_;exact FL.nil ⟨rfl,_,S0,I0,(congrArg vB (bifF c27).symm)⟩
 rintro f26 w25 ⟨H22,S23,i24,k28⟩;refine FL.as k28 ?_;refine FL.nil (FW.ret ?_);obtain rfl:=hp;exact ⟨.inr rfl,res1 rfl rfl ⟨rfl,S23.back⟩⟩

theorem w_spec_l2Vars {Ha:GH} {wa:World} (hs:Sl Ha wa) (a0:Int) :
  Calls prog 98 #[vI a0] wa (Sc Ha wa (vB (PF.zbF a0))):=by
 obtain ⟨r,hp⟩:∃ r,(PF.zbF a0)=r:=⟨_,rfl⟩;rw [hp];unfold PF.zbF at hp;have S0:=St.init hs;refine zag (N:=5) (args:=[vI a0]) func98 rfl rfl rfl ?_;refine FW.sr<|FL.as (v:=vB false) rfl<|FL.nil<|FW.sr<|FL.mv (v:=vI a0) rfl ?_;refine FL.c (E.call call21 (A3 rfl rfl rfl)) (zcj S0.sl a0 0 12) ?_;rintro e w21 ⟨rfl,r22⟩;refine ⟨_,rfl,?_⟩;have S23:=S0.call r22;refine FL.as (v:=vB (PF.zay a0 0 12)) rfl<|FL.nil (FW.ret ?_);obtain rfl:=hp;exact ⟨.inr rfl,res1 rfl rfl ⟨rfl,S23.back⟩⟩

theorem w_spec_l2Lit {Ha:GH} {wa:World} (hs:Sl Ha wa) (a0:Int) (a1:Int) :
  Calls prog 123 #[vI a0,vI a1] wa (Sc Ha wa (vB (PF.zbU a0 a1))):=by
 obtain ⟨r,hp⟩:∃ r,(PF.zbU a0 a1)=r:=⟨_,rfl⟩;rw [hp];unfold PF.zbU at hp;have S0:=St.init hs;refine zag (N:=14) (args:=[vI a0,vI a1]) func123 rfl rfl rfl ?_;refine FW.sr<|FL.as (v:=vB false) rfl<|FL.nil<|FW.sr<|FL.mv (v:=vI a1) rfl<|FL.mv (v:=vI a0) rfl<|FL.v (E.neg rfl) ?_;refine FL.mv (v:=vI a0) rfl ?_;refine FL.c (E.call call21 (A3 rfl rfl rfl)) (zcj S0.sl a1 (wr (-a0)) a0) ?_;rintro e w21 ⟨rfl,r22⟩;refine ⟨_,rfl,?_⟩;have S23:=S0.call r22;refine FL.mv (v:=vB (PF.zay a1 (wr (-a0)) a0)) rfl ?_;refine FL.cut 3 (fun f w=>∃ H:GH,St Ha wa H w []∧Inc Ha H∧f 13=vB (bif (PF.zay a1 (wr (-a0)) a0) then (!(a1 == 0)) else false)) ?_ ?_
 ·
  rcases bcase (PF.zay a1 (wr (-a0)) a0) with c30|c30
  ·
   refine FL.y (wY c30) (E.move (v:=vI a1) rfl) ?_;refine FL.y (wY c30) (E.neq rfl rfl) ?_;refine FL.v (E.pickT rfl c30 rfl) ?_;exact FL.nil ⟨rfl,_,S23,I0,(congrArg vB (bifT c30).symm)⟩
  ·
   refine FL.n c30<|FL.n c30<|FL.v (E.pickF rfl c30 rfl) ?_;exact FL.nil ⟨rfl,_,S23,I0,(congrArg vB (bifF c30).symm)⟩
 rintro f29 w28 ⟨H25,S26,i27,k31⟩;refine FL.as k31 ?_;refine FL.nil (FW.ret ?_);obtain rfl:=hp;exact ⟨.inr rfl,res1 rfl rfl ⟨rfl,S26.back⟩⟩

theorem zdv {Ha:GH} {wa:World} (hs:Sl Ha wa) (a0:Int) :
  Calls prog 122 #[vI a0] wa (Sc Ha wa (vI (PF.zbG a0))):=by
 obtain ⟨r,hp⟩:∃ r,(PF.zbG a0)=r:=⟨_,rfl⟩;rw [hp];unfold PF.zbG at hp;have S0:=St.init hs;refine zag (N:=8) (args:=[vI a0]) func122 rfl rfl rfl ?_;refine FW.sr<|FL.as (v:=vI 0) rfl<|FL.nil (FW.seq (FW.sr ?_));refine FL.mv (v:=vI a0) rfl<|FL.v (E.lss rfl rfl) ?_;refine FL.nil ?_;rcases ifT hp with ⟨c21,hp⟩|⟨c21,hp⟩
 ·
  refine FW.condT rfl c21 ?_;refine FW.sr<|FL.mv (v:=vI a0) rfl<|FL.v (E.neg rfl) ?_;refine FL.as (v:=vI (wr (-a0))) rfl<|FL.nil (FW.ret ?_);obtain rfl:=hp;exact ⟨.inr rfl,res1 rfl rfl ⟨rfl,S0.back⟩⟩
 ·
  refine FW.condF rfl c21 ?_;refine FW.skip<|FW.sr<|FL.mv (v:=vI a0) rfl<|FL.as (v:=vI a0) rfl<|FL.nil (FW.ret ?_);obtain rfl:=hp;exact ⟨.inr rfl,res1 rfl rfl ⟨rfl,S0.back⟩⟩

set_option maxHeartbeats 4000000 in
theorem w_spec_l2Clause {Ha:GH} {wa:World} (hs:Sl Ha wa) (a0:Int) (v1:Value) (a1:List Int) (p1:RSl Ha eI 1 v1 a1) {r:Bool} (hp:(PF.zc1 a0 a1)=some r) :
  Calls prog 99 #[vI a0,v1] wa (Sc Ha wa (vB r)):=by
 unfold PF.zc1 at hp;have S0:=St.init hs;refine zag (N:=40) (args:=[vI a0,v1]) func99 rfl rfl rfl ?_;refine FW.sr<|FL.as (v:=vB false) rfl<|FL.nil (FW.seq (FW.sr ?_));refine FL.mv (v:=vI a0) rfl ?_;refine FL.c (E.call call98 (A1 rfl)) (w_spec_l2Vars S0.sl a0) ?_;rintro e w21 ⟨rfl,r22⟩;refine ⟨_,rfl,?_⟩;have S23:=S0.call r22;refine FL.v (E.not rfl) ?_;refine FL.nil ?_;rcases ifB hp with ⟨c24,hp⟩|⟨c24,hp⟩
 ·
  refine FW.condT rfl c24 ?_;refine FW.sr<|FL.as (v:=vB false) rfl<|FL.nil (FW.ret ?_);cases hp;exact ⟨.inr rfl,res1 rfl rfl ⟨rfl,S23.back⟩⟩
 ·
  refine FW.condF rfl c24 ?_;refine FW.skip (FW.seq (FW.sr ?_));refine FL.as (v:=vI 0) rfl<|FL.nil ?_;obtain ⟨q26,hq,hp⟩:=bndR hp;refine FW.block ?_;refine FW.mono (FW.forL (S:=Unit) (X:=Bool) (fun (i26:Nat) (s26:Unit) f w=>∃ H:GH,St Ha wa H w []∧Inc Ha H∧f 5=vI ((i26:Nat):Int)∧f 0=vI a0∧f 1=v1) (fun q e f w=>match q with|.go s26=>e=Exit.exit 0∧(∃ H:GH,St Ha wa H w []∧Inc Ha H)|.rt x=>((e=Exit.ret)∧(fun e f w=>(e=Exit.normal∨e=Exit.ret)∧∀ a,Fr (δ:=[]) 40 a f→∃ v,(results Tryz.f99 a.tmps).run prog w=.ok v w∧(Sc Ha wa (vB x)) (.returned v) w) e f w)) hq ⟨_,S23,I0,rfl,rfl,rfl⟩ ?_ ?_) ?_
  ·
   clear hp hq;rintro i26 y25 s26 fAF wAE ⟨HAB,SAC,iAD,kAG,kAH,kAI⟩ hx26 oCn hp;refine FW.seq<|FW.sr<|FL.mv kAG<|FL.mv kAI<|FL.v (E.lenP te45 rfl p1) ?_;refine FL.v (E.lssT rfl rfl (zan hx26)) ?_;refine FL.nil<|FW.condT rfl rfl ?_;refine FW.skip (FW.seq (FW.block (FW.seq ?_)));refine FW.draw (fun w'=>Run wAE.heap.size HAB wAE HAB w') (by kernel_rfl) (by kernel_rfl) (zaI SAC.sl) ?_;refine FD.v (fun _ z=>(E.move kAH)) ?_;refine FD.v (fun _ z=>(E.move kAI)) ?_;refine FD.v (fun _ z=>(E.move kAG)) ?_;obtain ⟨pAK,csAL,ptAM,lAN,atAO,relAP⟩:=p1.at (zai hx26);obtain rfl:=eI_open relAP;refine FD.v (fun _ z=>(E.indexAddr te45 rfl rfl ptAM)) ?_;refine FD.v (fun _ z=>(E.load rfl (zac isAgg3 ((atAO.mono iAD).now (SAC.call z).sl) rfl))) ?_;refine FD.call rfl rfl rfl (fun _ z=>(E.call call123 (A2 rfl rfl))) (fun _ z=>Calls.cls z (w_spec_l2Lit (SAC.call z).sl a0 y25)) ?_;refine FD.v (fun _ z=>(E.not rfl)) ?_;refine FD.v (fun _ z=>(E.move (v:=vB (!(PF.zbU a0 y25))) rfl)) ?_;obtain ⟨t192,hqtBu,hp⟩:=bnd hp;refine FD.cut 17 (fun f=>f 0=vI a0∧f 1=v1∧f 5=vI ((i26:Nat):Int)∧f 39=vB t192) ?_ ?_
   ·
    clear hp;have hp:=hqtBu;clear hqtBu;rcases ifB hp with ⟨cBA,hp⟩|⟨cBA,hp⟩
    ·
     refine FD.n cBA<|FD.n cBA<|FD.n cBA<|FD.skip (zax rfl rfl rfl) rfl ?_;refine FD.skip (zax rfl rfl rfl) rfl ?_;refine FD.skip (zax rfl rfl rfl) rfl ?_;refine FD.skip (zax rfl rfl rfl) rfl ?_;refine FD.skip (zax rfl rfl rfl) rfl ?_;refine FD.skip (zax rfl rfl rfl) rfl ?_;refine FD.skip (zax rfl rfl rfl) rfl ?_;refine FD.skip (zax rfl rfl rfl) rfl ?_;refine FD.skip (zax rfl rfl rfl) rfl ?_;refine FD.skip (zax rfl rfl rfl) rfl ?_;refine FD.skip (zax rfl rfl rfl) rfl ?_;refine FD.skip (zax rfl rfl rfl) rfl ?_;refine FD.n cBA ?_;cases hp;refine FD.v (fun _ z=>(E.pickT rfl cBA rfl)) ?_;exact FD.nil ⟨kAH,kAI,kAG,rfl⟩
    ·
     refine FD.y (wY cBA) (fun _ z=>(E.move kAG)) ?_;refine FD.y (wY cBA) (fun _ z=>(E.gtr rfl rfl)) ?_;refine FD.y (wY cBA) (fun _ z=>(E.move (v:=vB (decide (0 < ((i26:Nat):Int)))) rfl)) ?_;obtain ⟨t213,hqtBP,hp⟩:=bnd hp;refine FD.cut 13 (fun f=>f 0=vI a0∧f 1=v1∧f 5=vI ((i26:Nat):Int)∧f 22=vB (!(PF.zbU a0 y25))∧f 38=vB t213) ?_ ?_
     ·
      clear hp;have hp:=hqtBP;clear hqtBP;rcases ifB hp with ⟨cBV,hp⟩|⟨cBV,hp⟩
      ·
       refine FD.y (wY cBV) (fun _ z=>(E.move kAI)) ?_;refine FD.y (wY cBV) (fun _ z=>(E.move kAG)) ?_;refine FD.y (wY cBV) (fun _ z=>(E.sub rfl rfl)) ?_;obtain ⟨xC2,hxC3,hp⟩:=bnd hp;obtain ⟨pBW,csBX,ptBY,lBZ,atC0,relC1⟩:=p1.at hxC3;obtain rfl:=eI_open relC1;refine FD.y (wY cBV) (fun _ z=>(E.indexAddr te45 rfl rfl ptBY)) ?_;refine FD.y (wY cBV) (fun _ z=>(E.load rfl (zac isAgg3 ((atC0.mono iAD).now (SAC.call z).sl) rfl))) ?_;refine FD.call (wY cBV) rfl rfl (fun _ z=>(E.call call122 (A1 rfl))) (fun _ z=>Calls.cls z (zdv (SAC.call z).sl xC2)) ?_;refine FD.y (wY cBV) (fun _ z=>(E.move kAI)) ?_;refine FD.y (wY cBV) (fun _ z=>(E.move kAG)) ?_;obtain ⟨pC4,csC5,ptC6,lC7,atC8,relC9⟩:=p1.at (zai hx26);obtain rfl:=eI_open relC9;refine FD.y (wY cBV) (fun _ z=>(E.indexAddr te45 rfl rfl ptC6)) ?_;refine FD.y (wY cBV) (fun _ z=>(E.load rfl (zac isAgg3 ((atC8.mono iAD).now (SAC.call z).sl) rfl))) ?_;refine FD.call (wY cBV) rfl rfl (fun _ z=>(E.call call122 (A1 rfl))) (fun _ z=>Calls.cls z (zdv (SAC.call z).sl y25)) ?_;refine FD.y (wY cBV) (fun _ z=>(E.geq rfl rfl)) ?_;cases hp;refine FD.y (wY cBA) (fun _ z=>(E.pickT rfl cBV rfl)) ?_;exact FD.nil ⟨kAH,kAI,kAG,rfl,rfl⟩
      ·
       refine FD.n cBV<|FD.n cBV<|FD.n cBV<|FD.n cBV<|FD.n cBV<|FD.n cBV<|FD.n cBV<|FD.n cBV<|FD.n cBV ?_;refine FD.n cBV<|FD.n cBV<|FD.n cBV ?_;cases hp;refine FD.y (wY cBA) (fun _ z=>(E.pickF rfl cBV rfl)) ?_;exact FD.nil ⟨kAH,kAI,kAG,rfl,rfl⟩
     rintro fBU ⟨kCa,kCb,kCc,kCd,kCe⟩;cases hp;refine FD.v (fun _ z=>(E.pickF kCd cBA kCe)) ?_;exact FD.nil ⟨kCa,kCb,kCc,rfl⟩
   rintro fBz ⟨kCf,kCg,kCh,kCi⟩;refine FD.nil ?_;intro wCj rCl;have SCk:=SAC.call rCl;rcases ifB hp with ⟨cCm,hp⟩|⟨cCm,hp⟩
   ·
    refine FW.condT kCi cCm ?_;refine FW.sr<|FL.as (v:=vB false) rfl<|FL.nil (FW.ret ?_);cases hp;exact ⟨nofun,rfl,⟨.inr rfl,res1 rfl rfl ⟨rfl,SCk.back⟩⟩⟩
   ·
    refine FW.condF kCi cCm ?_;refine FW.skip<|FW.region<|FL.mv kCh<|FL.v (E.add rfl rfl) ?_;refine FL.as (v:=vI (wr (((i26:Nat):Int) + 1))) rfl<|FL.nil ?_;cases hp;exact ⟨rfl,⟨_,SCk,iAD,(zam rfl (zak hx26) (p1.mono iAD).le),kCf,kCg⟩⟩
  ·
   clear hp hq;rintro s26 fCx wCw ⟨HCt,SCu,iCv,kCy,kCz,kCA⟩;refine FW.seq<|FW.sr<|FL.mv kCy<|FL.mv kCA<|FL.v (E.lenP te45 rfl p1) ?_;refine FL.v (E.lss rfl rfl) ?_;refine FL.nil<|FW.condF rfl zao ?_;refine FW.exit ?_;exact ⟨nofun,rfl,⟨_,SCu,iCv⟩⟩
  ·
   clear hq;intro e fCs wCr hD;rcases q26 with s26|x26
   ·
    obtain ⟨rfl,hD⟩:=hD;obtain ⟨HCo,SCp,iCq⟩:=hD;replace hp:=el_go hp;refine FW.sr<|FL.as (v:=vB true) rfl<|FL.nil (FW.ret ?_);cases hp;exact ⟨.inr rfl,res1 rfl rfl ⟨rfl,SCp.back⟩⟩
   ·
    obtain ⟨he,hL⟩:=hD;replace hp:=el_rt hp;cases hp;subst he;exact hL

set_option maxHeartbeats 4000000 in
theorem w_spec_l2Good {Ha:GH} {wa:World} (hs:Sl Ha wa) (a0:Cnf) (v0_1:Value) (p0_1:RSl Ha (eL eI 1) 1 v0_1 a0.clauses) {r:Bool} (hp:(PF.zc2 a0)=some r) :
  Calls prog 65 #[vA #[vI a0.vars,v0_1]] wa (Sc Ha wa (vB r)):=by
 unfold PF.zc2 at hp;have S0:=St.init hs;refine zag (N:=30) (args:=[vA #[vI a0.vars,v0_1]]) func65 rfl rfl rfl ?_;refine FW.sr ?_;obtain ⟨b21,w22,run23,S24⟩:=S0.box (P:=prog) 28 [vI a0.vars,v0_1] (v:=vA #[vI a0.vars,v0_1]) rfl (oC rfl (oC p0_1.one zad));refine FL.v (E.box rfl run23) ?_;obtain ⟨H25,S26,i27,at28⟩:=S24.sealBox (i:=0) (l':=[]) rfl rfl;refine FL.as (v:=vB false) rfl<|FL.nil (FW.seq (FW.sr ?_));refine FL.v (E.fieldAddr zaO rfl) ?_;refine FL.v (E.load rfl (zaf isAgg3 (at28.now S26.sl) rfl)) ?_;refine FL.c (E.call call98 (A1 rfl)) (w_spec_l2Vars S26.sl a0.vars) ?_;rintro e w29 ⟨rfl,r30⟩;refine ⟨_,rfl,?_⟩;have S31:=S26.call r30;refine FL.v (E.not rfl) ?_;refine FL.mv (v:=vB (!(PF.zbF a0.vars))) rfl ?_;refine FL.cut 5 (fun f w=>∃ H:GH,St Ha wa H w []∧Inc H25 H∧f 1=vK b21∧f 13=vB (bif (!(PF.zbF a0.vars)) then true else (decide (60 < (len a0.clauses))))) ?_ ?_
 ·
  rcases bcase (!(PF.zbF a0.vars)) with c38|c38
  ·
   refine FL.n c38<|FL.n c38<|FL.n c38<|FL.n c38<|FL.v (E.pickT rfl c38 rfl) ?_;exact FL.nil ⟨rfl,_,S31,I0,rfl,(congrArg vB (bifT c38).symm)⟩
  ·
   refine FL.y (wY c38) (E.fieldAddr zaz rfl) ?_;refine FL.y (wY c38) (E.load rfl (zaf isAgg22 (at28.now S31.sl) rfl)) ?_;refine FL.y (wY c38) (E.lenP te22 rfl p0_1) ?_;refine FL.y (wY c38) (E.gtr rfl rfl) ?_;refine FL.v (E.pickF rfl c38 rfl) ?_;exact FL.nil ⟨rfl,_,S31,I0,rfl,(congrArg vB (bifF c38).symm)⟩
 rintro f37 w36 ⟨H33,S34,i35,k39,k40⟩;refine FL.nil ?_;rcases ifB hp with ⟨c41,hp⟩|⟨c41,hp⟩
 ·
  refine FW.condT k40 c41 ?_;refine FW.sr<|FL.as (v:=vB false) rfl<|FL.nil (FW.ret ?_);cases hp;exact ⟨.inr rfl,res1 rfl rfl ⟨rfl,S34.back⟩⟩
 ·
  refine FW.condF k40 c41 ?_;refine FW.skip (FW.seq (FW.sr ?_));refine FL.as (v:=vI 0) rfl<|FL.nil ?_;obtain ⟨q42,hq,hp⟩:=bndR hp;refine FW.block ?_;refine FW.mono (FW.iter (S:=Int) (X:=Bool) (fun (s42:Int) f w=>∃ H:GH,St Ha wa H w []∧Inc H33 H∧f 1=vK b21∧f 3=vI s42) (fun q e f w=>match q with|.go s42=>e=Exit.exit 0∧(∃ H:GH,St Ha wa H w []∧Inc H33 H)|.rt x=>((e=Exit.ret)∧(fun e f w=>(e=Exit.normal∨e=Exit.ret)∧∀ a,Fr (δ:=[]) 30 a f→∃ v,(results Tryz.f65 a.tmps).run prog w=.ok v w∧(Sc Ha wa (vB x)) (.returned v) w) e f w)) hq ⟨_,S34,I0,k39,rfl⟩ ?_) ?_
  ·
   clear hp hq;rintro s42 f72 w71 ⟨H68,S69,i70,k73,k74⟩ o93 hp;refine FW.seq<|FW.sr<|FL.mv k74<|FL.v (E.fieldAddr zaz k73) ?_;refine FL.v (E.load rfl (zaf isAgg22 ((at28.mono (i35.tr i70)).now S69.sl) rfl)) ?_;refine FL.v (E.lenP te22 rfl p0_1) ?_;refine FL.v (E.lss rfl rfl) ?_;refine FL.nil ?_;rcases ifB hp with ⟨c75,hp⟩|⟨c75,hp⟩
   ·
    refine FW.condT rfl c75 ?_;refine FW.skip (FW.seq (FW.block (FW.seq ?_)));refine FW.draw (fun w'=>Run w71.heap.size H68 w71 H68 w') (by kernel_rfl) (by kernel_rfl) (zaI S69.sl) ?_;refine FD.v (fun _ z=>(E.fieldAddr zaO k73)) ?_;refine FD.v (fun _ z=>(E.load rfl (zaf isAgg3 ((at28.mono (i35.tr i70)).now (S69.call z).sl) rfl))) ?_;refine FD.v (fun _ z=>(E.fieldAddr zaz k73)) ?_;refine FD.v (fun _ z=>(E.load rfl (zaf isAgg22 ((at28.mono (i35.tr i70)).now (S69.call z).sl) rfl))) ?_;refine FD.v (fun _ z=>(E.move k74)) ?_;obtain ⟨x83,hx84,hp⟩:=bnd hp;obtain ⟨p77,cs78,pt79,l80,at81,rel82⟩:=p0_1.at hx84;obtain ⟨v85,rfl,h86⟩:=eL_open rel82;refine FD.v (fun _ z=>(E.indexAddr te22 rfl rfl pt79)) ?_;refine FD.v (fun _ z=>(E.load rfl (zac isAgg45 ((at81.mono ((i27.tr i35).tr i70)).now (S69.call z).sl) rfl))) ?_;obtain ⟨r87,hr88,hp⟩:=bnd hp;refine FD.call rfl rfl rfl (fun _ z=>(E.call call99 (A2 rfl rfl))) (fun _ z=>Calls.cls z (w_spec_l2Clause (S69.call z).sl a0.vars v85 x83 (h86.mono ((i27.tr i35).tr i70)) hr88)) ?_;refine FD.v (fun _ z=>(E.not rfl)) ?_;refine FD.nil ?_;intro w89 r91;have S90:=S69.call r91;rcases ifB hp with ⟨c92,hp⟩|⟨c92,hp⟩
    ·
     refine FW.condT rfl c92 ?_;refine FW.sr<|FL.as (v:=vB false) rfl<|FL.nil (FW.ret ?_);cases hp;exact ⟨nofun,rfl,⟨.inr rfl,res1 rfl rfl ⟨rfl,S90.back⟩⟩⟩
    ·
     refine FW.condF rfl c92 ?_;refine FW.skip<|FW.region<|FL.mv k74<|FL.v (E.add rfl rfl) ?_;refine FL.as (v:=vI (wr (s42 + 1))) rfl<|FL.nil ?_;cases hp;exact ⟨rfl,⟨_,S90,i70,k73,rfl⟩⟩
   ·
    refine FW.condF rfl c75 ?_;refine FW.exit ?_;cases hp;exact ⟨nofun,rfl,⟨_,S69,i70⟩⟩
  ·
   clear hq;intro e f98 w97 hD;rcases q42 with s42|x42
   ·
    obtain ⟨rfl,hD⟩:=hD;obtain ⟨H94,S95,i96⟩:=hD;replace hp:=el_go hp;refine FW.sr<|FL.as (v:=vB true) rfl<|FL.nil (FW.ret ?_);cases hp;exact ⟨.inr rfl,res1 rfl rfl ⟨rfl,S95.back⟩⟩
   ·
    obtain ⟨he,hL⟩:=hD;replace hp:=el_rt hp;cases hp;subst he;exact hL

theorem w_spec_l10Good {Ha:GH} {wa:World} (hs:Sl Ha wa) (a0:Cnf) (v0_1:Value) (p0_1:RSl Ha (eL eI 1) 1 v0_1 a0.clauses) {r:Bool} (hp:(PF.zc3 a0)=some r) :
  Calls prog 42 #[vA #[vI a0.vars,v0_1]] wa (Sc Ha wa (vB r)):=by
 unfold PF.zc3 at hp;have S0:=St.init hs;refine zag (N:=10) (args:=[vA #[vI a0.vars,v0_1]]) func42 rfl rfl rfl ?_;refine FW.sr ?_;obtain ⟨b21,w22,run23,S24⟩:=S0.box (P:=prog) 28 [vI a0.vars,v0_1] (v:=vA #[vI a0.vars,v0_1]) rfl (oC rfl (oC p0_1.one zad));refine FL.v (E.box rfl run23) ?_;obtain ⟨H25,S26,i27,at28⟩:=S24.sealBox (i:=0) (l':=[]) rfl rfl;refine FL.as (v:=vB false) rfl<|FL.nil<|FW.sr<|FL.v (E.fieldAddr zaO rfl) ?_;refine FL.v (E.load rfl (zaf isAgg3 (at28.now S26.sl) rfl)) ?_;refine FL.v (E.leq rfl rfl) ?_;refine FL.mv (v:=vB (decide (a0.vars≤6))) rfl ?_;obtain ⟨t34,hqt34,hp⟩:=bnd hp;refine FL.cut 3 (fun f w=>∃ H:GH,St Ha wa H w []∧Inc H25 H∧f 9=vB t34) ?_ ?_
 ·
  clear hp;have hp:=hqt34;clear hqt34;rcases ifB hp with ⟨c40,hp⟩|⟨c40,hp⟩
  ·
   refine FL.y (wY c40) (E.load rfl (zap isAgg28 sizeOf28 (at28.now S26.sl) rfl)) ?_;obtain ⟨r41,hr42,hp⟩:=bnd hp;refine FL.call (wY c40) rfl rfl (E.call call65 (A1 rfl)) (w_spec_l2Good S26.sl a0 v0_1 (p0_1.mono i27) hr42) ?_;rintro e w43 ⟨rfl,r44⟩;refine ⟨_,rfl,?_⟩;have S45:=S26.call r44;cases hp;refine FL.v (E.pickT rfl c40 rfl) ?_;exact FL.nil ⟨rfl,_,S45,I0,rfl⟩
  ·
   refine FL.n c40<|FL.n c40 ?_;cases hp;refine FL.v (E.pickF rfl c40 rfl) ?_;exact FL.nil ⟨rfl,_,S26,I0,rfl⟩
 rintro f39 w38 ⟨H35,S36,i37,k46⟩;refine FL.as k46 ?_;refine FL.nil (FW.ret ?_);cases hp;exact ⟨.inr rfl,res1 rfl rfl ⟨rfl,S36.back⟩⟩

@[reducible] def p_spec_l1Own (Ha:GH) (wa:World) (r:(List Int)):Ending→World→Prop :=
 fun e w'=>∃ H':GH,∃ v0:Value,∃ n0:Nat,∃ c0:List Value,e=.returned (v0)∧St Ha wa H' w' [.row 3 1 v0 n0 c0]∧Els (up wa.heap.size H') eI 1 c0 r
theorem za2 {Ha:GH} {wa:World} (hs:Sl Ha wa) (v0:Value) (a0:List Int) (p0:RSl Ha eI 1 v0 a0) {r:(List Int)} (hp:(PF.zbl a0)=some r) :
  Calls prog 66 #[v0] wa (p_spec_l1Own Ha wa r):=by
 unfold PF.zbl at hp;have S0:=St.init hs;refine zag (N:=6) (args:=[v0]) func66 rfl rfl rfl ?_;refine FW.sr<|FL.as (v:=vN) rfl<|FL.nil<|FW.sr ?_;obtain ⟨v21,w22,run23,S24⟩:=S0.b0 te45;have els25:Els (up wa.heap.size Ha) eI 1 [] []:=Els.nil;refine FL.v (E.buildSlice (B0) run23) ?_;refine FL.mv (v:=v0) rfl ?_;obtain ⟨xs26,hz27,hp⟩:=bnd hp;obtain ⟨v28,w31,n29,cs30,run32,S33,els34⟩:=S24.appendP (P:=prog) I0 te45 (i:=0) rfl (els25.mono upI) p0 hz27;have els34:Els (up wa.heap.size Ha) eI 1 cs30 xs26:=els34.any (fun _ _ _ _ h=>h);refine FL.v (E.append rfl rfl run32) ?_;refine FL.as (v:=v28) rfl<|FL.nil (FW.ret ?_);cases hp;exact ⟨.inr rfl,res1 rfl rfl ⟨_,_,_,_,rfl,S33,els34⟩⟩

theorem w_spec_l2Key {Ha:GH} {wa:World} (hs:Sl Ha wa) (a0:Int) :
  Calls prog 138 #[vI a0] wa (Sc Ha wa (vI (PF.zaM a0))):=by
 obtain ⟨r,hp⟩:∃ r,(PF.zaM a0)=r:=⟨_,rfl⟩;rw [hp];unfold PF.zaM at hp;have S0:=St.init hs;refine zag (N:=10) (args:=[vI a0]) func138 rfl rfl rfl ?_;refine FW.sr<|FL.as (v:=vI 0) rfl<|FL.nil (FW.seq (FW.sr ?_));refine FL.mv (v:=vI a0) rfl<|FL.v (E.lss rfl rfl) ?_;refine FL.nil ?_;rcases ifT hp with ⟨c21,hp⟩|⟨c21,hp⟩
 ·
  refine FW.condT rfl c21 ?_;refine FW.sr<|FL.mv (v:=vI a0) rfl<|FL.v (E.mul rfl rfl) ?_;refine FL.v (E.add rfl rfl) ?_;refine FL.as (v:=vI (wr ((wr ((-2) * a0)) + 1))) rfl<|FL.nil (FW.ret ?_);obtain rfl:=hp;exact ⟨.inr rfl,res1 rfl rfl ⟨rfl,S0.back⟩⟩
 ·
  refine FW.condF rfl c21 ?_;refine FW.skip<|FW.sr<|FL.mv (v:=vI a0) rfl<|FL.v (E.mul rfl rfl) ?_;refine FL.as (v:=vI (wr (2 * a0))) rfl<|FL.nil (FW.ret ?_);obtain rfl:=hp;exact ⟨.inr rfl,res1 rfl rfl ⟨rfl,S0.back⟩⟩

set_option maxHeartbeats 4000000 in
theorem zew {Ha:GH} {wa:World} (hs:Sl Ha wa) (v0:Value) (a0:List Int) (p0:RSl Ha eI 1 v0 a0) (v1:Value) (a1:List Int) (p1:RSl Ha eI 1 v1 a1) {r:Bool} (hp:(PF.zcu a0 a1)=some r) :
  Calls prog 119 #[v0,v1] wa (Sc Ha wa (vB r)):=by
 unfold PF.zcu at hp;have S0:=St.init hs;refine zag (N:=42) (args:=[v0,v1]) func119 rfl rfl rfl ?_;refine FW.sr<|FL.as (v:=vB false) rfl<|FL.nil (FW.seq (FW.sr ?_));refine FL.mv (v:=v0) rfl<|FL.v (E.lenP te45 rfl p0) ?_;refine FL.mv (v:=v1) rfl<|FL.v (E.lenP te45 rfl p1) ?_;refine FL.v (E.neq rfl rfl) ?_;refine FL.nil ?_;rcases ifB hp with ⟨c21,hp⟩|⟨c21,hp⟩
 ·
  refine FW.condT rfl c21 ?_;refine FW.sr<|FL.mv (v:=v0) rfl<|FL.v (E.lenP te45 rfl p0) ?_;refine FL.mv (v:=v1) rfl<|FL.v (E.lenP te45 rfl p1) ?_;refine FL.v (E.lss rfl rfl) ?_;refine FL.as (v:=vB (decide ((len a0) < (len a1)))) rfl<|FL.nil (FW.ret ?_);cases hp;exact ⟨.inr rfl,res1 rfl rfl ⟨rfl,S0.back⟩⟩
 ·
  refine FW.condF rfl c21 ?_;refine FW.skip (FW.seq (FW.sr ?_));refine FL.as (v:=vI 0) rfl<|FL.nil ?_;obtain ⟨q23,hq,hp⟩:=bndR hp;refine FW.block ?_;refine FW.mono (FW.forL (S:=Unit) (X:=Bool) (fun (i23:Nat) (s23:Unit) f w=>∃ H:GH,St Ha wa H w []∧Inc Ha H∧f 5=vI ((i23:Nat):Int)∧f 0=v0∧f 1=v1) (fun q e f w=>match q with|.go s23=>e=Exit.exit 0∧(∃ H:GH,St Ha wa H w []∧Inc Ha H)|.rt x=>((e=Exit.ret)∧(fun e f w=>(e=Exit.normal∨e=Exit.ret)∧∀ a,Fr (δ:=[]) 42 a f→∃ v,(results Tryz.f119 a.tmps).run prog w=.ok v w∧(Sc Ha wa (vB x)) (.returned v) w) e f w)) hq ⟨_,S0,I0,rfl,rfl,rfl⟩ ?_ ?_) ?_
  ·
   clear hp hq;rintro i23 y22 s23 f73 w72 ⟨H69,S70,i71,k74,k75,k76⟩ hx23 oAe hp;refine FW.seq<|FW.sr<|FL.mv k74<|FL.mv k75<|FL.v (E.lenP te45 rfl p0) ?_;refine FL.v (E.lssT rfl rfl (zan hx23)) ?_;refine FL.nil<|FW.condT rfl rfl ?_;refine FW.skip (FW.seq (FW.block (FW.seq ?_)));refine FW.draw (fun w'=>Run w72.heap.size H69 w72 H69 w') (by kernel_rfl) (by kernel_rfl) (zaI S70.sl) ?_;refine FD.v (fun _ z=>(E.move k75)) ?_;refine FD.v (fun _ z=>(E.move k74)) ?_;obtain ⟨p78,cs79,pt80,l81,at82,rel83⟩:=p0.at (zai hx23);obtain rfl:=eI_open rel83;refine FD.v (fun _ z=>(E.indexAddr te45 rfl rfl pt80)) ?_;refine FD.v (fun _ z=>(E.load rfl (zac isAgg3 ((at82.mono i71).now (S70.call z).sl) rfl))) ?_;refine FD.v (fun _ z=>(E.move k76)) ?_;refine FD.v (fun _ z=>(E.move k74)) ?_;obtain ⟨x90,hx91,hp⟩:=bnd hp;obtain ⟨p84,cs85,pt86,l87,at88,rel89⟩:=p1.at hx91;obtain rfl:=eI_open rel89;refine FD.v (fun _ z=>(E.indexAddr te45 rfl rfl pt86)) ?_;refine FD.v (fun _ z=>(E.load rfl (zac isAgg3 ((at88.mono i71).now (S70.call z).sl) rfl))) ?_;refine FD.v (fun _ z=>(E.neq rfl rfl)) ?_;refine FD.nil ?_;intro w92 r94;have S93:=S70.call r94;rcases ifB hp with ⟨c95,hp⟩|⟨c95,hp⟩
   ·
    refine FW.condT rfl c95 ?_;refine FW.seq ?_;refine FW.draw (fun w'=>Run w92.heap.size H69 w92 H69 w') (by kernel_rfl) (by kernel_rfl) (zaI S93.sl) ?_;refine FD.v (fun _ z=>(E.move k75)) ?_;refine FD.v (fun _ z=>(E.move k74)) ?_;obtain ⟨p97,cs98,pt99,lA0,atA1,relA2⟩:=p0.at (zai hx23);obtain rfl:=eI_open relA2;refine FD.v (fun _ z=>(E.indexAddr te45 rfl rfl pt99)) ?_;refine FD.v (fun _ z=>(E.load rfl (zac isAgg3 ((atA1.mono i71).now (S93.call z).sl) rfl))) ?_;refine FD.call rfl rfl rfl (fun _ z=>(E.call call138 (A1 rfl))) (fun _ z=>Calls.cls z (w_spec_l2Key (S93.call z).sl y22)) ?_;refine FD.v (fun _ z=>(E.move k76)) ?_;refine FD.v (fun _ z=>(E.move k74)) ?_;obtain ⟨xA9,hxAa,hp⟩:=bnd hp;obtain ⟨pA3,csA4,ptA5,lA6,atA7,relA8⟩:=p1.at hxAa;obtain rfl:=eI_open relA8;refine FD.v (fun _ z=>(E.indexAddr te45 rfl rfl ptA5)) ?_;refine FD.v (fun _ z=>(E.load rfl (zac isAgg3 ((atA7.mono i71).now (S93.call z).sl) rfl))) ?_;refine FD.call rfl rfl rfl (fun _ z=>(E.call call138 (A1 rfl))) (fun _ z=>Calls.cls z (w_spec_l2Key (S93.call z).sl xA9)) ?_;refine FD.v (fun _ z=>(E.lss rfl rfl)) ?_;refine FD.v (fun _ z=>(E.assign (v:=vB (decide ((PF.zaM y22) < (PF.zaM xA9)))) rfl)) ?_;refine FD.nil ?_;intro wAb rAd;have SAc:=S93.call rAd;refine FW.ret ?_;cases hp;exact ⟨nofun,rfl,⟨.inr rfl,res1 rfl rfl ⟨rfl,SAc.back⟩⟩⟩
   ·
    refine FW.condF rfl c95 ?_;refine FW.skip<|FW.region<|FL.mv k74<|FL.v (E.add rfl rfl) ?_;refine FL.as (v:=vI (wr (((i23:Nat):Int) + 1))) rfl<|FL.nil ?_;cases hp;exact ⟨rfl,⟨_,S93,i71,(zam rfl (zak hx23) (p0.mono i71).le),k75,k76⟩⟩
  ·
   clear hp hq;rintro s23 fAo wAn ⟨HAk,SAl,iAm,kAp,kAq,kAr⟩;refine FW.seq<|FW.sr<|FL.mv kAp<|FL.mv kAq<|FL.v (E.lenP te45 rfl p0) ?_;refine FL.v (E.lss rfl rfl) ?_;refine FL.nil<|FW.condF rfl zao ?_;refine FW.exit ?_;exact ⟨nofun,rfl,⟨_,SAl,iAm⟩⟩
  ·
   clear hq;intro e fAj wAi hD;rcases q23 with s23|x23
   ·
    obtain ⟨rfl,hD⟩:=hD;obtain ⟨HAf,SAg,iAh⟩:=hD;replace hp:=el_go hp;refine FW.sr<|FL.as (v:=vB false) rfl<|FL.nil (FW.ret ?_);cases hp;exact ⟨.inr rfl,res1 rfl rfl ⟨rfl,SAg.back⟩⟩
   ·
    obtain ⟨he,hL⟩:=hD;replace hp:=el_rt hp;cases hp;subst he;exact hL

theorem zed {Ha:GH} {wa:World} (hs:Sl Ha wa) (v0:Value) (a0:List (List Int)) (p0:RSl Ha (eL eI 1) 1 v0 a0) (v1:Value) (a1:List Int) (p1:RSl Ha eI 1 v1 a1) {r:Int} (hp:(PF.zb8 a0 a1)=some r) :
  Calls prog 88 #[v0,v1] wa (Sc Ha wa (vI r)):=by
 unfold PF.zb8 at hp;have S0:=St.init hs;refine zag (N:=27) (args:=[v0,v1]) func88 rfl rfl rfl ?_;refine FW.sr<|FL.as (v:=vI 0) rfl<|FL.nil<|FW.sr<|FL.mv (v:=v0) rfl<|FL.v (E.lenP te22 rfl p0) ?_;refine FL.as (v:=vI 0) rfl<|FL.as (v:=vI (len a0)) rfl<|FL.nil<|FW.seq ?_;obtain ⟨q21,hq,hp⟩:=bndR hp;refine FW.block ?_;refine FW.mono (FW.iter (S:=(Int×Int)) (X:=Empty) (fun (s21:(Int×Int)) f w=>∃ H:GH,St Ha wa H w []∧Inc Ha H∧f 0=v0∧f 1=v1∧f 5=vI s21.1∧f 6=vI s21.2) (fun (q:Rs (Int×Int) Empty) e f w=>match q with|.go s21=>e=Exit.exit 0∧(∃ H:GH,St Ha wa H w []∧Inc Ha H∧f 5=vI s21.1)|.rt x=>x.elim) hq ⟨_,S0,I0,rfl,rfl,rfl,rfl⟩ ?_) ?_
 ·
  clear hp hq;rintro s21 f52 w51 ⟨H48,S49,i50,k53,k54,k55,k56⟩ o74 hp;refine FW.seq<|FW.sr<|FL.mv k55<|FL.mv k56<|FL.v (E.lss rfl rfl) ?_;refine FL.nil ?_;rcases ifB hp with ⟨c57,hp⟩|⟨c57,hp⟩
  ·
   refine FW.condT rfl c57 ?_;refine FW.skip (FW.block (FW.sr ?_));refine FL.mv k55<|FL.mv k56<|FL.v (E.add rfl rfl) ?_;refine FL.v (E.quo rfl rfl (by decide)) ?_;refine FL.as (v:=vI (wr ((wr (s21.1 + s21.2)).tdiv 2))) rfl<|FL.nil<|FW.sr<|FL.mv k53<|FL.mv (v:=vI (wr ((wr (s21.1 + s21.2)).tdiv 2))) rfl ?_;obtain ⟨x64,hx65,hp⟩:=bnd hp;obtain ⟨p58,cs59,pt60,l61,at62,rel63⟩:=p0.at hx65;obtain ⟨v66,rfl,h67⟩:=eL_open rel63;refine FL.v (E.indexAddr te22 rfl rfl pt60) ?_;refine FL.v (E.load rfl (zac isAgg45 ((at62.mono i50).now S49.sl) rfl)) ?_;refine FL.mv k54 ?_;obtain ⟨r68,hr69,hp⟩:=bnd hp;refine FL.c (E.call call119 (A2 rfl rfl)) (zew S49.sl v66 x64 (h67.mono i50) v1 a1 (p1.mono i50) hr69) ?_;rintro e w70 ⟨rfl,r71⟩;refine ⟨_,rfl,?_⟩;have S72:=S49.call r71;refine FL.nil ?_;rcases ifB hp with ⟨c73,hp⟩|⟨c73,hp⟩
   ·
    refine FW.condT rfl c73 ?_;refine FW.region<|FL.mv (v:=vI (wr ((wr (s21.1 + s21.2)).tdiv 2))) rfl<|FL.v (E.add rfl rfl) ?_;refine FL.as (v:=vI (wr ((wr ((wr (s21.1 + s21.2)).tdiv 2)) + 1))) rfl<|FL.nil ?_;cases hp;exact ⟨rfl,⟨_,S72,i50,k53,k54,rfl,k56⟩⟩
   ·
    refine FW.condF rfl c73 ?_;refine FW.region<|FL.mv (v:=vI (wr ((wr (s21.1 + s21.2)).tdiv 2))) rfl<|FL.as (v:=vI (wr ((wr (s21.1 + s21.2)).tdiv 2))) rfl<|FL.nil ?_;cases hp;exact ⟨rfl,⟨_,S72,i50,k53,k54,k55,rfl⟩⟩
  ·
   refine FW.condF rfl c57 ?_;refine FW.exit ?_;cases hp;exact ⟨nofun,rfl,⟨_,S49,i50,k55⟩⟩
 ·
  clear hq;intro e f79 w78 hD;rcases q21 with s21|x21
  ·
   obtain ⟨rfl,hD⟩:=hD;obtain ⟨H75,S76,i77,k80⟩:=hD;replace hp:=el_go hp;refine FW.sr<|FL.mv k80<|FL.as (v:=vI s21.1) rfl<|FL.nil (FW.ret ?_);cases hp;exact ⟨.inr rfl,res1 rfl rfl ⟨rfl,S76.back⟩⟩
  ·
   exact x21.elim

set_option maxHeartbeats 4000000 in
theorem w_spec_l1Same {Ha:GH} {wa:World} (hs:Sl Ha wa) (v0:Value) (a0:List Int) (p0:RSl Ha eI 1 v0 a0) (v1:Value) (a1:List Int) (p1:RSl Ha eI 1 v1 a1) {r:Bool} (hp:(PF.zcv a0 a1)=some r) :
  Calls prog 89 #[v0,v1] wa (Sc Ha wa (vB r)):=by
 unfold PF.zcv at hp;have S0:=St.init hs;refine zag (N:=26) (args:=[v0,v1]) func89 rfl rfl rfl ?_;refine FW.sr<|FL.as (v:=vB false) rfl<|FL.nil (FW.seq (FW.sr ?_));refine FL.mv (v:=v0) rfl<|FL.v (E.lenP te45 rfl p0) ?_;refine FL.mv (v:=v1) rfl<|FL.v (E.lenP te45 rfl p1) ?_;refine FL.v (E.neq rfl rfl) ?_;refine FL.nil ?_;rcases ifB hp with ⟨c21,hp⟩|⟨c21,hp⟩
 ·
  refine FW.condT rfl c21 ?_;refine FW.sr<|FL.as (v:=vB false) rfl<|FL.nil (FW.ret ?_);cases hp;exact ⟨.inr rfl,res1 rfl rfl ⟨rfl,S0.back⟩⟩
 ·
  refine FW.condF rfl c21 ?_;refine FW.skip (FW.seq (FW.sr ?_));refine FL.as (v:=vI 0) rfl<|FL.nil ?_;obtain ⟨q23,hq,hp⟩:=bndR hp;refine FW.block ?_;refine FW.mono (FW.forL (S:=Unit) (X:=Bool) (fun (i23:Nat) (s23:Unit) f w=>∃ H:GH,St Ha wa H w []∧Inc Ha H∧f 5=vI ((i23:Nat):Int)∧f 0=v0∧f 1=v1) (fun q e f w=>match q with|.go s23=>e=Exit.exit 0∧(∃ H:GH,St Ha wa H w []∧Inc Ha H)|.rt x=>((e=Exit.ret)∧(fun e f w=>(e=Exit.normal∨e=Exit.ret)∧∀ a,Fr (δ:=[]) 26 a f→∃ v,(results Tryz.f89 a.tmps).run prog w=.ok v w∧(Sc Ha wa (vB x)) (.returned v) w) e f w)) hq ⟨_,S0,I0,rfl,rfl,rfl⟩ ?_ ?_) ?_
  ·
   clear hp hq;rintro i23 y22 s23 f55 w54 ⟨H51,S52,i53,k56,k57,k58⟩ hx23 o78 hp;refine FW.seq<|FW.sr<|FL.mv k56<|FL.mv k57<|FL.v (E.lenP te45 rfl p0) ?_;refine FL.v (E.lssT rfl rfl (zan hx23)) ?_;refine FL.nil<|FW.condT rfl rfl ?_;refine FW.skip (FW.seq (FW.block (FW.seq ?_)));refine FW.draw (fun w'=>Run w54.heap.size H51 w54 H51 w') (by kernel_rfl) (by kernel_rfl) (zaI S52.sl) ?_;refine FD.v (fun _ z=>(E.move k57)) ?_;refine FD.v (fun _ z=>(E.move k56)) ?_;obtain ⟨p60,cs61,pt62,l63,at64,rel65⟩:=p0.at (zai hx23);obtain rfl:=eI_open rel65;refine FD.v (fun _ z=>(E.indexAddr te45 rfl rfl pt62)) ?_;refine FD.v (fun _ z=>(E.load rfl (zac isAgg3 ((at64.mono i53).now (S52.call z).sl) rfl))) ?_;refine FD.v (fun _ z=>(E.move k58)) ?_;refine FD.v (fun _ z=>(E.move k56)) ?_;obtain ⟨x72,hx73,hp⟩:=bnd hp;obtain ⟨p66,cs67,pt68,l69,at70,rel71⟩:=p1.at hx73;obtain rfl:=eI_open rel71;refine FD.v (fun _ z=>(E.indexAddr te45 rfl rfl pt68)) ?_;refine FD.v (fun _ z=>(E.load rfl (zac isAgg3 ((at70.mono i53).now (S52.call z).sl) rfl))) ?_;refine FD.v (fun _ z=>(E.neq rfl rfl)) ?_;refine FD.nil ?_;intro w74 r76;have S75:=S52.call r76;rcases ifB hp with ⟨c77,hp⟩|⟨c77,hp⟩
   ·
    refine FW.condT rfl c77 ?_;refine FW.sr<|FL.as (v:=vB false) rfl<|FL.nil (FW.ret ?_);cases hp;exact ⟨nofun,rfl,⟨.inr rfl,res1 rfl rfl ⟨rfl,S75.back⟩⟩⟩
   ·
    refine FW.condF rfl c77 ?_;refine FW.skip<|FW.region<|FL.mv k56<|FL.v (E.add rfl rfl) ?_;refine FL.as (v:=vI (wr (((i23:Nat):Int) + 1))) rfl<|FL.nil ?_;cases hp;exact ⟨rfl,⟨_,S75,i53,(zam rfl (zak hx23) (p0.mono i53).le),k57,k58⟩⟩
  ·
   clear hp hq;rintro s23 f88 w87 ⟨H84,S85,i86,k89,k90,k91⟩;refine FW.seq<|FW.sr<|FL.mv k89<|FL.mv k90<|FL.v (E.lenP te45 rfl p0) ?_;refine FL.v (E.lss rfl rfl) ?_;refine FL.nil<|FW.condF rfl zao ?_;refine FW.exit ?_;exact ⟨nofun,rfl,⟨_,S85,i86⟩⟩
  ·
   clear hq;intro e f83 w82 hD;rcases q23 with s23|x23
   ·
    obtain ⟨rfl,hD⟩:=hD;obtain ⟨H79,S80,i81⟩:=hD;replace hp:=el_go hp;refine FW.sr<|FL.as (v:=vB true) rfl<|FL.nil (FW.ret ?_);cases hp;exact ⟨.inr rfl,res1 rfl rfl ⟨rfl,S80.back⟩⟩
   ·
    obtain ⟨he,hL⟩:=hD;replace hp:=el_rt hp;cases hp;subst he;exact hL

@[reducible] def p_spec_l2Insert (Ha:GH) (wa:World) (r:(List (List Int))):Ending→World→Prop :=
 fun e w'=>∃ H':GH,∃ v0:Value,e=.returned (v0)∧Run wa.heap.size Ha wa H' w'∧RSl H' (eL eI 1) 1 v0 r
set_option maxHeartbeats 4000000 in
theorem zdw {Ha:GH} {wa:World} (hs:Sl Ha wa) (v0:Value) (a0:List (List Int)) (p0:RSl Ha (eL eI 1) 1 v0 a0) (v1:Value) (a1:List Int) (p1:RSl Ha eI 1 v1 a1) {r:(List (List Int))} (hp:(PF.zbH a0 a1)=some r) :
  Calls prog 59 #[v0,v1] wa (p_spec_l2Insert Ha wa r):=by
 unfold PF.zbH at hp;have S0:=St.init hs;refine zag (N:=34) (args:=[v0,v1]) func59 rfl rfl rfl ?_;refine FW.sr<|FL.as (v:=vN) rfl<|FL.nil<|FW.sr<|FL.mv (v:=v0) rfl<|FL.mv (v:=v1) rfl ?_;obtain ⟨r21,hr22,hp⟩:=bnd hp;refine FL.c (E.call call88 (A2 rfl rfl)) (zed S0.sl v0 a0 p0 v1 a1 p1 hr22) ?_;rintro e w23 ⟨rfl,r24⟩;refine ⟨_,rfl,?_⟩;have S25:=S0.call r24;refine FL.as (v:=vI r21) rfl<|FL.nil (FW.seq (FW.sr ?_));refine FL.mv (v:=vI r21) rfl<|FL.mv (v:=v0) rfl<|FL.v (E.lenP te22 rfl p0) ?_;refine FL.v (E.lss rfl rfl) ?_;refine FL.mv (v:=vB (decide (r21 < (len a0)))) rfl ?_;obtain ⟨t41,hqt41,hp⟩:=bnd hp;refine FL.cut 7 (fun f w=>∃ H:GH,St Ha wa H w []∧Inc Ha H∧f 0=v0∧f 1=v1∧f 5=vI r21∧f 20=vB t41) ?_ ?_
 ·
  clear hp;have hp:=hqt41;clear hqt41;rcases ifB hp with ⟨c47,hp⟩|⟨c47,hp⟩
  ·
   refine FL.y (wY c47) (E.move (v:=v0) rfl) ?_;refine FL.y (wY c47) (E.move (v:=vI r21) rfl) ?_;obtain ⟨x54,hx55,hp⟩:=bnd hp;obtain ⟨p48,cs49,pt50,l51,at52,rel53⟩:=p0.at hx55;obtain ⟨v56,rfl,h57⟩:=eL_open rel53;refine FL.y (wY c47) (E.indexAddr te22 rfl rfl pt50) ?_;refine FL.y (wY c47) (E.load rfl (zac isAgg45 (at52.now S25.sl) rfl)) ?_;refine FL.y (wY c47) (E.move (v:=v1) rfl) ?_;obtain ⟨r58,hr59,hp⟩:=bnd hp;refine FL.call (wY c47) rfl rfl (E.call call89 (A2 rfl rfl)) (w_spec_l1Same S25.sl v56 x54 h57 v1 a1 p1 hr59) ?_;rintro e w60 ⟨rfl,r61⟩;refine ⟨_,rfl,?_⟩;have S62:=S25.call r61;cases hp;refine FL.v (E.pickT rfl c47 rfl) ?_;exact FL.nil ⟨rfl,_,S62,I0,rfl,rfl,rfl,rfl⟩
  ·
   refine FL.n c47<|FL.n c47<|FL.n c47<|FL.n c47<|FL.n c47<|FL.n c47 ?_;cases hp;refine FL.v (E.pickF rfl c47 rfl) ?_;exact FL.nil ⟨rfl,_,S25,I0,rfl,rfl,rfl,rfl⟩
 rintro f46 w45 ⟨H42,S43,i44,k63,k64,k65,k66⟩;refine FL.nil ?_;rcases ifB hp with ⟨c67,hp⟩|⟨c67,hp⟩
 ·
  refine FW.condT k66 c67 ?_;refine FW.sr<|FL.mv k63<|FL.as (v:=v0) rfl<|FL.nil (FW.ret ?_);cases hp;exact ⟨.inr rfl,res1 rfl rfl ⟨_,_,rfl,S43.run,(p0.mono i44)⟩⟩
 ·
  refine FW.condF k66 c67 ?_;refine FW.skip<|FW.seq ?_;obtain ⟨xs31,hc32,hp⟩:=bnd hp;obtain ⟨xs36,hz37,hp⟩:=bnd hp;obtain ⟨xs80,hz81,hp⟩:=bnd hp;obtain ⟨xs91,hc92,hp⟩:=bnd hp;obtain ⟨xs96,hz97,hp⟩:=bnd hp;refine FW.drawB (Sl H42) (fun f w=>∃ H:GH,∃ vA5:Value,∃ nA6:Nat,∃ csA7:List Value,St Ha wa H w [.row 45 1 vA5 nA6 csA7]∧Inc H42 H∧Els H (eL eI 1) 1 csA7 xs96∧f 4=vA5) (by kernel_rfl) S43.sl ?_ ?_
  ·
   intro w68 r69;have S70:=S43.call r69;refine FB.T 1 13 2 rfl S70.sl rfl (fun _ z=>(E.move k63)) ?_;refine FB.T 2 13 6 rfl S70.sl rfl (fun _ z=>(E.move k65)) ?_;obtain ⟨v33,run34,h35⟩:=p0.cut te22 hc32 (lo:=none) (hi:=some (vI r21)) (.inl ⟨rfl,rfl⟩) (.inr ⟨_,rfl⟩);refine FB.T 3 13 14 rfl S70.sl rfl (fun _ z=>(E.slice te22 rfl rfl (congrArg some rfl) rfl (run34 _))) ?_;refine FB.T 5 13 46 rfl S70.sl rfl (fun _ z=>(E.move k64)) ?_;refine FB.T 8 13 302 rfl S70.sl rfl (fun _ z=>(E.move k63)) ?_;refine FB.T 9 13 814 rfl S70.sl rfl (fun _ z=>(E.move k65)) ?_;obtain ⟨v93,run94,h95⟩:=p0.cut te22 hc92 (lo:=some (vI r21)) (hi:=none) (.inr ⟨_,rfl⟩) (.inl ⟨rfl,rfl⟩);refine FB.T 10 13 1838 rfl S70.sl rfl (fun _ z=>(E.slice te22 rfl (congrArg some rfl) rfl rfl (run94 _))) ?_;refine FB.all2 (i:=0) (j:=6) (by kernel_rfl) ?_ ?_
   ·
    obtain ⟨v26,w27,run28,S29⟩:=S70.b0 te22;have els30:Els (up wa.heap.size H42) (eL eI 1) 1 [] []:=Els.nil;refine FC.val (l':=(bs 13 1839)) rfl (by kernel_rfl) rfl rfl rfl (E.buildSlice (B0) run28) ?_;refine ⟨(SP.nil S29.sl),?_⟩;refine FB.all2 (i:=4) (j:=6) (by kernel_rfl) ?_ ?_
    ·
     obtain ⟨v38,w71,n39,cs40,run72,S73,els74⟩:=S29.appendP (P:=prog) I0 te22 (i:=0) rfl (els30.mono upI) (h35.mono i44) hz37;refine FC.val (l':=(bs 13 1855)) rfl (by kernel_rfl) rfl rfl rfl (E.append rfl rfl run72) ?_;refine ⟨(SP.nil S73.sl),?_⟩;refine FB.all1 (i:=6) (by kernel_rfl) ?_
     ·
      obtain ⟨v75,w76,run77,S78⟩:=S73.b1 te22 p1.cells p1.one;have els79:Els H42 (eL eI 1) 1 [v1] [a1]:=(Els.snoc (H:=H42) (E:=(eL eI 1)) (k:=1) (c:=[v1]) (x:=a1) Els.nil rfl ⟨_,rfl,(p1.mono i44)⟩);refine FC.val (l':=(bs 13 1919)) rfl (by kernel_rfl) rfl rfl rfl (E.buildSlice (B1 rfl) run77) ?_;refine ⟨(SP.nil S78.sl),?_⟩;refine FB.all1 (i:=7) (by kernel_rfl) ?_
      ·
       obtain ⟨v82,w85,n83,cs84,run86,S87,els88,ce89⟩:=S78.appendO (P:=prog) te22 (i:=1) (j:=0) rfl els74 rfl els79 hz81;have S90:St Ha wa H42 w85 [.row 45 1 v82 n83 cs84]:=S87.drop 0;refine FC.val (l':=(bs 13 2047)) rfl (by kernel_rfl) rfl rfl rfl (E.append rfl rfl run86) ?_;refine ⟨(SP.nil S90.sl),?_⟩;refine FB.all1 (i:=11) (by kernel_rfl) ?_
       ·
        obtain ⟨v98,wA1,n99,csA0,runA2,SA3,elsA4⟩:=S90.appendP (P:=prog) I0 te22 (i:=0) rfl els88 (h95.mono i44) hz97;refine FC.val (l':=(bs 13 4095)) rfl (by kernel_rfl) rfl rfl rfl (E.append rfl rfl runA2) ?_;refine sgo (SP.nil SA3.sl) fun sp=>?_;refine FB.r 12 13 8191 rfl sp (fun _ z=>(E.assign (v:=v98) rfl)) (fun sp=>?_);exact FB.done (by kernel_rfl) ⟨_,_,_,_,SA3,I0,elsA4,rfl⟩
    ·
     obtain ⟨v75,w76,run77,S78⟩:=S29.b1 te22 p1.cells p1.one;have els79:Els H42 (eL eI 1) 1 [v1] [a1]:=(Els.snoc (H:=H42) (E:=(eL eI 1)) (k:=1) (c:=[v1]) (x:=a1) Els.nil rfl ⟨_,rfl,(p1.mono i44)⟩);refine FC.val (l':=(bs 13 1903)) rfl (by kernel_rfl) rfl rfl rfl (E.buildSlice (B1 rfl) run77) ?_;refine ⟨(SP.nil S78.sl),?_⟩;refine FB.all1 (i:=4) (by kernel_rfl) ?_
     ·
      obtain ⟨v38,w71,n39,cs40,run72,S73,els74⟩:=S78.appendP (P:=prog) I0 te22 (i:=1) rfl (els30.mono upI) (h35.mono i44) hz37;refine FC.val (l':=(bs 13 1919)) rfl (by kernel_rfl) rfl rfl rfl (E.append rfl rfl run72) ?_;refine ⟨(SP.nil S73.sl),?_⟩;refine FB.all1 (i:=7) (by kernel_rfl) ?_
      ·
       obtain ⟨v82,w85,n83,cs84,run86,S87,els88,ce89⟩:=S73.appendO (P:=prog) te22 (i:=1) (j:=0) rfl els74 rfl els79 hz81;have S90:St Ha wa H42 w85 [.row 45 1 v82 n83 cs84]:=S87.drop 0;refine FC.val (l':=(bs 13 2047)) rfl (by kernel_rfl) rfl rfl rfl (E.append rfl rfl run86) ?_;refine ⟨(SP.nil S90.sl),?_⟩;refine FB.all1 (i:=11) (by kernel_rfl) ?_
       ·
        obtain ⟨v98,wA1,n99,csA0,runA2,SA3,elsA4⟩:=S90.appendP (P:=prog) I0 te22 (i:=0) rfl els88 (h95.mono i44) hz97;refine FC.val (l':=(bs 13 4095)) rfl (by kernel_rfl) rfl rfl rfl (E.append rfl rfl runA2) ?_;refine sgo (SP.nil SA3.sl) fun sp=>?_;refine FB.r 12 13 8191 rfl sp (fun _ z=>(E.assign (v:=v98) rfl)) (fun sp=>?_);exact FB.done (by kernel_rfl) ⟨_,_,_,_,SA3,I0,elsA4,rfl⟩
   ·
    obtain ⟨v75,w76,run77,S78⟩:=S70.b1 te22 p1.cells p1.one;have els79:Els H42 (eL eI 1) 1 [v1] [a1]:=(Els.snoc (H:=H42) (E:=(eL eI 1)) (k:=1) (c:=[v1]) (x:=a1) Els.nil rfl ⟨_,rfl,(p1.mono i44)⟩);refine FC.val (l':=(bs 13 1902)) rfl (by kernel_rfl) rfl rfl rfl (E.buildSlice (B1 rfl) run77) ?_;refine ⟨(SP.nil S78.sl),?_⟩;refine FB.all1 (i:=0) (by kernel_rfl) ?_
    ·
     obtain ⟨v26,w27,run28,S29⟩:=S78.b0 te22;have els30:Els (up wa.heap.size H42) (eL eI 1) 1 [] []:=Els.nil;refine FC.val (l':=(bs 13 1903)) rfl (by kernel_rfl) rfl rfl rfl (E.buildSlice (B0) run28) ?_;refine ⟨(SP.nil S29.sl),?_⟩;refine FB.all1 (i:=4) (by kernel_rfl) ?_
     ·
      obtain ⟨v38,w71,n39,cs40,run72,S73,els74⟩:=S29.appendP (P:=prog) I0 te22 (i:=0) rfl (els30.mono upI) (h35.mono i44) hz37;refine FC.val (l':=(bs 13 1919)) rfl (by kernel_rfl) rfl rfl rfl (E.append rfl rfl run72) ?_;refine ⟨(SP.nil S73.sl),?_⟩;refine FB.all1 (i:=7) (by kernel_rfl) ?_
      ·
       obtain ⟨v82,w85,n83,cs84,run86,S87,els88,ce89⟩:=S73.appendO (P:=prog) te22 (i:=0) (j:=1) rfl els74 rfl els79 hz81;have S90:St Ha wa H42 w85 [.row 45 1 v82 n83 cs84]:=S87.drop 1;refine FC.val (l':=(bs 13 2047)) rfl (by kernel_rfl) rfl rfl rfl (E.append rfl rfl run86) ?_;refine ⟨(SP.nil S90.sl),?_⟩;refine FB.all1 (i:=11) (by kernel_rfl) ?_
       ·
        obtain ⟨v98,wA1,n99,csA0,runA2,SA3,elsA4⟩:=S90.appendP (P:=prog) I0 te22 (i:=0) rfl els88 (h95.mono i44) hz97;refine FC.val (l':=(bs 13 4095)) rfl (by kernel_rfl) rfl rfl rfl (E.append rfl rfl runA2) ?_;refine sgo (SP.nil SA3.sl) fun sp=>?_;refine FB.r 12 13 8191 rfl sp (fun _ z=>(E.assign (v:=v98) rfl)) (fun sp=>?_);exact FB.done (by kernel_rfl) ⟨_,_,_,_,SA3,I0,elsA4,rfl⟩
  ·
   rintro fAd wAc ⟨HA9,vA5,nA6,csA7,SAa,iAb,elsA8,kAe⟩;refine FW.ret ?_;obtain ⟨HAf,SAg,iAh,hAi⟩:=SAa.sealRow (i:=0) (l':=[]) rfl elsA8 (by decide) rfl;cases hp;exact ⟨.inr rfl,res1 rfl kAe ⟨_,_,rfl,SAg.run,hAi⟩⟩

@[reducible] def p_spec_l10Order (Ha:GH) (wa:World) (r:(List Int)):Ending→World→Prop :=
 fun e w'=>∃ H':GH,∃ v0:Value,∃ n0:Nat,∃ c0:List Value,e=.returned (v0)∧St Ha wa H' w' [.row 3 1 v0 n0 c0]∧Els (up wa.heap.size H') eI 1 c0 r
set_option maxHeartbeats 4000000 in
theorem w_spec_l10Order {Ha:GH} {wa:World} (hs:Sl Ha wa) (a0:zaD) (v0_0:Value) (p0_0:RSl Ha (eL eI 1) 1 v0_0 a0.list) (v0_1:Value) (p0_1:RSl Ha eI 1 v0_1 a0.rounds) (v0_2:Value) (p0_2:RSl Ha eI 1 v0_2 a0.left) (v0_3:Value) (p0_3:RSl Ha eI 1 v0_3 a0.right) (v0_4:Value) (p0_4:RSl Ha eI 1 v0_4 a0.pivots) (v0_5:Value) (p0_5:RSl Ha (eL eI 1) 1 v0_5 a0.sorted) {r:(List Int)} (hp:(PF.zc4 a0)=some r) :
  Calls prog 100 #[vA #[v0_0,v0_1,v0_2,v0_3,v0_4,v0_5]] wa (p_spec_l10Order Ha wa r):=by
 unfold PF.zc4 at hp;have S0:=St.init hs;refine zag (N:=54) (args:=[vA #[v0_0,v0_1,v0_2,v0_3,v0_4,v0_5]]) func100 rfl rfl rfl ?_;refine FW.sr ?_;obtain ⟨b21,w22,run23,S24⟩:=S0.box (P:=prog) 70 [v0_0,v0_1,v0_2,v0_3,v0_4,v0_5] (v:=vA #[v0_0,v0_1,v0_2,v0_3,v0_4,v0_5]) rfl (oC p0_0.one (oC p0_1.one (oC p0_2.one (oC p0_3.one (oC p0_4.one (oC p0_5.one zad))))));refine FL.v (E.box rfl run23) ?_;obtain ⟨H25,S26,i27,at28⟩:=S24.sealBox (i:=0) (l':=[]) rfl rfl;refine FL.as (v:=vN) rfl<|FL.nil<|FW.sr ?_;obtain ⟨v29,w30,run31,S32⟩:=S26.b0 te45;have els33:Els (up wa.heap.size H25) eI 1 [] []:=Els.nil;refine FL.v (E.buildSlice (B0) run31) ?_;refine FL.as (v:=v29) rfl<|FL.nil (FW.seq (FW.sr ?_));refine FL.as (v:=vI 0) rfl<|FL.nil ?_;obtain ⟨q34,hq,hp⟩:=bndR hp;refine FW.block ?_;refine FW.mono (FW.iter (S:=((List Int)×Int)) (X:=Empty) (fun (s34:((List Int)×Int)) f w=>∃ H:GH,∃ v35:Value,∃ n36:Nat,∃ cs37:List Value,St Ha wa H w [.row 3 1 v35 n36 cs37]∧Inc H25 H∧Els (up wa.heap.size H) eI 1 cs37 s34.1∧f 1=vK b21∧f 3=v35∧f 4=vI s34.2) (fun (q:Rs ((List Int)×Int) Empty) e f w=>match q with|.go s34=>e=Exit.exit 0∧(∃ H:GH,∃ v35:Value,∃ n36:Nat,∃ cs37:List Value,St Ha wa H w [.row 3 1 v35 n36 cs37]∧Inc H25 H∧Els (up wa.heap.size H) eI 1 cs37 s34.1∧f 3=v35)|.rt x=>x.elim) hq ⟨_,_,_,_,S32,I0,els33,rfl,rfl,rfl⟩ ?_) ?_
 ·
  clear hp hq;rintro s34 f43 w42 ⟨H39,v35,n36,cs37,S40,i41,els38,k44,k46,k47⟩ oBe hp;refine FW.seq<|FW.sr<|FL.mv k47<|FL.v (E.fieldAddr tf70_0 k44) ?_;refine FL.v (E.load rfl (zaf isAgg22 ((at28.mono i41).now S40.sl) rfl)) ?_;refine FL.v (E.lenP te22 rfl p0_0) ?_;refine FL.v (E.lss rfl rfl) ?_;refine FL.nil ?_;rcases ifB hp with ⟨c48,hp⟩|⟨c48,hp⟩
  ·
   refine FW.condT rfl c48 ?_;refine FW.skip (FW.seq (FW.block (FW.sr ?_)));refine FL.mv k46<|FL.v (E.lenO te45 rfl S40 (i:=0) rfl els38 (by decide)) ?_;refine FL.as (v:=vI 0) rfl<|FL.as (v:=vI (len s34.1)) rfl<|FL.nil<|FW.seq ?_;obtain ⟨q49,hq,hp⟩:=bndR hp;refine FW.block ?_;refine FW.mono (FW.iter (S:=(Int×Int)) (X:=Empty) (fun (s49:(Int×Int)) f w=>∃ H:GH,St Ha wa H w [.row 3 1 v35 n36 cs37]∧Inc H39 H∧f 1=vK b21∧f 3=v35∧f 4=vI s34.2∧f 5=vI s49.1∧f 6=vI s49.2) (fun (q:Rs (Int×Int) Empty) e f w=>match q with|.go s49=>e=Exit.exit 2∧(∃ H:GH,St Ha wa H w [.row 3 1 v35 n36 cs37]∧Inc H39 H∧f 1=vK b21∧f 3=v35∧f 4=vI s34.2∧f 5=vI s49.1)|.rt x=>x.elim) hq ⟨_,S40,I0,k44,k46,k47,rfl,rfl⟩ ?_) ?_
   ·
    clear hp hq;rintro s49 f54 w53 ⟨H50,S51,i52,k55,k56,k57,k58,k59⟩ o96 hp;refine FW.seq<|FW.sr<|FL.mv k58<|FL.mv k59<|FL.v (E.lss rfl rfl) ?_;refine FL.nil ?_;rcases ifB hp with ⟨c60,hp⟩|⟨c60,hp⟩
    ·
     refine FW.condT rfl c60 ?_;refine FW.skip (FW.block (FW.sr ?_));refine FL.mv k58<|FL.mv k59<|FL.v (E.add rfl rfl) ?_;refine FL.v (E.quo rfl rfl (by decide)) ?_;refine FL.as (v:=vI (wr ((wr (s49.1 + s49.2)).tdiv 2))) rfl<|FL.nil<|FW.seq ?_;refine FW.draw (fun w'=>Run w53.heap.size H50 w53 H50 w') (by kernel_rfl) (by kernel_rfl) (zaI S51.sl) ?_;refine FD.v (fun _ z=>(E.fieldAddr tf70_0 k55)) ?_;refine FD.v (fun _ z=>(E.load rfl (zaf isAgg22 ((at28.mono (i41.tr i52)).now (S51.call z).sl) rfl))) ?_;refine FD.v (fun _ z=>(E.move k56)) ?_;refine FD.v (fun _ z=>(E.move (v:=vI (wr ((wr (s49.1 + s49.2)).tdiv 2))) rfl)) ?_;obtain ⟨x67,hx68,hp⟩:=bnd hp;obtain ⟨p61,cs62,pt63,l64,at65,rel66⟩:=S51.row_at (i:=0) rfl els38 (by decide) hx68;obtain rfl:=eI_open rel66;refine FD.v (fun _ z=>(E.indexAddr te45 rfl rfl pt63)) ?_;refine FD.v (fun _ z=>(E.load rfl (zac isAgg3 (at65.cls z) rfl))) ?_;obtain ⟨x76,hx77,hp⟩:=bnd hp;obtain ⟨p69,cs71,pt72,l73,at74,rel75⟩:=p0_0.at hx77;obtain ⟨v78,rfl,h79⟩:=eL_open rel75;refine FD.v (fun _ z=>(E.indexAddr te22 rfl rfl pt72)) ?_;refine FD.v (fun _ z=>(E.load rfl (zac isAgg45 ((at74.mono ((i27.tr i41).tr i52)).now (S51.call z).sl) rfl))) ?_;refine FD.v (fun _ z=>(E.fieldAddr tf70_0 k55)) ?_;refine FD.v (fun _ z=>(E.load rfl (zaf isAgg22 ((at28.mono (i41.tr i52)).now (S51.call z).sl) rfl))) ?_;refine FD.v (fun _ z=>(E.move k57)) ?_;obtain ⟨x86,hx87,hp⟩:=bnd hp;obtain ⟨p80,cs81,pt82,l83,at84,rel85⟩:=p0_0.at hx87;obtain ⟨v88,rfl,h89⟩:=eL_open rel85;refine FD.v (fun _ z=>(E.indexAddr te22 rfl rfl pt82)) ?_;refine FD.v (fun _ z=>(E.load rfl (zac isAgg45 ((at84.mono ((i27.tr i41).tr i52)).now (S51.call z).sl) rfl))) ?_;obtain ⟨r90,hr91,hp⟩:=bnd hp;refine FD.call rfl rfl rfl (fun _ z=>(E.call call119 (A2 rfl rfl))) (fun _ z=>Calls.cls z (zew (S51.call z).sl v78 x76 (h79.mono ((i27.tr i41).tr i52)) v88 x86 (h89.mono ((i27.tr i41).tr i52)) hr91)) ?_;refine FD.nil ?_;intro w92 r94;have S93:=S51.call r94;rcases ifB hp with ⟨c95,hp⟩|⟨c95,hp⟩
     ·
      refine FW.condT rfl c95 ?_;refine FW.region<|FL.mv (v:=vI (wr ((wr (s49.1 + s49.2)).tdiv 2))) rfl<|FL.v (E.add rfl rfl) ?_;refine FL.as (v:=vI (wr ((wr ((wr (s49.1 + s49.2)).tdiv 2)) + 1))) rfl<|FL.nil ?_;cases hp;exact ⟨rfl,⟨_,S93,i52,k55,k56,k57,rfl,k59⟩⟩
     ·
      refine FW.condF rfl c95 ?_;refine FW.region<|FL.mv (v:=vI (wr ((wr (s49.1 + s49.2)).tdiv 2))) rfl<|FL.as (v:=vI (wr ((wr (s49.1 + s49.2)).tdiv 2))) rfl<|FL.nil ?_;cases hp;exact ⟨rfl,⟨_,S93,i52,k55,k56,k57,k58,rfl⟩⟩
    ·
     refine FW.condF rfl c60 ?_;refine FW.exit ?_;cases hp;exact ⟨nofun,rfl,⟨_,S51,i52,k55,k56,k57,k58⟩⟩
   ·
    clear hq;intro e fA1 wA0 hD;rcases q49 with s49|x49
    ·
     obtain ⟨rfl,hD⟩:=hD;obtain ⟨H97,S98,i99,kA2,kA3,kA4,kA5⟩:=hD;replace hp:=el_go hp;obtain ⟨xsA9,hcAa,hp⟩:=bnd hp;obtain ⟨rAj,hrAk,hp⟩:=bnd hp;obtain ⟨xsAy,hzAz,hp⟩:=bnd hp;obtain ⟨xsAJ,hcAK,hp⟩:=bnd hp;obtain ⟨xsAT,hzAU,hp⟩:=bnd hp;refine FW.drawB (Sl H97) (fun f w=>∃ H:GH,∃ vB2:Value,∃ nB3:Nat,∃ csB4:List Value,St Ha wa H w [.row 3 1 vB2 nB3 csB4]∧Inc H97 H∧Els (up wa.heap.size H) eI 1 csB4 xsAT∧f 1=vK b21∧f 3=vB2∧f 4=vI s34.2) (by kernel_rfl) S98.sl ?_ ?_
     ·
      intro wA6 rA7;have SA8:=S98.call rA7;refine FB.T 0 12 1 rfl SA8.sl rfl (fun _ z=>(E.move kA3)) ?_;refine FB.T 1 12 3 rfl SA8.sl rfl (fun _ z=>(E.move kA5)) ?_;refine FB.T 4 12 19 rfl SA8.sl rfl (fun _ z=>(E.move kA4)) ?_;refine FB.T 7 12 147 rfl SA8.sl rfl (fun _ z=>(E.move kA3)) ?_;refine FB.T 8 12 403 rfl SA8.sl rfl (fun _ z=>(E.move kA5)) ?_;refine FB.all3 (i:=2) (j:=5) (k:=9) (by kernel_rfl) ?_ ?_ ?_
      ·
       obtain ⟨HAb,SAc,iAd,hAe,nvAf⟩:=SA8.sealRowU (i:=0) (l':=[]) rfl (els38.mono (zae i99)) (by decide) rfl;obtain ⟨vAg,runAh,hAi⟩:=hAe.cut te45 hcAa (lo:=none) (hi:=some (vI s49.1)) (.inl ⟨rfl,rfl⟩) (.inr ⟨_,rfl⟩);refine FC.val (l':=(bs 12 407)) rfl (by kernel_rfl) rfl rfl rfl (E.slice te45 rfl rfl (congrArg some rfl) rfl (runAh _)) ?_;refine sgo (SP.nil (Sl.of_inc iAd SAc.sl)) fun sp=>?_;obtain ⟨vAL,runAM,hAN⟩:=hAe.cut te45 hcAK (lo:=some (vI s49.1)) (hi:=none) (.inr ⟨_,rfl⟩) (.inl ⟨rfl,rfl⟩);refine FB.r 9 12 919 rfl sp (fun _ z=>(E.slice te45 rfl (congrArg some rfl) rfl rfl (runAM _))) (fun sp=>?_);refine FB.all2 (i:=3) (j:=5) (by kernel_rfl) ?_ ?_
       ·
        refine FC.call (l':=(bs 12 927)) rfl (by kernel_rfl) rfl rfl rfl (E.call call66 (A1 rfl)) (za2 SAc.sl vAg xsA9 (hAi.mono upI) hrAk) ?_;rintro e wAm ⟨HAl,vAp,nAq,csAr,rfl,rAo,elsAs⟩;refine ⟨_,rfl,?_⟩;have elsAs:=elsAs.mono (up_le SAc.size);have SAn:=SAc.join (l':=[.row 3 1 vAp nAq csAr]) rAo rfl;refine ⟨(SP.nil (Sl.of_inc (iAd.tr rAo.run.inc) SAn.sl)),?_⟩;refine FB.all1 (i:=5) (by kernel_rfl) ?_
        ·
         obtain ⟨vAt,wAu,runAv,SAw,elsAx⟩:=SAn.ints (P:=prog) te45 (up wa.heap.size HAl) 1 [s34.2];refine FC.val (l':=(bs 12 959)) rfl (by kernel_rfl) rfl rfl rfl (E.buildSlice (B1 rfl) runAv) ?_;refine ⟨(SP.nil (Sl.of_inc (iAd.tr rAo.run.inc) SAw.sl)),?_⟩;refine FB.all1 (i:=6) (by kernel_rfl) ?_
         ·
          obtain ⟨vAA,wAD,nAB,csAC,runAE,SAF,elsAG,ceAH⟩:=SAw.appendO (P:=prog) te45 (i:=1) (j:=0) rfl elsAs rfl elsAx hzAz;have SAI:St Ha wa HAl wAD [.row 3 1 vAA nAB csAC]:=SAF.drop 0;refine FC.val (l':=(bs 12 1023)) rfl (by kernel_rfl) rfl rfl rfl (E.append rfl rfl runAE) ?_;refine ⟨(SP.nil (Sl.of_inc (iAd.tr rAo.run.inc) SAI.sl)),?_⟩;refine FB.all1 (i:=10) (by kernel_rfl) ?_
          ·
           obtain ⟨vAV,wAY,nAW,csAX,runAZ,SB0,elsB1⟩:=SAI.appendP (P:=prog) upI te45 (i:=0) rfl elsAG (hAN.mono (zae rAo.run.inc)) hzAU;refine FC.val (l':=(bs 12 2047)) rfl (by kernel_rfl) rfl rfl rfl (E.append rfl rfl runAZ) ?_;refine sgo (SP.nil (Sl.of_inc (iAd.tr rAo.run.inc) SB0.sl)) fun sp=>?_;refine FB.r 11 12 4095 rfl sp (fun _ z=>(E.assign (v:=vAV) rfl)) (fun sp=>?_);exact FB.done (by kernel_rfl) ⟨_,_,_,_,SB0,(iAd.tr rAo.run.inc),elsB1,kA2,rfl,kA4⟩
       ·
        obtain ⟨vAt,wAu,runAv,SAw,elsAx⟩:=SAc.ints (P:=prog) te45 (up wa.heap.size HAb) 1 [s34.2];refine FC.val (l':=(bs 12 951)) rfl (by kernel_rfl) rfl rfl rfl (E.buildSlice (B1 rfl) runAv) ?_;refine ⟨(SP.nil (Sl.of_inc iAd SAw.sl)),?_⟩;refine FB.all1 (i:=3) (by kernel_rfl) ?_
        ·
         refine FC.call (l':=(bs 12 959)) rfl (by kernel_rfl) rfl rfl rfl (E.call call66 (A1 rfl)) (za2 SAw.sl vAg xsA9 (hAi.mono upI) hrAk) ?_;rintro e wAm ⟨HAl,vAp,nAq,csAr,rfl,rAo,elsAs⟩;refine ⟨_,rfl,?_⟩;have elsAs:=elsAs.mono (up_le SAw.size);have SAn:=SAw.join (l':=[.row 3 1 vAp nAq csAr,.row 3 1 vAt 1 (iC [s34.2])]) rAo rfl;refine ⟨(SP.nil (Sl.of_inc (iAd.tr rAo.run.inc) SAn.sl)),?_⟩;refine FB.all1 (i:=6) (by kernel_rfl) ?_
         ·
          obtain ⟨vAA,wAD,nAB,csAC,runAE,SAF,elsAG,ceAH⟩:=SAn.appendO (P:=prog) te45 (i:=0) (j:=1) rfl elsAs rfl (elsAx.mono (zae rAo.run.inc)) hzAz;have SAI:St Ha wa HAl wAD [.row 3 1 vAA nAB csAC]:=SAF.drop 1;refine FC.val (l':=(bs 12 1023)) rfl (by kernel_rfl) rfl rfl rfl (E.append rfl rfl runAE) ?_;refine ⟨(SP.nil (Sl.of_inc (iAd.tr rAo.run.inc) SAI.sl)),?_⟩;refine FB.all1 (i:=10) (by kernel_rfl) ?_
          ·
           obtain ⟨vAV,wAY,nAW,csAX,runAZ,SB0,elsB1⟩:=SAI.appendP (P:=prog) upI te45 (i:=0) rfl elsAG (hAN.mono (zae rAo.run.inc)) hzAU;refine FC.val (l':=(bs 12 2047)) rfl (by kernel_rfl) rfl rfl rfl (E.append rfl rfl runAZ) ?_;refine sgo (SP.nil (Sl.of_inc (iAd.tr rAo.run.inc) SB0.sl)) fun sp=>?_;refine FB.r 11 12 4095 rfl sp (fun _ z=>(E.assign (v:=vAV) rfl)) (fun sp=>?_);exact FB.done (by kernel_rfl) ⟨_,_,_,_,SB0,(iAd.tr rAo.run.inc),elsB1,kA2,rfl,kA4⟩
      ·
       obtain ⟨vAt,wAu,runAv,SAw,elsAx⟩:=SA8.ints (P:=prog) te45 (up wa.heap.size H97) 1 [s34.2];refine FC.val (l':=(bs 12 435)) rfl (by kernel_rfl) rfl rfl rfl (E.buildSlice (B1 rfl) runAv) ?_;refine ⟨(SP.nil SAw.sl),?_⟩;refine FB.phase [3,6,10] (fun w'=>w'=wAu) ?_;obtain ⟨HAb,SAc,iAd,hAe,nvAf⟩:=SAw.sealRowU (i:=1) (l':=[.row 3 1 vAt 1 (iC [s34.2])]) rfl (els38.mono (zae i99)) (by decide) rfl;obtain ⟨vAg,runAh,hAi⟩:=hAe.cut te45 hcAa (lo:=none) (hi:=some (vI s49.1)) (.inl ⟨rfl,rfl⟩) (.inr ⟨_,rfl⟩);refine FB.u (i:=2) (bs 12 439) [3,6,10,11] rfl (SP.on rfl (SP.nil SAw.sl)) rfl (E.slice te45 rfl rfl (congrArg some rfl) rfl (runAh _)) ?_;obtain ⟨vAL,runAM,hAN⟩:=hAe.cut te45 hcAK (lo:=some (vI s49.1)) (hi:=none) (.inr ⟨_,rfl⟩) (.inl ⟨rfl,rfl⟩);refine FB.t (i:=9) (bs 12 951) rfl (SP.on rfl (SP.nil (Sl.of_inc iAd SAc.sl))) rfl (fun _ z=>(E.slice te45 rfl (congrArg some rfl) rfl rfl (runAM _))) ?_;refine FB.all1 (i:=3) (by kernel_rfl) ?_
       ·
        refine FC.call (l':=(bs 12 959)) rfl (by kernel_rfl) rfl rfl rfl (E.call call66 (A1 rfl)) (za2 SAc.sl vAg xsA9 (hAi.mono upI) hrAk) ?_;rintro e wAm ⟨HAl,vAp,nAq,csAr,rfl,rAo,elsAs⟩;refine ⟨_,rfl,?_⟩;have elsAs:=elsAs.mono (up_le SAc.size);have SAn:=SAc.join (l':=[.row 3 1 vAp nAq csAr,.row 3 1 vAt 1 (iC [s34.2])]) rAo rfl;refine ⟨(SP.o (SP.nil (Sl.of_inc (iAd.tr rAo.run.inc) SAn.sl))),?_⟩;refine FB.all1 (i:=6) (by kernel_rfl) ?_
        ·
         obtain ⟨vAA,wAD,nAB,csAC,runAE,SAF,elsAG,ceAH⟩:=SAn.appendO (P:=prog) te45 (i:=0) (j:=1) rfl elsAs rfl (elsAx.mono (zae (iAd.tr rAo.run.inc))) hzAz;have SAI:St Ha wa HAl wAD [.row 3 1 vAA nAB csAC]:=SAF.drop 1;refine FC.val (l':=(bs 12 1023)) rfl (by kernel_rfl) rfl rfl rfl (E.append rfl rfl runAE) ?_;refine ⟨(SP.o (SP.nil (Sl.of_inc (iAd.tr rAo.run.inc) SAI.sl))),?_⟩;refine FB.all1 (i:=10) (by kernel_rfl) ?_
         ·
          obtain ⟨vAV,wAY,nAW,csAX,runAZ,SB0,elsB1⟩:=SAI.appendP (P:=prog) upI te45 (i:=0) rfl elsAG (hAN.mono (zae rAo.run.inc)) hzAU;refine FC.val (l':=(bs 12 2047)) rfl (by kernel_rfl) rfl rfl rfl (E.append rfl rfl runAZ) ?_;refine sgo (SP.o (SP.nil (Sl.of_inc (iAd.tr rAo.run.inc) SB0.sl))) fun sp=>?_;refine FB.r 11 12 4095 rfl sp (fun _ z=>(E.assign (v:=vAV) rfl)) (fun sp=>?_);exact FB.done (by kernel_rfl) ⟨_,_,_,_,SB0,(iAd.tr rAo.run.inc),elsB1,kA2,rfl,kA4⟩
      ·
       obtain ⟨HAL,SAM,iAN,hAO,nvAP⟩:=SA8.sealRowU (i:=0) (l':=[]) rfl (els38.mono (zae i99)) (by decide) rfl;obtain ⟨vAQ,runAR,hAS⟩:=hAO.cut te45 hcAK (lo:=some (vI s49.1)) (hi:=none) (.inr ⟨_,rfl⟩) (.inl ⟨rfl,rfl⟩);refine FC.val (l':=(bs 12 915)) rfl (by kernel_rfl) rfl rfl rfl (E.slice te45 rfl (congrArg some rfl) rfl rfl (runAR _)) ?_;refine sgo (SP.nil (Sl.of_inc iAN SAM.sl)) fun sp=>?_;obtain ⟨vAb,runAc,hAd⟩:=hAO.cut te45 hcAa (lo:=none) (hi:=some (vI s49.1)) (.inl ⟨rfl,rfl⟩) (.inr ⟨_,rfl⟩);refine FB.r 2 12 919 rfl sp (fun _ z=>(E.slice te45 rfl rfl (congrArg some rfl) rfl (runAc _))) (fun sp=>?_);refine FB.all2 (i:=3) (j:=5) (by kernel_rfl) ?_ ?_
       ·
        refine FC.call (l':=(bs 12 927)) rfl (by kernel_rfl) rfl rfl rfl (E.call call66 (A1 rfl)) (za2 SAM.sl vAb xsA9 (hAd.mono upI) hrAk) ?_;rintro e wAm ⟨HAl,vAp,nAq,csAr,rfl,rAo,elsAs⟩;refine ⟨_,rfl,?_⟩;have elsAs:=elsAs.mono (up_le SAM.size);have SAn:=SAM.join (l':=[.row 3 1 vAp nAq csAr]) rAo rfl;refine ⟨(SP.nil (Sl.of_inc (iAN.tr rAo.run.inc) SAn.sl)),?_⟩;refine FB.all1 (i:=5) (by kernel_rfl) ?_
        ·
         obtain ⟨vAt,wAu,runAv,SAw,elsAx⟩:=SAn.ints (P:=prog) te45 (up wa.heap.size HAl) 1 [s34.2];refine FC.val (l':=(bs 12 959)) rfl (by kernel_rfl) rfl rfl rfl (E.buildSlice (B1 rfl) runAv) ?_;refine ⟨(SP.nil (Sl.of_inc (iAN.tr rAo.run.inc) SAw.sl)),?_⟩;refine FB.all1 (i:=6) (by kernel_rfl) ?_
         ·
          obtain ⟨vAA,wAD,nAB,csAC,runAE,SAF,elsAG,ceAH⟩:=SAw.appendO (P:=prog) te45 (i:=1) (j:=0) rfl elsAs rfl elsAx hzAz;have SAI:St Ha wa HAl wAD [.row 3 1 vAA nAB csAC]:=SAF.drop 0;refine FC.val (l':=(bs 12 1023)) rfl (by kernel_rfl) rfl rfl rfl (E.append rfl rfl runAE) ?_;refine ⟨(SP.nil (Sl.of_inc (iAN.tr rAo.run.inc) SAI.sl)),?_⟩;refine FB.all1 (i:=10) (by kernel_rfl) ?_
          ·
           obtain ⟨vAV,wAY,nAW,csAX,runAZ,SB0,elsB1⟩:=SAI.appendP (P:=prog) upI te45 (i:=0) rfl elsAG (hAS.mono (zae rAo.run.inc)) hzAU;refine FC.val (l':=(bs 12 2047)) rfl (by kernel_rfl) rfl rfl rfl (E.append rfl rfl runAZ) ?_;refine sgo (SP.nil (Sl.of_inc (iAN.tr rAo.run.inc) SB0.sl)) fun sp=>?_;refine FB.r 11 12 4095 rfl sp (fun _ z=>(E.assign (v:=vAV) rfl)) (fun sp=>?_);exact FB.done (by kernel_rfl) ⟨_,_,_,_,SB0,(iAN.tr rAo.run.inc),elsB1,kA2,rfl,kA4⟩
       ·
        obtain ⟨vAt,wAu,runAv,SAw,elsAx⟩:=SAM.ints (P:=prog) te45 (up wa.heap.size HAL) 1 [s34.2];refine FC.val (l':=(bs 12 951)) rfl (by kernel_rfl) rfl rfl rfl (E.buildSlice (B1 rfl) runAv) ?_;refine ⟨(SP.nil (Sl.of_inc iAN SAw.sl)),?_⟩;refine FB.all1 (i:=3) (by kernel_rfl) ?_
        ·
         refine FC.call (l':=(bs 12 959)) rfl (by kernel_rfl) rfl rfl rfl (E.call call66 (A1 rfl)) (za2 SAw.sl vAb xsA9 (hAd.mono upI) hrAk) ?_;rintro e wAm ⟨HAl,vAp,nAq,csAr,rfl,rAo,elsAs⟩;refine ⟨_,rfl,?_⟩;have elsAs:=elsAs.mono (up_le SAw.size);have SAn:=SAw.join (l':=[.row 3 1 vAp nAq csAr,.row 3 1 vAt 1 (iC [s34.2])]) rAo rfl;refine ⟨(SP.nil (Sl.of_inc (iAN.tr rAo.run.inc) SAn.sl)),?_⟩;refine FB.all1 (i:=6) (by kernel_rfl) ?_
         ·
          obtain ⟨vAA,wAD,nAB,csAC,runAE,SAF,elsAG,ceAH⟩:=SAn.appendO (P:=prog) te45 (i:=0) (j:=1) rfl elsAs rfl (elsAx.mono (zae rAo.run.inc)) hzAz;have SAI:St Ha wa HAl wAD [.row 3 1 vAA nAB csAC]:=SAF.drop 1;refine FC.val (l':=(bs 12 1023)) rfl (by kernel_rfl) rfl rfl rfl (E.append rfl rfl runAE) ?_;refine ⟨(SP.nil (Sl.of_inc (iAN.tr rAo.run.inc) SAI.sl)),?_⟩;refine FB.all1 (i:=10) (by kernel_rfl) ?_
          ·
           obtain ⟨vAV,wAY,nAW,csAX,runAZ,SB0,elsB1⟩:=SAI.appendP (P:=prog) upI te45 (i:=0) rfl elsAG (hAS.mono (zae rAo.run.inc)) hzAU;refine FC.val (l':=(bs 12 2047)) rfl (by kernel_rfl) rfl rfl rfl (E.append rfl rfl runAZ) ?_;refine sgo (SP.nil (Sl.of_inc (iAN.tr rAo.run.inc) SB0.sl)) fun sp=>?_;refine FB.r 11 12 4095 rfl sp (fun _ z=>(E.assign (v:=vAV) rfl)) (fun sp=>?_);exact FB.done (by kernel_rfl) ⟨_,_,_,_,SB0,(iAN.tr rAo.run.inc),elsB1,kA2,rfl,kA4⟩
     ·
      rintro fBa wB9 ⟨HB6,vB2,nB3,csB4,SB7,iB8,elsB5,kBb,kBc,kBd⟩;refine FW.region<|FL.mv kBd<|FL.v (E.add rfl rfl) ?_;refine FL.as (v:=vI (wr (s34.2 + 1))) rfl<|FL.nil ?_;cases hp;exact ⟨rfl,⟨_,_,_,_,SB7,((i41.tr i99).tr iB8),elsB5,kBb,kBc,rfl⟩⟩
    ·
     exact x49.elim
  ·
   refine FW.condF rfl c48 ?_;refine FW.exit ?_;cases hp;exact ⟨nofun,rfl,⟨_,_,_,_,S40,i41,els38,k46⟩⟩
 ·
  clear hq;intro e fBj wBi hD;rcases q34 with s34|x34
  ·
   obtain ⟨rfl,hD⟩:=hD;obtain ⟨HBf,v35,n36,cs37,SBg,iBh,els38,kBk⟩:=hD;replace hp:=el_go hp;refine FW.sr<|FL.mv kBk<|FL.as (v:=v35) rfl<|FL.nil (FW.ret ?_);cases hp;exact ⟨.inr rfl,res1 rfl rfl ⟨_,_,_,_,rfl,SBg,els38⟩⟩
  ·
   exact x34.elim

theorem w_spec_l1Has {Ha:GH} {wa:World} (hs:Sl Ha wa) (v0:Value) (a0:List Int) (p0:RSl Ha eI 1 v0 a0) (a1:Int) {r:Bool} (hp:(PF.zc5 a0 a1)=some r) :
  Calls prog 120 #[v0,vI a1] wa (Sc Ha wa (vB r)):=by
 unfold PF.zc5 at hp;have S0:=St.init hs;refine zag (N:=18) (args:=[v0,vI a1]) func120 rfl rfl rfl ?_;refine FW.sr<|FL.as (v:=vB false) rfl<|FL.nil (FW.seq (FW.sr ?_));refine FL.as (v:=vI 0) rfl<|FL.nil ?_;obtain ⟨q22,hq,hp⟩:=bndR hp;refine FW.block ?_;refine FW.mono (FW.forL (S:=Unit) (X:=Bool) (fun (i22:Nat) (s22:Unit) f w=>∃ H:GH,St Ha wa H w []∧Inc Ha H∧f 5=vI ((i22:Nat):Int)∧f 0=v0∧f 1=vI a1) (fun q e f w=>match q with|.go s22=>e=Exit.exit 0∧(∃ H:GH,St Ha wa H w []∧Inc Ha H)|.rt x=>((e=Exit.ret)∧(fun e f w=>(e=Exit.normal∨e=Exit.ret)∧∀ a,Fr (δ:=[]) 18 a f→∃ v,(results Tryz.f120 a.tmps).run prog w=.ok v w∧(Sc Ha wa (vB x)) (.returned v) w) e f w)) hq ⟨_,S0,I0,rfl,rfl,rfl⟩ ?_ ?_) ?_
 ·
  clear hp hq;rintro i22 y21 s22 f42 w41 ⟨H38,S39,i40,k43,k44,k45⟩ hx22 o53 hp;refine FW.seq<|FW.sr<|FL.mv k43<|FL.mv k44<|FL.v (E.lenP te45 rfl p0) ?_;refine FL.v (E.lssT rfl rfl (zan hx22)) ?_;refine FL.nil<|FW.condT rfl rfl ?_;refine FW.skip (FW.seq (FW.block (FW.sr ?_)));refine FL.mv k44<|FL.mv k43 ?_;obtain ⟨p46,cs47,pt48,l49,at50,rel51⟩:=p0.at (zai hx22);obtain rfl:=eI_open rel51;refine FL.v (E.indexAddr te45 rfl rfl pt48) ?_;refine FL.v (E.load rfl (zac isAgg3 ((at50.mono i40).now S39.sl) rfl)) ?_;refine FL.mv k45<|FL.v (E.eql rfl rfl) ?_;refine FL.nil ?_;rcases ifB hp with ⟨c52,hp⟩|⟨c52,hp⟩
  ·
   refine FW.condT rfl c52 ?_;refine FW.sr<|FL.as (v:=vB true) rfl<|FL.nil (FW.ret ?_);cases hp;exact ⟨nofun,rfl,⟨.inr rfl,res1 rfl rfl ⟨rfl,S39.back⟩⟩⟩
  ·
   refine FW.condF rfl c52 ?_;refine FW.skip<|FW.region<|FL.mv k43<|FL.v (E.add rfl rfl) ?_;refine FL.as (v:=vI (wr (((i22:Nat):Int) + 1))) rfl<|FL.nil ?_;cases hp;exact ⟨rfl,⟨_,S39,i40,(zam rfl (zak hx22) (p0.mono i40).le),k44,k45⟩⟩
 ·
  clear hp hq;rintro s22 f63 w62 ⟨H59,S60,i61,k64,k65,k66⟩;refine FW.seq<|FW.sr<|FL.mv k64<|FL.mv k65<|FL.v (E.lenP te45 rfl p0) ?_;refine FL.v (E.lss rfl rfl) ?_;refine FL.nil<|FW.condF rfl zao ?_;refine FW.exit ?_;exact ⟨nofun,rfl,⟨_,S60,i61⟩⟩
 ·
  clear hq;intro e f58 w57 hD;rcases q22 with s22|x22
  ·
   obtain ⟨rfl,hD⟩:=hD;obtain ⟨H54,S55,i56⟩:=hD;replace hp:=el_go hp;refine FW.sr<|FL.as (v:=vB false) rfl<|FL.nil (FW.ret ?_);cases hp;exact ⟨.inr rfl,res1 rfl rfl ⟨rfl,S55.back⟩⟩
  ·
   obtain ⟨he,hL⟩:=hD;replace hp:=el_rt hp;cases hp;subst he;exact hL

theorem zdV {Ha:GH} {wa:World} (hs:Sl Ha wa) (v0:Value) (a0:List Int) (p0:RSl Ha eI 1 v0 a0) (a1:Int) {r:Bool} (hp:(PF.zbu a0 a1)=some r) :
  Calls prog 90 #[v0,vI a1] wa (Sc Ha wa (vB r)):=by
 unfold PF.zbu at hp;have S0:=St.init hs;refine zag (N:=8) (args:=[v0,vI a1]) func90 rfl rfl rfl ?_;refine FW.sr<|FL.as (v:=vB false) rfl<|FL.nil<|FW.sr<|FL.mv (v:=v0) rfl<|FL.mv (v:=vI a1) rfl ?_;obtain ⟨r21,hr22,hp⟩:=bnd hp;refine FL.c (E.call call120 (A2 rfl rfl)) (w_spec_l1Has S0.sl v0 a0 p0 a1 hr22) ?_;rintro e w23 ⟨rfl,r24⟩;refine ⟨_,rfl,?_⟩;have S25:=S0.call r24;refine FL.as (v:=vB r21) rfl<|FL.nil (FW.ret ?_);cases hp;exact ⟨.inr rfl,res1 rfl rfl ⟨rfl,S25.back⟩⟩

@[reducible] def p_spec_l2Without (Ha:GH) (wa:World) (r:(List Int)):Ending→World→Prop :=
 fun e w'=>∃ H':GH,∃ v0:Value,∃ n0:Nat,∃ c0:List Value,e=.returned (v0)∧St Ha wa H' w' [.row 3 1 v0 n0 c0]∧Els (up wa.heap.size H') eI 1 c0 r
set_option maxHeartbeats 4000000 in
theorem zex {Ha:GH} {wa:World} (hs:Sl Ha wa) (v0:Value) (a0:List Int) (p0:RSl Ha eI 1 v0 a0) (a1:Int) {r:(List Int)} (hp:(PF.zcw a0 a1)=some r) :
  Calls prog 92 #[v0,vI a1] wa (p_spec_l2Without Ha wa r):=by
 unfold PF.zcw at hp;have S0:=St.init hs;refine zag (N:=29) (args:=[v0,vI a1]) func92 rfl rfl rfl ?_;refine FW.sr<|FL.as (v:=vN) rfl<|FL.nil<|FW.sr ?_;obtain ⟨v21,w22,run23,S24⟩:=S0.b0 te45;have els25:Els (up wa.heap.size Ha) eI 1 [] []:=Els.nil;refine FL.v (E.buildSlice (B0) run23) ?_;refine FL.as (v:=v21) rfl<|FL.nil (FW.seq (FW.sr ?_));refine FL.as (v:=vI 0) rfl<|FL.nil ?_;obtain ⟨q27,hq,hp⟩:=bndR hp;refine FW.block ?_;refine FW.mono (FW.forL (S:=(List Int)) (X:=Empty) (fun (i27:Nat) (s27:(List Int)) f w=>∃ H:GH,∃ v28:Value,∃ n29:Nat,∃ cs30:List Value,St Ha wa H w [.row 3 1 v28 n29 cs30]∧Inc Ha H∧Els (up wa.heap.size H) eI 1 cs30 s27∧f 6=vI ((i27:Nat):Int)∧f 0=v0∧f 1=vI a1∧f 5=v28) (fun (q:Rs (List Int) Empty) e f w=>match q with|.go s27=>e=Exit.exit 0∧(∃ H:GH,∃ v28:Value,∃ n29:Nat,∃ cs30:List Value,St Ha wa H w [.row 3 1 v28 n29 cs30]∧Inc Ha H∧Els (up wa.heap.size H) eI 1 cs30 s27∧f 5=v28)|.rt x=>x.elim) hq ⟨_,_,_,_,S24,I0,els25,rfl,rfl,rfl,rfl⟩ ?_ ?_) ?_
 ·
  clear hp hq;rintro i27 y26 s27 f77 w76 ⟨H73,v28,n29,cs30,S74,i75,els31,k78,k79,k80,k81⟩ hx27 oAe hp;refine FW.seq<|FW.sr<|FL.mv k78<|FL.mv k79<|FL.v (E.lenP te45 rfl p0) ?_;refine FL.v (E.lssT rfl rfl (zan hx27)) ?_;refine FL.nil<|FW.condT rfl rfl ?_;refine FW.skip (FW.seq (FW.block (FW.sr ?_)));refine FL.mv k79<|FL.mv k78 ?_;obtain ⟨p82,cs83,pt84,l85,at86,rel87⟩:=p0.at (zai hx27);obtain rfl:=eI_open rel87;refine FL.v (E.indexAddr te45 rfl rfl pt84) ?_;refine FL.v (E.load rfl (zac isAgg3 ((at86.mono i75).now S74.sl) rfl)) ?_;refine FL.c (E.call call122 (A1 rfl)) (zdv S74.sl y26) ?_;rintro e w88 ⟨rfl,r89⟩;refine ⟨_,rfl,?_⟩;have S90:=S74.call r89;refine FL.mv k80<|FL.v (E.neq rfl rfl) ?_;refine FL.nil ?_;rcases ifB hp with ⟨c91,hp⟩|⟨c91,hp⟩
  ·
   refine FW.condT rfl c91 ?_;refine FW.region<|FL.mv k81<|FL.mv k79<|FL.mv k78 ?_;obtain ⟨p92,cs93,pt94,l95,at96,rel97⟩:=p0.at (zai hx27);obtain rfl:=eI_open rel97;refine FL.v (E.indexAddr te45 rfl rfl pt94) ?_;refine FL.v (E.load rfl (zac isAgg3 ((at96.mono i75).now S90.sl) rfl)) ?_;obtain ⟨v98,w99,runA0,SA1,elsA2⟩:=S90.ints (P:=prog) te45 (up wa.heap.size H73) 1 [y26];refine FL.v (E.buildSlice (B1 rfl) runA0) ?_;obtain ⟨xsA3,hzA4,hp⟩:=bnd hp;obtain ⟨vA5,wA8,nA6,csA7,runA9,SAa,elsAb,ceAc⟩:=SA1.appendO (P:=prog) te45 (i:=1) (j:=0) rfl els31 rfl elsA2 hzA4;have SAd:St Ha wa H73 wA8 [.row 3 1 vA5 nA6 csA7]:=SAa.drop 0;refine FL.v (E.append rfl rfl runA9) ?_;refine FL.as (v:=vA5) rfl<|FL.nil<|FW.region<|FL.mv k78<|FL.v (E.add rfl rfl) ?_;refine FL.as (v:=vI (wr (((i27:Nat):Int) + 1))) rfl<|FL.nil ?_;cases hp;exact ⟨rfl,⟨_,_,_,_,SAd,i75,elsAb,(zam rfl (zak hx27) (p0.mono i75).le),k79,k80,rfl⟩⟩
  ·
   refine FW.condF rfl c91 ?_;refine FW.skip<|FW.region<|FL.mv k78<|FL.v (E.add rfl rfl) ?_;refine FL.as (v:=vI (wr (((i27:Nat):Int) + 1))) rfl<|FL.nil ?_;cases hp;exact ⟨rfl,⟨_,_,_,_,S90,i75,els31,(zam rfl (zak hx27) (p0.mono i75).le),k79,k80,k81⟩⟩
 ·
  clear hp hq;rintro s27 fAp wAo ⟨HAl,v28,n29,cs30,SAm,iAn,els31,kAq,kAr,kAs,kAt⟩;refine FW.seq<|FW.sr<|FL.mv kAq<|FL.mv kAr<|FL.v (E.lenP te45 rfl p0) ?_;refine FL.v (E.lss rfl rfl) ?_;refine FL.nil<|FW.condF rfl zao ?_;refine FW.exit ?_;exact ⟨nofun,rfl,⟨_,_,_,_,SAm,iAn,els31,kAt⟩⟩
 ·
  clear hq;intro e fAj wAi hD;rcases q27 with s27|x27
  ·
   obtain ⟨rfl,hD⟩:=hD;obtain ⟨HAf,v28,n29,cs30,SAg,iAh,els31,kAk⟩:=hD;replace hp:=el_go hp;refine FW.sr<|FL.mv kAk<|FL.as (v:=v28) rfl<|FL.nil (FW.ret ?_);cases hp;exact ⟨.inr rfl,res1 rfl rfl ⟨_,_,_,_,rfl,SAg,els31⟩⟩
  ·
   exact x27.elim

@[reducible] def p_spec_l2Put (Ha:GH) (wa:World) (r:(List Int)):Ending→World→Prop :=
 fun e w'=>∃ H':GH,∃ v0:Value,∃ n0:Nat,∃ c0:List Value,e=.returned (v0)∧St Ha wa H' w' [.row 3 1 v0 n0 c0]∧Els (up wa.heap.size H') eI 1 c0 r
set_option maxHeartbeats 4000000 in
theorem w_spec_l2Put {Ha:GH} {wa:World} (hs:Sl Ha wa) (v0:Value) (a0:List Int) (p0:RSl Ha eI 1 v0 a0) (a1:Int) {r:(List Int)} (hp:(PF.zcx a0 a1)=some r) :
  Calls prog 121 #[v0,vI a1] wa (p_spec_l2Put Ha wa r):=by
 unfold PF.zcx at hp;have S0:=St.init hs;refine zag (N:=33) (args:=[v0,vI a1]) func121 rfl rfl rfl ?_;refine FW.sr<|FL.as (v:=vN) rfl<|FL.nil<|FW.sr<|FL.as (v:=vI 0) rfl<|FL.nil<|FW.seq ?_;obtain ⟨q21,hq,hp⟩:=bndR hp;refine FW.block ?_;refine FW.mono (FW.iter (S:=Int) (X:=Empty) (fun (s21:Int) f w=>∃ H:GH,St Ha wa H w []∧Inc Ha H∧f 0=v0∧f 1=vI a1∧f 5=vI s21) (fun (q:Rs Int Empty) e f w=>match q with|.go s21=>e=Exit.exit 0∧(∃ H:GH,St Ha wa H w []∧Inc Ha H∧f 0=v0∧f 1=vI a1∧f 5=vI s21)|.rt x=>x.elim) hq ⟨_,S0,I0,rfl,rfl,rfl⟩ ?_) ?_
 ·
  clear hp hq;rintro s21 f74 w73 ⟨H70,S71,i72,k75,k76,k77⟩ oAi hp;refine FW.seq<|FW.sr<|FL.mv k77<|FL.mv k75<|FL.v (E.lenP te45 rfl p0) ?_;refine FL.v (E.lss rfl rfl) ?_;refine FL.mv (v:=vB (decide (s21 < (len a0)))) rfl ?_;obtain ⟨t92,hqt92,hp⟩:=bnd hp;refine FL.cut 9 (fun f w=>∃ H:GH,St Ha wa H w []∧Inc H70 H∧f 0=v0∧f 1=vI a1∧f 5=vI s21∧f 19=vB t92) ?_ ?_
  ·
   clear hp;have hp:=hqt92;clear hqt92;rcases ifB hp with ⟨c98,hp⟩|⟨c98,hp⟩
   ·
    refine FL.y (wY c98) (E.move k75) ?_;refine FL.y (wY c98) (E.move k77) ?_;obtain ⟨xA5,hxA6,hp⟩:=bnd hp;obtain ⟨p99,csA0,ptA1,lA2,atA3,relA4⟩:=p0.at hxA6;obtain rfl:=eI_open relA4;refine FL.y (wY c98) (E.indexAddr te45 rfl rfl ptA1) ?_;refine FL.y (wY c98) (E.load rfl (zac isAgg3 ((atA3.mono i72).now S71.sl) rfl)) ?_;refine FL.call (wY c98) rfl rfl (E.call call122 (A1 rfl)) (zdv S71.sl xA5) ?_;rintro e wA7 ⟨rfl,rA8⟩;refine ⟨_,rfl,?_⟩;have SA9:=S71.call rA8;refine FL.y (wY c98) (E.move k76) ?_;refine FL.call (wY c98) rfl rfl (E.call call122 (A1 rfl)) (zdv SA9.sl a1) ?_;rintro e wAa ⟨rfl,rAb⟩;refine ⟨_,rfl,?_⟩;have SAc:=SA9.call rAb;refine FL.y (wY c98) (E.lss rfl rfl) ?_;cases hp;refine FL.v (E.pickT rfl c98 rfl) ?_;exact FL.nil ⟨rfl,_,SAc,I0,k75,k76,k77,rfl⟩
   ·
    refine FL.n c98<|FL.n c98<|FL.n c98<|FL.n c98<|FL.n c98<|FL.n c98<|FL.n c98<|FL.n c98 ?_;cases hp;refine FL.v (E.pickF rfl c98 rfl) ?_;exact FL.nil ⟨rfl,_,S71,I0,k75,k76,k77,rfl⟩
  rintro f97 w96 ⟨H93,S94,i95,kAd,kAe,kAf,kAg⟩;refine FL.nil ?_;rcases ifB hp with ⟨cAh,hp⟩|⟨cAh,hp⟩
  ·
   refine FW.condT kAg cAh ?_;refine FW.skip (FW.block (FW.region ?_));refine FL.mv kAf<|FL.v (E.add rfl rfl) ?_;refine FL.as (v:=vI (wr (s21 + 1))) rfl<|FL.nil ?_;cases hp;exact ⟨rfl,⟨_,S94,(i72.tr i95),kAd,kAe,rfl⟩⟩
  ·
   refine FW.condF kAg cAh ?_;refine FW.exit ?_;cases hp;exact ⟨nofun,rfl,⟨_,S94,(i72.tr i95),kAd,kAe,kAf⟩⟩
 ·
  clear hq;intro e fAn wAm hD;rcases q21 with s21|x21
  ·
   obtain ⟨rfl,hD⟩:=hD;obtain ⟨HAj,SAk,iAl,kAo,kAp,kAq⟩:=hD;replace hp:=el_go hp;refine FW.seq ?_;obtain ⟨xs22,hc23,hp⟩:=bnd hp;obtain ⟨r27,hr28,hp⟩:=bnd hp;obtain ⟨xs42,hz43,hp⟩:=bnd hp;obtain ⟨xs54,hc55,hp⟩:=bnd hp;obtain ⟨xs59,hz60,hp⟩:=bnd hp;refine FW.drawB (Sl HAj) (fun f w=>∃ H:GH,∃ v68:Value,∃ n69:Nat,∃ cs78:List Value,St Ha wa H w [.row 3 1 v68 n69 cs78]∧Inc HAj H∧Els (up wa.heap.size H) eI 1 cs78 xs59∧f 4=v68) (by kernel_rfl) SAk.sl ?_ ?_
   ·
    intro wAr rAs;have SAt:=SAk.call rAs;refine FB.T 0 12 1 rfl SAt.sl rfl (fun _ z=>(E.move kAo)) ?_;refine FB.T 1 12 3 rfl SAt.sl rfl (fun _ z=>(E.move kAq)) ?_;obtain ⟨v24,run25,h26⟩:=p0.cut te45 hc23 (lo:=none) (hi:=some (vI s21)) (.inl ⟨rfl,rfl⟩) (.inr ⟨_,rfl⟩);refine FB.T 2 12 7 rfl SAt.sl rfl (fun _ z=>(E.slice te45 rfl rfl (congrArg some rfl) rfl (run25 _))) ?_;refine FB.T 4 12 23 rfl SAt.sl rfl (fun _ z=>(E.move kAp)) ?_;refine FB.T 7 12 151 rfl SAt.sl rfl (fun _ z=>(E.move kAo)) ?_;refine FB.T 8 12 407 rfl SAt.sl rfl (fun _ z=>(E.move kAq)) ?_;obtain ⟨v56,run57,h58⟩:=p0.cut te45 hc55 (lo:=some (vI s21)) (hi:=none) (.inr ⟨_,rfl⟩) (.inl ⟨rfl,rfl⟩);refine FB.T 9 12 919 rfl SAt.sl rfl (fun _ z=>(E.slice te45 rfl (congrArg some rfl) rfl rfl (run57 _))) ?_;refine FB.all2 (i:=3) (j:=5) (by kernel_rfl) ?_ ?_
    ·
     refine FC.call (l':=(bs 12 927)) rfl (by kernel_rfl) rfl rfl rfl (E.call call66 (A1 rfl)) (za2 SAt.sl v24 xs22 (h26.mono iAl) hr28) ?_;rintro e w30 ⟨H29,v33,n34,cs35,rfl,r32,els36⟩;refine ⟨_,rfl,?_⟩;have els36:=els36.mono (up_le SAt.size);have S31:=SAt.join (l':=[.row 3 1 v33 n34 cs35]) r32 rfl;refine ⟨(SP.nil (Sl.of_inc r32.run.inc S31.sl)),?_⟩;refine FB.all1 (i:=5) (by kernel_rfl) ?_
     ·
      obtain ⟨v37,w38,run39,S40,els41⟩:=S31.ints (P:=prog) te45 (up wa.heap.size H29) 1 [a1];refine FC.val (l':=(bs 12 959)) rfl (by kernel_rfl) rfl rfl rfl (E.buildSlice (B1 rfl) run39) ?_;refine ⟨(SP.nil (Sl.of_inc r32.run.inc S40.sl)),?_⟩;refine FB.all1 (i:=6) (by kernel_rfl) ?_
      ·
       obtain ⟨v44,w48,n46,cs47,run49,S50,els51,ce52⟩:=S40.appendO (P:=prog) te45 (i:=1) (j:=0) rfl els36 rfl els41 hz43;have S53:St Ha wa H29 w48 [.row 3 1 v44 n46 cs47]:=S50.drop 0;refine FC.val (l':=(bs 12 1023)) rfl (by kernel_rfl) rfl rfl rfl (E.append rfl rfl run49) ?_;refine ⟨(SP.nil (Sl.of_inc r32.run.inc S53.sl)),?_⟩;refine FB.all1 (i:=10) (by kernel_rfl) ?_
       ·
        obtain ⟨v61,w64,n62,cs63,run65,S66,els67⟩:=S53.appendP (P:=prog) I0 te45 (i:=0) rfl (els51.mono upI) (h58.mono (iAl.tr r32.run.inc)) hz60;have els67:Els (up wa.heap.size H29) eI 1 cs63 xs59:=els67.any (fun _ _ _ _ h=>h);refine FC.val (l':=(bs 12 2047)) rfl (by kernel_rfl) rfl rfl rfl (E.append rfl rfl run65) ?_;refine sgo (SP.nil (Sl.of_inc r32.run.inc S66.sl)) fun sp=>?_;refine FB.r 11 12 4095 rfl sp (fun _ z=>(E.assign (v:=v61) rfl)) (fun sp=>?_);exact FB.done (by kernel_rfl) ⟨_,_,_,_,S66,r32.run.inc,els67,rfl⟩
    ·
     obtain ⟨v37,w38,run39,S40,els41⟩:=SAt.ints (P:=prog) te45 (up wa.heap.size HAj) 1 [a1];refine FC.val (l':=(bs 12 951)) rfl (by kernel_rfl) rfl rfl rfl (E.buildSlice (B1 rfl) run39) ?_;refine ⟨(SP.nil S40.sl),?_⟩;refine FB.all1 (i:=3) (by kernel_rfl) ?_
     ·
      refine FC.call (l':=(bs 12 959)) rfl (by kernel_rfl) rfl rfl rfl (E.call call66 (A1 rfl)) (za2 S40.sl v24 xs22 (h26.mono iAl) hr28) ?_;rintro e w30 ⟨H29,v33,n34,cs35,rfl,r32,els36⟩;refine ⟨_,rfl,?_⟩;have els36:=els36.mono (up_le S40.size);have S31:=S40.join (l':=[.row 3 1 v33 n34 cs35,.row 3 1 v37 1 (iC [a1])]) r32 rfl;refine ⟨(SP.nil (Sl.of_inc r32.run.inc S31.sl)),?_⟩;refine FB.all1 (i:=6) (by kernel_rfl) ?_
      ·
       obtain ⟨v44,w48,n46,cs47,run49,S50,els51,ce52⟩:=S31.appendO (P:=prog) te45 (i:=0) (j:=1) rfl els36 rfl (els41.mono (zae r32.run.inc)) hz43;have S53:St Ha wa H29 w48 [.row 3 1 v44 n46 cs47]:=S50.drop 1;refine FC.val (l':=(bs 12 1023)) rfl (by kernel_rfl) rfl rfl rfl (E.append rfl rfl run49) ?_;refine ⟨(SP.nil (Sl.of_inc r32.run.inc S53.sl)),?_⟩;refine FB.all1 (i:=10) (by kernel_rfl) ?_
       ·
        obtain ⟨v61,w64,n62,cs63,run65,S66,els67⟩:=S53.appendP (P:=prog) I0 te45 (i:=0) rfl (els51.mono upI) (h58.mono (iAl.tr r32.run.inc)) hz60;have els67:Els (up wa.heap.size H29) eI 1 cs63 xs59:=els67.any (fun _ _ _ _ h=>h);refine FC.val (l':=(bs 12 2047)) rfl (by kernel_rfl) rfl rfl rfl (E.append rfl rfl run65) ?_;refine sgo (SP.nil (Sl.of_inc r32.run.inc S66.sl)) fun sp=>?_;refine FB.r 11 12 4095 rfl sp (fun _ z=>(E.assign (v:=v61) rfl)) (fun sp=>?_);exact FB.done (by kernel_rfl) ⟨_,_,_,_,S66,r32.run.inc,els67,rfl⟩
   ·
    rintro f84 w83 ⟨H80,v68,n69,cs78,S81,i82,els79,k85⟩;refine FW.ret ?_;cases hp;exact ⟨.inr rfl,res1 rfl k85 ⟨_,_,_,_,rfl,S81,els79⟩⟩
  ·
   exact x21.elim

@[reducible] def p_spec_l2Join (Ha:GH) (wa:World) (r:((List Int)×Bool)):Ending→World→Prop :=
 fun e w'=>∃ H':GH,∃ v0:Value,∃ n0:Nat,∃ c0:List Value,e=.returned (Value.tuple #[v0,vB r.2])∧St Ha wa H' w' [.row 3 1 v0 n0 c0]∧Els (up wa.heap.size H') eI 1 c0 r.1
set_option maxHeartbeats 4000000 in
theorem w_spec_l2Join {Ha:GH} {wa:World} (hs:Sl Ha wa) (v0:Value) (a0:List Int) (p0:RSl Ha eI 1 v0 a0) (v1:Value) (a1:List Int) (p1:RSl Ha eI 1 v1 a1) {r:((List Int)×Bool)} (hp:(PF.zc6 a0 a1)=some r) :
  Calls prog 91 #[v0,v1] wa (p_spec_l2Join Ha wa r):=by
 unfold PF.zc6 at hp;have S0:=St.init hs;refine zag (N:=38) (args:=[v0,v1]) func91 rfl rfl rfl ?_;refine FW.sr<|FL.as (v:=vN) rfl<|FL.as (v:=vB false) rfl<|FL.nil<|FW.sr<|FL.mv (v:=v0) rfl ?_;obtain ⟨r21,hr22,hp⟩:=bnd hp;refine FL.c (E.call call66 (A1 rfl)) (za2 S0.sl v0 a0 p0 hr22) ?_;rintro e w24 ⟨H23,v27,n28,cs29,rfl,r26,els30⟩;refine ⟨_,rfl,?_⟩;have els30:=els30.mono (up_le S0.size);have S25:=S0.join (l':=[.row 3 1 v27 n28 cs29]) r26 rfl;refine FL.as (v:=v27) rfl<|FL.nil (FW.seq (FW.sr ?_));refine FL.as (v:=vI 0) rfl<|FL.nil ?_;obtain ⟨q32,hq,hp⟩:=bndR hp;refine FW.block ?_;refine FW.mono (FW.forL (S:=(List Int)) (X:=((List Int)×Bool)) (fun (i32:Nat) (s32:(List Int)) f w=>∃ H:GH,∃ vA7:Value,∃ nA8:Nat,∃ csA9:List Value,St Ha wa H w [.row 3 1 vA7 nA8 csA9]∧Inc H23 H∧Els (up wa.heap.size H) eI 1 csA9 s32∧f 7=vI ((i32:Nat):Int)∧f 1=v1∧f 6=vA7) (fun q e f w=>match q with|.go s32=>e=Exit.exit 0∧(∃ H:GH,∃ vA7:Value,∃ nA8:Nat,∃ csA9:List Value,St Ha wa H w [.row 3 1 vA7 nA8 csA9]∧Inc H23 H∧Els (up wa.heap.size H) eI 1 csA9 s32∧f 6=vA7)|.rt x=>((e=Exit.ret)∧(fun e f w=>(e=Exit.normal∨e=Exit.ret)∧∀ a,Fr (δ:=[]) 38 a f→∃ v,(results Tryz.f91 a.tmps).run prog w=.ok v w∧(p_spec_l2Join Ha wa x) (.returned v) w) e f w)) hq ⟨_,_,_,_,S25,I0,els30,rfl,rfl,rfl⟩ ?_ ?_) ?_
 ·
  clear hp hq;rintro i32 y31 s32 fBn wBm ⟨HBj,vA7,nA8,csA9,SBk,iBl,elsAa,kBo,kBp,kBq⟩ hx32 oCr hp;refine FW.seq<|FW.sr<|FL.mv kBo<|FL.mv kBp<|FL.v (E.lenP te45 rfl p1) ?_;refine FL.v (E.lssT rfl rfl (zan hx32)) ?_;refine FL.nil<|FW.condT rfl rfl ?_;refine FW.skip (FW.seq (FW.block (FW.seq (FW.sr ?_))));refine FL.mv kBq<|FL.mv kBp<|FL.mv kBo ?_;obtain ⟨pBr,csBs,ptBt,lBu,atBv,relBw⟩:=p1.at (zai hx32);obtain rfl:=eI_open relBw;refine FL.v (E.indexAddr te45 rfl rfl ptBt) ?_;refine FL.v (E.load rfl (zac isAgg3 ((atBv.mono (r26.run.inc.tr iBl)).now SBk.sl) rfl)) ?_;refine FL.v (E.neg rfl) ?_;obtain ⟨HBx,SBy,iBz,hBA,nvBB⟩:=SBk.sealRowU (i:=0) (l':=[]) rfl elsAa (by decide) rfl;obtain ⟨rBC,hrBD,hp⟩:=bnd hp;refine FL.c (E.call call90 (A2 rfl rfl)) (zdV SBy.sl vA7 s32 (hBA.mono upI) (wr (-y31)) hrBD) ?_;rintro e wBE ⟨rfl,rBF⟩;refine ⟨_,rfl,?_⟩;have rBF:=Run.lend iBz SBk.sl rBF;have SBG:=SBk.call rBF;refine FL.nil ?_;rcases ifB hp with ⟨cBH,hp⟩|⟨cBH,hp⟩
  ·
   refine FW.condT rfl cBH ?_;refine FW.sr ?_;obtain ⟨vBI,wBJ,runBK,SBL⟩:=SBG.b0 te45;have elsBM:Els (up wa.heap.size HBj) eI 1 [] []:=Els.nil;refine FL.v (E.buildSlice (B0) runBK) ?_;refine FL.as (v:=vBI) rfl<|FL.as (v:=vB false) rfl<|FL.nil (FW.ret ?_);cases hp;exact ⟨nofun,rfl,⟨.inr rfl,res2 rfl rfl rfl ⟨_,_,_,_,rfl,(SBL.sel [0] (by decide) rfl),elsBM⟩⟩⟩
  ·
   refine FW.condF rfl cBH ?_;refine FW.skip<|FW.sr<|FL.mv kBq<|FL.mv kBp<|FL.mv kBo ?_;obtain ⟨pBN,csBO,ptBP,lBQ,atBR,relBS⟩:=p1.at (zai hx32);obtain rfl:=eI_open relBS;refine FL.v (E.indexAddr te45 rfl rfl ptBP) ?_;refine FL.v (E.load rfl (zac isAgg3 ((atBR.mono (r26.run.inc.tr iBl)).now SBG.sl) rfl)) ?_;obtain ⟨HBT,SBU,iBV,hBW,nvBX⟩:=SBG.sealRowU (i:=0) (l':=[]) rfl elsAa (by decide) rfl;obtain ⟨rBY,hrBZ,hp⟩:=bnd hp;refine FL.c (E.call call90 (A2 rfl rfl)) (zdV SBU.sl vA7 s32 (hBW.mono upI) y31 hrBZ) ?_;rintro e wC0 ⟨rfl,rC1⟩;refine ⟨_,rfl,?_⟩;have rC1:=Run.lend iBV SBG.sl rC1;have SC2:=SBG.call rC1;refine FL.v (E.not rfl) ?_;refine FL.nil ?_;rcases ifB hp with ⟨cC3,hp⟩|⟨cC3,hp⟩
   ·
    refine FW.condT rfl cC3 ?_;refine FW.region<|FL.mv kBq<|FL.mv kBp<|FL.mv kBo ?_;obtain ⟨pC4,csC5,ptC6,lC7,atC8,relC9⟩:=p1.at (zai hx32);obtain rfl:=eI_open relC9;refine FL.v (E.indexAddr te45 rfl rfl ptC6) ?_;refine FL.v (E.load rfl (zac isAgg3 ((atC8.mono (r26.run.inc.tr iBl)).now SC2.sl) rfl)) ?_;obtain ⟨HCa,SCb,iCc,hCd,nvCe⟩:=SC2.sealRowU (i:=0) (l':=[]) rfl elsAa (by decide) rfl;obtain ⟨rCf,hrCg,hp⟩:=bnd hp;refine FL.c (E.call call121 (A2 rfl rfl)) (w_spec_l2Put SCb.sl vA7 s32 (hCd.mono upI) y31 hrCg) ?_;rintro e wCi ⟨HCh,vCn,nCo,csCp,rfl,rCk,elsCq⟩;refine ⟨_,rfl,?_⟩;obtain ⟨HCl,rCk,hU246⟩:=St.lendX iCc SC2.sl rCk;have elsCq:=elsCq.mono (hU246.tr (up_le SC2.size));have SCj:=SC2.join (l':=[.row 3 1 vCn nCo csCp,.row 3 1 vA7 nA8 csA9]) rCk rfl;refine FL.as (v:=vCn) rfl<|FL.nil<|FW.region<|FL.mv kBo<|FL.v (E.add rfl rfl) ?_;refine FL.as (v:=vI (wr (((i32:Nat):Int) + 1))) rfl<|FL.nil ?_;cases hp;exact ⟨rfl,⟨_,_,_,_,(SCj.sel [0] (by decide) rfl),(iBl.tr rCk.run.inc),elsCq,(zam rfl (zak hx32) (p1.mono ((r26.run.inc.tr iBl).tr rCk.run.inc)).le),kBp,rfl⟩⟩
   ·
    refine FW.condF rfl cC3 ?_;refine FW.skip<|FW.region<|FL.mv kBo<|FL.v (E.add rfl rfl) ?_;refine FL.as (v:=vI (wr (((i32:Nat):Int) + 1))) rfl<|FL.nil ?_;cases hp;exact ⟨rfl,⟨_,_,_,_,SC2,iBl,elsAa,(zam rfl (zak hx32) (p1.mono (r26.run.inc.tr iBl)).le),kBp,kBq⟩⟩
 ·
  clear hp hq;rintro s32 fCC wCB ⟨HCy,vA7,nA8,csA9,SCz,iCA,elsAa,kCD,kCE,kCF⟩;refine FW.seq<|FW.sr<|FL.mv kCD<|FL.mv kCE<|FL.v (E.lenP te45 rfl p1) ?_;refine FL.v (E.lss rfl rfl) ?_;refine FL.nil<|FW.condF rfl zao ?_;refine FW.exit ?_;exact ⟨nofun,rfl,⟨_,_,_,_,SCz,iCA,elsAa,kCF⟩⟩
 ·
  clear hq;intro e fCw wCv hD;rcases q32 with s32|x32
  ·
   obtain ⟨rfl,hD⟩:=hD;obtain ⟨HCs,vA7,nA8,csA9,SCt,iCu,elsAa,kCx⟩:=hD;replace hp:=el_go hp;refine FW.sr<|FL.mv kCx<|FL.as (v:=vA7) rfl<|FL.as (v:=vB true) rfl<|FL.nil (FW.ret ?_);cases hp;exact ⟨.inr rfl,res2 rfl rfl rfl ⟨_,_,_,_,rfl,SCt,elsAa⟩⟩
  ·
   obtain ⟨he,hL⟩:=hD;replace hp:=el_rt hp;cases hp;subst he;exact hL

@[reducible] def p_spec_l2Resolve (Ha:GH) (wa:World) (r:((List Int)×Bool)):Ending→World→Prop :=
 fun e w'=>∃ H':GH,∃ v0:Value,∃ n0:Nat,∃ c0:List Value,e=.returned (Value.tuple #[v0,vB r.2])∧St Ha wa H' w' [.row 3 1 v0 n0 c0]∧Els (up wa.heap.size H') eI 1 c0 r.1
theorem zee {Ha:GH} {wa:World} (hs:Sl Ha wa) (v0:Value) (a0:List Int) (p0:RSl Ha eI 1 v0 a0) (v1:Value) (a1:List Int) (p1:RSl Ha eI 1 v1 a1) (a2:Int) {r:((List Int)×Bool)} (hp:(PF.zbI a0 a1 a2)=some r) :
  Calls prog 60 #[v0,v1,vI a2] wa (p_spec_l2Resolve Ha wa r):=by
 unfold PF.zbI at hp;have S0:=St.init hs;refine zag (N:=29) (args:=[v0,v1,vI a2]) func60 rfl rfl rfl ?_;refine FW.sr<|FL.as (v:=vN) rfl<|FL.as (v:=vB false) rfl<|FL.nil (FW.seq (FW.sr ?_));refine FL.mv (v:=v0) rfl<|FL.mv (v:=vI a2) rfl ?_;obtain ⟨r21,hr22,hp⟩:=bnd hp;refine FL.c (E.call call90 (A2 rfl rfl)) (zdV S0.sl v0 a0 p0 a2 hr22) ?_;rintro e w23 ⟨rfl,r24⟩;refine ⟨_,rfl,?_⟩;have S25:=S0.call r24;refine FL.v (E.not rfl) ?_;refine FL.mv (v:=vB (!r21)) rfl ?_;obtain ⟨t31,hqt31,hp⟩:=bnd hp;refine FL.cut 6 (fun f w=>∃ H:GH,St Ha wa H w []∧Inc Ha H∧f 0=v0∧f 1=v1∧f 2=vI a2∧f 18=vB t31) ?_ ?_
 ·
  clear hp;have hp:=hqt31;clear hqt31;rcases ifB hp with ⟨c37,hp⟩|⟨c37,hp⟩
  ·
   refine FL.n c37<|FL.n c37<|FL.n c37<|FL.n c37<|FL.n c37 ?_;cases hp;refine FL.v (E.pickT rfl c37 rfl) ?_;exact FL.nil ⟨rfl,_,S25,I0,rfl,rfl,rfl,rfl⟩
  ·
   refine FL.y (wY c37) (E.move (v:=v1) rfl) ?_;refine FL.y (wY c37) (E.move (v:=vI a2) rfl) ?_;refine FL.y (wY c37) (E.neg rfl) ?_;obtain ⟨r38,hr39,hp⟩:=bnd hp;refine FL.call (wY c37) rfl rfl (E.call call90 (A2 rfl rfl)) (zdV S25.sl v1 a1 p1 (wr (-a2)) hr39) ?_;rintro e w40 ⟨rfl,r41⟩;refine ⟨_,rfl,?_⟩;have S42:=S25.call r41;refine FL.y (wY c37) (E.not rfl) ?_;cases hp;refine FL.v (E.pickF rfl c37 rfl) ?_;exact FL.nil ⟨rfl,_,S42,I0,rfl,rfl,rfl,rfl⟩
 rintro f36 w35 ⟨H32,S33,i34,k43,k44,k45,k46⟩;refine FL.nil ?_;rcases ifB hp with ⟨c47,hp⟩|⟨c47,hp⟩
 ·
  refine FW.condT k46 c47 ?_;refine FW.sr ?_;obtain ⟨v48,w49,run50,S51⟩:=S33.b0 te45;have els52:Els (up wa.heap.size H32) eI 1 [] []:=Els.nil;refine FL.v (E.buildSlice (B0) run50) ?_;refine FL.as (v:=v48) rfl<|FL.as (v:=vB false) rfl<|FL.nil (FW.ret ?_);cases hp;exact ⟨.inr rfl,res2 rfl rfl rfl ⟨_,_,_,_,rfl,S51,els52⟩⟩
 ·
  refine FW.condF k46 c47 ?_;refine FW.skip<|FW.sr<|FL.mv k43<|FL.mv k45 ?_;obtain ⟨r53,hr54,hp⟩:=bnd hp;refine FL.c (E.call call92 (A2 rfl rfl)) (zex S33.sl v0 a0 (p0.mono i34) a2 hr54) ?_;rintro e w56 ⟨H55,v59,n60,cs61,rfl,r58,els62⟩;refine ⟨_,rfl,?_⟩;have els62:=els62.mono (up_le S33.size);have S57:=S33.join (l':=[.row 3 1 v59 n60 cs61]) r58 rfl;refine FL.mv k44<|FL.mv k45 ?_;obtain ⟨r63,hr64,hp⟩:=bnd hp;refine FL.c (E.call call92 (A2 rfl rfl)) (zex S57.sl v1 a1 (p1.mono (i34.tr r58.run.inc)) a2 hr64) ?_;rintro e w66 ⟨H65,v69,n70,cs71,rfl,r68,els72⟩;refine ⟨_,rfl,?_⟩;have els72:=els72.mono (up_le S57.size);have S67:=S57.join (l':=[.row 3 1 v69 n70 cs71,.row 3 1 v59 n60 cs61]) r68 rfl;obtain ⟨H73,S74,i75,h76,nv77⟩:=S67.sealRowU (i:=1) (l':=[.row 3 1 v69 n70 cs71]) rfl (els62.mono (zae r68.run.inc)) (by decide) rfl;obtain ⟨H78,S79,i80,h81,nv82⟩:=S74.sealRowU (i:=0) (l':=[]) rfl (els72.mono (zae i75)) (by decide) rfl;obtain ⟨r83,hr84,hp⟩:=bnd hp;refine FL.c (E.call call91 (A2 rfl rfl)) (w_spec_l2Join S79.sl v59 r53 (h76.mono (upI.tr i80)) v69 r63 (h81.mono upI) hr84) ?_;rintro e w86 ⟨H85,v91,n92,cs93,rfl,r88,els94⟩;refine ⟨_,rfl,?_⟩;obtain ⟨H89,r88,hU90⟩:=St.lendX (i75.tr i80) S67.sl r88;have els94:=els94.mono (hU90.tr (up_le S67.size));have S87:=S67.join (l':=[.row 3 1 v91 n92 cs93,.row 3 1 v69 n70 cs71,.row 3 1 v59 n60 cs61]) r88 rfl;refine FL.v (E.extract (i:=0) rfl rfl) ?_;refine FL.v (E.extract (i:=1) rfl rfl) ?_;refine FL.as (v:=v91) rfl<|FL.as (v:=vB r83.2) rfl<|FL.nil (FW.ret ?_);cases hp;exact ⟨.inr rfl,res2 rfl rfl rfl ⟨_,_,_,_,rfl,(S87.sel [0] (by decide) rfl),els94⟩⟩

theorem zck {Ha:GH} {wa:World} (hs:Sl Ha wa) (v0:Value) (a0:List (List Int)) (p0:RSl Ha (eL eI 1) 1 v0 a0) (v1:Value) (a1:List Int) (p1:RSl Ha eI 1 v1 a1) {r:Int} (hp:(PF.za8 a0 a1)=some r) :
  Calls prog 58 #[v0,v1] wa (Sc Ha wa (vI r)):=by
 unfold PF.za8 at hp;have S0:=St.init hs;refine zag (N:=22) (args:=[v0,v1]) func58 rfl rfl rfl ?_;refine FW.sr<|FL.as (v:=vI 0) rfl<|FL.nil<|FW.sr<|FL.mv (v:=v0) rfl<|FL.mv (v:=v1) rfl ?_;obtain ⟨r21,hr22,hp⟩:=bnd hp;refine FL.c (E.call call88 (A2 rfl rfl)) (zed S0.sl v0 a0 p0 v1 a1 p1 hr22) ?_;rintro e w23 ⟨rfl,r24⟩;refine ⟨_,rfl,?_⟩;have S25:=S0.call r24;refine FL.as (v:=vI r21) rfl<|FL.nil (FW.seq (FW.sr ?_));refine FL.mv (v:=vI r21) rfl<|FL.mv (v:=v0) rfl<|FL.v (E.lenP te22 rfl p0) ?_;refine FL.v (E.lss rfl rfl) ?_;refine FL.mv (v:=vB (decide (r21 < (len a0)))) rfl ?_;obtain ⟨t41,hqt41,hp⟩:=bnd hp;refine FL.cut 7 (fun f w=>∃ H:GH,St Ha wa H w []∧Inc Ha H∧f 5=vI r21∧f 20=vB t41) ?_ ?_
 ·
  clear hp;have hp:=hqt41;clear hqt41;rcases ifB hp with ⟨c47,hp⟩|⟨c47,hp⟩
  ·
   refine FL.y (wY c47) (E.move (v:=v0) rfl) ?_;refine FL.y (wY c47) (E.move (v:=vI r21) rfl) ?_;obtain ⟨x54,hx55,hp⟩:=bnd hp;obtain ⟨p48,cs49,pt50,l51,at52,rel53⟩:=p0.at hx55;obtain ⟨v56,rfl,h57⟩:=eL_open rel53;refine FL.y (wY c47) (E.indexAddr te22 rfl rfl pt50) ?_;refine FL.y (wY c47) (E.load rfl (zac isAgg45 (at52.now S25.sl) rfl)) ?_;refine FL.y (wY c47) (E.move (v:=v1) rfl) ?_;obtain ⟨r58,hr59,hp⟩:=bnd hp;refine FL.call (wY c47) rfl rfl (E.call call89 (A2 rfl rfl)) (w_spec_l1Same S25.sl v56 x54 h57 v1 a1 p1 hr59) ?_;rintro e w60 ⟨rfl,r61⟩;refine ⟨_,rfl,?_⟩;have S62:=S25.call r61;cases hp;refine FL.v (E.pickT rfl c47 rfl) ?_;exact FL.nil ⟨rfl,_,S62,I0,rfl,rfl⟩
  ·
   refine FL.n c47<|FL.n c47<|FL.n c47<|FL.n c47<|FL.n c47<|FL.n c47 ?_;cases hp;refine FL.v (E.pickF rfl c47 rfl) ?_;exact FL.nil ⟨rfl,_,S25,I0,rfl,rfl⟩
 rintro f46 w45 ⟨H42,S43,i44,k63,k64⟩;refine FL.nil ?_;rcases ifB hp with ⟨c65,hp⟩|⟨c65,hp⟩
 ·
  refine FW.condT k64 c65 ?_;refine FW.sr<|FL.mv k63<|FL.as (v:=vI r21) rfl<|FL.nil (FW.ret ?_);cases hp;exact ⟨.inr rfl,res1 rfl rfl ⟨rfl,S43.back⟩⟩
 ·
  refine FW.condF k64 c65 ?_;refine FW.skip<|FW.sr<|FL.as (v:=vI (-1)) rfl<|FL.nil (FW.ret ?_);cases hp;exact ⟨.inr rfl,res1 rfl rfl ⟨rfl,S43.back⟩⟩

end Go.Proofs
