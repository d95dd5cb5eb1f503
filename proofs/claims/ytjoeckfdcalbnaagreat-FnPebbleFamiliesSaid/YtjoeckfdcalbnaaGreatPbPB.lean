/- Helpers of the walks and plain laws. -/
import Derived.Test.YtjoeckfdcalbnaaGreatPbPA
import Derived.Test.YtjoeckfdcalbnaaGreatPbLB
set_option linter.unusedVariables false
namespace Go.PF
open Go.Pu
def atC (cl:List (List Int)) (k:Int):List Int:=(cl[k.toNat]?).getD []
structure Ord (cl:List (List Int)) (m:Nat) (o:List Int):Prop where
 srt:SrtC (o.map (atC cl))
 mem:∀ c,c∈o.map (atC cl)↔c∈cl.take m
 inr:∀ k∈o,0≤k∧k < m
 len:o.length=m
abbrev Tri:=List Int×List Int×Int
def vsN (V:Int):List Int:=(List.range' 1 V.toNat).map fun (k:Nat)=>(k:Int)
def tris (V:Int) (kn:List (List Int)):List Tri:=kn.flatMap fun a=>kn.flatMap fun b=>(vsN V).map fun v=>(a,b,v)
def prodB (w:Int) (c:List Int) (t:Tri):Bool:=(res t.1 t.2.1 t.2.2).2 && ((res t.1 t.2.1 t.2.2).1 == c) && decide (len c≤w)
def Src (F:Cnf) (w:Int) (n:Nat) (c:List Int) (t:Tri):Prop:=∃ kn,SrtC kn∧(∀ x,x∈kn↔Kn F w n x)∧(tris F.vars kn).find? (prodB w c)=some t
structure Ent where
 a:Int
 b:Int
 v:Int
 c:List Int
structure New (F:Cnf) (w:Int) (old cl:List (List Int)) (D:List Tri) (E:List Ent):Prop where
 srt:SrtC (E.map (·.c))
 one:∀ e∈E,D.find? (prodB w e.c)=some (atC cl e.a,atC cl e.b,e.v)∧e.c ∉ old∧0≤e.a∧e.a < cl.length∧0≤e.b∧e.b < cl.length∧IsS F.vars e.c
 all:∀ t∈D,∀ c,prodB w c t=true→c∈old∨c∈E.map (·.c)
end Go.PF
namespace Go.PF
open Go.Pu
theorem cT {B:Type} {p:Prop} {i:Decidable p} (h:p) {a b:B}:(bif @decide p i then a else b)=a:=by rw [decide_eq_true h];rfl
theorem cF {B:Type} {p:Prop} {i:Decidable p} (h:¬ p) {a b:B}:(bif @decide p i then a else b)=b:=by rw [decide_eq_false h];rfl
end Go.PF
namespace Go.PF
open Go.Pu
theorem sort_LL {xs:List (List Int)} (hn:xs.Nodup) (hl:xs.length < lim):∃ r,zdi xs (fun x0 x1=>PF.zaQ x0 x1)=some r∧SrtC r∧∀ x,x∈r↔x∈xs:=by
 refine ⟨xs.mergeSort (leF fun x0 x1=>PF.zaQ x0 x1),?_,?_,fun x=>(List.mergeSort_perm _ _).mem_iff⟩
 · unfold zdi sortF
   rw [if_pos]
   exact ⟨cmpC,hl,fun x _ y _=>zef x y,fun x _=>zbt x,fun x _ y _ z _ h1 h2=>zbT h1 h2,fun x _ y _ z _ h1 h2=>cmpC_ntrans h1 h2,fun x _ y _ h1 h2=>zdM h1 h2⟩
 · have nd2:(xs.mergeSort (leF fun x0 x1=>PF.zaQ x0 x1)).Nodup:=(List.mergeSort_perm xs _).nodup_iff.2 hn
   refine ((sorted_config xs).and nd2).imp fun {a b} ⟨h1,h2⟩=>?_
   by_cases h3:cmpC a b < 0
   · exact h3
   · exact absurd (zdM h3 h1) h2
theorem closure_clauses_eq {F:Cnf} {w:Int} (hF:Nar F) {cl:List (List Int)} {C:za7} (h:Clos F w cl C):∃ r,zdw C=some r∧SrtC r∧∀ x,x∈r↔x∈cl:=by
 unfold zdw
 have hfew:=few h.ci.nd h.ci.sm
 have hm:C.masks=cl.map fun c=>((mkN c:Nat):Int):=h.ci.masks
 rw [hm]
 refine zaW (I:=fun i s=>s=cl.take i) rfl ?_ ?_
 · rintro i y s hy hs
   subst hs
   left
   rw [List.getElem?_map,Option.map_eq_some_iff] at hy
   obtain ⟨c,hc,rfl⟩:=hy
   have hcs:=h.ci.sm c (List.mem_of_getElem? hc)
   rw [clause_mk hcs,zaa]
   have:app (cl.take i) [c]=some (cl.take (i + 1)):=by
    unfold app
    rw [if_pos (by simp [lim];omega),List.take_add_one,hc];rfl
   rw [this,zaa]
   exact ⟨_,rfl,rfl⟩
 · intro s hs
   rw [List.length_map,List.take_length] at hs
   subst hs
   refine bd_ex (sort_LL h.ci.nd (by simp only [lim];omega)) fun r hr=>⟨r,rfl,hr⟩
theorem indexLL {c:List (List Int)} {f:List Int→Option Bool} {g:List Int→Bool} (h:∀ y∈c,f y=some (g y)) :
 ∃ r,zbJ c f=some r∧((r=-1∧∀ y∈c,g y=false)∨∃ (i:Nat) (x:List Int),r=(i:Int)∧c[i]?=some x∧g x=true∧∀ y∈c.take i,g y=false):=by
 unfold zbJ
 refine zaW (I:=fun i _=>∀ y∈c.take i,g y=false) (by simp) ?_ ?_
 · rintro i y ⟨⟩ hy hI
   rw [h y (List.mem_of_getElem? hy),zaa]
   cases hg:g y
   · left
     rw [cond_false]
     refine ⟨(),rfl,?_⟩
     intro z hz
     rw [List.take_add_one,hy] at hz
     rcases List.mem_append.1 hz with q|q
     · exact hI z q
     · have:z=y:=by simpa using q
       rw [this];exact hg
   · right
     rw [cond_true]
     exact ⟨_,rfl,_,rfl,.inr ⟨i,y,rfl,hy,hg,hI⟩⟩
 · intro s hs
   rw [List.take_length] at hs
   exact ⟨_,rfl,.inl ⟨rfl,hs⟩⟩
theorem deleteLL {c:List (List Int)} {f:List Int→Option Bool} {g:List Int→Bool} (h:∀ y∈c,f y=some (g y)) (hl:c.length≤100000):zdo c f=some (c.filter fun y => !g y):=by
 unfold zdo
 obtain ⟨r,e,hr⟩:=indexLL h
 rw [e,zaa]
 rcases hr with ⟨rfl,hr⟩|⟨z,x,rfl,hx,hg,hr⟩
 · rw [show ((-1:Int) == -1)=true by rfl,cond_true,List.filter_eq_self.2]
   intro y hy;rw [hr y hy];rfl
 · have hzl:=zaq hx
   have hne:(((z:Nat):Int) == -1)=false:=by simp
   rw [hne,cond_false,show wr (((z:Nat):Int) + 1)=((z + 1:Nat):Int) by rw [wr_of _ (by omega) (by omega)];simp]
   obtain ⟨s',i',q1,q2,q3,q4⟩:=del_loop (n:=c.length) (by omega) rfl h (c.length - (z + 1)) (z + 1) z c (by omega) (by omega) rfl (by
    rw [List.take_add_one,hx,List.filter_append,List.filter_eq_self.2 (fun y hy=>by rw [hr y hy];rfl)]
    simp [hg]) rfl
   rw [q1,zaD]
   simp only
   rw [show len s'=((s'.length:Nat):Int) from rfl,zbb (by omega) (Nat.le_refl _),zaa]
   have hcl:clearL [] s' (i':Int)=s'.take i'++List.replicate (s'.length - i') []:=by unfold clearL;simp
   rw [hcl,show (0:Int)=((0:Nat):Int) from rfl,zbb (Nat.zero_le _) (by simp;omega),zaa,List.drop_zero,List.take_left' (by simp;omega),q4]
end Go.PF
namespace Go.PF
open Go.Pu
def visN (n:Nat):List (List Int):=[]::visL n 1 []
structure InV (u n:Nat) (d:List Int):Prop where
 srt:d.Pairwise fun a b=>a.natAbs < b.natAbs
 rng:∀ l∈d,u≤l.natAbs∧l.natAbs < u + n
theorem InV.zero {u:Nat} {d:List Int} (h:InV u 0 d):d=[]:=by
 cases d with
 | nil=>rfl
 | cons a d=>have:=h.rng a (by simp);omega
theorem InV.nil {u n:Nat}:InV u n []:=⟨.nil,fun l hl=>by cases hl⟩
theorem zbU:∀ {n u:Nat} {c x:List Int},1≤u→(x∈c::visL n u c↔∃ d,x=c++d∧InV u n d)
 | 0,u,c,x,hu=>by
  simp only [visL,List.mem_singleton]
  constructor
  · rintro rfl;exact ⟨[],by simp,InV.nil⟩
  · rintro ⟨d,rfl,hd⟩;rw [hd.zero];simp
 | n + 1,u,c,x,hu=>by
  have e:((u:Int) + 1)=((u + 1:Nat):Int):=by omega
  have i0:=zbU (n:=n) (u:=u + 1) (c:=c) (x:=x) (by omega)
  have i1:=zbU (n:=n) (u:=u + 1) (c:=c++[(u:Int)]) (x:=x) (by omega)
  have i2:=zbU (n:=n) (u:=u + 1) (c:=c++[-(u:Int)]) (x:=x) (by omega)
  have hm:x∈c::visL (n + 1) u c↔x=c∨x∈(c++[(u:Int)])::visL n ((u + 1:Nat):Int) (c++[(u:Int)])∨x∈(c++[-(u:Int)])::visL n ((u + 1:Nat):Int) (c++[-(u:Int)])∨x∈visL n ((u + 1:Nat):Int) c:=by
   rw [List.mem_cons,visL,List.mem_append,List.mem_append,e]
  have hm2:(x=c∨x∈visL n ((u + 1:Nat):Int) c)↔x∈c::visL n ((u + 1:Nat):Int) c:=by rw [List.mem_cons]
  rw [hm,i1,i2]
  constructor
  · rintro (h|⟨d,rfl,hd⟩|⟨d,rfl,hd⟩|h)
    · exact ⟨[],by simp [h],InV.nil⟩
    · refine ⟨(u:Int)::d,by simp,⟨List.pairwise_cons.2 ⟨fun b hb=>by have:=hd.rng b hb;omega,hd.srt⟩,fun l hl=>?_⟩⟩
      rcases List.mem_cons.1 hl with rfl|hl
      · omega
      · have:=hd.rng l hl;omega
    · refine ⟨-(u:Int)::d,by simp,⟨List.pairwise_cons.2 ⟨fun b hb=>by have:=hd.rng b hb;omega,hd.srt⟩,fun l hl=>?_⟩⟩
      rcases List.mem_cons.1 hl with rfl|hl
      · omega
      · have:=hd.rng l hl;omega
    · obtain ⟨d,rfl,hd⟩:=i0.1 (hm2.1 (.inr h))
      exact ⟨d,rfl,hd.srt,fun l hl=>by have:=hd.rng l hl;omega⟩
  · rintro ⟨d,rfl,hd⟩
    cases d with
    | nil=>left;simp
    | cons a d =>
     have hs:=List.pairwise_cons.1 hd.srt
     have ha:=hd.rng a (by simp)
     have rest:∀ k:Nat,a.natAbs=k→InV (k + 1) (u + n - k) d:=fun k hk=>⟨hs.2,fun l hl=>by have:=hd.rng l (by simp [hl]);have:=hs.1 l hl;omega⟩
     by_cases h1:a=(u:Int)
     · right;left
       exact ⟨d,by simp [h1],by have:=rest u (by omega);rwa [show u + n - u=n by omega] at this⟩
     by_cases h2:a=-(u:Int)
     · right;right;left
       exact ⟨d,by simp [h2],by have:=rest u (by omega);rwa [show u + n - u=n by omega] at this⟩
     · have hin:InV (u + 1) n (a::d):=⟨hd.srt,fun l hl=>by
        rcases List.mem_cons.1 hl with rfl|hl
        · omega
        · have:=hd.rng l (by simp [hl]);have:=hs.1 l hl;omega⟩
       rcases hm2.2 (i0.2 ⟨a::d,rfl,hin⟩) with h|h
       · exact .inl h
       · exact .inr (.inr (.inr h))
theorem inV_isC {n:Nat} (hn:n≤12) {c:List Int}:InV 1 n c↔IsC (n:Int) c:=by
 constructor
 · intro h
   exact ⟨by omega,by omega,fun l hl=>by have:=h.rng l hl;omega,h.srt⟩
 · intro h
   exact ⟨h.srt,fun l hl=>by have:=h.lit l hl;omega⟩
theorem mem_vis {n:Nat} (hn:n≤12) {c:List Int}:c∈visN n↔IsC (n:Int) c:=by
 unfold visN
 have:=zbU (n:=n) (u:=1) (c:=[]) (x:=c) (by omega)
 rw [show ((1:Nat):Int)=1 from rfl] at this
 rw [this,← inV_isC hn]
 constructor
 · rintro ⟨d,rfl,hd⟩;simpa using hd
 · intro h;exact ⟨c,by simp,h⟩
theorem nd_visL:∀ {n u:Nat} {c:List Int},1≤u→(c::visL n u c).Nodup
 | 0,u,c,hu=>by simp [visL]
 | n + 1,u,c,hu=>by
  have e:((u:Int) + 1)=((u + 1:Nat):Int):=by omega
  have i0:=nd_visL (n:=n) (u:=u + 1) (c:=c) (by omega)
  have i1:=nd_visL (n:=n) (u:=u + 1) (c:=c++[(u:Int)]) (by omega)
  have i2:=nd_visL (n:=n) (u:=u + 1) (c:=c++[-(u:Int)]) (by omega)
  have m0:∀ x,x∈c::visL n ((u + 1:Nat):Int) c→∃ d,x=c++d∧InV (u + 1) n d:=fun x h=>(zbU (by omega)).1 h
  have m1:∀ x,x∈(c++[(u:Int)])::visL n ((u + 1:Nat):Int) (c++[(u:Int)])→∃ d,x=(c++[(u:Int)])++d∧InV (u + 1) n d:=fun x h=>(zbU (by omega)).1 h
  have m2:∀ x,x∈(c++[-(u:Int)])::visL n ((u + 1:Nat):Int) (c++[-(u:Int)])→∃ d,x=(c++[-(u:Int)])++d∧InV (u + 1) n d:=fun x h=>(zbU (by omega)).1 h
  have d01:∀ x,x∈(c++[(u:Int)])::visL n ((u + 1:Nat):Int) (c++[(u:Int)])→x∈c::visL n ((u + 1:Nat):Int) c→False:=by
   intro x h1 h0
   obtain ⟨d,rfl,hd⟩:=m1 x h1
   obtain ⟨d',e',hd'⟩:=m0 _ h0
   rw [List.append_assoc] at e'
   have:=List.append_cancel_left e'
   have:=hd'.rng (u:Int) (by rw [← this];simp)
   omega
  have d02:∀ x,x∈(c++[-(u:Int)])::visL n ((u + 1:Nat):Int) (c++[-(u:Int)])→x∈c::visL n ((u + 1:Nat):Int) c→False:=by
   intro x h1 h0
   obtain ⟨d,rfl,hd⟩:=m2 x h1
   obtain ⟨d',e',hd'⟩:=m0 _ h0
   rw [List.append_assoc] at e'
   have:=List.append_cancel_left e'
   have:=hd'.rng (-(u:Int)) (by rw [← this];simp)
   omega
  have d12:∀ x,x∈(c++[(u:Int)])::visL n ((u + 1:Nat):Int) (c++[(u:Int)])→x∈(c++[-(u:Int)])::visL n ((u + 1:Nat):Int) (c++[-(u:Int)])→False:=by
   intro x h1 h2
   obtain ⟨d,rfl,hd⟩:=m1 x h1
   obtain ⟨d',e',hd'⟩:=m2 _ h2
   rw [List.append_assoc,List.append_assoc] at e'
   have:=List.append_cancel_left e'
   simp at this
   omega
  have hc:=List.nodup_cons.1 i0
  rw [visL,e]
  refine List.nodup_cons.2 ⟨fun h=>?_,?_⟩
  · rcases List.mem_append.1 h with h|h
    · exact d01 c h (by simp)
    · rcases List.mem_append.1 h with h|h
      · exact d02 c h (by simp)
      · exact hc.1 h
  · refine List.nodup_append.2 ⟨i1,List.nodup_append.2 ⟨i2,hc.2,fun a ha b hb hab=>?_⟩,fun a ha b hb hab=>?_⟩
    · subst hab;exact d02 a ha (List.mem_cons_of_mem _ hb)
    · subst hab
      rcases List.mem_append.1 hb with hb|hb
      · exact d12 a ha hb
      · exact d01 a ha (List.mem_cons_of_mem _ hb)
theorem vis_nd (n:Nat):(visN n).Nodup:=nd_visL (u:=1) (by omega)
theorem len_visL:∀ {n:Nat} {u:Int} {c:List Int},(visL n u c).length + 1=3 ^ n
 | 0,u,c=>by simp [visL]
 | n + 1,u,c=>by
  have i0:=len_visL (n:=n) (u:=u + 1) (c:=c)
  have i1:=len_visL (n:=n) (u:=u + 1) (c:=c++[u])
  have i2:=len_visL (n:=n) (u:=u + 1) (c:=c++[-u])
  rw [visL,List.length_append,List.length_append,List.length_cons,List.length_cons,Nat.pow_succ];omega
end Go.PF
namespace Go.PF
open Go.Pu
def Fals (c a:List Int):Prop:=∀ l∈c,-l∈a
theorem Fals.sub {c a b:List Int} (h:Fals c a) (hs:∀ x∈a,x∈b):Fals c b:=fun l hl=>hs _ (h l hl)
structure Alw (F:Cnf) (w:Int) (a:List Int):Prop where
 c:IsC F.vars a
 len:len a≤w + 1
 ax:∀ c∈F.clauses,Pu.len c≤w→¬ Fals c a
structure Fam (F:Cnf) (w:Int) (L:List Int→Prop):Prop where
 alw:∀ a,L a→Alw F w a
 sub:∀ a b,L a→IsC F.vars b→(∀ x∈b,x∈a)→L b
 ext:∀ a,L a→len a≤w→∀ v,1≤v→v≤F.vars→v ∉ a→-v ∉ a→∃ b l,(l=v∨l=-v)∧L b∧∀ x,x∈b↔x=l∨x∈a
theorem sgn {c:List Int} (hs:c.Pairwise fun a b=>a.natAbs < b.natAbs) {l:Int} (h:l∈c) (h':-l∈c) (h0:l≠0):False:=by
 induction c with
 | nil=>cases h
 | cons x c ih =>
  rw [List.pairwise_cons] at hs
  rcases List.mem_cons.1 h with rfl|h1 <;> rcases List.mem_cons.1 h' with h2|h2
  · omega
  · have:=hs.1 _ h2;omega
  · have:=hs.1 _ h1;subst h2;omega
  · exact ih hs.2 h1 h2
theorem neg_isC {V:Int} {c:List Int} (h:IsC V c):IsC V (c.map fun x=>-x):=by
 refine ⟨h.lo,h.hi,fun l hl=>?_,?_⟩
 · obtain ⟨x,hx,rfl⟩:=List.mem_map.1 hl
   have:=h.lit x hx
   omega
 · rw [List.pairwise_map]
   exact h.srt.imp fun {a b} hab=>by omega
theorem subL {A:Type} [DecidableEq A]:∀ {l m:List A},l.Nodup→(∀ x∈l,x∈m)→l.length≤m.length
 | [],m,_,_=>Nat.zero_le _
 | x::l,m,h1,h2=>by
  rw [List.nodup_cons] at h1
  have hx:=h2 x (List.mem_cons_self ..)
  have:=subL (l:=l) (m:=m.erase x) h1.2 (fun y hy=>(List.mem_erase_of_ne (fun e=>h1.1 (by rw [← e];exact hy))).2 (h2 y (List.mem_cons_of_mem _ hy)))
  rw [List.length_erase_of_mem hx] at this
  have:0 < m.length:=List.length_pos_of_mem hx
  simp only [List.length_cons]
  omega
theorem isC_nd {V:Int} {c:List Int} (h:IsC V c):c.Nodup:=h.srt.imp fun {a b} hab e=>by subst e;omega
theorem isC_le {V:Int} {b a:List Int} (hb:IsC V b) (h:∀ x∈b,x∈a):len b≤len a:=by
 have:=subL (isC_nd hb) h
 rw [zaj,zaj];omega
theorem Alw.sub {F:Cnf} {w:Int} {a b:List Int} (h:Alw F w a) (hb:IsC F.vars b) (hs:∀ x∈b,x∈a):Alw F w b :=
 ⟨hb,Int.le_trans (isC_le hb hs) h.len,fun c hc hl g=>h.ax c hc hl (g.sub hs)⟩
theorem fam_sound {F:Cnf} {w:Int} (hF:Nar F) {L:List Int→Prop} (h:Fam F w L):∀ (n:Nat) (c a:List Int),Kn F w n c→L a→¬ Fals c a:=by
 intro n
 induction n with
 | zero=>intro c a g;exact g.elim
 | succ n ih =>
  intro c a g ha hf
  rcases g with ⟨g1,g2⟩|g|⟨p,q,v,g1,g2,v1,v2,g3,rfl,g5⟩
  · exact (h.alw a ha).ax c g1 g2 hf
  · exact ih c a g ha hf
  · have hp:=hF.kn g1
    have hq:=hF.kn g2
    have hc:IsC F.vars (res p q v).1:=zbl hp.c hq.c g3
    obtain ⟨r1,r2,r3⟩:=(zbS hp.c hq.c v1 v2).1.1 g3
    have r4:=(zbS hp.c hq.c v1 v2).2 g3
    generalize res p q v=r at *
    have hb:=neg_isC hc
    have hbm:∀ x,x∈(r.1.map fun x=>-x)↔-x∈r.1:=fun x=>by
     rw [List.mem_map]
     exact ⟨fun ⟨y,hy,e⟩=>by rw [← e,Int.neg_neg];exact hy,fun g=>⟨-x,g,Int.neg_neg x⟩⟩
    have hba:∀ x∈(r.1.map fun x=>-x),x∈a:=fun x hx=>by
     have:=hf _ ((hbm x).1 hx)
     rwa [Int.neg_neg] at this
    have hL:=h.sub a _ ha hb hba
    have hlen:len (r.1.map fun x=>-x)≤w:=by rw [zaj,List.length_map];rw [zaj] at g5;exact g5
    have nv1:v ∉ (r.1.map fun x=>-x):=fun g=>by
     have:=((r4 _).1 ((hbm v).1 g)).2;omega
    have nv2:-v ∉ (r.1.map fun x=>-x):=fun g=>by
     have:=((r4 _).1 ((hbm (-v)).1 g)).2;omega
    obtain ⟨b,l,hl,hLb,hmb⟩:=h.ext _ hL hlen v v1 v2 nv1 nv2
    rcases hl with rfl|rfl
    · refine ih q b g2 hLb fun x hx=>?_
      by_cases e:x=-l
      · subst e;exact (hmb _).2 (.inl (Int.neg_neg l))
      · refine (hmb _).2 (.inr ((hbm _).2 ?_))
        rw [Int.neg_neg]
        refine (r4 x).2 ⟨.inr hx,fun g=>?_⟩
        rcases Int.natAbs_eq_natAbs_iff.1 g with g|g
        · subst g;exact sgn hq.c.srt hx r2 (by omega)
        · exact e g
    · refine ih p b g1 hLb fun x hx=>?_
      by_cases e:x=v
      · subst e;exact (hmb _).2 (.inl rfl)
      · refine (hmb _).2 (.inr ((hbm _).2 ?_))
        rw [Int.neg_neg]
        refine (r4 x).2 ⟨.inl hx,fun g=>?_⟩
        rcases Int.natAbs_eq_natAbs_iff.1 g with g|g
        · exact e g
        · subst g;exact sgn hp.c.srt r1 hx (by omega)
def Sur (F:Cnf) (w:Int) (a:List Int):Prop:=Alw F w a∧∀ n c,Kn F w n c→¬ Fals c a
theorem zbV {V:Int} {p:List Int} (h:IsC V p) {l:Int} (hl:-V≤l∧l≤V∧l≠0) (hn:∀ x∈p,x.natAbs≠l.natAbs):IsC V (putL p l):=by
 have:=h.hi
 refine ⟨h.lo,h.hi,fun x hx=>?_,putL_srt h.srt h.sm ⟨by omega,by omega⟩ hn⟩
 rcases za1.1 hx with rfl|hx
 · exact hl
 · exact h.lit x hx
theorem open_ne {V:Int} {a:List Int} (h:IsC V a) {v:Int} (h1:v ∉ a) (h2:-v ∉ a):∀ x∈a,x.natAbs≠v.natAbs:=fun x hx g=>by
 rcases Int.natAbs_eq_natAbs_iff.1 g with g|g
 · subst g;exact h1 hx
 · subst g;exact h2 hx
theorem sur_fam {F:Cnf} {w:Int} (hF:Nar F):Fam F w (Sur F w):=by
 refine ⟨fun a h=>h.1,fun a b h hb hs=>⟨h.1.sub hb hs,fun n c hn g=>h.2 n c hn (g.sub hs)⟩,fun a h hw v v1 v2 o1 o2=>?_⟩
 have hn:=open_ne h.1.c o1 o2
 have c1:=zbV h.1.c (l:=v) ⟨by omega,by omega,by omega⟩ hn
 have c2:=zbV h.1.c (l:=-v) ⟨by omega,by omega,by omega⟩ (fun x hx=>by have:=hn x hx;omega)
 have m1:∀ x,x∈putL a v↔x=v∨x∈a:=fun x=>za1
 have m2:∀ x,x∈putL a (-v)↔x=-v∨x∈a:=fun x=>za1
 have l1:len (putL a v)≤w + 1:=by rw [zaj,zc3];rw [zaj] at hw;omega
 have l2:len (putL a (-v))≤w + 1:=by rw [zaj,zc3];rw [zaj] at hw;omega
 have one:∀ b,IsC F.vars b→len b≤w + 1→¬ Sur F w b→∃ n c,Kn F w n c∧Fals c b:=by
  intro b hb hl hs
  apply Classical.byContradiction
  intro e
  exact hs ⟨⟨hb,hl,fun c hc hcl g=>e ⟨1,c,.inl ⟨hc,hcl⟩,g⟩⟩,fun n c hn g=>e ⟨n,c,hn,g⟩⟩
 by_cases s1:Sur F w (putL a v)
 · exact ⟨_,v,.inl rfl,s1,m1⟩
 · by_cases s2:Sur F w (putL a (-v))
   · exact ⟨_,-v,.inr rfl,s2,m2⟩
   · exfalso
     obtain ⟨n1,q,k1,f1⟩:=one _ c1 l1 s1
     obtain ⟨n2,p,k2,f2⟩:=one _ c2 l2 s2
     have hp:=hF.kn k2
     have hq:=hF.kn k1
     have in1:-v∈q:=by
      apply Classical.byContradiction
      intro e
      refine h.2 n1 q k1 fun x hx=>?_
      rcases (m1 _).1 (f1 x hx) with g|g
      · exact absurd (show -v∈q by rw [← g,Int.neg_neg];exact hx) e
      · exact g
     have in2:v∈p:=by
      apply Classical.byContradiction
      intro e
      refine h.2 n2 p k2 fun x hx=>?_
      rcases (m2 _).1 (f2 x hx) with g|g
      · exact absurd (show v∈p by rw [show v=x by omega];exact hx) e
      · exact g
     have hr:(res p q v).2=true:=by
      refine (zbS hp.c hq.c v1 v2).1.2 ⟨in2,in1,fun x hx hy=>?_⟩
      apply Classical.byContradiction
      intro e
      have a1:x∈a:=by
       rcases (m1 _).1 (f1 _ hy) with g|g
       · rw [Int.neg_neg] at g;exact absurd g e
       · rwa [Int.neg_neg] at g
      have a2:-x∈a:=by
       rcases (m2 _).1 (f2 x hx) with g|g
       · exact absurd (by omega) e
       · exact g
      exact sgn h.1.c.srt a1 a2 (hp.c.lit x hx).2.2
     have r4:=(zbS hp.c hq.c v1 v2).2 hr
     have hrc:=zbl hp.c hq.c hr
     have fr:Fals (res p q v).1 a:=fun x hx=>by
      obtain ⟨g1,g2⟩:=(r4 x).1 hx
      rcases g1 with g1|g1
      · rcases (m2 _).1 (f2 x g1) with g|g
        · exact absurd (by omega) g2
        · exact g
      · rcases (m1 _).1 (f1 x g1) with g|g
        · exact absurd (by omega) g2
        · exact g
     have hl:len (res p q v).1≤w:=by
      have:=isC_le (neg_isC hrc) (a:=a) fun x hx=>by
       obtain ⟨y,hy,rfl⟩:=List.mem_map.1 hx
       exact fr y hy
      rw [zaj,List.length_map] at this
      rw [zaj] at *
      omega
     exact h.2 (max n1 n2 + 1) _ (.inr (.inr ⟨p,q,v,k2.up (by omega),k1.up (by omega),v1,v2,hr,rfl,hl⟩)) fr
end Go.PF
namespace Go.PF
open Go.Pu
def alB (F:Cnf) (w:Int) (a:List Int):Bool:=decide (len a≤w + 1) && F.clauses.all fun c => !(decide (len c≤w) && decide (clv c a < 0))
theorem clv_neg {V:Int} {c a:List Int} (hc:IsC V c) (ha:IsC V a):clv c a < 0↔Fals c a:=by
 have hw:∀ l∈c,wr (-l)=-l:=fun l hl=>by have:=hc.lit l hl;have:=hc.hi;exact wr_of _ (by omega) (by omega)
 unfold clv
 constructor
 · intro h l hl
   cases h1:c.any fun l=>a.contains l with
   | true=>rw [h1] at h;simp at h
   | false =>
    cases h2:c.any fun l => !a.contains (wr (-l)) with
    | true=>rw [h1,h2] at h;simp at h
    | false =>
     rw [List.any_eq_false] at h2
     have:=h2 l hl
     rw [hw l hl] at this
     simpa using this
 · intro h
   have h1:(c.any fun l=>a.contains l)=false:=by
    rw [List.any_eq_false]
    intro l hl g
    have g':l∈a:=by simpa using g
    exact sgn ha.srt g' (h l hl) (hc.lit l hl).2.2
   have h2:(c.any fun l => !a.contains (wr (-l)))=false:=by
    rw [List.any_eq_false]
    intro l hl
    rw [hw l hl]
    have:=h l hl
    simpa using this
   rw [h1,h2];decide
theorem zbD {F:Cnf} (hF:Nar F) {w:Int} {a:List Int} (ha:IsC F.vars a):alB F w a=true↔Alw F w a:=by
 unfold alB
 rw [Bool.and_eq_true,decide_eq_true_eq,List.all_eq_true]
 constructor
 · rintro ⟨h1,h2⟩
   refine ⟨ha,h1,fun c hc hl g=>?_⟩
   have:=h2 c hc
   rw [decide_eq_true hl,decide_eq_true ((clv_neg (hF.ax hc).c ha).2 g)] at this
   cases this
 · rintro ⟨_,h1,h2⟩
   refine ⟨h1,fun c hc=>?_⟩
   by_cases hl:len c≤w
   · have:¬ clv c a < 0:=fun g=>h2 c hc hl ((clv_neg (hF.ax hc).c ha).1 g)
     rw [decide_eq_false this,Bool.and_false];rfl
   · rw [decide_eq_false hl];rfl
theorem Nar.v0 {F:Cnf} (h:Nar F):0≤F.vars:=by
 have:=h.cnf
 unfold cnfB at this
 simp only [Bool.and_eq_true] at this
 exact (varsB_iff.1 this.1.1).1
theorem Nar.len60 {F:Cnf} (h:Nar F):F.clauses.length≤60:=by
 have:=h.cnf
 unfold cnfB at this
 simp only [Bool.and_eq_true,zaj] at this
 have:=of_decide_eq_true this.1.2
 omega
theorem zeG {F:Cnf} (hF:Nar F) {w:Int} (w0:0≤w) (w6:w≤6) (a:List Int):zb2 F w a=some (alB F w a):=by
 have main:∃ r,zb2 F w a=some r∧r=alB F w a:=by
  unfold zb2 alB
  have h60:=hF.len60
  rw [wr_s (by omega) (by omega)]
  by_cases hl:len a≤w + 1
  · rw [cF (by omega),decide_eq_true hl,Bool.true_and]
    refine cnt_m (σ:=Unit) (fun _ i=>i) (n:=F.clauses.length) (a:=0) (s0:=()) (fun i _=>∀ c∈F.clauses.take i,(!(decide (len c≤w) && decide (clv c a < 0)))=true) rfl (by omega) (by simp) ?_ ?_ ?_
    · rintro i - - hi hI
      have hc:F.clauses[i]?=some F.clauses[i]:=List.getElem?_eq_getElem hi
      generalize F.clauses[i]=c at hc
      rw [cT (by rw [zaj];omega),zal hc,zaa,zaa,spec_l3Value_eq,zaa]
      have e:(bif decide (len c≤w) then some (decide (clv c a < 0)) else some false)=some (decide (len c≤w) && decide (clv c a < 0)):=by cases decide (len c≤w) <;> rfl
      rw [e,zaa]
      cases hb:decide (len c≤w) && decide (clv c a < 0) with
      | false =>
       left
       rw [cond_false,wr_s (by omega) (by omega)]
       refine ⟨(),rfl,fun d hd=>?_⟩
       rw [List.take_add_one,hc,Option.toList_some,List.mem_append,List.mem_singleton] at hd
       rcases hd with hd|rfl
       · exact hI d hd
       · rw [hb];rfl
      | true =>
       right
       refine ⟨_,rfl,_,rfl,?_⟩
       rw [eq_comm,List.all_eq_false]
       exact ⟨c,List.mem_of_getElem? hc,by rw [hb];decide⟩
    · rintro - hI
      rw [cF (by rw [zaj];omega)]
    · rintro - hI
      rw [List.take_length] at hI
      exact ⟨_,rfl,(List.all_eq_true.2 hI).symm⟩
  · rw [cT (by omega),decide_eq_false hl,Bool.false_and]
    exact ⟨_,rfl,rfl⟩
 obtain ⟨r,e,rfl⟩:=main
 exact e
theorem containsLL {c:List (List Int)} {f:List Int→Option Bool} {g:List Int→Bool} (h:∀ y∈c,f y=some (g y)):zcB c f=some (c.any g):=by
 unfold zcB
 obtain ⟨r,h1,h2⟩:=zfg h
 rw [h1,zaa,h2]
theorem zeH {F:Cnf} {w:Int} (w0:0≤w) (w6:w≤6) (a:List Int):zcE F w a=some (alB F w a):=by
 unfold zcE alB
 rw [wr_s (by omega) (by omega)]
 have e:∀ y∈F.clauses,PF.zcD y w a=some (decide (len y≤w) && decide (clv y a < 0)):=fun y _=>by
  unfold zcD
  rw [zeC,zaa]
  cases decide (len y≤w) <;> rfl
 rw [containsLL e,zaa]
 cases decide (len a≤w + 1) with
 | false=>rfl
 | true =>
  rw [cond_true,zaa,Bool.true_and,List.not_any_eq_all_not]
theorem al_step {F:Cnf} {w:Int} (w0:0≤w) (w6:w≤6) {s:List (List Int)} (hs:s.length≤100000) (c:List Int):zb0 F w c s=some (bif alB F w c then s++[c] else s):=by
 unfold zb0
 rw [zeH w0 w6,zaa]
 cases alB F w c with
 | true=>rw [cond_true,show app s [c]=some (s++[c]) by unfold app;rw [if_pos (by simp [lim];omega)],zaa];rfl
 | false=>rfl
theorem fold_al {F:Cnf} {w:Int} (w0:0≤w) (w6:w≤6):∀ {l s:List (List Int)},s.length + l.length≤100000→foldO (zb0 F w) l s=some (s++l.filter (alB F w))
 | [],s,_=>by simp [foldO]
 | c::l,s,h=>by
  rw [List.length_cons] at h
  unfold foldO
  rw [al_step w0 w6 (by omega),zaa,List.filter_cons]
  cases hb:alB F w c with
  | true=>rw [cond_true,fold_al w0 w6 (by simp;omega)];simp
  | false=>rw [cond_false,fold_al w0 w6 (by omega)];rfl
theorem pow3_6 {n:Nat} (h:n≤6):3 ^ n≤729:=by
 have:=Nat.pow_le_pow_right (n:=3) (by omega) h
 simpa using this
structure AA (F:Cnf) (w:Int) (A:List (List Int)):Prop where
 srt:SrtC A
 mem:∀ a,a∈A↔Alw F w a
theorem AA.uniq {F:Cnf} {w:Int} {A B:List (List Int)} (h:AA F w A) (h':AA F w B):A=B:=srt_ext h.srt h'.srt fun x=>(h.mem x).trans (h'.mem x).symm
theorem impl_all_eq {F:Cnf} (hF:Nar F) {w:Int} (w0:0≤w) (w6:w≤6):∃ A,zbL F w=some A∧AA F w A:=by
 have v0:=hF.v0
 have v6:=hF.le
 have hn:F.vars.toNat≤12:=by omega
 have hv:((F.vars.toNat:Nat):Int)=F.vars:=Int.toNat_of_nonneg v0
 unfold zbL
 have hb:(bif decide (F.vars < 0) then true else decide (1000 < F.vars))=false:=by rw [cF (by omega),decide_eq_false (by omega)]
 rw [hb,cond_false]
 have hl:([]::visL F.vars.toNat 1 []).length≤729:=by
  have:=len_visL (n:=F.vars.toNat) (u:=1) (c:=[])
  have:=pow3_6 (n:=F.vars.toNat) (by omega)
  rw [List.length_cons];omega
 rw [fold_al w0 w6 (by simp at hl ⊢;omega),zaa,List.nil_append]
 have nd:(([]::visL F.vars.toNat 1 []).filter (alB F w)).Nodup:=(vis_nd F.vars.toNat).filter _
 obtain ⟨A,e,s,m⟩:=sort_LL nd (by have:=List.length_filter_le (alB F w) ([]::visL F.vars.toNat 1 []);simp only [lim];omega)
 rw [e,zaa]
 refine ⟨A,rfl,s,fun a=>?_⟩
 rw [m,List.mem_filter]
 have hm:=mem_vis hn (c:=a)
 rw [hv] at hm
 constructor
 · rintro ⟨h1,h2⟩
   exact (zbD hF (hm.1 h1)).1 h2
 · intro h
   exact ⟨hm.2 h.c,(zbD hF h.c).2 h⟩
end Go.PF
namespace Go.PF
open Go.Pu
theorem app_q {A:Type} {xs ys:List A} (h:xs.length + ys.length≤1000000):app xs ys=some (xs++ys):=by
 unfold app;rw [if_pos (by simp [lim];omega)]
theorem ext_isC {V:Int} {a:List Int} {v:Nat} (h:IsC V a) (hv:∀ l∈a,l.natAbs≤v) {l:Int} (h1:v < l.natAbs) (h2:(l.natAbs:Int)≤V):IsC V (a++[l]):=by
 refine ⟨h.lo,h.hi,fun x hx=>?_,?_⟩
 · rcases List.mem_append.1 hx with hx|hx
   · exact h.lit x hx
   · rw [List.mem_singleton] at hx;subst hx;omega
 · rw [List.pairwise_append]
   exact ⟨h.srt,by simp,fun x hx y hy=>by rw [List.mem_singleton] at hy;subst hy;have:=hv x hx;omega⟩
theorem own_eq {a:List Int} (h:a.length≤1000000):zbw a=some a:=by
 rw [spec_l1Own_eq (by simp [lim];omega)]
theorem all_F {F:Cnf} (hF:Nar F) {w:Int} (w0:0≤w) (w6:w≤6):∀ (m n v:Nat) (a:List Int),m < n→v + m=F.vars.toNat→IsC F.vars a→(∀ l∈a,l.natAbs≤v) →
 ∃ L,zcM n F w a (v:Int)=some L∧L.length≤3 ^ m∧∀ x,x∈L↔Alw F w x∧∃ d,x=a++d∧InV (v + 1) m d:=by
 intro m
 induction m using Nat.strongRecOn with
 | ind m ih =>
  intro n v a hn hvm ha hav
  have v0:=hF.v0
  have v6:=hF.le
  obtain ⟨n,rfl⟩:∃ k,n=k + 1:=⟨n - 1,by omega⟩
  have hal:=ha.len
  show ∃ L,zdr (zcM n) F w a (v:Int)=some L∧_
  unfold zdr
  rw [zeG hF w0 w6,zaa]
  cases hb:alB F w a with
  | false =>
   rw [Bool.not_false,cond_true]
   refine ⟨[],rfl,Nat.zero_le _,fun x=>⟨(fun g=>by cases g),?_⟩⟩
   rintro ⟨hx,d,rfl,_⟩
   have:=hx.sub ha fun y hy=>List.mem_append_left _ hy
   rw [← zbD hF ha] at this
   rw [this] at hb;cases hb
  | true =>
   have hA:=(zbD hF ha).1 hb
   rw [Bool.not_true,cond_false,app_q (by simp),zaa,List.nil_append,wr_s (by omega) (by omega),show (v:Int) + 1=((v + 1:Nat):Int) by omega]
   refine cnt_m (σ:=List (List Int)) (fun s u=>(s,u)) (n:=F.vars.toNat + 1) (a:=v + 1) (s0:=[a])
    (fun u s=>s.length + 3 ^ (F.vars.toNat + 1 - u)≤3 ^ m + 1∧∀ x,x∈s↔Alw F w x∧(x=a∨∃ k l d,v < k∧k < u∧(l=(k:Int)∨l=-(k:Int))∧x=a++l::d∧InV (k + 1) (F.vars.toNat - k) d)) rfl (by omega) ⟨?_,fun x=>?_⟩ ?_ ?_ ?_
   · rw [show F.vars.toNat + 1 - (v + 1)=m by omega];simp;omega
   · rw [List.mem_singleton]
     constructor
     · rintro rfl;exact ⟨hA,.inl rfl⟩
     · rintro ⟨_,rfl|⟨k,l,d,k1,k2,_⟩⟩
       · rfl
       · omega
   · rintro u s u1 u2 ⟨hl,hm⟩
     left
     dsimp only
     have hlen3:3 ^ m≤729:=pow3_6 (by omega)
     have hp:3 ^ (F.vars.toNat + 1 - u)=3 * 3 ^ (F.vars.toNat - u):=by rw [show F.vars.toNat + 1 - u=(F.vars.toNat - u) + 1 by omega,Nat.pow_succ];omega
     have i1:=ext_isC ha hav (l:=(u:Int)) (by omega) (by omega)
     have i2:=ext_isC ha hav (l:=-(u:Int)) (by omega) (by omega)
     have b1:∀ l∈a++[(u:Int)],l.natAbs≤u:=fun l hl=>by
      rcases List.mem_append.1 hl with hl|hl
      · have:=hav l hl;omega
      · rw [List.mem_singleton] at hl;subst hl;omega
     have b2:∀ l∈a++[-(u:Int)],l.natAbs≤u:=fun l hl=>by
      rcases List.mem_append.1 hl with hl|hl
      · have:=hav l hl;omega
      · rw [List.mem_singleton] at hl;subst hl;omega
     obtain ⟨L1,e1,l1,m1⟩:=ih (F.vars.toNat - u) (by omega) n u (a++[(u:Int)]) (by omega) (by omega) i1 b1
     obtain ⟨L2,e2,l2,m2⟩:=ih (F.vars.toNat - u) (by omega) n u (a++[-(u:Int)]) (by omega) (by omega) i2 b2
     rw [cT (by omega),own_eq (by omega),zaa,app_q (by simp;omega),zaa,e1,zaa,app_q (by omega),zaa,zaa,wr_s (n:=-(u:Int)) (by omega) (by omega),app_q (by simp;omega),zaa,e2,zaa,app_q (by simp;omega),zaa,wr_s (by omega) (by omega)]
     refine ⟨_,rfl,?_,fun x=>?_⟩
     · rw [List.length_append,List.length_append,show F.vars.toNat + 1 - (u + 1)=F.vars.toNat - u by omega]
       omega
     · rw [List.mem_append,List.mem_append,hm,m1,m2]
       constructor
       · rintro ((⟨g1,g2|⟨k,l,d,k1,k2,k3⟩⟩|⟨g1,d,g2,g3⟩)|⟨g1,d,g2,g3⟩)
         · exact ⟨g1,.inl g2⟩
         · exact ⟨g1,.inr ⟨k,l,d,k1,by omega,k3⟩⟩
         · exact ⟨g1,.inr ⟨u,(u:Int),d,by omega,by omega,.inl rfl,by rw [g2];simp,g3⟩⟩
         · exact ⟨g1,.inr ⟨u,-(u:Int),d,by omega,by omega,.inr rfl,by rw [g2];simp,g3⟩⟩
       · rintro ⟨g1,g2|⟨k,l,d,k1,k2,k3,k4,k5⟩⟩
         · exact .inl (.inl ⟨g1,.inl g2⟩)
         · by_cases e:k=u
           · subst e
             rcases k3 with rfl|rfl
             · exact .inl (.inr ⟨g1,d,by rw [k4];simp,k5⟩)
             · exact .inr ⟨g1,d,by rw [k4];simp,k5⟩
           · exact .inl (.inl ⟨g1,.inr ⟨k,l,d,k1,by omega,k3,k4,k5⟩⟩)
   · rintro s ⟨hl,hm⟩
     dsimp only
     rw [cF (by omega)]
   · rintro s ⟨hl,hm⟩
     refine ⟨s,rfl,?_,fun x=>?_⟩
     · rw [Nat.sub_self,Nat.pow_zero] at hl;omega
     · rw [hm]
       refine and_congr_right fun hx=>?_
       constructor
       · rintro (rfl|⟨k,l,d,k1,k2,k3,rfl,k5⟩)
         · exact ⟨[],by simp,.nil⟩
         · refine ⟨l::d,rfl,List.pairwise_cons.2 ⟨fun y hy=>?_,k5.srt⟩,fun y hy=>?_⟩
           · have:=k5.rng y hy;rcases k3 with rfl|rfl <;> omega
           · rcases List.mem_cons.1 hy with rfl|hy
             · rcases k3 with rfl|rfl <;> omega
             · have:=k5.rng y hy;omega
       · rintro ⟨d,rfl,hd⟩
         cases d with
         | nil=>exact .inl (by simp)
         | cons l d =>
          have hr:=hd.rng l (by simp)
          have hs:=List.pairwise_cons.1 hd.srt
          refine .inr ⟨l.natAbs,l,d,by omega,by omega,by omega,rfl,hs.2,fun y hy=>?_⟩
          have:=hs.1 y hy
          have:=hd.rng y (by simp [hy])
          omega
theorem spec_all_eq {F:Cnf} (hF:Nar F) {w:Int} (w0:0≤w) (w6:w≤6):∃ A,zb3 F w=some A∧AA F w A∧A.length≤729:=by
 have v0:=hF.v0
 have v6:=hF.le
 have hv:((F.vars.toNat:Nat):Int)=F.vars:=Int.toNat_of_nonneg v0
 obtain ⟨L,e,hl,hm⟩:=all_F hF w0 w6 F.vars.toNat deep 0 [] (by rw [deep_eq];omega) (by omega) ⟨v0,by omega,nofun,.nil⟩ nofun
 have h7:L.length≤729:=Nat.le_trans hl (pow3_6 (by omega))
 have hL:∀ x,x∈L↔Alw F w x:=fun x=>by
  rw [hm]
  refine ⟨fun g=>g.1,fun g=>⟨g,x,by simp,?_⟩⟩
  have:=(inV_isC (n:=F.vars.toNat) (by omega) (c:=x)).2 (by rw [hv];exact g.c)
  exact this
 unfold zb3
 have:zel F w [] 0=some L:=e
 rw [this,zaa]
 refine cnt_m (σ:=List (List Int)) (fun s i=>(s,i)) (n:=L.length) (a:=0) (s0:=[]) (fun i s=>Cfg F.vars i s∧∀ x,x∈s↔x∈L.take i) rfl (by omega) ⟨.nil,by simp⟩ ?_ ?_ ?_
 · rintro i s - hi ⟨hc,hs⟩
   left
   dsimp only
   have hx:L[i]?=some L[i]:=List.getElem?_eq_getElem hi
   have hxa:=(hL _).1 (List.getElem_mem hi)
   generalize L[i]=x at hx hxa
   rw [cT (by rw [zaj];omega),zal hx,zaa,spec_l2Insert_eq hc (by omega) hxa.c.small,zaa,wr_s (by omega) (by omega)]
   refine ⟨_,rfl,hc.put hxa.c,fun y=>?_⟩
   rw [putC_mem,List.take_add_one,hx,Option.toList_some,List.mem_append,List.mem_singleton,hs]
   exact or_comm
 · rintro s hs
   dsimp only
   rw [cF (by rw [zaj];omega)]
 · rintro s ⟨hc,hs⟩
   rw [List.take_length] at hs
   exact ⟨s,rfl,⟨hc.srt,fun a=>(hs a).trans (hL a)⟩,by have:=hc.len;omega⟩
end Go.PF
namespace Go.PF
open Go.Pu
def wl (l:Int):Nat:=if 0 < l then 2 * 3 ^ (l.natAbs - 1) else 3 ^ (l.natAbs - 1)
def cd (a:List Int):Nat:=(a.map wl).sum
theorem cd_app (a b:List Int):cd (a++b)=cd a + cd b:=by unfold cd;rw [List.map_append,List.sum_append]
theorem cd_nil:cd []=0:=rfl
theorem cd_one (l:Int):cd [l]=wl l:=by unfold cd;simp
theorem top_split {m:Nat} {a:List Int} (hs:a.Pairwise fun a b=>a.natAbs < b.natAbs) (h0:∀ l∈a,l≠0) (hm:∀ l∈a,l.natAbs≤m + 1) :
 ∃ b t,a=b++t∧(b.Pairwise fun a b=>a.natAbs < b.natAbs)∧(∀ l∈b,l≠0)∧(∀ l∈b,l.natAbs≤m)∧(t=[]∨t=[((m + 1:Nat):Int)]∨t=[-((m + 1:Nat):Int)]):=by
 rcases List.eq_nil_or_concat a with rfl|⟨b,l,rfl⟩
 · exact ⟨[],[],rfl,.nil,nofun,nofun,.inl rfl⟩
 · rw [List.concat_eq_append] at *
   rw [List.pairwise_append] at hs
   have hl:=hm l (by simp)
   by_cases e:l.natAbs=m + 1
   · refine ⟨b,[l],rfl,hs.1,fun x hx=>h0 x (by simp [hx]),fun x hx=>?_,?_⟩
     · have:=hs.2.2 x hx l (by simp);omega
     · right
       rcases Int.natAbs_eq l with g|g
       · left;rw [g,e]
       · right;rw [g,e]
   · refine ⟨b++[l],[],by simp,List.pairwise_append.2 hs,h0,fun x hx=>?_,.inl rfl⟩
     rcases List.mem_append.1 hx with hx|hx
     · have:=hs.2.2 x hx l (by simp);omega
     · rw [List.mem_singleton] at hx;subst hx;omega
theorem cd_top {m:Nat} {t:List Int} (h:t=[]∨t=[((m + 1:Nat):Int)]∨t=[-((m + 1:Nat):Int)]):∃ d,d≤2∧cd t=d * 3 ^ m∧(d=0→t=[])∧(d=2→t=[((m + 1:Nat):Int)])∧(d=1→t=[-((m + 1:Nat):Int)]):=by
 rcases h with rfl|rfl|rfl
 · exact ⟨0,by omega,by rw [cd_nil];omega,fun _=>rfl,fun h=>by omega,fun h=>by omega⟩
 · refine ⟨2,by omega,?_,fun h=>by omega,fun _=>rfl,fun h=>by omega⟩
   rw [cd_one];unfold wl
   rw [if_pos (by omega)]
   rfl
 · refine ⟨1,by omega,?_,fun h=>by omega,fun h=>by omega,fun _=>rfl⟩
   rw [cd_one];unfold wl
   rw [if_neg (by omega),Int.natAbs_neg,Nat.one_mul]
   rfl
theorem cd_lt:∀ (m:Nat) {a:List Int},(a.Pairwise fun a b=>a.natAbs < b.natAbs)→(∀ l∈a,l≠0)→(∀ l∈a,l.natAbs≤m)→cd a < 3 ^ m
 | 0,a,hs,h0,hm=>by
  cases a with
  | nil=>rw [cd_nil];simp
  | cons l a=>have:=hm l (by simp);have:=h0 l (by simp);omega
 | m + 1,a,hs,h0,hm=>by
  obtain ⟨b,t,rfl,b1,b2,b3,ht⟩:=top_split hs h0 hm
  obtain ⟨d,d1,d2,_⟩:=cd_top ht
  have:=cd_lt m b1 b2 b3
  rw [cd_app,d2,Nat.pow_succ]
  have:d * 3 ^ m≤2 * 3 ^ m:=Nat.mul_le_mul_right _ d1
  omega
theorem cd_inj:∀ (m:Nat) {a b:List Int},(a.Pairwise fun a b=>a.natAbs < b.natAbs)→(∀ l∈a,l≠0)→(∀ l∈a,l.natAbs≤m)→(b.Pairwise fun a b=>a.natAbs < b.natAbs)→(∀ l∈b,l≠0)→(∀ l∈b,l.natAbs≤m)→cd a=cd b→a=b
 | 0,a,b,hs,h0,hm,hs',h0',hm',e=>by
  have:∀ c:List Int,(∀ l∈c,l≠0)→(∀ l∈c,l.natAbs≤0)→c=[]:=fun c h1 h2=>by
   cases c with
   | nil=>rfl
   | cons l c=>have:=h2 l (by simp);have:=h1 l (by simp);omega
  rw [this a h0 hm,this b h0' hm']
 | m + 1,a,b,hs,h0,hm,hs',h0',hm',e=>by
  obtain ⟨p,t,rfl,p1,p2,p3,ht⟩:=top_split hs h0 hm
  obtain ⟨q,u,rfl,q1,q2,q3,hu⟩:=top_split hs' h0' hm'
  obtain ⟨d,d1,d2,d3,d4,d5⟩:=cd_top ht
  obtain ⟨f,f1,f2,f3,f4,f5⟩:=cd_top hu
  have l1:=cd_lt m p1 p2 p3
  have l2:=cd_lt m q1 q2 q3
  rw [cd_app,cd_app,d2,f2] at e
  have hp:0 < 3 ^ m:=Nat.pow_pos (by omega)
  have ed:d=f:=by
   have e1:(cd p + d * 3 ^ m) / 3 ^ m=d:=by rw [Nat.add_mul_div_right _ _ hp,Nat.div_eq_of_lt l1,Nat.zero_add]
   have e2:(cd q + f * 3 ^ m) / 3 ^ m=f:=by rw [Nat.add_mul_div_right _ _ hp,Nat.div_eq_of_lt l2,Nat.zero_add]
   rw [← e1,e,e2]
  subst ed
  have ec:cd p=cd q:=by omega
  have:=cd_inj m p1 p2 p3 q1 q2 q3 ec
  subst this
  have:t=u:=by
   have hd:d=0∨d=1∨d=2:=by omega
   rcases hd with h|h|h
   · rw [d3 h,f3 h]
   · rw [d5 h,f5 h]
   · rw [d4 h,f4 h]
  rw [this]
theorem isC_abs {V:Int} {a:List Int} (h:IsC V a):∀ l∈a,l.natAbs≤V.toNat:=fun l hl=>by have:=h.lit l hl;omega
theorem zbE {V:Int} {a:List Int} (h:IsC V a):cd a < 3 ^ V.toNat:=cd_lt _ h.srt (fun l hl=>(h.lit l hl).2.2) (isC_abs h)
theorem code_inj {V:Int} {a b:List Int} (ha:IsC V a) (hb:IsC V b) (e:cd a=cd b):a=b :=
 cd_inj V.toNat ha.srt (fun l hl=>(ha.lit l hl).2.2) (isC_abs ha) hb.srt (fun l hl=>(hb.lit l hl).2.2) (isC_abs hb) e
theorem cd_put (a:List Int) (l:Int):cd (putL a l)=cd a + wl l:=by
 unfold putL
 rw [cd_app,show ∀ z:List Int,cd (l::z)=wl l + cd z from fun z=>by unfold cd;simp]
 have:=cd_app (a.takeWhile fun y=>decide (vr y < vr l)) (a.dropWhile fun y=>decide (vr y < vr l))
 rw [List.takeWhile_append_dropWhile] at this
 omega
theorem power3_eq {n:Nat} (h:n≤12):zbq (n:Int)=some ((3 ^ n:Nat):Int):=by
 have main:∃ r,zbq (n:Int)=some r∧r=((3 ^ n:Nat):Int):=by
  unfold zbq
  rw [show chk (n:Int)=some n by unfold chk;rw [if_pos (by omega)];simp,zaa]
  refine rng_m (fun i s=>s=((3 ^ i:Nat):Int)) rfl ?_ ?_
  · rintro i s hi rfl
    left
    have h1:3 ^ i≤3 ^ 12:=Nat.pow_le_pow_right (by omega) (by omega)
    have e:3 ^ (i + 1)=3 ^ i * 3:=Nat.pow_succ ..
    refine ⟨_,rfl,?_⟩
    rw [e]
    generalize 3 ^ i=q at h1 ⊢
    rw [wr_s (by omega) (by omega)]
    omega
  · rintro s rfl
    exact ⟨_,rfl,rfl⟩
 obtain ⟨r,e,rfl⟩:=main
 exact e
theorem wl_le {V:Int} {a:List Int} (h:IsC V a) (hV:V≤6) {l:Int} (hl:l∈a):wl l≤486:=by
 have:=h.lit l hl
 have hp:3 ^ (l.natAbs - 1)≤3 ^ 5:=Nat.pow_le_pow_right (by omega) (by omega)
 unfold wl
 split <;> omega
theorem code_eq {V:Int} {a:List Int} (h:IsC V a) (hV:V≤6):za0 a=some ((cd a:Nat):Int):=by
 have main:∃ r,za0 a=some r∧r=((cd a:Nat):Int):=by
  unfold za0
  refine zaW (fun i s=>s=((cd (a.take i):Nat):Int)) rfl ?_ ?_
  · rintro i l s hl rfl
    left
    have hm:=List.mem_of_getElem? hl
    have hb:=h.lit l hm
    have hlt:cd (a.take i) < 3 ^ V.toNat:=cd_lt _ (h.srt.sublist (List.take_sublist _ _)) (fun x hx=>(h.lit x (List.mem_of_mem_take hx)).2.2) (fun x hx=>isC_abs h x (List.mem_of_mem_take hx))
    have h7:3 ^ V.toNat≤729:=pow3_6 (by omega)
    have hw:=wl_le h hV hm
    have e:cd (a.take (i + 1))=cd (a.take i) + wl l:=by rw [List.take_add_one,hl,Option.toList_some,cd_app,cd_one]
    rw [e]
    unfold wl at hw ⊢
    by_cases h0:0 < l
    · rw [if_pos h0] at hw ⊢
      rw [cT h0,wr_s (n:=l - 1) (by omega) (by omega),show l - 1=((l.natAbs - 1:Nat):Int) by omega,power3_eq (by omega),zaa]
      generalize 3 ^ (l.natAbs - 1)=q at hw ⊢
      rw [wr_s (n:=2 * _) (by omega) (by omega),wr_s (by omega) (by omega)]
      exact ⟨_,rfl,by omega⟩
    · rw [if_neg h0] at hw ⊢
      rw [cF h0,wr_s (n:=-l) (by omega) (by omega),wr_s (n:=-l - 1) (by omega) (by omega),show -l - 1=((l.natAbs - 1:Nat):Int) by omega,power3_eq (by omega),zaa]
      generalize 3 ^ (l.natAbs - 1)=q at hw ⊢
      rw [wr_s (by omega) (by omega)]
      exact ⟨_,rfl,by omega⟩
  · rintro s rfl
    rw [List.take_length]
    exact ⟨_,rfl,rfl⟩
 obtain ⟨r,e,rfl⟩:=main
 exact e
structure Mks3 (V:Int) (L:List Int→Prop) (M:List Bool):Prop where
 len:M.length=3 ^ V.toNat
 at_:∀ a,IsC V a→∃ b,M[cd a]?=some b∧(b=true↔L a)
theorem p_at {A:Type} {xs:List A} {i:Nat} {x:A} (h:i < xs.length):put xs (i:Int) x=some (xs.set i x):=by
 unfold put;rw [if_pos (by omega)];simp
theorem s_self {A:Type} {xs:List A} {i:Nat} {x:A} (h:i < xs.length):(xs.set i x)[i]?=some x:=by
 rw [List.getElem?_set_self h]
theorem s_ne {A:Type} {xs:List A} {i j:Nat} {x:A} (h:i≠j):(xs.set i x)[j]?=xs[j]?:=by rw [List.getElem?_set_ne h]
theorem Mks3.set {V:Int} {L:List Int→Prop} {M:List Bool} (h:Mks3 V L M) {a:List Int} (ha:IsC V a) (b:Bool):Mks3 V (fun x=>if x=a then b=true else L x) (M.set (cd a) b):=by
 refine ⟨by simp [h.len],fun x hx=>?_⟩
 by_cases e:x=a
 · subst e
   exact ⟨b,s_self (by rw [h.len];exact zbE hx),by simp⟩
 · obtain ⟨c,c1,c2⟩:=h.at_ x hx
   exact ⟨c,by rw [s_ne (fun g=>e (code_inj hx ha g.symm))];exact c1,by simp [e,c2]⟩
theorem Mks3.congr {V:Int} {L L':List Int→Prop} {M:List Bool} (h:Mks3 V L M) (hL:∀ x,IsC V x→(L x↔L' x)):Mks3 V L' M :=
 ⟨h.len,fun a ha=>let ⟨b,h1,h2⟩:=h.at_ a ha;⟨b,h1,h2.trans (hL a ha)⟩⟩
theorem marks_eq {F:Cnf} (hF:Nar F) {L:List (List Int)} (hL:∀ a∈L,IsC F.vars a):∃ M,zcG F L=some M∧Mks3 F.vars (·∈L) M:=by
 have v0:=hF.v0
 have v6:=hF.le
 have hv:F.vars=((F.vars.toNat:Nat):Int):=(Int.toNat_of_nonneg v0).symm
 have h7:3 ^ F.vars.toNat≤729:=pow3_6 (by omega)
 unfold zcG
 have mk:∀ q:Nat,q≤729→mk2 (false:Bool) (q:Int) (q:Int)=some (List.replicate q false):=fun q hq=>by unfold mk2;rw [if_pos (by simp only [lim];omega)];simp
 have hp:=power3_eq (n:=F.vars.toNat) (by omega)
 rw [← hv] at hp
 rw [hp,zaa,mk _ h7,zaa]
 refine zaW (fun i M=>Mks3 F.vars (·∈L.take i) M) ⟨by simp,fun a ha=>⟨false,?_,by simp⟩⟩ ?_ ?_
 · rw [List.getElem?_replicate,if_pos (zbE ha)]
 · rintro i a M hi hM
   left
   have ha:=hL a (List.mem_of_getElem? hi)
   have hlt:cd a < M.length:=by rw [hM.len];exact zbE ha
   rw [code_eq ha v6,zaa,zal (List.getElem?_eq_getElem hlt),zaa,p_at hlt,zaa]
   refine ⟨_,rfl,(hM.set ha true).congr fun x hx=>?_⟩
   rw [List.take_add_one,hi,Option.toList_some,List.mem_append,List.mem_singleton]
   by_cases e:x=a <;> simp [e]
 · rintro M hM
   rw [List.take_length] at hM
   exact ⟨M,rfl,hM⟩
end Go.PF
namespace Go.PF
open Go.Pu
structure KP (F:Cnf) (w:Int) (L:List Int→Prop) (a:List Int):Prop where
 sub:∀ l∈a,L (zaz a (vr l))
 ext:len a≤w→∀ v:Int,1≤v→v≤F.vars→v ∉ a→-v ∉ a→L (putL a v)∨L (putL a (-v))
theorem zei {V:Int} {a:List Int} (h:IsC V a) (v:Int):IsC V (zaz a v) :=
 ⟨h.lo,h.hi,fun l hl=>h.lit l (List.mem_filter.1 hl).1,h.srt.sublist List.filter_sublist⟩
theorem vr_isC {V:Int} {a:List Int} (h:IsC V a) {l:Int} (hl:l∈a):vr l=l.natAbs:=by
 have:=h.lit l hl;have:=h.hi
 exact zbk (by omega) (by omega)
theorem at_neg {xs:List (List Int)} {c:List Int}:decide ((bif xs.contains c then (plc xs c:Int) else -1) < 0) = !xs.contains c:=by
 cases xs.contains c
 · rfl
 · simp
theorem spec_keeps_eq {F:Cnf} (hF:Nar F) {w:Int} {n:Nat} {L:List (List Int)} (hC:Cfg F.vars n L) (hn:n≤100000) {a:List Int} (ha:IsC F.vars a):∃ b,zb5 F w L a=some b∧(b=true↔KP F w (·∈L) a):=by
 have v0:=hF.v0
 have v6:=hF.le
 have hal:=ha.len
 have hlim:lim=4294967296:=rfl
 unfold zb5
 refine zaW (fun i _=>∀ l∈a.take i,zaz a (vr l)∈L) (by simp) ?_ ?_
 · rintro i l - hl hI
   have hm:=List.mem_of_getElem? hl
   rw [zdI,zeB (by omega),zaa,zeg hC hn (zei ha _).small,zaa,at_neg]
   cases hc:L.contains (zaz a (vr l)) with
   | true =>
    left
    rw [Bool.not_true,cond_false]
    refine ⟨(),rfl,fun x hx=>?_⟩
    rw [List.take_add_one,hl,Option.toList_some,List.mem_append,List.mem_singleton] at hx
    rcases hx with hx|rfl
    · exact hI x hx
    · exact List.contains_iff_mem.1 hc
   | false =>
    right
    rw [Bool.not_false,cond_true]
    refine ⟨_,rfl,_,rfl,?_⟩
    simp only [Bool.false_eq_true,false_iff]
    intro g
    have:=List.contains_iff_mem.2 (g.sub l hm)
    rw [hc] at this;cases this
 · rintro - hI
   rw [List.take_length] at hI
   by_cases hw:len a≤w
   · refine cnt_m (σ:=Unit) (fun _ i=>i) (n:=F.vars.toNat + 1) (a:=1) (s0:=()) (fun i _=>∀ v:Int,1≤v→v < i→v ∉ a→-v ∉ a→putL a v∈L∨putL a (-v)∈L) rfl (by omega) (fun v h1 h2=>by omega) ?_ ?_ ?_
     · rintro i - i1 i2 hJ
       rw [cT (show (i:Int)≤F.vars by omega),decide_eq_true hw,cond_true,zc2,zaa,wr_s (n:=-(i:Int)) (by omega) (by omega),zc2,zaa]
       have nxq:(∀ v:Int,v=(i:Int)→v ∉ a→-v ∉ a→putL a v∈L∨putL a (-v)∈L)→∀ v:Int,1≤v→v < ((i + 1:Nat):Int)→v ∉ a→-v ∉ a→putL a v∈L∨putL a (-v)∈L:=fun g v h1 h2=>by
        by_cases e:v=(i:Int)
        · exact g v e
        · exact hJ v h1 (by omega)
       cases h1:a.contains (i:Int) with
       | true =>
        left
        rw [Bool.not_true,cond_false,zaa,cond_false,zaa,cond_false,zaa,cond_false,wr_s (by omega) (by omega)]
        exact ⟨(),rfl,nxq fun v e g=>absurd (List.contains_iff_mem.1 h1) (e ▸ g)⟩
       | false =>
        rw [Bool.not_false,cond_true,zaa]
        cases h2:a.contains (-(i:Int)) with
        | true =>
         left
         rw [Bool.not_true,cond_false,zaa,cond_false,zaa,cond_false,wr_s (by omega) (by omega)]
         exact ⟨(),rfl,nxq fun v e _ g=>absurd (List.contains_iff_mem.1 h2) (e ▸ g)⟩
        | false =>
         have m1:(i:Int) ∉ a:=fun g=>by rw [List.contains_iff_mem.2 g] at h1;cases h1
         have m2:-(i:Int) ∉ a:=fun g=>by rw [List.contains_iff_mem.2 g] at h2;cases h2
         have hne:=open_ne ha m1 m2
         have c1:=zbV ha (l:=(i:Int)) ⟨by omega,by omega,by omega⟩ hne
         have c2:=zbV ha (l:=-(i:Int)) ⟨by omega,by omega,by omega⟩ (fun x hx=>by have:=hne x hx;omega)
         rw [Bool.not_false,cond_true,zcq (by omega),zaa,zeg hC hn c1.small,zaa,zaa,at_neg]
         cases h3:L.contains (putL a (i:Int)) with
         | true =>
          left
          rw [Bool.not_true,cond_false,zaa,cond_false,wr_s (by omega) (by omega)]
          exact ⟨(),rfl,nxq fun v e _ _=>.inl (e ▸ List.contains_iff_mem.1 h3)⟩
         | false =>
          rw [Bool.not_false,cond_true,zcq (by omega),zaa,zeg hC hn c2.small,zaa,zaa,at_neg]
          cases h4:L.contains (putL a (-(i:Int))) with
          | true =>
           left
           rw [Bool.not_true,cond_false,wr_s (by omega) (by omega)]
           exact ⟨(),rfl,nxq fun v e _ _=>.inr (e ▸ List.contains_iff_mem.1 h4)⟩
          | false =>
           right
           rw [Bool.not_false,cond_true]
           refine ⟨_,rfl,_,rfl,?_⟩
           simp only [Bool.false_eq_true,false_iff]
           intro g
           rcases g.ext hw (i:Int) (by omega) (by omega) m1 m2 with g|g
           · rw [List.contains_iff_mem.2 g] at h3;cases h3
           · rw [List.contains_iff_mem.2 g] at h4;cases h4
     · rintro - hJ
       rw [cF (show ¬ ((F.vars.toNat + 1:Nat):Int)≤F.vars by omega),cond_false]
     · rintro - hJ
       refine ⟨_,rfl,?_⟩
       simp only [true_iff]
       exact ⟨hI,fun _ v h1 h2=>hJ v h1 (by omega)⟩
   · refine ⟨true,?_,?_⟩
     · rw [zaT (s':=1) (by rw [decide_eq_false hw];cases decide ((1:Int)≤F.vars) <;> rfl),zaD]
     · simp only [true_iff]
       exact ⟨hI,fun g=>absurd g hw⟩
theorem without_i_eq {c:List Int} (hl:c.length≤100000) {i:Nat} (h:i < c.length):zdk c (i:Int)=some (c.eraseIdx i):=by
 unfold zdk zbu zek
 rw [app_q (by simp;omega),zaa,zaa,List.nil_append,wr_s (by omega) (by omega)]
 unfold delL
 rw [if_pos (by omega),zaa,List.eraseIdx_eq_take_drop_succ]
 have e:((i:Int) + 1).toNat=i + 1:=by omega
 rw [e,Int.toNat_natCast]
theorem erase_without {V:Int}:∀ {a:List Int} {i:Nat} {l:Int},IsC V a→a[i]?=some l→a.eraseIdx i=zaz a (vr l)
 | [],i,l,h,hl=>by simp at hl
 | x::a,0,l,h,hl=>by
  simp only [List.getElem?_cons_zero,Option.some.injEq] at hl
  subst hl
  have hs:=List.pairwise_cons.1 h.srt
  have e:vr x=(x.natAbs:Int):=vr_isC h (by simp)
  unfold zaz
  rw [List.eraseIdx_cons_zero,List.filter_cons,beq_self_eq_true,Bool.not_true,if_neg (by decide),List.filter_eq_self.2]
  intro y hy
  have:=hs.1 y hy
  rw [e,vr_isC h (by simp [hy])]
  simp;omega
 | x::a,i + 1,l,h,hl=>by
  have hs:=List.pairwise_cons.1 h.srt
  rw [List.getElem?_cons_succ] at hl
  have ha:IsC V a:=⟨h.lo,h.hi,fun y hy=>h.lit y (by simp [hy]),hs.2⟩
  have hm:=List.mem_of_getElem? hl
  have:=hs.1 l hm
  rw [List.eraseIdx_cons_succ,erase_without ha hl]
  unfold zaz
  rw [List.filter_cons,if_pos]
  rw [vr_isC h (by simp),vr_isC h (by simp [hm])]
  simp;omega
def opnV (a:List Int) (x:Int):Bool := !a.contains x && !a.contains (wr (-x))
theorem openVars_1_eq {a:List Int} {x:Int} (hx:1≤x):zcI x a=some (!opnV a x):=by
 unfold zcI zdQ opnV
 unfold forL
 simp only [zau,zeA,zaa]
 cases a.contains x with
 | true=>rfl
 | false =>
  cases a.contains (wr (-x)) with
  | true=>rfl
  | false =>
   simp only [Bool.not_false,cond_true,zaa,bdR_rt,Bool.and_self,Bool.not_true]
   congr 1
   simp;omega
theorem upTo_eq {V:Nat} (h:V≤100):zcH (V:Int)=some ((List.range V).map fun (k:Nat)=>((k + 1:Nat):Int)):=by
 have main:∃ r,zcH (V:Int)=some r∧r=(List.range V).map fun (k:Nat)=>((k + 1:Nat):Int):=by
  unfold zcH
  refine cnt_m (σ:=List Int) (fun s i=>(s,i)) (n:=V + 1) (a:=1) (s0:=[]) (fun i s=>s=(List.range (i - 1)).map fun (k:Nat)=>((k + 1:Nat):Int)) rfl (by omega) rfl ?_ ?_ ?_
  · rintro i s i1 i2 rfl
    left
    dsimp only
    obtain ⟨j,rfl⟩:∃ j,i=j + 1:=⟨i - 1,by omega⟩
    rw [cT (by omega),app_q (by simp;omega),zaa,wr_s (by omega) (by omega)]
    refine ⟨_,rfl,?_⟩
    rw [Nat.add_sub_cancel,Nat.add_sub_cancel,List.range_succ,List.map_append];rfl
  · rintro s rfl
    dsimp only
    rw [cF (by omega)]
  · rintro s rfl
    exact ⟨_,rfl,rfl⟩
 obtain ⟨r,e,rfl⟩:=main
 exact e
theorem openVars_eq {V:Int} (v0:0≤V) (v6:V≤6) (a:List Int):∃ O,zdn V a=some O∧O.length≤6∧∀ x,x∈O↔1≤x∧x≤V∧x ∉ a∧-x ∉ a:=by
 unfold zdn
 have hu:=upTo_eq (V:=V.toNat) (by omega)
 rw [Int.toNat_of_nonneg v0] at hu
 rw [hu,zaa]
 have hm:∀ y∈((List.range V.toNat).map fun (k:Nat)=>((k + 1:Nat):Int)),1≤y∧y≤V:=fun y hy=>by
  obtain ⟨k,hk,rfl⟩:=List.mem_map.1 hy
  have:=List.mem_range.1 hk
  omega
 rw [zfc (g:=fun y => !opnV a y) (fun y hy=>openVars_1_eq (hm y hy).1) (by simp [lim];omega),zaa]
 refine ⟨_,rfl,?_,fun x=>?_⟩
 · have:=List.length_filter_le (fun y => !!opnV a y) ((List.range V.toNat).map fun (k:Nat)=>((k + 1:Nat):Int))
   rw [List.length_map,List.length_range] at this
   omega
 · rw [List.mem_filter,Bool.not_not]
   unfold opnV
   constructor
   · rintro ⟨h1,h2⟩
     obtain ⟨g1,g2⟩:=hm x h1
     rw [wr_s (by omega) (by omega)] at h2
     simp at h2
     exact ⟨g1,g2,h2.1,h2.2⟩
   · rintro ⟨h1,h2,h3,h4⟩
     refine ⟨List.mem_map.2 ⟨x.toNat - 1,List.mem_range.2 (by omega),by omega⟩,?_⟩
     rw [wr_s (by omega) (by omega)]
     simp [h3,h4]
theorem wl_pos {n:Nat}:wl ((n + 1:Nat):Int)=2 * 3 ^ n∧wl (-((n + 1:Nat):Int))=3 ^ n:=by
 unfold wl
 rw [if_pos (by omega),if_neg (by omega),Int.natAbs_neg]
 exact ⟨rfl,rfl⟩
theorem zeI {F:Cnf} (hF:Nar F) {w:Int} {L:List Int→Prop} {M:List Bool} (hM:Mks3 F.vars L M) {a:List Int} (ha:IsC F.vars a):∃ b,zbM F w M a=some b∧(b=true↔KP F w L a):=by
 have v0:=hF.v0
 have v6:=hF.le
 have hal:=ha.len
 unfold zbM
 refine zaW (fun i _=>∀ l∈a.take i,L (zaz a (vr l))) (by simp) ?_ ?_
 · rintro i l - hl hI
   have hm:=List.mem_of_getElem? hl
   have hc:=zei ha (vr l)
   obtain ⟨b,b1,b2⟩:=hM.at_ _ hc
   rw [without_i_eq (by omega) (List.getElem?_eq_some_iff.1 hl).1,zaa,erase_without ha hl,code_eq hc v6,zaa,zal b1,zaa]
   cases b with
   | true =>
    left
    rw [Bool.not_true,cond_false]
    refine ⟨(),rfl,fun x hx=>?_⟩
    rw [List.take_add_one,hl,Option.toList_some,List.mem_append,List.mem_singleton] at hx
    rcases hx with hx|rfl
    · exact hI x hx
    · exact b2.1 rfl
   | false =>
    right
    rw [Bool.not_false,cond_true]
    refine ⟨_,rfl,_,rfl,?_⟩
    simp only [Bool.false_eq_true,false_iff]
    intro g
    have:=b2.2 (g.sub l hm)
    cases this
 · rintro - hI
   rw [List.take_length] at hI
   by_cases hw:w < len a
   · rw [cT hw]
     refine ⟨_,rfl,?_⟩
     simp only [true_iff]
     exact ⟨hI,fun g=>by omega⟩
   · rw [cF hw]
     obtain ⟨O,o1,o2,o3⟩:=openVars_eq v0 v6 a
     rw [o1,zaa,chk_len (by omega),zaa]
     refine rng_m (fun i _=>∀ v∈O.take i,L (putL a v)∨L (putL a (-v))) (by simp) ?_ ?_
     · rintro i - hi hJ
       have hx:O[i]?=some O[i]:=List.getElem?_eq_getElem hi
       have hxo:=(o3 O[i]).1 (List.getElem_mem hi)
       generalize O[i]=x at hx hxo
       obtain ⟨x1,x2,x3,x4⟩:=hxo
       obtain ⟨m,rfl⟩:∃ m:Nat,x=((m + 1:Nat):Int):=⟨x.toNat - 1,by omega⟩
       have hne:=open_ne ha x3 x4
       have c1:=zbV ha (l:=((m + 1:Nat):Int)) ⟨by omega,by omega,by omega⟩ hne
       have c2:=zbV ha (l:=-((m + 1:Nat):Int)) ⟨by omega,by omega,by omega⟩ (fun x hx=>by have:=hne x hx;omega)
       obtain ⟨b1,p1,q1⟩:=hM.at_ _ c1
       obtain ⟨b2,p2,q2⟩:=hM.at_ _ c2
       have k1:=zbE c1
       have k2:=zbE c2
       have h7:3 ^ F.vars.toNat≤729:=pow3_6 (by omega)
       rw [cd_put,wl_pos.1] at p1 k1
       rw [cd_put,wl_pos.2] at p2 k2
       rw [zal hx,zaa,code_eq ha v6,zaa,wr_s (n:=((m + 1:Nat):Int) - 1) (by omega) (by omega),show ((m + 1:Nat):Int) - 1=(m:Int) by omega,power3_eq (by omega),zaa]
       generalize 3 ^ m=q at p1 p2 k1 k2 ⊢
       rw [wr_s (n:=((cd a:Nat):Int) + (q:Int)) (by omega) (by omega),show ((cd a:Nat):Int) + (q:Int)=((cd a + q:Nat):Int) by omega,zal p2,zaa]
       have up:L (putL a ((m + 1:Nat):Int))∨L (putL a (-((m + 1:Nat):Int)))→∀ v∈O.take (i + 1),L (putL a v)∨L (putL a (-v)):=fun g v hv=>by
        rw [List.take_add_one,hx,Option.toList_some,List.mem_append,List.mem_singleton] at hv
        rcases hv with hv|rfl
        · exact hJ v hv
        · exact g
       cases b2 with
       | true =>
        left
        rw [Bool.not_true,cond_false,zaa,cond_false]
        exact ⟨(),rfl,up (.inr (q2.1 rfl))⟩
       | false =>
        rw [Bool.not_false,cond_true,zaa,zaa,wr_s (n:=2 * (q:Int)) (by omega) (by omega),wr_s (n:=((cd a:Nat):Int) + 2 * (q:Int)) (by omega) (by omega),show ((cd a:Nat):Int) + 2 * (q:Int)=((cd a + 2 * q:Nat):Int) by omega,zal p1,zaa,zaa]
        cases b1 with
        | true =>
         left
         rw [Bool.not_true,cond_false]
         exact ⟨(),rfl,up (.inl (q1.1 rfl))⟩
        | false =>
         right
         rw [Bool.not_false,cond_true]
         refine ⟨_,rfl,_,rfl,?_⟩
         simp only [Bool.false_eq_true,false_iff]
         intro g
         rcases g.ext (by omega) _ x1 x2 x3 x4 with g|g
         · have:=q1.2 g;cases this
         · have:=q2.2 g;cases this
     · rintro - hJ
       rw [List.take_length] at hJ
       refine ⟨_,rfl,?_⟩
       simp only [true_iff]
       exact ⟨hI,fun _ v h1 h2 h3 h4=>hJ v ((o3 v).2 ⟨h1,h2,h3,h4⟩)⟩
end Go.PF
namespace Go.PF
open Go.Pu
theorem KP.congr {F:Cnf} {w:Int} {L L':List Int→Prop} (h:∀ x,L x↔L' x) {a:List Int}:KP F w L a↔KP F w L' a:=by
 have:L=L':=funext fun x=>propext (h x)
 rw [this]
theorem iter_m' {S X B:Type} {body:S→Option (Lp S X)} {s0:S} {k:S→Option B} {lx:X→Option B} {R:B→Prop} (I:Nat→S→Prop) (m:Nat→Nat) (g0:Nat) (h0:I g0 s0)
 (h:∀ g s,I g s→(∃ s',body s=some (.nx s')∧∃ g',I g' s'∧m g' < m g)∨(∃ s',body s=some (.bk s')∧∃ r,k s'=some r∧R r)∨(∃ x,body s=some (.rt x)∧∃ r,lx x=some r∧R r)):∃ r,bdR (iter body s0) k lx=some r∧R r:=by
 have key:∀ (n g:Nat) (s:S),m g≤n→I g s→∃ r,bdR (iter body s) k lx=some r∧R r:=by
  intro n
  induction n with
  | zero =>
   intro g s hm hI
   rcases h g s hI with ⟨s',_,g',_,h3⟩|⟨s',h1,h2⟩|⟨x,h1,h2⟩
   · omega
   · rw [zaT h1,zaD];exact h2
   · rw [zbz h1,bdR_rt];exact h2
  | succ n ih =>
   intro g s hm hI
   rcases h g s hI with ⟨s',h1,g',h2,h3⟩|⟨s',h1,h2⟩|⟨x,h1,h2⟩
   · rw [zbh h1];exact ih g' s' (by omega) h2
   · rw [zaT h1,zaD];exact h2
   · rw [zbz h1,bdR_rt];exact h2
 exact key _ g0 s0 (Nat.le_refl _) h0
theorem bdR_id {S:Type} {x:Option (Rs S Empty)} {lx:Empty→Option S} {q:S} (h:bdR x (fun s=>some s) lx=some q):x=some (.go q):=by
 cases x with
 | none=>cases h
 | some y =>
  cases y with
  | go s=>rw [zaD] at h;cases h;rfl
  | rt e=>exact e.elim
def Pn (F:Cnf) (w:Int) (A:List (List Int)):Nat→List Int→Prop
 | 0,a=>a∈A
 | n + 1,a=>Pn F w A n a∧KP F w (Pn F w A n) a
theorem Pn.mem {F:Cnf} {w:Int} {A:List (List Int)}:∀ {n:Nat} {a:List Int},Pn F w A n a→a∈A
 | 0,a,h=>h
 | n + 1,a,h=>Pn.mem h.1
open Classical in
noncomputable def ly (F:Cnf) (w:Int) (A:List (List Int)) (n:Nat):List (List Int):=A.filter fun a=>decide (Pn F w A n a)
open Classical in
theorem ly_mem {F:Cnf} {w:Int} {A:List (List Int)} {n:Nat} {a:List Int}:a∈ly F w A n↔Pn F w A n a:=by
 unfold ly
 rw [List.mem_filter,decide_eq_true_eq]
 exact ⟨fun h=>h.2,fun h=>⟨h.mem,h⟩⟩
open Classical in
theorem ly_zero {F:Cnf} {w:Int} {A:List (List Int)}:ly F w A 0=A:=by
 unfold ly
 rw [List.filter_eq_self]
 intro a ha
 exact decide_eq_true ha
structure Fin (F:Cnf) (w:Int) (A:List (List Int)) (R:Nat):Prop where
 dec:∀ j,j < R→(ly F w A (j + 1)).length < (ly F w A j).length
 fix:∀ a,Pn F w A (R + 1) a↔Pn F w A R a
open Classical in
theorem ly_congr {F:Cnf} {w:Int} {A:List (List Int)} {n m:Nat} (h:∀ a,Pn F w A n a↔Pn F w A m a):ly F w A n=ly F w A m:=by
 unfold ly
 refine List.filter_congr fun a _=>?_
 rw [decide_eq_decide];exact h a
theorem Fin.uniq {F:Cnf} {w:Int} {A:List (List Int)} {R S:Nat} (h:Fin F w A R) (h':Fin F w A S):R=S:=by
 rcases Nat.lt_trichotomy R S with g|g|g
 · have:=h'.dec R g;rw [ly_congr h.fix] at this;omega
 · exact g
 · have:=h.dec S g;rw [ly_congr h'.fix] at this;omega
open Classical in
theorem zbm {F:Cnf} {w:Int} {A:List (List Int)} {n:Nat}:(ly F w A n).Sublist A:=List.filter_sublist
noncomputable def cnR (F:Cnf) (w:Int) (A:List (List Int)) (R:Nat):List Int:=(List.range R).map fun j=>((ly F w A j).length:Int) - ((ly F w A (j + 1)).length:Int)
theorem cnR_succ {F:Cnf} {w:Int} {A:List (List Int)} {R:Nat}:cnR F w A (R + 1)=cnR F w A R++[((ly F w A R).length:Int) - ((ly F w A (R + 1)).length:Int)]:=by
 unfold cnR;rw [List.range_succ,List.map_append];rfl
theorem AA.isC {F:Cnf} {w:Int} {A:List (List Int)} (h:AA F w A) {a:List Int} (ha:a∈A):IsC F.vars a:=((h.mem a).1 ha).c
theorem ly_cfg {F:Cnf} {w:Int} {A:List (List Int)} (h:AA F w A) (h7:A.length≤729) (n:Nat):Cfg F.vars 729 (ly F w A n) :=
 ⟨h.srt.sublist zbm,Nat.le_trans zbm.length_le h7,fun c hc=>h.isC (zbm.subset hc)⟩
theorem filt_sub {X:Type} {p q:X→Bool} (h:∀ a,p a=true→q a=true):∀ {L:List X},(L.filter p).Sublist (L.filter q)
 | []=>.slnil
 | a::L=>by
  have ih:=filt_sub h (L:=L)
  cases hp:p a with
  | true=>rw [List.filter_cons_of_pos hp,List.filter_cons_of_pos (h a hp)];exact ih.cons_cons a
  | false =>
   rw [List.filter_cons_of_neg (by rw [hp];decide)]
   cases hq:q a with
   | true=>rw [List.filter_cons_of_pos hq];exact ih.cons a
   | false=>rw [List.filter_cons_of_neg (by rw [hq];decide)];exact ih
open Classical in
theorem spec_shrink_eq {F:Cnf} (hF:Nar F) {w:Int} (w0:0≤w) (w6:w≤6):∃ A,AA F w A∧A.length≤729∧∃ W R,zbg F w=some W∧Fin F w A R∧R≤729∧W.left=ly F w A R∧W.counts=cnR F w A R:=by
 obtain ⟨A,eA,hA,h7⟩:=spec_all_eq hF w0 w6
 refine ⟨A,hA,h7,?_⟩
 suffices hg:∃ W,zbg F w=some W∧∃ R,Fin F w A R∧R≤729∧W.left=ly F w A R∧W.counts=cnR F w A R by
  obtain ⟨W,e,R,h⟩:=hg
  exact ⟨W,R,e,h⟩
 unfold zbg
 rw [eA,zaa,show mk2 (0:Int) (len A) (len A)=some (List.replicate A.length 0) by unfold mk2;rw [if_pos (by rw [zaj];simp only [lim];omega)];simp [zaj],zaa]
 have stp:∀ n,(ly F w A (n + 1)).length≤(ly F w A n).length:=fun n=>by
  refine List.Sublist.length_le ?_
  unfold ly
  refine filt_sub fun a ha=>?_
  rw [decide_eq_true_eq] at ha ⊢
  exact ha.1
 refine iter_m' (fun r (s:List Int×List Int×List (List Int)×Int)=>s.1.length=A.length∧(∀ (k:Nat) t,s.1[k]?=some t→0≤t∧∀ a,A[k]?=some a→(0 < t↔¬ Pn F w A r a))∧s.2.1=cnR F w A r∧s.2.2.1=ly F w A r∧s.2.2.2=((r + 1:Nat):Int)∧(∀ j,j < r→(ly F w A (j + 1)).length < (ly F w A j).length)∧r + (ly F w A r).length≤729) (fun r=>729 - r) 0 ⟨by simp,fun k t hk=>?_,rfl,ly_zero.symm,rfl,fun j hj=>by omega,by rw [ly_zero];omega⟩ ?_
 · have:=List.eq_of_mem_replicate (List.mem_of_getElem? hk)
   subst this
   exact ⟨by omega,fun a ha=>⟨fun g=>by omega,fun g=>absurd (List.mem_of_getElem? ha) g⟩⟩
 · rintro r ⟨rounds,counts,left,rd⟩ ⟨h1,h2,h3,h4,h5,h6,h8⟩
   dsimp only at h1 h2 h3 h4 h5
   subst h3 h4 h5
   dsimp only
   have hC:=ly_cfg hA h7 r
   have inner:∃ q,bdR (iter (S:=((List (List Int))×(List Int)×Int×Int)) (X:=Empty) (fun s1182=>(bif (decide (s1182.2.2.2 < (len A))) then bd (ix s1182.2.1 s1182.2.2.2) (fun x1475=>(bif (decide (0 < x1475)) then some (Lp.nx (s1182.1,s1182.2.1,s1182.2.2.1,(wr (s1182.2.2.2 + 1)))) else bd (ix A s1182.2.2.2) (fun x1485=>bd (PF.zb5 F w (ly F w A r) x1485) (fun r1489=>(bif r1489 then bd (ix A s1182.2.2.2) (fun x1501=>bd (app s1182.1 [x1501]) (fun xs1510=>some (Lp.nx (xs1510,s1182.2.1,s1182.2.2.1,(wr (s1182.2.2.2 + 1)))))) else bd (ix s1182.2.1 s1182.2.2.2) (fun x1527=>bd (put s1182.2.1 s1182.2.2.2 ((r + 1:Nat):Int)) (fun xs1532=>some (Lp.nx (s1182.1,xs1532,(wr (s1182.2.2.1 + 1)),(wr (s1182.2.2.2 + 1))))))))))) else some (Lp.bk (s1182.1,s1182.2.1,s1182.2.2.1,s1182.2.2.2)))) ([],rounds,0,0)) (fun s=>some s) (fun x=>nomatch x)=some q ∧
    q.1=ly F w A (r + 1)∧q.2.1.length=A.length∧(∀ (k:Nat) t,q.2.1[k]?=some t→0≤t∧∀ a,A[k]?=some a→(0 < t↔¬ Pn F w A (r + 1) a))∧q.2.2.1=((ly F w A r).length:Int) - ((ly F w A (r + 1)).length:Int):=by
    refine cnt_m (σ:=List (List Int)×List Int×Int) (fun s i=>(s.1,s.2.1,s.2.2,i)) (n:=A.length) (a:=0) (s0:=([],rounds,0))
     (fun i s=>s.1=(A.take i).filter (fun a=>decide (Pn F w A (r + 1) a))∧s.2.1.length=A.length∧(∀ (k:Nat) t,s.2.1[k]?=some t→0≤t∧∀ a,A[k]?=some a→(0 < t↔¬ Pn F w A (if k < i then r + 1 else r) a)) ∧
      s.2.2=(((A.take i).filter (fun a=>decide (Pn F w A r a))).length:Int) - (((A.take i).filter (fun a=>decide (Pn F w A (r + 1) a))).length:Int)) rfl (by omega) ⟨rfl,h1,fun k t hk=>?_,rfl⟩ ?_ ?_ ?_
    · rw [if_neg (by omega)];exact h2 k t hk
    · rintro i ⟨nx,rs,ct⟩ - hi ⟨g1,g2,g3,g4⟩
      left
      dsimp only at g1 g2 g3 g4
      dsimp only
      have ha:A[i]?=some A[i]:=List.getElem?_eq_getElem hi
      have hac:=hA.isC (List.getElem_mem hi)
      generalize A[i]=a at ha hac
      have hri:i < rs.length:=by omega
      have hr:rs[i]?=some rs[i]:=List.getElem?_eq_getElem hri
      obtain ⟨t0,tp⟩:=g3 i _ hr
      have tp:=tp a ha
      rw [if_neg (by omega)] at tp
      generalize rs[i]=t at hr t0 tp
      have tk:∀ n,(A.take (i + 1)).filter (fun a=>decide (Pn F w A n a))=(A.take i).filter (fun a=>decide (Pn F w A n a))++(if Pn F w A n a then [a] else []):=fun n=>by
       rw [List.take_add_one,ha,Option.toList_some,List.filter_append]
       congr 1
       by_cases g:Pn F w A n a
       · simp [g]
       · simp [g]
      have keep:∀ (rs':List Int) (v:Int),rs'.length=A.length→(∀ k t,k≠i→rs'[k]?=some t→rs[k]?=some t)→rs'[i]?=some v→0≤v→(0 < v↔¬ Pn F w A (r + 1) a)→∀ (k:Nat) t,rs'[k]?=some t→0≤t∧∀ a,A[k]?=some a→(0 < t↔¬ Pn F w A (if k < i + 1 then r + 1 else r) a):=by
       intro rs' v e1 e2 e3 e4 e5 k t hk
       by_cases e:k=i
       · subst e
         rw [e3] at hk
         cases hk
         refine ⟨e4,fun b hb=>?_⟩
         rw [ha] at hb;cases hb
         rw [if_pos (by omega)];exact e5
       · have:=g3 k t (e2 k t e hk)
         by_cases hlt:k < i
         · rw [if_pos hlt] at this;rw [if_pos (by omega)];exact this
         · rw [if_neg hlt] at this;rw [if_neg (by omega)];exact this
      have cb:((A.take i).filter (fun a=>decide (Pn F w A r a))).length≤729:=by
       have:=List.length_filter_le (fun a=>decide (Pn F w A r a)) (A.take i)
       rw [List.length_take] at this;omega
      have cb2:((A.take i).filter (fun a=>decide (Pn F w A (r + 1) a))).length≤729:=by
       have:=List.length_filter_le (fun a=>decide (Pn F w A (r + 1) a)) (A.take i)
       rw [List.length_take] at this;omega
      rw [cT (show ((i:Nat):Int) < len A by rw [zaj];omega),zal hr,zaa]
      by_cases hp:0 < t
      · have n0:=tp.1 hp
        have n1:¬ Pn F w A (r + 1) a:=fun g=>n0 g.1
        rw [cT hp,wr_s (by omega) (by omega)]
        refine ⟨(nx,rs,ct),rfl,?_,g2,keep rs t g2 (fun _ _ _ h=>h) hr t0 ⟨fun _=>n1,fun _=>hp⟩,?_⟩
        · rw [tk,if_neg n1,List.append_nil];exact g1
        · rw [tk,tk,if_neg n1,if_neg n0,List.append_nil,List.append_nil];exact g4
      · have y0:Pn F w A r a:=Classical.not_not.1 fun g=>hp (tp.2 g)
        obtain ⟨b,b1,b2⟩:=spec_keeps_eq (w:=w) hF hC (by omega) hac
        have b2':b=true↔Pn F w A (r + 1) a:=b2.trans ((KP.congr fun x=>ly_mem).trans ⟨fun g=>⟨y0,g⟩,fun g=>g.2⟩)
        rw [cF hp,zal ha,zaa,b1,zaa]
        cases b with
        | true =>
         have y1:=b2'.1 rfl
         rw [cond_true,zaa,app_q (by rw [g1];simp only [List.length_singleton];omega),zaa,wr_s (by omega) (by omega)]
         refine ⟨(nx++[a],rs,ct),rfl,?_,g2,keep rs t g2 (fun _ _ _ h=>h) hr t0 ⟨fun g=>absurd g hp,fun g=>absurd y1 g⟩,?_⟩
         · rw [tk,if_pos y1,g1]
         · rw [tk,tk,if_pos y1,if_pos y0,List.length_append,List.length_append,g4];simp only [List.length_singleton];omega
        | false =>
         have n1:¬ Pn F w A (r + 1) a:=fun g=>by have:=b2'.2 g;cases this
         rw [cond_false,zaa,p_at hri,zaa,wr_s (n:=ct + 1) (by omega) (by omega),wr_s (by omega) (by omega)]
         refine ⟨(nx,rs.set i ((r + 1:Nat):Int),ct + 1),rfl,?_,by simp [g2],keep _ ((r + 1:Nat):Int) (by simp [g2]) (fun k t e h=>by rwa [s_ne (fun g=>e g.symm)] at h) (s_self hri) (by omega) ⟨fun _=>n1,fun _=>by omega⟩,?_⟩
         · rw [tk,if_neg n1,List.append_nil];exact g1
         · rw [tk,tk,if_neg n1,if_pos y0,List.append_nil,List.length_append,g4];simp only [List.length_singleton];omega
    · rintro ⟨nx,rs,ct⟩ hI
      dsimp only
      rw [cF (by rw [zaj];omega)]
    · rintro ⟨nx,rs,ct⟩ ⟨g1,g2,g3,g4⟩
      dsimp only at g1 g2 g3 g4
      rw [List.take_length] at g1 g4
      refine ⟨_,rfl,g1,g2,fun k t hk=>?_,g4⟩
      have:=g3 k t hk
      have hkl:=(List.getElem?_eq_some_iff.1 hk).1
      dsimp only at hkl
      rw [if_pos (by omega)] at this
      exact this
   obtain ⟨⟨nx,rs,ct,ii⟩,e,q1,q2,q3,q4⟩:=inner
   dsimp only at q1 q2 q3 q4
   subst q1 q4
   have e':=bdR_id e
   rw [e',zaD]
   dsimp only
   have hst:=stp r
   by_cases hz:(ly F w A (r + 1)).length=(ly F w A r).length
   · right;right
     rw [show (((ly F w A r).length:Int) - ((ly F w A (r + 1)).length:Int) == 0)=true by rw [beq_iff_eq];omega,cond_true]
     refine ⟨_,rfl,_,rfl,r,⟨h6,fun a=>⟨fun g=>g.1,fun g=>?_⟩⟩,by omega,rfl,rfl⟩
     have sub:(ly F w A (r + 1)).Sublist (ly F w A r):=by
      unfold ly
      refine filt_sub fun a ha=>?_
      rw [decide_eq_true_eq] at ha ⊢
      exact ha.1
     have:=sub.eq_of_length hz
     rw [← ly_mem,this,ly_mem];exact g
   · left
     have hc7:(cnR F w A r).length=r:=by unfold cnR;simp
     rw [show (((ly F w A r).length:Int) - ((ly F w A (r + 1)).length:Int) == 0)=false by rw [beq_eq_false_iff_ne];omega,cond_false,app_q (by rw [hc7];simp;omega),zaa,wr_s (by omega) (by omega)]
     refine ⟨_,rfl,r + 1,⟨q2,q3,cnR_succ.symm,rfl,by dsimp only;omega,fun j hj=>?_,by omega⟩,by omega⟩
     by_cases e:j=r
     · subst e;omega
     · exact h6 j (by omega)
end Go.PF
namespace Go.PF
open Go.Pu
theorem count_set {A:Type} [BEq A] [LawfulBEq A]:∀ {L:List A} {i:Nat} {x:A},L[i]?=some x→∀ y z:A,(L.set i y).count z + (if x == z then 1 else 0)=L.count z + (if y == z then 1 else 0)
 | [],i,x,h,y,z=>by simp at h
 | a::L,0,x,h,y,z=>by
  simp only [List.getElem?_cons_zero,Option.some.injEq] at h
  subst h
  rw [List.set_cons_zero,List.count_cons,List.count_cons]
  omega
 | a::L,i + 1,x,h,y,z=>by
  rw [List.getElem?_cons_succ] at h
  have:=count_set h y z
  rw [List.set_cons_succ,List.count_cons,List.count_cons]
  omega
def cntI (L:List Int) (z:Int):Nat:=L.count z
theorem cntI_set {L:List Int} {i:Nat} (h:L[i]?=some 0) {y z:Int} (hz:z≠0):cntI (L.set i y) z=cntI L z + (if y == z then 1 else 0):=by
 have:=count_set h y z
 rw [if_neg (by simp;omega)] at this
 unfold cntI
 omega
theorem cntI_zero {L:List Int} {z:Int} (h:z ∉ L):cntI L z=0:=List.count_eq_zero.2 h
theorem filter_split {A:Type} {p q:A→Bool} (h:∀ a,q a=true→p a=true):∀ l:List A,(l.filter p).length=(l.filter fun a=>p a && !q a).length + (l.filter q).length
 | []=>rfl
 | a::l=>by
  have ih:=filter_split h l
  rw [List.filter_cons,List.filter_cons,List.filter_cons]
  cases hp:p a <;> cases hq:q a
  · simpa using ih
  · have:=h a hq;rw [hp] at this;cases this
  · simp [ih];omega
  · simp [ih];omega
theorem nx_q {T X:Type} {x:Option (Lp T X)} {I:T→Prop} (h:∃ q,x=some q∧∃ s',q=.nx s'∧I s'):∃ s',x=some (.nx s')∧I s':=by
 obtain ⟨q,e,s',rfl,i⟩:=h
 exact ⟨s',e,i⟩
open Classical in
noncomputable def gn (F:Cnf) (w:Int) (A:List (List Int)) (r:Nat):List (List Int):=A.filter fun a=>decide (Pn F w A r a) && !decide (Pn F w A (r + 1) a)
open Classical in
theorem gn_mem {F:Cnf} {w:Int} {A:List (List Int)} {r:Nat} {a:List Int}:a∈gn F w A r↔Pn F w A r a∧¬ Pn F w A (r + 1) a:=by
 unfold gn
 rw [List.mem_filter,Bool.and_eq_true,decide_eq_true_eq,Bool.not_eq_true',decide_eq_false_iff_not]
 exact ⟨fun h=>h.2,fun h=>⟨h.1.mem,h⟩⟩
open Classical in
theorem gn_len {F:Cnf} {w:Int} {A:List (List Int)} {r:Nat}:(ly F w A r).length=(gn F w A r).length + (ly F w A (r + 1)).length:=by
 unfold ly gn
 exact filter_split (fun a h=>by rw [decide_eq_true_eq] at h ⊢;exact h.1) A
structure PR3 (F:Cnf) (w:Int) (A:List (List Int)) (r:Nat) (rounds:List Int) (M:List Bool):Prop where
 is:Mks3 F.vars (Pn F w A r) M
 len:rounds.length=3 ^ F.vars.toNat
 rng:∀ t∈rounds,0≤t∧t≤r
 zero:∀ a,Pn F w A r a→rounds[cd a]?=some 0
 cnt:∀ j,j < r→cntI rounds ((j + 1:Nat):Int)=(gn F w A j).length
open Classical in
theorem impl_shrink_eq {F:Cnf} (hF:Nar F) {w:Int} (w0:0≤w) (w6:w≤6) {A:List (List Int)} (eA:zbL F w=some A) (hA:AA F w A) (h7:A.length≤729) :
 ∃ r,zbN F w=some r∧∃ R rounds M,r=some ⟨F,w,A,M,rounds⟩∧Fin F w A R∧R≤729∧PR3 F w A R rounds M:=by
 have v0:=hF.v0
 have v6:=hF.le
 have h3:3 ^ F.vars.toNat≤729:=pow3_6 (by omega)
 unfold zbN
 obtain ⟨M,eM,hM⟩:=marks_eq hF (L:=A) fun a ha=>hA.isC ha
 have mk:∀ q:Nat,q≤729→mk2 (0:Int) (q:Int) (q:Int)=some (List.replicate q 0):=fun q hq=>by unfold mk2;rw [if_pos (by simp only [lim];omega)];simp
 rw [eA,zaa,eM,zaa,zaj,mk M.length (by rw [hM.len];exact h3),zaa]
 refine iter_m' (fun r (s:List Int×List Bool×Int)=>PR3 F w A r s.1 s.2.1∧s.2.2=((r + 1:Nat):Int)∧(∀ j,j < r→(ly F w A (j + 1)).length < (ly F w A j).length)∧r + (ly F w A r).length≤729) (fun r=>729 - r) 0
  ⟨⟨hM,by simp [hM.len],fun t ht=>by rw [List.eq_of_mem_replicate ht];exact ⟨by omega,by omega⟩,fun a ha=>?_,fun j hj=>by omega⟩,rfl,fun j hj=>by omega,by rw [ly_zero];omega⟩ ?_
 · show (List.replicate M.length (0:Int))[cd a]?=some 0
   rw [List.getElem?_replicate,if_pos (by rw [hM.len];exact zbE (hA.isC ha))]
 · rintro r ⟨rounds,M,rd⟩ ⟨hP,h4,h5,h6⟩
   dsimp only at hP h4
   subst h4
   dsimp only
   have glen:(gn F w A r).length≤729:=by have:=gn_len (F:=F) (w:=w) (A:=A) (r:=r);omega
   have inner:∃ q,bdR (forL (S:=(List Int)) (X:=Empty) A (fun i256073 y256072 s256073=>bd (PF.za0 y256072) (fun r337179=>bd (ix M r337179) (fun x340185=>bd (bif x340185 then bd (PF.zbM F w M y256072) (fun r370184=>some (!r370184)) else some false) (fun t319178_18=>(bif t319178_18 then bd (PF.za0 y256072) (fun r382196=>bd (app s256073 [r382196]) (fun xs382206=>some (Lp.nx xs382206))) else some (Lp.nx s256073)))))) []) (fun s=>some s) (fun x=>nomatch x)=some q∧q=(gn F w A r).map fun a=>((cd a:Nat):Int):=by
    refine zaW (fun i s=>s=((A.take i).filter fun a=>decide (Pn F w A r a) && !decide (Pn F w A (r + 1) a)).map fun a=>((cd a:Nat):Int)) rfl ?_ ?_
    · rintro i a s ha rfl
      left
      have hac:=hA.isC (List.mem_of_getElem? ha)
      obtain ⟨b,b1,b2⟩:=hP.is.at_ a hac
      have tb:((A.take i).filter fun a=>decide (Pn F w A r a) && !decide (Pn F w A (r + 1) a)).length≤729:=by
       have:=List.length_filter_le (fun a=>decide (Pn F w A r a) && !decide (Pn F w A (r + 1) a)) (A.take i)
       rw [List.length_take] at this;omega
      have tk:(A.take (i + 1)).filter (fun a=>decide (Pn F w A r a) && !decide (Pn F w A (r + 1) a))=(A.take i).filter (fun a=>decide (Pn F w A r a) && !decide (Pn F w A (r + 1) a))++(if Pn F w A r a∧¬ Pn F w A (r + 1) a then [a] else []):=by
       rw [List.take_add_one,ha,Option.toList_some,List.filter_append]
       congr 1
       by_cases g:Pn F w A r a <;> by_cases g':Pn F w A (r + 1) a <;> simp [g,g']
      rw [code_eq hac v6,zaa,zal b1,zaa]
      cases b with
      | false =>
       have n0:¬ Pn F w A r a:=fun g=>by have:=b2.2 g;cases this
       rw [cond_false,zaa,cond_false]
       refine ⟨_,rfl,?_⟩
       rw [tk,if_neg (fun g=>n0 g.1),List.append_nil]
      | true =>
       have y0:=b2.1 rfl
       obtain ⟨c,c1,c2⟩:=zeI (w:=w) hF hP.is hac
       rw [cond_true,c1,zaa,zaa]
       cases c with
       | true =>
        have y1:Pn F w A (r + 1) a:=⟨y0,c2.1 rfl⟩
        rw [Bool.not_true,cond_false]
        refine ⟨_,rfl,?_⟩
        rw [tk,if_neg (fun g=>g.2 y1),List.append_nil]
       | false =>
        have n1:¬ Pn F w A (r + 1) a:=fun g=>by have:=c2.2 g.2;cases this
        rw [Bool.not_false,cond_true,zaa,app_q (by simp only [List.length_map,List.length_singleton];omega),zaa]
        refine ⟨_,rfl,?_⟩
        rw [tk,if_pos ⟨y0,n1⟩,List.map_append];rfl
    · rintro s rfl
      rw [List.take_length]
      exact ⟨_,rfl,rfl⟩
   obtain ⟨q,e,rfl⟩:=inner
   rw [bdR_id e,zaD]
   by_cases hz:(gn F w A r).length=0
   · right;right
     have hnil:gn F w A r=[]:=List.eq_nil_of_length_eq_zero hz
     rw [show (len ((gn F w A r).map fun a=>((cd a:Nat):Int)) == 0)=true by rw [beq_iff_eq,zaj,List.length_map,hz];rfl,cond_true]
     refine ⟨_,rfl,_,rfl,r,rounds,M,rfl,⟨h5,fun a=>⟨fun g=>g.1,fun g=>?_⟩⟩,by omega,hP⟩
     apply Classical.byContradiction
     intro g'
     have:a∈gn F w A r:=gn_mem.2 ⟨g,g'⟩
     rw [hnil] at this;cases this
   · left
     rw [show (len ((gn F w A r).map fun a=>((cd a:Nat):Int)) == 0)=false by rw [beq_eq_false_iff_ne,zaj,List.length_map];omega,cond_false,chk_len (by rw [List.length_map];omega),zaa,List.length_map]
     have gnd:(gn F w A r).Nodup:=(hA.srt.imp fun {a b} hab e=>by subst e;exact zbt a hab).sublist List.filter_sublist
     refine nx_q ?_
     refine rng_m (fun i (s:List Int×List Bool)=>Mks3 F.vars (fun x=>Pn F w A r x∧x ∉ (gn F w A r).take i) s.2∧s.1.length=3 ^ F.vars.toNat∧(∀ t∈s.1,0≤t∧t≤((r + 1:Nat):Int))∧(∀ a,Pn F w A r a→a ∉ (gn F w A r).take i→s.1[cd a]?=some 0) ∧
      (∀ j,j < r→cntI s.1 ((j + 1:Nat):Int)=(gn F w A j).length)∧cntI s.1 ((r + 1:Nat):Int)=i) ⟨hP.is.congr (by simp),hP.len,fun t ht=>?_,fun a ha _=>hP.zero a ha,hP.cnt,?_⟩ ?_ ?_
     · have:=hP.rng t ht;omega
     · refine cntI_zero fun ht=>?_
       have:=hP.rng _ ht;omega
     · rintro i ⟨rs,M'⟩ hi ⟨i1,i2,i3,i4,i5,i6⟩
       left
       dsimp only at i1 i2 i3 i4 i5 i6
       dsimp only
       have hx:(gn F w A r)[i]?=some (gn F w A r)[i]:=List.getElem?_eq_getElem hi
       have hxm:=gn_mem.1 (List.getElem_mem hi)
       have hni:(gn F w A r)[i] ∉ (gn F w A r).take i:=fun g=>by
        obtain ⟨j,hj⟩:=List.getElem?_of_mem g
        rw [List.getElem?_take] at hj
        split at hj
        · rename_i hlt
          have:=(List.getElem?_inj (by omega) gnd).1 (hj.trans hx.symm)
          omega
        · cases hj
       generalize (gn F w A r)[i]=a at hx hxm hni
       have hac:=hA.isC hxm.1.mem
       have hcl:=zbE hac
       have hm:((gn F w A r).map fun a=>((cd a:Nat):Int))[i]?=some ((cd a:Nat):Int):=by rw [List.getElem?_map,hx];rfl
       have hz0:=i4 a hxm.1 hni
       have hl1:cd a < M'.length:=by rw [i1.len];exact hcl
       have hl2:cd a < rs.length:=by omega
       rw [zal hm,zaa,zal (List.getElem?_eq_getElem hl1),zaa,p_at hl1,zaa,zal hz0,zaa,p_at hl2,zaa]
       have tk:∀ x,x∈(gn F w A r).take (i + 1)↔x∈(gn F w A r).take i∨x=a:=fun x=>by
        rw [List.take_add_one,hx,Option.toList_some,List.mem_append,List.mem_singleton]
       refine ⟨_,rfl,(i1.set hac false).congr fun x hx'=>?_,by simp [i2],fun t ht=>?_,fun b hb hnb=>?_,fun j hj=>?_,?_⟩
       · rw [tk]
         by_cases e:x=a
         · simp [e]
         · simp [e]
       · rcases List.mem_or_eq_of_mem_set ht with ht|rfl
         · exact i3 t ht
         · omega
       · rw [tk,not_or] at hnb
         rw [s_ne (fun g=>hnb.2 (code_inj (hA.isC hb.mem) hac g.symm))]
         exact i4 b hb hnb.1
       · have:=cntI_set hz0 (y:=((r + 1:Nat):Int)) (z:=((j + 1:Nat):Int)) (by omega)
         rw [if_neg (by simp;omega)] at this
         rw [this]
         exact i5 j hj
       · have:=cntI_set hz0 (y:=((r + 1:Nat):Int)) (z:=((r + 1:Nat):Int)) (by omega)
         rw [if_pos (by simp)] at this
         rw [this,i6]
     · rintro ⟨rs,M'⟩ ⟨i1,i2,i3,i4,i5,i6⟩
       dsimp only at i1 i2 i3 i4 i5 i6
       rw [List.take_length] at i1 i4
       have hs:=gn_len (F:=F) (w:=w) (A:=A) (r:=r)
       have np:∀ x,Pn F w A (r + 1) x↔Pn F w A r x∧x ∉ gn F w A r:=fun x=>by
        rw [gn_mem]
        exact ⟨fun g=>⟨g.1,fun g'=>g'.2 g⟩,fun g=>Classical.byContradiction fun g'=>g.2 ⟨g.1,g'⟩⟩
       dsimp only
       rw [wr_s (by omega) (by omega)]
       refine ⟨_,rfl,_,rfl,r + 1,⟨⟨i1.congr fun x _=>(np x).symm,i2,i3,fun a ha=>i4 a ((np a).1 ha).1 ((np a).1 ha).2,fun j hj=>?_⟩,rfl,fun j hj=>?_,by omega⟩,by omega⟩
       · by_cases e:j=r
         · subst e;exact i6
         · exact i5 j (by omega)
       · by_cases e:j=r
         · subst e;omega
         · exact h5 j (by omega)
end Go.PF
namespace Go.PF
open Go.Pu
theorem without_mem {V:Int} {a:List Int} (h:IsC V a) {l:Int} (hl:l∈a) {x:Int}:x∈zaz a (vr l)↔x∈a∧x≠l:=by
 unfold zaz
 rw [List.mem_filter,vr_isC h hl]
 constructor
 · rintro ⟨h1,h2⟩
   refine ⟨h1,fun e=>?_⟩
   subst e
   rw [vr_isC h h1] at h2
   simp at h2
 · rintro ⟨h1,h2⟩
   refine ⟨h1,?_⟩
   rw [vr_isC h h1]
   have:x.natAbs≠l.natAbs:=fun e=>by
    rcases Int.natAbs_eq_natAbs_iff.1 e with e|e
    · exact h2 e
    · subst e;exact sgn h.srt hl h1 (h.lit l hl).2.2
   simp;omega
theorem Fin.fam {F:Cnf} {w:Int} {A:List (List Int)} (hA:AA F w A) {R:Nat} (h:Fin F w A R):Fam F w (Pn F w A R):=by
 have kp:∀ a,Pn F w A R a→KP F w (Pn F w A R) a:=fun a ha=>((h.fix a).2 ha).2
 have isc:∀ {a},Pn F w A R a→IsC F.vars a:=fun ha=>hA.isC ha.mem
 refine ⟨fun a ha=>(hA.mem a).1 ha.mem,?_,fun a ha hw v v1 v2 o1 o2=>?_⟩
 · have key:∀ (n:Nat) (a b:List Int),a.length≤n→Pn F w A R a→IsC F.vars b→(∀ x∈b,x∈a)→Pn F w A R b:=by
    intro n
    induction n with
    | zero =>
     intro a b hn ha hb hs
     have ea:a=[]:=List.eq_nil_of_length_eq_zero (by omega)
     subst ea
     have:b=[]:=List.eq_nil_iff_forall_not_mem.2 fun x hx=>by cases hs x hx
     rw [this];exact ha
    | succ n ih =>
     intro a b hn ha hb hs
     by_cases g:∃ l,l∈a∧l ∉ b
     · obtain ⟨l,l1,l2⟩:=g
       have hc:=isc ha
       have hw:=(kp a ha).sub l l1
       have hlt:(zaz a (vr l)).length < a.length:=by
        unfold zaz
        refine List.length_filter_lt_length_iff_exists.2 ⟨l,l1,?_⟩
        simp
       exact ih _ b (by omega) hw hb fun x hx=>(without_mem hc l1).2 ⟨hs x hx,fun e=>l2 (e ▸ hx)⟩
     · have:b=a:=zdK hb.srt (isc ha).srt fun x=>⟨hs x,fun hx=>Classical.byContradiction fun e=>g ⟨x,hx,e⟩⟩
       rw [this];exact ha
   exact fun a b ha hb hs=>key _ a b (Nat.le_refl _) ha hb hs
 · rcases (kp a ha).ext hw v v1 v2 o1 o2 with g|g
   · exact ⟨_,v,.inl rfl,g,fun x=>za1⟩
   · exact ⟨_,-v,.inr rfl,g,fun x=>za1⟩
theorem sur_pn {F:Cnf} (hF:Nar F) {w:Int} {A:List (List Int)} (hA:AA F w A):∀ (n:Nat) (a:List Int),Sur F w a→Pn F w A n a
 | 0,a,h=>(hA.mem a).2 h.1
 | n + 1,a,h=>by
  have hf:=sur_fam (w:=w) hF
  have ha:=h.1.c
  refine ⟨sur_pn hF hA n a h,fun l hl=>sur_pn hF hA n _ (hf.sub a _ h (zei ha _) fun x hx=>((without_mem ha hl).1 hx).1),fun hw v v1 v2 o1 o2=>?_⟩
  have hne:=open_ne ha o1 o2
  obtain ⟨b,l,hl,hb,hm⟩:=hf.ext a h hw v v1 v2 o1 o2
  have hbl:∀ l,(l=v∨l=-v)→(∀ x,x∈b↔x=l∨x∈a)→b=putL a l:=fun l hl hm=>by
   have c1:=zbV ha (l:=l) (by rcases hl with rfl|rfl <;> omega) (fun x hx=>by have:=hne x hx;rcases hl with rfl|rfl <;> omega)
   exact zdK hb.1.c.srt c1.srt fun x=>(hm x).trans za1.symm
  rcases hl with rfl|rfl
  · left;rw [← hbl _ (.inl rfl) hm];exact sur_pn hF hA n b hb
  · right;rw [← hbl _ (.inr rfl) hm];exact sur_pn hF hA n b hb
theorem Fin.sur {F:Cnf} (hF:Nar F) {w:Int} {A:List (List Int)} (hA:AA F w A) {R:Nat} (h:Fin F w A R) (a:List Int):Pn F w A R a↔Sur F w a :=
 ⟨fun g=>⟨(hA.mem a).1 g.mem,fun n c hn=>fam_sound hF (h.fam hA) n c a hn g⟩,sur_pn hF hA R a⟩
theorem Fin.empty {F:Cnf} (hF:Nar F) {w:Int} (w0:0≤w) {A:List (List Int)} (hA:AA F w A) {R:Nat} (h:Fin F w A R):(ly F w A R).length=0↔∃ n,Kn F w n []:=by
 constructor
 · intro g
   apply Classical.byContradiction
   intro e
   have v0:=hF.v0
   have v6:=hF.le
   have hS:Sur F w []:=by
    refine ⟨⟨⟨v0,by omega,nofun,.nil⟩,by rw [zaj];simp;omega,fun c hc hl hf=>?_⟩,fun n c hn hf=>?_⟩
    · have:c=[]:=List.eq_nil_iff_forall_not_mem.2 fun x hx=>by cases hf x hx
      subst this
      exact e ⟨1,.inl ⟨hc,hl⟩⟩
    · have:c=[]:=List.eq_nil_iff_forall_not_mem.2 fun x hx=>by cases hf x hx
      subst this
      exact e ⟨n,hn⟩
   have:=ly_mem.2 ((h.sur hF hA []).2 hS)
   rw [List.eq_nil_of_length_eq_zero g] at this;cases this
 · rintro ⟨n,hn⟩
   have:ly F w A R=[]:=List.eq_nil_iff_forall_not_mem.2 fun a ha=>((h.sur hF hA a).1 (ly_mem.1 ha)).2 n [] hn fun l hl=>by cases hl
   rw [this];rfl
end Go.PF
namespace Go.PF
open Go.Pu
theorem round_eq {F:Cnf} {w:Int} {cl:List (List Int)} {C:za7} (h:Clos F w cl C) {c:List Int} (hc:IsS F.vars c) :
 ∃ q,zdu C c=some q∧((q=-1∧c ∉ cl)∨(c∈cl∧∃ n:Nat,q=(n:Int)∧Rk F w n c∧n≤5000)):=by
 unfold zdu
 rw [maskOf_eq hc,zaa]
 have hm:=h.ci.map c hc
 dsimp only [] at hm
 by_cases hin:c∈cl
 · obtain ⟨n,e,hn,hn5⟩:=h.ci.rk c hin
   dsimp only [] at e
   rw [e]
   exact ⟨_,rfl,.inr ⟨hin,n,rfl,hn,hn5⟩⟩
 · have:(mget C.rounds ((mkN c:Nat):Int)).isSome=false:=by rw [Bool.eq_false_iff];exact fun q=>hin (hm.1 q)
   rw [this]
   exact ⟨_,rfl,.inl ⟨rfl,hin⟩⟩
theorem clone_list {X:Type} {f:Nat→List Int→List (List Int)→Option (Lp (List (List Int)) X)} {g:List Int→Option (List Int)} (hf:∀ i y s,f i y s=bd (g y) fun r=>bd (app s [r]) fun t=>some (.nx t)) :
 ∀ {xs:List (List Int)} {i:Nat} {s:List (List Int)},(∀ y∈xs,g y=some y)→s.length + xs.length≤1000000→zau f xs i s=some (.go (s++xs))
 | [],i,s,_,_=>by rw [forLFrom_nil,List.append_nil]
 | x::xs,i,s,h,hl=>by
  rw [List.length_cons] at hl
  rw [zd8 (s':=s++[x]) (by rw [hf,h x (by simp),zaa,app_q (by simp;omega),zaa]),clone_list hf (fun y hy=>h y (by simp [hy])) (by simp;omega)]
  simp
theorem clone_eq {xs:List (List Int)} (hl:xs.length≤1000) (hx:∀ y∈xs,y.length≤1000):zcJ xs=some xs:=by
 unfold zcJ forL
 rw [clone_list (fun _ _ _=>rfl) (fun y hy=>zfd (by have:=hx y hy;simp [lim];omega)) (by simp;omega),zaD]
 simp
theorem copy_eq {xs:List (List Int)} (hl:xs.length≤1000) (hx:∀ y∈xs,y.length≤1000):zdt xs=some xs:=by
 unfold zdt forL
 rw [clone_list (fun _ _ _=>rfl) (fun y hy=>own_eq (by have:=hx y hy;omega)) (by simp;omega),zaD]
 simp
theorem AA.small {F:Cnf} {w:Int} {A:List (List Int)} (h:AA F w A):∀ y∈A,y.length≤1000:=fun y hy=>by have:=(h.isC hy).len;omega
open Classical in
theorem left_is {F:Cnf} (hF:Nar F) {w:Int} {A:List (List Int)} (hA:AA F w A) (h7:A.length≤729) {R:Nat} {rounds:List Int} {M:List Bool} (hP:PR3 F w A R rounds M):zcK ⟨F,w,A,M,rounds⟩=some (ly F w A R):=by
 have v6:=hF.le
 unfold zcK
 dsimp only
 rw [clone_eq (by omega) hA.small,zaa,deleteLL (g:=fun a => !decide (Pn F w A R a)) (fun y hy=>?_) (by omega),zaa]
 · unfold ly
   simp only [Bool.not_not]
 · have hc:=hA.isC hy
   obtain ⟨b,b1,b2⟩:=hP.is.at_ y hc
   unfold zdp
   dsimp only
   rw [code_eq hc v6,zaa,zal b1,zaa]
   congr 2
   rw [Bool.eq_iff_iff,decide_eq_true_iff];exact b2
end Go.PF
namespace Go.PF
open Go.Pu
theorem cnR_gn {F:Cnf} {w:Int} {A:List (List Int)} {R:Nat}:cnR F w A R=(List.range R).map fun j=>(((gn F w A j).length:Nat):Int):=by
 unfold cnR
 refine List.map_congr_left fun j _=>?_
 have:=gn_len (F:=F) (w:=w) (A:=A) (r:=j)
 omega
theorem cntI_app (L M:List Int) (z:Int):cntI (L++M) z=cntI L z + cntI M z:=List.count_append
theorem cntI_one (x z:Int):cntI [x] z=if x=z then 1 else 0:=by
 unfold cntI
 by_cases e:x=z
 · subst e;simp
 · rw [if_neg e,List.count_eq_zero];simpa using fun g=>e g.symm
theorem cntI_le (L:List Int) (z:Int):cntI L z≤L.length:=List.count_le_length
theorem rounds_out {F:Cnf} {w:Int} {A:List (List Int)} {R:Nat} (hR:R≤729) {rounds:List Int} (hl:rounds.length≤729) (h1:∀ t∈rounds,0≤t∧t≤(R:Int)) (h2:∀ j,j < R→cntI rounds ((j + 1:Nat):Int)=(gn F w A j).length)
 (h3:∀ j,j < R→0 < (gn F w A j).length) :
 ∃ r,bdR (forL (S:=(List Int)) (X:=Empty) rounds (fun i58 y57 s58=>bdR (iter (S:=(List Int)) (X:=Empty) (fun s170=>(bif (decide ((len s170) < y57)) then bd (app s170 [0]) (fun xs218=>some (Lp.nx xs218)) else some (Lp.bk s170))) s58) (fun s170=>(bif (decide (0 < y57)) then bd (ix s170 (wr (y57 - 1))) (fun x247=>bd (ix s170 (wr (y57 - 1))) (fun x255=>bd (put s170 (wr (y57 - 1)) (wr (x247 + 1))) (fun xs260=>some (Lp.nx xs260)))) else some (Lp.nx s170))) (fun x170=>nomatch x170)) []) (fun s58=>some (s58,true)) (fun x58=>nomatch x58)=some r∧r=(cnR F w A R,true):=by
 refine zaW (fun i s=>s.length≤R∧(∀ j,j < s.length→s[j]?=some ((cntI (rounds.take i) ((j + 1:Nat):Int):Nat):Int))∧(∀ t∈rounds.take i,t≤(s.length:Int))) ⟨by simp,fun j hj=>by simp at hj,by simp⟩ ?_ ?_
 · rintro i y s hy ⟨i1,i2,i3⟩
   left
   obtain ⟨y0,yR⟩:=h1 y (List.mem_of_getElem? hy)
   refine nx_q ?_
   have tk:∀ z,cntI (rounds.take (i + 1)) z=cntI (rounds.take i) z + (if y=z then 1 else 0):=fun z=>by
    rw [List.take_add_one,hy,Option.toList_some,cntI_app,cntI_one]
   have zz:∀ j:Nat,s.length≤j→cntI (rounds.take i) ((j + 1:Nat):Int)=0:=fun j hj=>cntI_zero fun g=>by have:=i3 _ g;omega
   refine iter_m (fun s'=>s.length≤s'.length∧s'.length≤R∧((s'.length:Int)≤y∨s'=s)∧∀ j,j < s'.length→s'[j]?=some ((cntI (rounds.take i) ((j + 1:Nat):Int):Nat):Int)) (fun s'=>R - s'.length) ⟨Nat.le_refl _,i1,.inr rfl,i2⟩ ?_
   rintro s' ⟨j1,j2,j3,j4⟩
   by_cases hlt:len s' < y
   · left
     rw [zaj] at hlt
     rw [cT (by rw [zaj];exact hlt),app_q (by simp;omega),zaa]
     refine ⟨_,rfl,⟨by rw [List.length_append];omega,by rw [List.length_append,List.length_singleton];omega,.inl (by rw [List.length_append,List.length_singleton];omega),fun j hj=>?_⟩,by rw [List.length_append,List.length_singleton];omega⟩
     rw [List.length_append,List.length_singleton] at hj
     by_cases e:j < s'.length
     · rw [List.getElem?_append_left e];exact j4 j e
     · have:j=s'.length:=by omega
       subst this
       rw [List.getElem?_append_right (Nat.le_refl _),Nat.sub_self,zz _ j1];rfl
   · right;left
     rw [zaj] at hlt
     rw [cF (by rw [zaj];exact hlt)]
     refine ⟨_,rfl,?_⟩
     have lens:∀ t∈rounds.take (i + 1),t≤(s'.length:Int):=fun t ht=>by
      rw [List.take_add_one,hy,Option.toList_some,List.mem_append,List.mem_singleton] at ht
      rcases ht with ht|rfl
      · have:=i3 t ht;omega
      · omega
     by_cases hp:0 < y
     · obtain ⟨q,rfl⟩:∃ q:Nat,y=((q + 1:Nat):Int):=⟨y.toNat - 1,by omega⟩
       have hq:q < s'.length:=by omega
       have hx:=j4 q hq
       have hcl:=cntI_le (rounds.take i) ((q + 1:Nat):Int)
       rw [List.length_take] at hcl
       rw [cT hp,wr_s (n:=((q + 1:Nat):Int) - 1) (by omega) (by omega),show ((q + 1:Nat):Int) - 1=(q:Int) by omega,zal hx,zaa,zaa,p_at hq,zaa,wr_s (by omega) (by omega)]
       refine ⟨_,rfl,_,rfl,by simpa using j2,fun j hj=>?_,fun t ht=>by simpa using lens t ht⟩
       rw [List.length_set] at hj
       rw [tk]
       by_cases e:q=j
       · subst e
         rw [s_self hq,if_pos rfl]
         congr 1
       · rw [s_ne e,if_neg (by omega),Nat.add_zero];exact j4 j hj
     · rw [cF hp]
       refine ⟨_,rfl,_,rfl,j2,fun j hj=>?_,lens⟩
       rw [tk,if_neg (by omega),Nat.add_zero];exact j4 j hj
 · rintro s ⟨i1,i2,i3⟩
   rw [List.take_length] at i2 i3
   refine ⟨_,rfl,?_⟩
   have hm:s.length=R:=by
    rcases Nat.lt_or_ge s.length R with g|g
    · exfalso
      have hc:=h2 (R - 1) (by omega)
      have hp:=h3 (R - 1) (by omega)
      have:((R - 1 + 1:Nat):Int)∈rounds:=Classical.byContradiction fun e=>by rw [cntI_zero e] at hc;omega
      have:=i3 _ this
      omega
    · omega
   rw [cnR_gn]
   congr 1
   apply List.ext_getElem?
   intro j
   by_cases hj:j < R
   · rw [i2 j (by omega),h2 j hj,List.getElem?_map,List.getElem?_range hj];rfl
   · rw [List.getElem?_eq_none (by omega),List.getElem?_eq_none (by simp;omega)]
end Go.PF
namespace Go.PF
open Go.Pu
def goodB (F:Cnf):Bool:=decide (F.vars≤6) && cnfB F
theorem goodB_nar {F:Cnf} (h:goodB F=true):Nar F:=by
 unfold goodB at h
 rw [Bool.and_eq_true,decide_eq_true_iff] at h
 exact ⟨h.2,h.1⟩
theorem zbW {F:Cnf} (hF:okCnf F) (w:Int):zbr F w=some (goodB F && inB w 0 6):=by
 unfold zbr zdR zcL goodB
 rw [zez hF,zaa,zea]
 cases h:decide (F.vars≤6) <;> cases cnfB F <;> rfl
theorem zbF {F:Cnf} (hF:okCnf F) (w:Int):zbf F w=some (goodB F && inB w 0 6):=by
 unfold zbf goodB
 rw [impl_IsCnf_eq hF,zaa,zeb]
 cases cnfB F <;> cases decide (F.vars≤6) <;> rfl
structure Both (F:Cnf) (w:Int) (A:List (List Int)) (R:Nat) (rounds:List Int) (M:List Bool) (W:zbc):Prop where
 aa:AA F w A
 len:A.length≤729
 fin:Fin F w A R
 R7:R≤729
 pr:PR3 F w A R rounds M
 is:zbN F w=some (some ⟨F,w,A,M,rounds⟩)
 ia:zbL F w=some A
 sa:zb3 F w=some A
 ss:zbg F w=some W
 wl:W.left=ly F w A R
 wc:W.counts=cnR F w A R
theorem both {F:Cnf} {w:Int} (h:(goodB F && inB w 0 6)=true):Nar F∧0≤w∧w≤6∧∃ A R rounds M W,Both F w A R rounds M W:=by
 rw [Bool.and_eq_true] at h
 have hF:=goodB_nar h.1
 obtain ⟨w0,w6⟩:=inB_iff.1 h.2
 refine ⟨hF,w0,w6,?_⟩
 obtain ⟨A,a1,a2⟩:=impl_all_eq hF w0 w6
 obtain ⟨A',b1,b2,b3⟩:=spec_all_eq hF w0 w6
 obtain rfl:=a2.uniq b2
 obtain ⟨A'',c1,c2,W,R,c3,c4,c5,c6,c7⟩:=spec_shrink_eq hF w0 w6
 obtain rfl:=a2.uniq c1
 obtain ⟨r,d1,R',rounds,M,rfl,d3,d4,d5⟩:=impl_shrink_eq hF w0 w6 a1 a2 b3
 obtain rfl:=c4.uniq d3
 exact ⟨A,R,rounds,M,W,a2,b3,c4,c5,d5,d1,a1,b1,c3,c6,c7⟩
section
variable {F:Cnf} {w:Int} {A:List (List Int)} {R:Nat} {rounds:List Int} {M:List Bool} {W:zbc}
theorem Both.ly_small (h:Both F w A R rounds M W):∀ y∈ly F w A R,y.length≤1000:=fun y hy=>h.aa.small y (zbm.subset hy)
theorem Both.ly_len (h:Both F w A R rounds M W):(ly F w A R).length≤729:=by
 have:=zbm (F:=F) (w:=w) (A:=A) (n:=R)
 have:=this.length_le
 have:=h.len
 omega
theorem great_eq (hF:okCnf F) (hg:(goodB F && inB w 0 6)=true) (hN:Nar F) (h:Both F w A R rounds M W):zb1 F w=some (ly F w A R,true)∧zb6 F w=some (ly F w A R,true):=by
 unfold zb1 zb6
 have:=h.ly_len
 rw [zbF hF,zbW hF,hg,zaa,zaa,Bool.not_true,cond_false,cond_false,h.is,h.ss,zaa,zaa,zaa,left_is hN h.aa h.len h.pr,h.wl,copy_eq (by omega) h.ly_small]
 exact ⟨rfl,rfl⟩
theorem has_eq (hF:okCnf F) (hg:(goodB F && inB w 0 6)=true) (hN:Nar F) (h:Both F w A R rounds M W):zb8 F w=some (decide (0 < len (ly F w A R)),true)∧zb9 F w=some (decide (0 < len (ly F w A R)),true):=by
 unfold zb8 zb9
 rw [zbF hF,zbW hF,hg,zaa,zaa,Bool.not_true,cond_false,cond_false,h.is,h.ss,zaa,zaa,zaa,left_is hN h.aa h.len h.pr,h.wl]
 exact ⟨rfl,rfl⟩
theorem allow_eq (hF:okCnf F) (hg:(goodB F && inB w 0 6)=true) (h:Both F w A R rounds M W):zcd F w=some (A,true)∧zce F w=some (A,true):=by
 unfold zcd zce
 have:=h.len
 rw [zbF hF,zbW hF,hg,zaa,zaa,Bool.not_true,cond_false,cond_false,h.ia,h.sa,zaa,zaa,clone_eq (by omega) h.aa.small]
 exact ⟨rfl,rfl⟩
theorem shr_eq (hF:okCnf F) (hg:(goodB F && inB w 0 6)=true) (hN:Nar F) (h:Both F w A R rounds M W):zcf F w=some (cnR F w A R,true)∧zcg F w=some (cnR F w A R,true):=by
 unfold zcf zcg
 have h3:3 ^ F.vars.toNat≤729:=pow3_6 (by have:=hN.le;omega)
 rw [zbF hF,zbW hF,hg,zaa,zaa,Bool.not_true,cond_false,cond_false,h.is,h.ss,zaa,zaa,zaa,h.wc]
 obtain ⟨r,e,rfl⟩:=rounds_out (F:=F) (w:=w) (A:=A) h.R7 (by rw [h.pr.len];exact h3) h.pr.rng h.pr.cnt (fun j hj=>by
  have:=h.fin.dec j hj
  have:=gn_len (F:=F) (w:=w) (A:=A) (r:=j)
  omega)
 exact ⟨e,rfl⟩
end
end Go.PF
namespace Go.PF
open Go.Pu
structure AscF (F:Cnf) (w:Int) (L:List (List Int)) (i:Nat):Prop where
 al:∀ a∈L.take i,Alw F w a
 up:∀ k x y,k + 1 < i→L[k]?=some x→L[k + 1]?=some y→cmpC x y < 0
structure FamP (F:Cnf) (w:Int) (L:List (List Int)):Prop where
 asc:AscF F w L L.length
 ne:L≠[]
 kp:∀ a∈L,KP F w (·∈L) a
theorem AscF.step {F:Cnf} {w:Int} {L:List (List Int)} {i:Nat} (h:AscF F w L i) {a:List Int} (ha:L[i]?=some a) (h1:Alw F w a) (h2:∀ x,0 < i→L[i - 1]?=some x→cmpC x a < 0):AscF F w L (i + 1):=by
 refine ⟨fun b hb=>?_,fun k x y hk hx hy=>?_⟩
 · rw [List.take_add_one,ha,Option.toList_some,List.mem_append,List.mem_singleton] at hb
   rcases hb with hb|rfl
   · exact h.al b hb
   · exact h1
 · by_cases e:k + 1=i
   · subst e
     rw [ha] at hy;cases hy
     exact h2 x (by omega) (by simpa using hx)
   · exact h.up k x y (by omega) hx hy
theorem AscF.srt {F:Cnf} {w:Int} {L:List (List Int)} (h:AscF F w L L.length):SrtC L:=by
 refine List.pairwise_iff_getElem.2 fun i j hi hj hij=>?_
 have key:∀ d i (hi:i < L.length) (hd:i + d + 1 < L.length),cmpC L[i] L[i + d + 1] < 0:=by
  intro d
  induction d with
  | zero=>intro i hi hd;exact h.up i _ _ (by omega) (List.getElem?_eq_getElem hi) (List.getElem?_eq_getElem hd)
  | succ d ih =>
   intro i hi hd
   have h1:=ih i hi (by omega)
   have h2:=h.up (i + d + 1) _ _ (by omega) (List.getElem?_eq_getElem (by omega)) (List.getElem?_eq_getElem (by omega:i + d + 1 + 1 < L.length))
   exact zbT h1 h2
 have:=key (j - i - 1) i hi (by omega)
 have e:i + (j - i - 1) + 1=j:=by omega
 simpa only [e] using this
theorem AscF.isC {F:Cnf} {w:Int} {L:List (List Int)} {i:Nat} (h:AscF F w L i):∀ a∈L.take i,IsC F.vars a:=fun a ha=>(h.al a ha).c
theorem asc_not {F:Cnf} {w:Int} {L:List (List Int)} {i:Nat} {a:List Int} (ha:L[i]?=some a) (hi:i < L.length):AscF F w L L.length→Alw F w a∧∀ x,0 < i→L[i - 1]?=some x→cmpC x a < 0:=fun g=>by
 refine ⟨g.al a (by rw [List.take_length];exact List.mem_of_getElem? ha),fun x h0 hx=>?_⟩
 refine g.up (i - 1) x a (by omega) hx ?_
 rw [show i - 1 + 1=i by omega];exact ha
theorem impl_fam_eq {F:Cnf} (hF:Nar F) {w:Int} (w0:0≤w) (w6:w≤6) {L:List (List Int)} (hl:L.length≤100000) (hok:∀ a∈L,okL okI a):∃ b,zdx F w L=some b∧(b=true↔FamP F w L):=by
 unfold zdx
 refine zaW (fun i _=>AscF F w L i) ⟨by simp,fun k x y hk=>by omega⟩ ?_ ?_
 · rintro i a - ha hI
   have hil:=(List.getElem?_eq_some_iff.1 ha).1
   have ham:=List.mem_of_getElem? ha
   have bad:¬ (Alw F w a∧∀ x,0 < i→L[i - 1]?=some x→cmpC x a < 0)→∃ r,some false=some r∧(r=true↔FamP F w L):=fun g=>⟨false,rfl,by
    simp only [Bool.false_eq_true,false_iff]
    exact fun h=>g (asc_not ha hil h.asc)⟩
   unfold zcS
   rw [zdJ (hok a ham),zaa,zaa]
   cases hc:zaJ F.vars a with
   | false =>
    right
    rw [Bool.not_false,cond_true,zaa,cond_true,zaa,cond_true]
    exact ⟨_,rfl,bad fun g=>by rw [zbB.2 g.1.c] at hc;cases hc⟩
   | true =>
    have hac:=zbB.1 hc
    rw [Bool.not_true,cond_false,zeH w0 w6,zaa,zaa]
    cases hb:alB F w a with
    | false =>
     right
     rw [Bool.not_false,cond_true,zaa,cond_true]
     exact ⟨_,rfl,bad fun g=>by rw [(zbD hF hac).2 g.1] at hb;cases hb⟩
    | true =>
     have hal:=(zbD hF hac).1 hb
     rw [Bool.not_true,cond_false]
     by_cases h0:0 < i
     · have hx:L[i - 1]?=some L[i - 1]:=List.getElem?_eq_getElem (by omega)
       generalize L[i - 1]=x at hx
       rw [cT (show (0:Int) < ((i:Nat):Int) by omega),wr_s (by omega) (by omega),show ((i:Nat):Int) - 1=((i - 1:Nat):Int) by omega,zal hx,zaa,zef,zaa,zaa,zaa]
       by_cases hcmp:cmpC x a < 0
       · left
         rw [cF (by omega)]
         exact ⟨(),rfl,hI.step ha hal fun y _ hy=>by rw [hx] at hy;cases hy;exact hcmp⟩
       · right
         rw [cT (by omega)]
         exact ⟨_,rfl,bad fun g=>hcmp (g.2 x h0 hx)⟩
     · left
       rw [cF (show ¬ (0:Int) < ((i:Nat):Int) by omega),zaa,zaa,cond_false]
       exact ⟨(),rfl,hI.step ha hal fun y h=>absurd h h0⟩
 · rintro - hI
   have hc:∀ a∈L,IsC F.vars a:=fun a ha=>hI.isC a (by rw [List.take_length];exact ha)
   obtain ⟨M,m1,m2⟩:=marks_eq hF hc
   rw [m1,zaa]
   by_cases hz:0 < len L
   · have hk:∀ y∈L,∃ b,zbM F w M y=some b∧(b=true↔KP F w (·∈L) y):=fun y hy=>zeI hF m2 (hc y hy)
     classical
     have hk':∀ y∈L,PF.zcU y F w M=some (!decide (KP F w (·∈L) y)):=fun y hy=>by
      obtain ⟨b,b1,b2⟩:=hk y hy
      unfold zcU
      rw [b1,zaa]
      congr 2
      rw [Bool.eq_iff_iff,decide_eq_true_iff];exact b2
     rw [cT hz,containsLL hk',zaa,zaa]
     refine ⟨_,rfl,?_⟩
     rw [Bool.not_eq_true',List.any_eq_false]
     constructor
     · intro g
       refine ⟨hI,fun e=>by subst e;simp [zaj] at hz,fun a ha=>?_⟩
       have:=g a ha
       simpa using this
     · intro g a ha
       simp [g.kp a ha]
   · rw [cF hz,zaa]
     refine ⟨_,rfl,?_⟩
     simp only [Bool.false_eq_true,false_iff]
     intro g
     apply g.ne
     rw [zaj] at hz
     exact List.eq_nil_of_length_eq_zero (by omega)
end Go.PF
namespace Go.PF
open Go.Pu
theorem AscF.few {F:Cnf} {w:Int} (hF:Nar F) {L:List (List Int)} (h:AscF F w L L.length):L.length≤729:=by
 have hc:∀ a∈L,IsC F.vars a:=fun a ha=>h.isC a (by rw [List.take_length];exact ha)
 have nd:L.Nodup:=h.srt.imp fun {a b} hab e=>by subst e;exact zbt a hab
 have h3:3 ^ F.vars.toNat≤729:=pow3_6 (by have:=hF.le;omega)
 have nd2:(L.map cd).Nodup:=by
  rw [List.Nodup,List.pairwise_map]
  exact List.Pairwise.imp_of_mem (fun {a b} ha hb hab e=>hab (code_inj (hc a ha) (hc b hb) e)) nd
 have:=subL (m:=List.range (3 ^ F.vars.toNat)) nd2 fun x hx=>by
  obtain ⟨a,ha,rfl⟩:=List.mem_map.1 hx
  exact List.mem_range.2 (zbE (hc a ha))
 rw [List.length_map,List.length_range] at this
 omega
theorem spec_fam_eq {F:Cnf} (hF:Nar F) {w:Int} (w0:0≤w) (w6:w≤6) {L:List (List Int)} (hl:L.length≤100000) (hok:∀ a∈L,okL okI a):∃ b,zdA F w L=some b∧(b=true↔FamP F w L):=by
 unfold zdA
 refine zaW (fun i _=>AscF F w L i) ⟨by simp,fun k x y hk=>by omega⟩ ?_ ?_
 · rintro i a - ha hI
   have hil:=(List.getElem?_eq_some_iff.1 ha).1
   have ham:=List.mem_of_getElem? ha
   have bad:¬ (Alw F w a∧∀ x,0 < i→L[i - 1]?=some x→cmpC x a < 0)→∃ r,some false=some r∧(r=true↔FamP F w L):=fun g=>⟨false,rfl,by
    simp only [Bool.false_eq_true,false_iff]
    exact fun h=>g (asc_not ha hil h.asc)⟩
   unfold zdT
   rw [zey (hok a ham),zaa,zaa]
   cases hc:zaJ F.vars a with
   | false =>
    right
    rw [Bool.not_false,cond_true,zaa,cond_true,zaa,cond_true]
    exact ⟨_,rfl,bad fun g=>by rw [zbB.2 g.1.c] at hc;cases hc⟩
   | true =>
    have hac:=zbB.1 hc
    rw [Bool.not_true,cond_false,zeG hF w0 w6,zaa,zaa]
    cases hb:alB F w a with
    | false =>
     right
     rw [Bool.not_false,cond_true,zaa,cond_true]
     exact ⟨_,rfl,bad fun g=>by rw [(zbD hF hac).2 g.1] at hb;cases hb⟩
    | true =>
     have hal:=(zbD hF hac).1 hb
     rw [Bool.not_true,cond_false]
     by_cases h0:0 < i
     · have hx:L[i - 1]?=some L[i - 1]:=List.getElem?_eq_getElem (by omega)
       have hxc:=hI.isC L[i - 1] (List.mem_of_getElem? (i:=i - 1) (by rw [List.getElem?_take,if_pos (by omega)];exact hx))
       generalize L[i - 1]=x at hx hxc
       rw [cT (show (0:Int) < ((i:Nat):Int) by omega),wr_s (by omega) (by omega),show ((i:Nat):Int) - 1=((i - 1:Nat):Int) by omega,zal hx,zaa,zeD hxc.small hac.small,zaa,zaa,zaa]
       by_cases hcmp:cmpC x a < 0
       · left
         rw [decide_eq_true hcmp,Bool.not_true,cond_false]
         exact ⟨(),rfl,hI.step ha hal fun y _ hy=>by rw [hx] at hy;cases hy;exact hcmp⟩
       · right
         rw [decide_eq_false hcmp,Bool.not_false,cond_true]
         exact ⟨_,rfl,bad fun g=>hcmp (g.2 x h0 hx)⟩
     · left
       rw [cF (show ¬ (0:Int) < ((i:Nat):Int) by omega),zaa,zaa,cond_false]
       exact ⟨(),rfl,hI.step ha hal fun y h=>absurd h h0⟩
 · rintro - hI
   have hc:∀ a∈L,IsC F.vars a:=fun a ha=>hI.isC a (by rw [List.take_length];exact ha)
   have hC:Cfg F.vars 729 L:=⟨hI.srt,hI.few hF,hc⟩
   refine zaW (fun i _=>∀ a∈L.take i,KP F w (·∈L) a) (by simp) ?_ ?_
   · rintro i a - ha hJ
     have ham:=List.mem_of_getElem? ha
     obtain ⟨b,b1,b2⟩:=spec_keeps_eq (w:=w) hF hC (by omega) (hc a ham)
     rw [b1,zaa]
     cases b with
     | true =>
      left
      rw [Bool.not_true,cond_false]
      refine ⟨(),rfl,fun x hx=>?_⟩
      rw [List.take_add_one,ha,Option.toList_some,List.mem_append,List.mem_singleton] at hx
      rcases hx with hx|rfl
      · exact hJ x hx
      · exact b2.1 rfl
     | false =>
      right
      rw [Bool.not_false,cond_true]
      refine ⟨_,rfl,_,rfl,?_⟩
      simp only [Bool.false_eq_true,false_iff]
      intro g
      have:=b2.2 (g.kp a ham)
      cases this
   · rintro - hJ
     rw [List.take_length] at hJ
     refine ⟨_,rfl,?_⟩
     rw [decide_eq_true_iff,zaj]
     constructor
     · intro g
       exact ⟨hI,fun e=>by subst e;simp at g,hJ⟩
     · intro g
       have:=List.length_pos_iff.2 g.ne
       omega
theorem isFam_eq {F:Cnf} (hF:okCnf F) {w:Int} {L:List (List Int)} (hl:L.length≤100000) (hok:∀ a∈L,okL okI a):∃ q,zcj F w L=some q∧zcW F w L=some q∧((goodB F && inB w 0 6)=true→q.2=true∧(q.1=true↔FamP F w L)):=by
 unfold zcj zcW
 rw [zbF hF,zbW hF,zaa,zaa]
 cases hg:goodB F && inB w 0 6 with
 | false=>exact ⟨_,rfl,rfl,fun g=>by cases g⟩
 | true =>
  rw [Bool.not_true,cond_false,cond_false]
  rw [Bool.and_eq_true] at hg
  have hN:=goodB_nar hg.1
  obtain ⟨w0,w6⟩:=inB_iff.1 hg.2
  obtain ⟨b,b1,b2⟩:=impl_fam_eq hN w0 w6 hl hok
  obtain ⟨c,c1,c2⟩:=spec_fam_eq hN w0 w6 hl hok
  have hbc:b=c:=by rw [Bool.eq_iff_iff,b2,c2]
  subst hbc
  rw [b1,zaa,c1,zaa]
  refine ⟨_,rfl,?_,fun _=>⟨rfl,b2⟩⟩
  by_cases h7:len L≤729
  · rw [cT h7,zaa]
  · rw [cF h7,zaa]
    have:b=false:=by
     rw [Bool.eq_false_iff]
     intro g
     have:=(b2.1 g).asc.few hN
     rw [zaj] at h7;omega
    rw [this]
end Go.PF
namespace Go.PF
open Go.Pu
section
variable {F:Cnf} {w:Int} {A:List (List Int)} {R:Nat} {rounds:List Int} {M:List Bool} {W:zbc}
theorem srt_up {L:List (List Int)} (h:SrtC L) (k:Nat) (x y:List Int) (hx:L[k]?=some x) (hy:L[k + 1]?=some y):cmpC x y < 0:=by
 obtain ⟨h1,rfl⟩:=List.getElem?_eq_some_iff.1 hx
 obtain ⟨h2,rfl⟩:=List.getElem?_eq_some_iff.1 hy
 exact List.pairwise_iff_getElem.1 h k (k + 1) h1 h2 (by omega)
theorem Both.famP (h:Both F w A R rounds M W) (hne:ly F w A R≠[]):FamP F w (ly F w A R):=by
 refine ⟨⟨fun a ha=>?_,fun k x y _ hx hy=>srt_up (h.aa.srt.sublist zbm) k x y hx hy⟩,hne,fun a ha=>?_⟩
 · rw [List.take_length] at ha
   exact (h.aa.mem a).1 (zbm.subset ha)
 · have g:=((h.fin.fix a).2 (ly_mem.1 ha)).2
   exact (KP.congr fun x=>ly_mem.symm).1 g
theorem nil_isS (hN:Nar F):IsS F.vars []:=⟨⟨hN.v0,by have:=hN.le;omega,nofun,.nil⟩,hN.le⟩
end
end Go.PF
namespace Go.PF
open Go.Pu
theorem narrow_eq3 {F:Cnf} (hF:okCnf F) {w:Int} (hg:(goodB F && inB w 0 6)=true) (hN:Nar F):∃ b,zcc F w=some (b,true)∧(b=true↔∃ n,Kn F w n []):=by
 unfold zcc zdv
 rw [zbF hF,hg,zaa,Bool.not_true,cond_false]
 obtain ⟨o,e,C,cl,rfl,hC⟩:=zeF (w:=w) hN
 obtain ⟨q,q1,q2⟩:=round_eq hC (nil_isS hN)
 rw [e,zaa,zaa,q1,zaa,zaa]
 refine ⟨_,rfl,?_⟩
 rw [decide_eq_true_iff,← hC.all]
 rcases q2 with ⟨rfl,h⟩|⟨h,n,rfl,_⟩
 · exact ⟨fun g=>by omega,fun g=>absurd g h⟩
 · exact ⟨fun _=>h,fun _=>by omega⟩
theorem closure_eq3 {F:Cnf} (hF:okCnf F) {w:Int} (hg:(goodB F && inB w 0 6)=true) (hN:Nar F):∃ K,zci F w=some (K,true)∧K.length≤4096∧∀ c,c∈K↔∃ n,Kn F w n c:=by
 unfold zci
 rw [zbF hF,hg,zaa,Bool.not_true,cond_false]
 obtain ⟨o,e,C,cl,rfl,hC⟩:=zeF (w:=w) hN
 obtain ⟨K,k1,k2,k3⟩:=closure_clauses_eq hN hC
 rw [e,zaa,zaa,k1,zaa]
 have hm:∀ c,c∈K↔∃ n,Kn F w n c:=fun c=>(k3 c).trans (hC.all c)
 refine ⟨K,rfl,?_,hm⟩
 exact PF.few (k2.imp fun {a b} hab e=>by subst e;exact zbt a hab) fun c hc=>let ⟨n,hn⟩:=(hm c).1 hc;hN.kn hn
theorem ok_isC {V:Int} {a:List Int} (h:IsC V a):okL okI a:=h.ok
theorem value_eq3 {V:Int} {c a:List Int} (hc:IsC V c) (ha:IsC V a):zcT V c a=some (clv c a,true):=by
 unfold zcT zcS
 rw [zdJ hc.ok,zdJ ha.ok,zbB.2 hc,zbB.2 ha,zaa,zaa,Bool.not_true,cond_false]
 simp only [zaa,Bool.not_true,cond_false]
 rw [zeC,zaa]
theorem clv_gt {V:Int} {c a:List Int} (hc:IsC V c) (ha:IsC V a):decide (-1 < clv c a)=true↔¬ Fals c a:=by
 rw [← clv_neg hc ha,decide_eq_true_iff]
 rcases clv_cases c a with h|h|h <;> rw [h] <;> omega
theorem nx_of3 {σ T X:Type} {f:σ→T} {x:Option (Lp T X)} {I:σ→Prop} (h:∃ q,x=some q∧∃ s',q=.nx (f s')∧I s'):∃ s',x=some (.nx (f s'))∧I s':=by
 obtain ⟨q,e,s',rfl,i⟩:=h
 exact ⟨s',e,i⟩
open Classical in
theorem fits_eq {F:Cnf} (hN:Nar F) {w:Int} {A:List (List Int)} {R:Nat} {rounds:List Int} {M:List Bool} {W:zbc} (h:Both F w A R rounds M W) {K:List (List Int)} (hK:K.length≤4096) (hm:∀ c,c∈K↔∃ n,Kn F w n c) {B:Type} {k:Int×Int→Option B} {Q:B→Prop}
 (hk:∃ r,k (((ly F w A R).length:Int),(A.length:Int))=some r∧Q r) :
 ∃ r,bdR (iter (S:=(Int×Int)) (X:=Empty) (fun s614=>(bif (decide (s614.2 < (len A))) then bdR (iter (S:=(Bool×Int)) (X:=Empty) (fun s758=>(bif (bif (decide (s758.2 < (len K))) then s758.1 else false) then bd (ix K s758.2) (fun x882=>bd (ix A s614.2) (fun x892=>bd (PF.zcT F.vars x882 x892) (fun r896=>some (Lp.nx ((bif r896.2 then (decide ((-1) < r896.1)) else false),(wr (s758.2 + 1))))))) else some (Lp.bk (s758.1,s758.2)))) (true,0)) (fun s758=>(bif s758.1 then some (Lp.nx ((wr (s614.1 + 1)),(wr (s614.2 + 1)))) else some (Lp.nx (s614.1,(wr (s614.2 + 1)))))) (fun x758=>nomatch x758) else some (Lp.bk (s614.1,s614.2)))) (0,0)) k (fun x614=>nomatch x614)=some r∧Q r:=by
 have h7:=h.len
 refine cnt_m (σ:=Int) (fun s i=>(s,i)) (n:=A.length) (a:=0) (s0:=0) (fun i s=>s=(((A.take i).filter fun a=>decide (Pn F w A R a)).length:Int)) rfl (by omega) rfl ?_ ?_ ?_
 · rintro i s - hi rfl
   left
   dsimp only
   have ha:A[i]?=some A[i]:=List.getElem?_eq_getElem hi
   have ham:=List.getElem_mem hi
   generalize A[i]=a at ha ham
   have hac:=h.aa.isC ham
   have tb:((A.take i).filter fun a=>decide (Pn F w A R a)).length≤729:=by
    have:=List.length_filter_le (fun a=>decide (Pn F w A R a)) (A.take i)
    rw [List.length_take] at this;omega
   have tk:((A.take (i + 1)).filter fun a=>decide (Pn F w A R a)).length=((A.take i).filter fun a=>decide (Pn F w A R a)).length + (if Pn F w A R a then 1 else 0):=by
    rw [List.take_add_one,ha,Option.toList_some,List.filter_append,List.length_append]
    by_cases g:Pn F w A R a <;> simp [g]
   rw [cT (show ((i:Nat):Int) < len A by rw [zaj];omega),zal ha]
   have hs:Pn F w A R a↔∀ c∈K,¬ Fals c a:=by
    rw [h.fin.sur hN h.aa]
    constructor
    · rintro ⟨_,g⟩ c hc
      obtain ⟨n,hn⟩:=(hm c).1 hc
      exact g n c hn
    · intro g
      exact ⟨(h.aa.mem a).1 ham,fun n c hn=>g c ((hm c).2 ⟨n,hn⟩)⟩
   refine nx_of3 (f:=fun s=>(s,((i + 1:Nat):Int))) ?_
   refine iter_m (fun st=>∃ q:Nat,st.2=(q:Int)∧q≤K.length∧(st.1=true↔∀ c∈K.take q,¬ Fals c a)) (fun st=>K.length - st.2.toNat) ⟨0,rfl,Nat.zero_le _,by simp⟩ ?_
   rintro ⟨g,q⟩ ⟨q,rfl,hq,hgq⟩
   dsimp only at hgq ⊢
   by_cases hlt:q < K.length∧g=true
   · obtain ⟨hlt,rfl⟩:=hlt
     left
     have hc:K[q]?=some K[q]:=List.getElem?_eq_getElem hlt
     have hcm:=List.getElem_mem hlt
     generalize K[q]=c at hc hcm
     obtain ⟨n,hn⟩:=(hm c).1 hcm
     have hcc:=(hN.kn hn).c
     rw [cT (show ((q:Nat):Int) < len K by rw [zaj];omega),cond_true,zal hc,zaa,zaa,value_eq3 hcc hac,zaa,cond_true,wr_s (by omega) (by omega)]
     refine ⟨_,rfl,⟨q + 1,rfl,by omega,?_⟩,by dsimp only;omega⟩
     dsimp only
     rw [clv_gt hcc hac,List.take_add_one,hc,Option.toList_some]
     constructor
     · intro g c' hc'
       rcases List.mem_append.1 hc' with hc'|hc'
       · exact hgq.1 rfl c' hc'
       · rw [List.mem_singleton] at hc';subst hc';exact g
     · intro g
       exact g c (by simp)
   · right;left
     have hcond:(bif decide (((q:Nat):Int) < len K) then g else false)=false:=by
      by_cases e:q < K.length
      · have:g=false:=by cases g with
         | true=>exact absurd ⟨e,rfl⟩ hlt
         | false=>rfl
        rw [this];cases decide (((q:Nat):Int) < len K) <;> rfl
      · rw [cF (by rw [zaj];omega)]
     rw [hcond,cond_false]
     refine ⟨_,rfl,?_⟩
     dsimp only
     have hgs:g=true↔Pn F w A R a:=by
      rw [hs]
      by_cases e:q < K.length
      · have:g=false:=by cases g with
         | true=>exact absurd ⟨e,rfl⟩ hlt
         | false=>rfl
        subst this
        simp only [Bool.false_eq_true,false_iff]
        intro hall
        have:=hgq.2 fun c hc=>hall c (List.mem_of_mem_take hc)
        cases this
      · rw [hgq,List.take_of_length_le (by omega)]
     cases g with
     | true =>
      rw [cond_true,wr_s (by omega) (by omega),wr_s (by omega) (by omega)]
      refine ⟨_,rfl,_,rfl,?_⟩
      rw [tk,if_pos (hgs.1 rfl)];omega
     | false =>
      rw [cond_false,wr_s (by omega) (by omega)]
      refine ⟨_,rfl,_,rfl,?_⟩
      rw [tk,if_neg (fun g=>by have:=hgs.2 g;cases this)];rfl
 · rintro s rfl
   dsimp only
   rw [cF (by rw [zaj];omega)]
 · rintro s rfl
   rw [List.take_length]
   exact hk
end Go.PF
namespace Go.PF
open Go.Pu
section
variable {F:Cnf} {w:Int} {A:List (List Int)} {R:Nat} {rounds:List Int} {M:List Bool} {W:zbc}
theorem cnR_at {i:Nat} (hi:i < R):(cnR F w A R)[i]?=some (((ly F w A i).length:Int) - ((ly F w A (i + 1)).length:Int)):=by
 unfold cnR
 rw [List.getElem?_map,List.getElem?_range hi,Option.map_some]
theorem cnR_length:(cnR F w A R).length=R:=by
 unfold cnR
 rw [List.length_map,List.length_range]
theorem minus_eq (h:Both F w A R rounds M W) {B:Type} {k:Int×Int→Option B} {Q:B→Prop}
 (hk:∃ r,k (((ly F w A R).length:Int),((R:Nat):Int))=some r∧Q r) :
 ∃ r,bdR (iter (S:=(Int×Int)) (X:=Empty) (fun s365=>(bif (decide (s365.2 < (len (cnR F w A R)))) then bd (ix (cnR F w A R) s365.2) (fun x412=>some (Lp.nx ((wr (s365.1 - x412)),(wr (s365.2 + 1))))) else some (Lp.bk (s365.1,s365.2)))) ((len A),0)) k (fun x365=>nomatch x365)=some r∧Q r:=by
 have h7:=h.len
 have hlen:len (cnR F w A R)=((R:Nat):Int):=by rw [zaj,cnR_length]
 have hle:∀ i,(ly F w A i).length≤729:=fun i=>Nat.le_trans (zbm (n:=i)).length_le h7
 have hR:=h.R7
 refine cnt_m (σ:=Int) (fun s i=>(s,i)) (n:=R) (a:=0) (s0:=len A) (fun i s=>s=((ly F w A i).length:Int)) rfl (Nat.zero_le _) (by rw [ly_zero,zaj]) ?_ ?_ ?_
 · rintro i s - hi rfl
   left
   dsimp only
   have a1:=hle i
   have a2:=hle (i + 1)
   rw [cT (by rw [hlen];omega),zal (cnR_at hi),zaa,wr_s (by omega) (by omega),wr_s (by omega) (by omega)]
   refine ⟨_,rfl,?_⟩
   omega
 · rintro s rfl
   dsimp only
   rw [cF (by rw [hlen];omega)]
 · rintro s rfl
   exact hk
end
end Go.PF
namespace Go.PF
open Go.Pu
theorem least12 (v:Int):zck v 12≤12:=by
 unfold zck
 cases hd:decide (v < 12) with
 | true=>have:=of_decide_eq_true hd;simp only [cond_true];omega
 | false=>simp only [cond_false];omega
theorem dr_assignment {n:Nat} {c:l1Cur} (h:okC (n + 30) c) (v:Int):Dr n (zdy c v) fun a=>a.length≤12∧okIs a:=by
 have hlim:lim=4294967296:=rfl
 have hle:=least12 v
 unfold zdy
 generalize zck v 12=B at *
 refine dr_loop (fun s=>(13 - s.2.2.2.2).toNat) (fun s=>okC (n + 2 * (13 - s.2.2.2.2).toNat) (l1Cur.mk s.2.1 s.2.2.1 s.2.2.2.1)∧1≤s.2.2.2.2∧s.2.2.2.2≤13∧s.1.length + 1≤s.2.2.2.2.toNat∧okIs s.1) (fun s=>okC n (l1Cur.mk s.2.1 s.2.2.1 s.2.2.2.1)∧s.1.length≤12∧okIs s.1)
  ⟨h.le (by dsimp only;omega),by dsimp only;omega,by dsimp only;omega,by simp,fun x hx=>by cases hx⟩ ?_ (fun s hs=>⟨_,_,rfl,hs⟩)
 rintro ⟨out,cd,at_,sd,u⟩ ⟨g1,g2,g3,g4,g5⟩
 simp only at g1 g2 g3 g4 g5 ⊢
 cases hd:decide (u≤B) with
 | false=>exact .inr ⟨_,rfl,g1.le,by dsimp only;omega,g5⟩
 | true =>
  have hu:u≤B:=of_decide_eq_true hd
  have hw:wr (u + 1)=u + 1:=wr_of _ (by omega) (by omega)
  left
  simp only [cond_true]
  have e0:n + 2 * (13 - u).toNat=(n + 2 * (13 - (u + 1)).toNat) + 2:=by omega
  rw [e0] at g1
  obtain ⟨b,c3,e2,k3,_⟩:=zaV g1 4
  rw [e2,zaa]
  have fin:∀ y,okI y→okIs (out++[y]):=fun y hy x hx=>by
   rcases List.mem_append.1 hx with g|g
   · exact g5 x g
   · rw [List.mem_singleton] at g;subst g;exact hy
  dsimp only
  rw [hw]
  cases b == 0 with
  | true =>
   simp only [cond_true]
   rw [zaE (by simp;omega),zaa]
   exact ⟨_,rfl,⟨k3,by dsimp only;omega,by dsimp only;omega,by dsimp only;rw [List.length_append,List.length_singleton];omega,fin _ (by unfold okI;omega)⟩,by dsimp only;omega⟩
  | false =>
  simp only [cond_false]
  cases b == 1 with
  | true =>
   simp only [cond_true]
   rw [zaE (by simp;omega),zaa]
   exact ⟨_,rfl,⟨k3,by dsimp only;omega,by dsimp only;omega,by dsimp only;rw [List.length_append,List.length_singleton];omega,fin _ (za6 _)⟩,by dsimp only;omega⟩
  | false=>exact ⟨_,rfl,⟨k3,by dsimp only;omega,by dsimp only;omega,by dsimp only;omega,g5⟩,by dsimp only;omega⟩
theorem dr_anyAssignment {n:Nat} {c:l1Cur} (h:okC (n + 60) c) (v:Int):Dr n (zdz c v) fun x=>x.length≤13∧okIs x:=by
 unfold zdz
 refine (dr_assignment (n:=n + 20) h.le v).bind fun l c1 h1 hl=>?_
 refine (zaV (n:=n + 18) h1 32).bind fun k c2 h2 _=>?_
 have hlim:lim=4294967296:=rfl
 show Dr n (bif (k == 0) then _ else _) _
 cases k == 0 with
 | true =>
  refine (dr_lit (n:=n) (c:=c2) h2.le v).bind fun x c3 h3 hx=>?_
  rw [zaE (by simp;omega)]
  exact ⟨_,_,rfl,h3,by simp;omega,fun y hy=>by
   rcases List.mem_append.1 hy with g|g
   · exact hl.2 y g
   · rw [List.mem_singleton] at g;subst g;exact hx⟩
 | false =>
 show Dr n (bif (k == 1) then _ else _) _
 cases k == 1 with
 | false=>exact ⟨_,_,rfl,h2.le,by show l.length≤13;omega,hl.2⟩
 | true =>
  simp only [cond_true]
  cases hd:decide (0 < len l) with
  | false=>exact ⟨_,_,rfl,h2.le,by show l.length≤13;omega,hl.2⟩
  | true =>
   simp only [cond_true]
   have hl0:0 < l.length:=by have:=of_decide_eq_true hd;rw [zaj] at this;omega
   refine (zbC (n:=n) (c:=c2) h2.le (by simp)).bind fun x c3 h3 hx=>?_
   obtain ⟨y,hy,_⟩:=ix0 hl0
   obtain ⟨ys,hys⟩:=put_is (l:=l) (i:=0) x (by omega) (by omega)
   rw [hy,zaa]
   show Dr n (bd (put l 0 x) _) _
   rw [hys]
   have hx':okI x:=by
    simp only [List.mem_cons,List.not_mem_nil,or_false] at hx
    rcases hx with rfl|rfl|rfl
    · unfold okI;omega
    · exact za6 _
    · unfold okI;omega
   have:=put_mem hys hl.2 hx'
   exact ⟨_,_,rfl,h3,by show ys.length≤13;omega,this.2⟩
theorem okL_of {a:List Int} (h:a.length≤13∧okIs a):okL okI a:=⟨by omega,h.2⟩
theorem cut13 {x:Int} (h:0≤x∧x≤65535∧(x=0∨x < 24)):∃ l:List Int,cut [1,1,2,2,0,3,4,6,7,(-1)] 0 (wr (7 + (wr (x.tdiv 8))))=some l∧l≠[]∧okIs l:=by
 obtain ⟨k,rfl⟩:=Int.eq_ofNat_of_zero_le h.1
 have hk:k < 24:=by omega
 have e:wr (7 + (wr (((k:Nat):Int).tdiv 8)))=((7 + k / 8:Nat):Int):=by
  rw [show (((k:Nat):Int).tdiv 8)=((k / 8:Nat):Int) from rfl,show wr ((k / 8:Nat):Int)=((k / 8:Nat):Int) from wr_s (by omega) (by omega),wr_s (by omega) (by omega)]
  omega
 rw [e,show (0:Int)=((0:Nat):Int) from rfl,zbb (by omega) (by simp only [List.length_cons,List.length_nil];omega)]
 refine ⟨_,rfl,?_,fun y hy=>?_⟩
 · intro hn
   have:=congrArg List.length hn
   simp only [List.length_drop,List.length_take,List.length_cons,List.length_nil] at this
   omega
 · have h1:=List.mem_of_mem_take (List.mem_of_mem_drop hy)
   simp only [List.mem_cons,List.not_mem_nil,or_false] at h1
   show okI y
   unfold okI
   omega
theorem draw_width {n:Nat} {c:l1Cur} (h:okC (n + 1400) c):∃ F w c',zbx c=some (F,w,c')∧SmC 100 12 F∧okI w∧okC n c':=by
 unfold zbx
 obtain ⟨F,c1,e1,h1,hF⟩:=dr_cnf (n:=n + 400) (c:=c) h.le
 obtain ⟨b,c2,e2,h2,_⟩:=dr_one (n:=n + 390) (c:=c1) h1.le 2
 rw [e1,zaa]
 dsimp only
 rw [e2,zaa]
 dsimp only
 have s1:∀ G c3,SmC 100 12 G→okC (n + 100) c3→∃ r,bd (za3 (l1Cur.mk c3.code c3.at_ c3.seed) 24) (fun r95=>bdR (S:=((List Int)×Int×Int×Int)) (X:=Empty) ((bif r95.1 then bd (PF.zaN r95.2 [6,7]) (fun r141=>some (Rs.go (r141.2.code,r141.2.at_,r141.2.seed,r141.1))) else some (Rs.go (r95.2.code,r95.2.at_,r95.2.seed,G.vars)))) (fun s125=>bd (PF.zaF (l1Cur.mk s125.1 s125.2.1 s125.2.2.1) 24) (fun r15160=>bd (cut [1,1,2,2,0,3,4,6,7,(-1)] 0 (wr (7 + (wr (r15160.1.tdiv 8))))) (fun xs24160=>bd (PF.zaN r15160.2 xs24160) (fun r27160=>some ((Cnf.mk s125.2.2.2 G.clauses),r27160.1,r27160.2))))) (fun x127=>nomatch x127))=some r∧SmC 100 12 r.1∧okI r.2.1∧okC n r.2.2:=by
  intro G c3 hG h3
  obtain ⟨b,c4,e4,h4,_⟩:=dr_one (n:=n + 90) (c:=c3) h3.le 24
  have s2:∀ v c5,okI v→okC (n + 50) c5→∃ r,bd (PF.zaF (l1Cur.mk c5.code c5.at_ c5.seed) 24) (fun r15160=>bd (cut [1,1,2,2,0,3,4,6,7,(-1)] 0 (wr (7 + (wr (r15160.1.tdiv 8))))) (fun xs24160=>bd (PF.zaN r15160.2 xs24160) (fun r27160=>some ((Cnf.mk v G.clauses),r27160.1,r27160.2))))=some r∧SmC 100 12 r.1∧okI r.2.1∧okC n r.2.2:=by
   intro v c5 hv h5
   obtain ⟨x,c6,e6,h6,hx⟩:=zaV (n:=n + 40) (c:=c5) h5.le 24
   obtain ⟨l,el,hl,ol⟩:=cut13 hx
   obtain ⟨w,c7,e7,h7,hw⟩:=zbC (n:=n) (c:=c6) h6.le hl
   rw [e6,zaa]
   dsimp only
   rw [el,zaa,e7,zaa]
   exact ⟨_,rfl,⟨hv,hG.len,hG.cl⟩,ol w hw,h7⟩
  rw [e4,zaa]
  dsimp only
  cases b with
  | false =>
   rw [cond_false,zaD]
   exact s2 G.vars c4 hG.vars h4.le
  | true =>
   obtain ⟨v,c5,e5,h5,hv⟩:=zbC (n:=n + 50) (c:=c4) h4.le (l:=[6,7]) (by simp)
   rw [cond_true,e5,zaa,zaD]
   refine s2 v c5 ?_ h5
   rcases List.mem_cons.1 hv with rfl|hv
   · unfold okI;omega
   · rw [List.mem_singleton] at hv;subst hv;unfold okI;omega
 have fin:∀ {z:Option (Cnf×Int×l1Cur)},(∃ r,z=some r∧SmC 100 12 r.1∧okI r.2.1∧okC n r.2.2)→∃ F w c',z=some (F,w,c')∧SmC 100 12 F∧okI w∧okC n c':=by
  rintro z ⟨⟨F,w,c'⟩,e,q1,q2,q3⟩
  exact ⟨F,w,c',e,q1,q2,q3⟩
 apply fin
 cases b with
 | false =>
  rw [cond_false,zaD]
  exact s1 F c2 hF h2.le
 | true =>
  obtain ⟨G,c3,e3,h3,hG⟩:=dr_hard (n:=n + 100) (c:=c2) h2.le
  rw [cond_true,e3,zaa,zaD]
  exact s1 G c3 (hG.le (by omega) (by omega)) h3
end Go.PF
namespace Go.PF
open Go.Pu
structure FL (L:List (List Int)):Prop where
 len:L.length≤729
 ok:∀ a∈L,okL okI a
theorem shrink_fl {F:Cnf} {w:Int} (h:(goodB F && inB w 0 6)=true):∃ W,zbg F w=some W∧FL W.left:=by
 obtain ⟨hN,w0,w6,A,R,rounds,M,W,hb⟩:=both h
 refine ⟨W,hb.ss,?_,fun a ha=>?_⟩
 · rw [hb.wl];exact hb.ly_len
 · rw [hb.wl] at ha
   exact (hb.aa.isC (zbm.subset ha)).ok
theorem fam_out {z:Option (Cnf×Int×List (List Int)×l1Cur)} (h:∃ r,z=some r∧(SmC 100 12 r.1∧okI r.2.1∧r.2.2.1.length≤100000∧∀ a∈r.2.2.1,okL okI a)) :
 ∃ r,bd z (fun r29=>some (r29.1,r29.2.1,r29.2.2.1))=some r∧SmC 100 12 r.1∧okI r.2.1∧r.2.2.length≤100000∧∀ a∈r.2.2,okL okI a:=by
 obtain ⟨r,e,q⟩:=h
 rw [e,zaa]
 exact ⟨_,rfl,q⟩
theorem draw_family {cs:List Int} (h:okL okU8 cs):∃ F w L,zcV cs=some (F,w,L)∧SmC 100 12 F∧okI w∧L.length≤100000∧∀ a∈L,okL okI a:=by
 unfold zcV zdS
 have fin:∀ {z:Option (Cnf×Int×List (List Int))},(∃ r,z=some r∧SmC 100 12 r.1∧okI r.2.1∧r.2.2.length≤100000∧∀ a∈r.2.2,okL okI a)→∃ F w L,z=some (F,w,L)∧SmC 100 12 F∧okI w∧L.length≤100000∧∀ a∈L,okL okI a:=by
  rintro z ⟨⟨F,w,L⟩,e,q⟩
  exact ⟨F,w,L,e,q⟩
 apply fin
 obtain ⟨F,w,c1,e1,hF,hw,h1⟩:=draw_width (n:=20000) (c:=l1Cur.mk cs 0 0) ((okC_begin h 0).le (by omega))
 rw [e1,zaa]
 dsimp only
 have hlim:lim=4294967296:=rfl
 refine fam_out ?_
 refine loop_ex (fun s=>6 - s.2.2.2.2.2.2.2.toNat)
  (fun s=>∃ q:Nat,s.2.2.2.2.2.2.2=(q:Int)∧q≤6∧SmC 100 12 (Cnf.mk s.1 s.2.1)∧okI s.2.2.2.2.2.1∧okC (20000 - 2000 * q) (l1Cur.mk s.2.2.1 s.2.2.2.1 s.2.2.2.2.1)∧FL s.2.2.2.2.2.2.1)
  (fun s=>SmC 100 12 (Cnf.mk s.1 s.2.1)∧okI s.2.2.2.2.2.1∧okC 2000 (l1Cur.mk s.2.2.1 s.2.2.2.1 s.2.2.2.2.1)∧FL s.2.2.2.2.2.2.1)
  ⟨0,rfl,by omega,hF,hw,h1,⟨Nat.zero_le _,nofun⟩⟩ ?_ ?_
 · rintro ⟨v,cl,cd,at_,sd,w,L,i⟩ ⟨q,rfl,hq,hF,hw,hc,hL⟩
   dsimp only at hF hw hc hL ⊢
   cases hd:(bif decide (((q:Nat):Int) < 6) then (len L == 0) else false) with
   | false =>
    right
    rw [cond_false]
    exact ⟨_,rfl,hF,hw,hc.le,hL⟩
   | true =>
    left
    have q6:q < 6:=by
     by_cases g:q < 6
     · exact g
     · rw [cF (by omega)] at hd;cases hd
    rw [cond_true,zbW hF.ok,zaa]
    have nxq:∀ (L':List (List Int)) (b:Bool),FL L'→∃ s',(bif b then bd (zbx (l1Cur.mk cd at_ sd)) (fun r348=>some (Lp.nx (X:=Empty) (r348.1.vars,r348.1.clauses,r348.2.2.code,r348.2.2.at_,r348.2.2.seed,r348.2.1,L',(wr (((q:Nat):Int) + 1))))) else some (Lp.nx (v,cl,cd,at_,sd,w,L',(wr (((q:Nat):Int) + 1)))))=some (Lp.nx s')∧(∃ q:Nat,s'.2.2.2.2.2.2.2=(q:Int)∧q≤6∧SmC 100 12 (Cnf.mk s'.1 s'.2.1)∧okI s'.2.2.2.2.2.1∧okC (20000 - 2000 * q) (l1Cur.mk s'.2.2.1 s'.2.2.2.1 s'.2.2.2.2.1)∧FL s'.2.2.2.2.2.2.1)∧6 - s'.2.2.2.2.2.2.2.toNat < 6 - q:=by
     intro L' b hL'
     rw [wr_s (by omega) (by omega)]
     cases b with
     | false=>exact ⟨_,rfl,⟨q + 1,rfl,by omega,hF,hw,hc.le,hL'⟩,by dsimp only;omega⟩
     | true =>
      obtain ⟨G,w',c',e',hG,hw',hc'⟩:=draw_width (n:=20000 - 2000 * (q + 1)) (c:=l1Cur.mk cd at_ sd) hc.le
      rw [cond_true,e',zaa]
      exact ⟨_,rfl,⟨q + 1,rfl,by omega,hG,hw',hc',hL'⟩,by dsimp only;omega⟩
    cases hg:(goodB (Cnf.mk v cl) && inB w 0 6) with
    | true =>
     obtain ⟨W,eW,hW⟩:=shrink_fl hg
     rw [cond_true,eW,zaa]
     exact nxq _ _ hW
    | false =>
     rw [cond_false]
     exact nxq _ _ hL
 · rintro ⟨v,cl,cd,at_,sd,w,L,i⟩ ⟨hF,hw,hc,hL⟩
   dsimp only at hF hw hc hL ⊢
   obtain ⟨x,c6,e6,h6,hx⟩:=zaV (n:=1000) hc.le 20
   have hl:=hL.len
   have cu:∀ a b:Nat,a≤b→b≤L.length→∃ r,bd (cut L (a:Int) (b:Int)) (fun xs=>some ((Cnf.mk v cl),w,xs,c6))=some r∧(SmC 100 12 r.1∧okI r.2.1∧r.2.2.1.length≤100000∧∀ y∈r.2.2.1,okL okI y):=by
    intro a b hab hb
    rw [zbb hab hb,zaa]
    refine ⟨_,rfl,hF,hw,?_,fun y hy=>hL.ok y (List.mem_of_mem_take (List.mem_of_mem_drop hy))⟩
    dsimp only
    rw [List.length_drop,List.length_take];omega
   have same:∃ r,some ((Cnf.mk v cl),w,L,c6)=some r∧(SmC 100 12 r.1∧okI r.2.1∧r.2.2.1.length≤100000∧∀ y∈r.2.2.1,okL okI y):=⟨_,rfl,hF,hw,by dsimp only;omega,hL.ok⟩
   rw [e6,zaa]
   dsimp only
   cases x == 0 with
   | true =>
    rw [cond_true]
    by_cases g:0 < L.length
    · rw [cT (by rw [zaj];omega),zaj]
      exact cu 1 L.length (by omega) (by omega)
    · rw [cF (by rw [zaj];omega)]
      exact same
   | false =>
    rw [cond_false]
    cases x == 1 with
    | true =>
     obtain ⟨a,c7,e7,h7,ha⟩:=dr_anyAssignment (n:=100) (c:=c6) h6.le v
     rw [cond_true,e7,zaa]
     dsimp only
     rw [zaE (by simp;omega),zaa]
     refine ⟨_,rfl,hF,hw,by simp;omega,fun y hy=>?_⟩
     rcases List.mem_append.1 hy with hy|hy
     · exact hL.ok y hy
     · rw [List.mem_singleton] at hy;subst hy;exact okL_of ha
    | false =>
     rw [cond_false]
     cases x == 2 with
     | true =>
      rw [cond_true]
      by_cases g:0 < L.length
      · rw [cT (by rw [zaj];omega),zaj,wr_s (by omega) (by omega),show ((L.length:Nat):Int) - 1=((L.length - 1:Nat):Int) by omega]
        exact cu 0 (L.length - 1) (by omega) (by omega)
      · rw [cF (by rw [zaj];omega)]
        exact same
     | false =>
      rw [cond_false]
      exact same
end Go.PF
namespace Go.PF
open Go.Pu
theorem zej (a:List Int):zb7 a a=some true:=by
 unfold zb7
 rw [beq_self_eq_true]
 simp only [Bool.not_true,cond_false]
 have:=loop_l (B:=Bool) (xs:=a) (s0:=()) (R:=fun r=>r=true) (lx:=fun x:Bool=>some x) (k:=fun _:Unit=>some true) (body:=fun i23 y22 s23=>bd (ix a ((i23:Nat):Int)) (fun x72=>(bif (!(y22 == x72)) then some (Lp.rt false) else some (Lp.nx ())))) (fun _ _=>True) trivial
  (fun i x s hx _=>⟨(),by rw [zaU,hx,zaa,beq_self_eq_true];rfl,trivial⟩) (fun s _=>⟨true,rfl,rfl⟩)
 obtain ⟨r,e,rfl⟩:=this
 exact e
theorem zdO (a:List (List Int)):zcQ a a=some true:=by
 unfold zcQ
 rw [beq_self_eq_true]
 simp only [Bool.not_true,cond_false]
 have:=loop_l (B:=Bool) (xs:=a) (s0:=()) (R:=fun r=>r=true) (lx:=fun x:Bool=>some x) (k:=fun _:Unit=>some true) (body:=fun i23 y22 s23=>bd (ix a ((i23:Nat):Int)) (fun x80=>bd (PF.zb7 y22 x80) (fun r84=>(bif (!r84) then some (Lp.rt false) else some (Lp.nx ()))))) (fun _ _=>True) trivial
  (fun i x s hx _=>⟨(),by rw [zaU,hx,zaa,zej,zaa];rfl,trivial⟩) (fun s _=>⟨true,rfl,rfl⟩)
 obtain ⟨r,e,rfl⟩:=this
 exact e
end Go.PF
namespace Go.PF
open Go.Pu
theorem not_asked {F:Cnf} (hF:okCnf F) {w:Int} (hg:(goodB F && inB w 0 6)=false) :
 zb1 F w=some ([],false)∧zb6 F w=some ([],false)∧zb8 F w=some (false,false)∧zb9 F w=some (false,false)∧zcc F w=some (false,false)∧zcd F w=some ([],false)∧zce F w=some ([],false)∧zcf F w=some ([],false)∧zcg F w=some ([],false)∧zci F w=some ([],false):=by
 unfold zb1 zb6 zb8 zb9 zcc zdv zcd zce zcf zcg zci
 rw [zbF hF,zbW hF,hg]
 exact ⟨rfl,rfl,rfl,rfl,rfl,rfl,rfl,rfl,rfl,rfl⟩
end Go.PF
namespace Go.PF
open Go.Pu
theorem draw_great {cs:List Int} (h:okL okU8 cs):∃ F w,zdf cs=some (F,w)∧SmC 100 12 F∧okI w:=by
 unfold zdf zdP
 obtain ⟨F,w,c1,e1,hF,hw,h1⟩:=draw_width (n:=20000) (c:=l1Cur.mk cs 0 0) ((okC_begin h 0).le (by omega))
 rw [e1,zaa,zaa]
 exact ⟨F,w,rfl,hF,hw⟩
end Go.PF
namespace Go.PF
open Go.Pu
theorem tail_eq {cs:List Int} (h:okL okU8 cs):bd (PF.zcV cs) (fun r1010=>bd (PF.zcj r1010.1 r1010.2.1 r1010.2.2) (fun r1032=>bd (PF.zcW r1010.1 r1010.2.1 r1010.2.2) (fun r1037=>some (bif (r1032.1 == r1037.1) then (r1032.2 == r1037.2) else false))))=some true:=by
 obtain ⟨F,w,L,e,hF,hw,hl,hL⟩:=draw_family h
 obtain ⟨q,q1,q2,_⟩:=isFam_eq (w:=w) hF.ok hl hL
 rw [e,zaa]
 dsimp only
 rw [q1,q2,zaa,zaa,beq_self_eq_true,beq_self_eq_true]
 rfl
end Go.PF
namespace Go.PF
open Go.Pu
theorem bdR_go3 {S X B:Type} {x:Option (Rs S X)} {k:S→Option B} {lx:X→Option B} {s:S} {Q:B→Prop} (h:∃ r,x=some r∧r=.go s) (hk:∃ r,k s=some r∧Q r):∃ r,bdR x k lx=some r∧Q r:=by
 obtain ⟨r,rfl,rfl⟩:=h
 exact hk
theorem ex_true3 {x:Option Bool} (h:∃ r,x=some r∧r=true):x=some true:=by
 obtain ⟨r,e,rfl⟩:=h
 exact e
theorem true_ex3 {x:Option Bool} (h:x=some true):∃ r,x=some r∧r=true:=⟨true,h,rfl⟩
theorem none_left {B:Type} {k:Int×Int→Option B} {Q:B→Prop} (hk:∃ r,k (0,0)=some r∧Q r) :
 ∃ r,bdR (iter (S:=(Int×Int)) (X:=Empty) (fun s365=>(bif (decide (s365.2 < (len ([]:List Int)))) then bd (ix ([]:List Int) s365.2) (fun x412=>some (Lp.nx ((wr (s365.1 - x412)),(wr (s365.2 + 1))))) else some (Lp.bk (s365.1,s365.2)))) ((len ([]:List (List Int))),0)) k (fun x365=>nomatch x365)=some r∧Q r:=by
 refine cnt_m (σ:=Int) (fun s i=>(s,i)) (n:=0) (a:=0) (s0:=0) (fun i s=>s=0) rfl (Nat.zero_le _) rfl ?_ ?_ ?_
 · intro i s _ hi
   exact absurd hi (Nat.not_lt_zero _)
 · rintro s rfl
   rfl
 · rintro s rfl
   exact hk
theorem plain_FnPebbleFamilies (code:List Int) (hc:okL okU8 code):zdU code=some true:=by
 unfold zdU
 cases zc6 code with
 | true=>rfl
 | false =>
  rw [cond_false]
  obtain ⟨F,w,d1,hF,hw⟩:=draw_great hc
  rw [d1,zaa]
  dsimp only
  cases hg:(goodB F && inB w 0 6) with
  | false =>
   obtain ⟨e1,e2,e3,e4,e5,e6,e7,e8,e9,e10⟩:=not_asked hF.ok hg
   rw [e1,zaa,e2,zaa]
   dsimp only
   rw [show (!(false == false))=false from rfl,cond_false,zdO,zaa,zaa,Bool.not_true,cond_false,e3,zaa,e4,zaa]
   dsimp only
   rw [show (bif (bif (bif (!(false == false)) then true else (!(false == false))) then true else (!(false == false))) then true else (!(false == (decide (0 < (len ([]:List (List Int))))))))=false from rfl,cond_false,e5,zaa]
   dsimp only
   rw [show (bif (!(false == false)) then true else (bif false then (false == false) else false))=false from rfl,cond_false,e6,zaa,e7,zaa]
   dsimp only
   rw [show (bif (!(false == false)) then true else (!(false == false)))=false from rfl,cond_false,zdO,zaa,zaa,Bool.not_true,cond_false,e8,zaa,e9,zaa]
   dsimp only
   rw [show (bif (!(false == false)) then true else (!(false == false)))=false from rfl,cond_false,zej,zaa,zaa,Bool.not_true,cond_false]
   refine ex_true3 (none_left ?_)
   dsimp only
   rw [show (!((0:Int) == len ([]:List (List Int))))=false from rfl,cond_false,e10,zaa]
   dsimp only
   refine bdR_go3 (s:=()) ⟨_,rfl,rfl⟩ ?_
   refine bdR_go3 (s:=()) ⟨_,rfl,rfl⟩ ?_
   exact true_ex3 (tail_eq hc)
  | true =>
   obtain ⟨hN,w0,w6,A,R,rounds,M,W,hB⟩:=both hg
   obtain ⟨g1,g2⟩:=great_eq hF.ok hg hN hB
   obtain ⟨h1,h2⟩:=has_eq hF.ok hg hN hB
   obtain ⟨a1,a2⟩:=allow_eq hF.ok hg hB
   obtain ⟨s1,s2⟩:=shr_eq hF.ok hg hN hB
   obtain ⟨nb,n1,n2⟩:=narrow_eq3 hF.ok hg hN
   obtain ⟨K,k1,k2,k3⟩:=closure_eq3 hF.ok hg hN
   have hlen:len (ly F w A R)=((ly F w A R).length:Int):=zaj _
   have hnb:nb = !decide (0 < len (ly F w A R)):=by
    have he:=(hB.fin.empty hN w0 hB.aa).trans n2.symm
    cases nb with
    | true =>
     have:=he.2 rfl
     rw [decide_eq_false (by rw [hlen];omega)];rfl
    | false =>
     rw [decide_eq_true (by
      rw [hlen]
      have:¬ (ly F w A R).length=0:=fun g=>by cases he.1 g
      omega)]
     rfl
   rw [g1,zaa,g2,zaa]
   dsimp only
   rw [show (!(true == true))=false from rfl,cond_false,zdO,zaa,zaa,Bool.not_true,cond_false,h1,zaa,h2,zaa]
   dsimp only
   have c1:∀ d:Bool,(bif (bif (bif (!(d == d)) then true else (!(true == true))) then true else (!(true == true))) then true else (!(d == d)))=false:=by
    intro d;cases d <;> rfl
   have c2:∀ d:Bool,(bif (!(true == true)) then true else (bif true then ((!d) == d) else false))=false:=by
    intro d;cases d <;> rfl
   rw [c1,cond_false,n1,zaa]
   dsimp only
   rw [hnb,c2,cond_false,a1,zaa,a2,zaa]
   dsimp only
   rw [show (bif (!(true == true)) then true else (!(true == true)))=false from rfl,cond_false,zdO,zaa,zaa,Bool.not_true,cond_false,s1,zaa,s2,zaa]
   dsimp only
   rw [show (bif (!(true == true)) then true else (!(true == true)))=false from rfl,cond_false,zej,zaa,zaa,Bool.not_true,cond_false]
   refine ex_true3 (minus_eq hB ?_)
   dsimp only
   rw [hlen,beq_self_eq_true,Bool.not_true,cond_false,k1,zaa]
   dsimp only
   refine bdR_go3 (s:=()) ?_ ?_
   · rw [show (bif true then true else false)=true from rfl,cond_true]
     refine fits_eq hN hB k2 k3 ?_
     dsimp only
     rw [beq_self_eq_true,Bool.not_true,cond_false]
     exact ⟨_,rfl,rfl⟩
   refine bdR_go3 (s:=()) ?_ (true_ex3 (tail_eq hc))
   by_cases hp:0 < ((ly F w A R).length:Int)
   · obtain ⟨q,q1,_,q3⟩:=isFam_eq (F:=F) (w:=w) (L:=ly F w A R) hF.ok (by have:=hB.ly_len;omega) (fun a ha=>ok_isC (hB.aa.isC (zbm.subset ha)))
     obtain ⟨t1,t2⟩:=q3 hg
     have t3:=t2.2 (hB.famP (fun e=>by rw [e] at hp;exact absurd hp (by decide)))
     rw [decide_eq_true hp,cond_true,q1,zaa,t1,t3]
     exact ⟨_,rfl,rfl⟩
   · rw [decide_eq_false hp,cond_false]
     exact ⟨_,rfl,rfl⟩
end Go.PF
