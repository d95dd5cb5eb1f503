/- Helpers of the walks and plain laws. -/
import Derived.Test.YtdkfkiifbagnnaaGreatMsPA
set_option linter.unusedVariables false
namespace Go.PF
open Go.Pu
def PreP (S:List zac) (k:Nat) (i:Int) (p:zad→Prop):Prop:=∃ j:Nat,i=(j:Int)∧j < k∧∃ y,S[j]?=some y∧seqB y.seq=true∧p y.seq
structure SOk (S:List zac):Prop where
 len:S.length≤1048576
 sides:∀ y∈S,y.seq.left.length≤lim∧y.seq.right.length≤lim
theorem FQ_good {s:zad} (h:seqB s=true):FQ s:=by
 unfold seqB at h
 rw [Bool.and_eq_true,zaW,zaW] at h
 have g:∀ x,goodB x=true→FT x∧x.size≤1000:=fun x hx=>⟨FT_good hx,by
  obtain ⟨_,_,_,_,h80,_⟩:=good_ft hx;omega⟩
 have:=h.1.len;have:=h.2.len
 exact ⟨fun x hx=>g x (h.1.good x hx),fun x hx=>g x (h.2.good x hx),by omega,by omega⟩
theorem FT_AB {t:Ft} (h:t.wf=true) (hl:∀ c,t≠.leaf c) (hz:t.txt.length≤80):(FT t.tA∧t.tA.size≤1000)∧((∃ op a b,t=.bin op a b)→FT t.tB∧t.tB.size≤1000):=by
 cases t with
 | leaf c=>exact absurd rfl (hl c)
 | neg a =>
  simp only [Ft.txt,List.length_cons] at hz
  exact ⟨⟨FT_txt (t:=a) h,by show (tx a.txt).size≤_;rw [zaB];omega⟩,fun ⟨_,_,_,e⟩=>by cases e⟩
 | bin op a b =>
  simp only [Ft.txt,List.length_cons,List.length_append,List.length_nil] at hz
  simp only [Ft.wf,Bool.and_eq_true] at h
  exact ⟨⟨FT_txt h.1.2,by show (tx a.txt).size≤_;rw [zaB];omega⟩,fun _=>⟨FT_txt h.2,by show (tx b.txt).size≤_;rw [zaB];omega⟩⟩
theorem FQ_prem {s:zad} {t:Ft} {l:Bool} (hs:seqB s=true) (hw:t.wf=true) (hz:t.txt.length≤80) (h0:ruleV t l≠0):∀ p∈premV s (ruleV t l) t,FQ p:=by
 have hq:=FQ_good hs
 have hl:∀ c,t≠.leaf c:=fun c e=>by subst e;exact h0 rfl
 obtain ⟨hA,hB⟩:=FT_AB hw hl hz
 have hS:=hs
 unfold seqB at hS
 rw [Bool.and_eq_true,zaW,zaW] at hS
 have n1:=hS.1.len
 have n2:=hS.2.len
 have lk:∀ {m:List ByteArray} {x:ByteArray},(∀ y∈m,FT y∧y.size≤1000)→∀ y∈lackS m x,FT y∧y.size≤1000:=fun h y hy=>h y (List.mem_filter.1 hy).1
 have w:∀ {m q:List ByteArray},(∀ y∈m,FT y∧y.size≤1000)→(∀ y∈q,FT y∧y.size≤1000)→∀ y∈wS m q,FT y∧y.size≤1000:=fun h1 h2 y hy=>by
  unfold wS at hy
  rw [zbL STO_F,List.mem_append] at hy
  exact hy.elim (h1 y) (h2 y)
 have wl:∀ m q:List ByteArray,(wS m q).length≤m.length + q.length:=fun m q=>by
  have:=setO_len (l:=m++q)
  unfold wS;rw [List.length_append] at this;exact this
 have k1:=zbE s.left (tx t.txt)
 have k2:=zbE s.right (tx t.txt)
 have oneA:∀ y∈[t.tA],FT y∧y.size≤1000:=fun y hy=>by rw [List.mem_singleton.1 hy];exact hA
 have a1:=wl s.left [t.tA];have a2:=wl s.right [t.tA]
 have a3:=wl (lackS s.left (tx t.txt)) [t.tA];have a4:=wl (lackS s.right (tx t.txt)) [t.tA]
 have a5:=wl (lackS s.left (tx t.txt)) [t.tB];have a6:=wl (lackS s.right (tx t.txt)) [t.tB]
 have a7:=wl (lackS s.left (tx t.txt)) [t.tA,t.tB];have a8:=wl (lackS s.right (tx t.txt)) [t.tA,t.tB]
 simp only [List.length_cons,List.length_nil] at a1 a2 a3 a4 a5 a6 a7 a8
 cases t with
 | leaf c=>exact absurd rfl (hl c)
 | neg a =>
  cases l with
  | true =>
   intro p hp
   have hp:p∈[(⟨lackS s.left (tx (Ft.neg a).txt),wS s.right [(Ft.neg a).tA]⟩:zad)]:=hp
   rw [List.mem_singleton.1 hp]
   exact ⟨lk hq.l,w hq.r oneA,by dsimp only;omega,by dsimp only;omega⟩
  | false =>
   intro p hp
   have hp:p∈[(⟨wS s.left [(Ft.neg a).tA],lackS s.right (tx (Ft.neg a).txt)⟩:zad)]:=hp
   rw [List.mem_singleton.1 hp]
   exact ⟨w hq.l oneA,lk hq.r,by dsimp only;omega,by dsimp only;omega⟩
 | bin op a b =>
  have hB:=hB ⟨op,a,b,rfl⟩
  have oneB:∀ y∈[(Ft.bin op a b).tB],FT y∧y.size≤1000:=fun y hy=>by rw [List.mem_singleton.1 hy];exact hB
  have both:∀ y∈[(Ft.bin op a b).tA,(Ft.bin op a b).tB],FT y∧y.size≤1000:=fun y hy=>by
   rcases List.mem_cons.1 hy with rfl|hy
   · exact hA
   · rw [List.mem_singleton.1 hy];exact hB
  generalize hT:Ft.bin op a b=t at *
  have c1:FQ ⟨wS (lackS s.left (tx t.txt)) [t.tA,t.tB],s.right⟩:=⟨w (lk hq.l) both,hq.r,by dsimp only;omega,by dsimp only;omega⟩
  have c2:FQ ⟨s.left,wS (lackS s.right (tx t.txt)) [t.tA]⟩:=⟨hq.l,w (lk hq.r) oneA,by dsimp only;omega,by dsimp only;omega⟩
  have c3:FQ ⟨s.left,wS (lackS s.right (tx t.txt)) [t.tB]⟩:=⟨hq.l,w (lk hq.r) oneB,by dsimp only;omega,by dsimp only;omega⟩
  have c4:FQ ⟨wS (lackS s.left (tx t.txt)) [t.tA],s.right⟩:=⟨w (lk hq.l) oneA,hq.r,by dsimp only;omega,by dsimp only;omega⟩
  have c5:FQ ⟨wS (lackS s.left (tx t.txt)) [t.tB],s.right⟩:=⟨w (lk hq.l) oneB,hq.r,by dsimp only;omega,by dsimp only;omega⟩
  have c6:FQ ⟨s.left,wS (lackS s.right (tx t.txt)) [t.tA,t.tB]⟩:=⟨hq.l,w (lk hq.r) both,by dsimp only;omega,by dsimp only;omega⟩
  have c7:FQ ⟨lackS s.left (tx t.txt),wS s.right [t.tA]⟩:=⟨lk hq.l,w hq.r oneA,by dsimp only;omega,by dsimp only;omega⟩
  have c8:FQ ⟨wS s.left [t.tA],wS (lackS s.right (tx t.txt)) [t.tB]⟩:=⟨w hq.l oneA,w (lk hq.r) oneB,by dsimp only;omega,by dsimp only;omega⟩
  intro p hp
  unfold premV at hp
  dsimp only at hp
  split at hp
  · simp only [List.mem_cons,List.not_mem_nil,or_false] at hp;subst hp;exact c7
  split at hp
  · simp only [List.mem_cons,List.not_mem_nil,or_false] at hp;subst hp
    exact ⟨w hq.l oneA,lk hq.r,by dsimp only;omega,by dsimp only;omega⟩
  split at hp
  · simp only [List.mem_cons,List.not_mem_nil,or_false] at hp;subst hp;exact c1
  split at hp
  · simp only [List.mem_cons,List.not_mem_nil,or_false] at hp;rcases hp with rfl|rfl
    · exact c2
    · exact c3
  split at hp
  · simp only [List.mem_cons,List.not_mem_nil,or_false] at hp;rcases hp with rfl|rfl
    · exact c4
    · exact c5
  split at hp
  · simp only [List.mem_cons,List.not_mem_nil,or_false] at hp;subst hp;exact c6
  split at hp
  · simp only [List.mem_cons,List.not_mem_nil,or_false] at hp;rcases hp with rfl|rfl
    · exact c7
    · exact c5
  · simp only [List.mem_cons,List.not_mem_nil,or_false] at hp;subst hp;exact c8
theorem pre_impl {S:List zac} (hS:SOk S) {k:Nat} (hk:k≤S.length) {i:Int} {f:zad→Option Bool} {p:zad→Prop} (hf:∀ q,seqB q=true→∃ b,f q=some b∧(b=true↔p q)) :
 ∃ b,zbz i f (k:Int) S=some b∧(b=true↔PreP S k i p):=by
 have hl:=hS.len
 unfold zbz zbG
 have hw:wr ((k:Int) - 1)=(k:Int) - 1:=wr_of _ (by omega) (by omega)
 rw [hw]
 by_cases h:0≤i∧i≤(k:Int) - 1
 · rw [bifT (decide_eq_true h.1),decide_eq_true h.2,cond_true]
   obtain ⟨j,rfl⟩:=Int.eq_ofNat_of_zero_le h.1
   obtain ⟨y,hy⟩:∃ y,S[j]?=some y:=⟨_,List.getElem?_eq_getElem (by omega)⟩
   have sd:=hS.sides y (List.mem_of_getElem? hy)
   rw [zaP,hy,zae,zdd sd.1 sd.2,zae,zae]
   cases hq:seqB y.seq with
   | false =>
    refine ⟨_,rfl,⟨fun g=>(by cases g),fun ⟨j',e,_,y',e1,e2,_⟩=>?_⟩⟩
    have:j'=j:=by omega
    subst this
    rw [hy] at e1;cases e1;rw [hq] at e2;cases e2
   | true =>
    obtain ⟨b,b1,b2⟩:=hf y.seq hq
    rw [cond_true,zae,b1]
    refine ⟨_,rfl,b2.trans ⟨fun g=>⟨j,rfl,by omega,y,hy,hq,g⟩,fun ⟨j',e,_,y',e1,_,e3⟩=>?_⟩⟩
    have:j'=j:=by omega
    subst this
    rw [hy] at e1;cases e1;exact e3
 · have:(bif decide (0≤i) then decide (i≤(k:Int) - 1) else false)=false:=by
    by_cases h0:0≤i
    · rw [decide_eq_true h0,cond_true];exact decide_eq_false fun g=>h ⟨h0,g⟩
    · rw [decide_eq_false h0];rfl
   rw [this]
   refine ⟨_,rfl,⟨fun g=>(by cases g),fun ⟨j,e,e2,_⟩=>absurd ⟨by omega,by omega⟩ h⟩⟩
theorem pre_spec {S:List zac} (hS:SOk S) {k:Nat} (hk:k≤S.length) {i:Int}:∃ b,zb1 S (k:Int) i=some b∧(b=true↔PreP S k i fun _=>True):=by
 have hl:=hS.len
 unfold zb1 za3
 have hw:wr ((k:Int) - 1)=(k:Int) - 1:=wr_of _ (by omega) (by omega)
 rw [hw]
 by_cases h:0≤i∧i≤(k:Int) - 1
 · rw [bifT (decide_eq_true h.1),decide_eq_true h.2,cond_true]
   obtain ⟨j,rfl⟩:=Int.eq_ofNat_of_zero_le h.1
   obtain ⟨y,hy⟩:∃ y,S[j]?=some y:=⟨_,List.getElem?_eq_getElem (by omega)⟩
   rw [zaP,hy,zae,zdT]
   refine ⟨_,rfl,⟨fun g=>⟨j,rfl,by omega,y,hy,g,trivial⟩,fun ⟨j',e,_,y',e1,e2,_⟩=>?_⟩⟩
   have:j'=j:=by omega
   subst this
   rw [hy] at e1;cases e1;exact e2
 · have:(bif decide (0≤i) then decide (i≤(k:Int) - 1) else false)=false:=by
    by_cases h0:0≤i
    · rw [decide_eq_true h0,cond_true];exact decide_eq_false fun g=>h ⟨h0,g⟩
    · rw [decide_eq_false h0];rfl
   rw [this]
   refine ⟨_,rfl,⟨fun g=>(by cases g),fun ⟨j,e,e2,_⟩=>absurd ⟨by omega,by omega⟩ h⟩⟩
def PartP (a b:List ByteArray):Prop:=∀ x∈a,x∈b
theorem zdg (a b:List ByteArray):∃ r,zbO a b=some r∧(r=true↔PartP a b):=by
 unfold zbO
 rw [zcd (p:=fun _ y => !decide (y∈b)) (v:=false) (fun i y _=>by rw [zde,zae]),anyI_any]
 cases h:a.any fun y => !decide (y∈b) with
 | true =>
  refine ⟨_,rfl,⟨fun g=>(by cases g),fun g=>?_⟩⟩
  obtain ⟨x,hx,e⟩:=List.any_eq_true.1 h
  rw [Bool.not_eq_true',decide_eq_false_iff_not] at e
  exact absurd (g x hx) e
 | false =>
  refine ⟨_,rfl,⟨fun _ x hx=>?_,fun _=>rfl⟩⟩
  have:=List.any_eq_false.1 h x hx
  simpa using this
theorem zdX (a b:List ByteArray):∃ r,zcv a b=some r∧(r=true↔PartP a b):=by
 unfold zcv
 rw [containsFuncS (g:=fun y => !decide (y∈b)) (fun y _=>by unfold zc1;rw [zcH];rfl),zae]
 refine ⟨_,rfl,?_⟩
 rw [Bool.not_eq_true',List.any_eq_false]
 constructor
 · intro h x hx;have:=h x hx;simpa using this
 · intro h x hx;simpa using h x hx
def CorP (S:List zac) (k:Nat) (s:zac):Prop:=seqB s.seq=true ∧
  ((s.rule=1∧bs s.main=[]∧s.a=0∧s.b=0∧axB s.seq=true) ∨
   (s.rule=10∧bs s.main=[]∧s.b=0∧PreP S k s.a fun t=>PartP t.left s.seq.left∧PartP t.right s.seq.right) ∨
   (s.rule=11∧goodB s.main=true∧PreP S k s.a (fun t=>(⟨s.seq.left,wS s.seq.right [s.main]⟩:zad)=t)∧PreP S k s.b (fun t=>(⟨wS s.seq.left [s.main],s.seq.right⟩:zad)=t)) ∨
   (∃ t l,F? (bs s.main)=some t∧s.main.size≤80∧s.rule=ruleV t l∧s.rule≠0∧s.main∈(bif l then s.seq.left else s.seq.right) ∧
     ∃ p r,premV s.seq s.rule t=p::r∧PreP S k s.a (fun x=>p=x)∧((r=[]∧s.b=0)∨∃ q,r=[q]∧PreP S k s.b (fun x=>q=x))))
theorem PreP.wk {S:List zac} {k:Nat} {i:Int} {p q:zad→Prop} (h:PreP S k i p) (hpq:∀ t,p t→q t):PreP S k i q:=by
 obtain ⟨j,h1,h2,y,h3,h4,h5⟩:=h
 exact ⟨j,h1,h2,y,h3,h4,hpq _ h5⟩
theorem PreP.at {S:List zac} {k:Nat} {p:zad→Prop} {j:Nat} {y:zac} (hy:S[j]?=some y) (h:PreP S k (j:Int) p):p y.seq:=by
 obtain ⟨j',h1,h2,y',h3,h4,h5⟩:=h
 have:j'=j:=by omega
 subst this
 rw [hy] at h3;cases h3;exact h5
end Go.PF
namespace Go.PF
open Go.Pu
theorem isEmp' (s:ByteArray):(s.toList == (ByteArray.mk #[]).toList)=decide (bs s=[]):=by
 rw [isEmp];cases bs s <;> simp
theorem same_impl {p:zad} (x:zad):∃ b,(fun x0=>za5 x0 p) x=some b∧(b=true↔p=x):=by
 obtain ⟨r,r1,r2⟩:=zeq p x
 refine ⟨r,?_,r2⟩
 show bd (zcw p x) (fun r29=>some r29)=_
 rw [r1];rfl
theorem impl_cor {S:List zac} (hS:SOk S) {k:Nat} {s:zac} (hs:S[k]?=some s):∃ b,zb9 S (k:Int)=some b∧(b=true↔CorP S k s):=by
 have hk:=zat hs
 have sd:=hS.sides s (List.mem_of_getElem? hs)
 unfold zb9
 rw [zaP,hs,zae,zdd sd.1 sd.2,zae]
 cases hq:seqB s.seq with
 | false =>
  refine ⟨_,rfl,⟨fun g=>(by cases g),fun g=>?_⟩⟩
  rw [g.1] at hq;cases hq
 | true =>
  have hQ:=hq
  unfold seqB at hQ
  rw [Bool.and_eq_true,zaW,zaW] at hQ
  have n1:=hQ.1.len
  have n2:=hQ.2.len
  rw [Bool.not_true,cond_false]
  by_cases r1:s.rule=1
  · rw [r1,beq_self_eq_true,cond_true,isEmp']
    have key:∀ b,(b=true↔bs s.main=[]∧s.a=0∧s.b=0∧axB s.seq=true)→(b=true↔CorP S k s):=fun b hb=>by
     rw [hb]
     constructor
     · exact fun ⟨h1,h2,h3,h4⟩=>⟨hq,.inl ⟨r1,h1,h2,h3,h4⟩⟩
     · rintro ⟨_,⟨_,h⟩|⟨e,_⟩|⟨e,_⟩|⟨t,l,_,_,e,_⟩⟩
       · exact h
       · omega
       · omega
       · have:=(zbs t l).2.2;omega
    by_cases c:bs s.main=[]∧s.a=0∧s.b=0
    · obtain ⟨c1,c2,c3⟩:=c
      rw [decide_eq_true c1,c2,c3]
      refine ⟨axB s.seq,?_,key _ ⟨fun h=>⟨c1,c2,c3,h⟩,fun h=>h.2.2.2⟩⟩
      show bd (bd (zcu s.seq) fun r97=>some r97) (fun t90=>some t90)=_
      rw [impl_isSeqAxiom_eq];rfl
    · refine ⟨false,?_,key _ ⟨fun h=>(by cases h),fun h=>absurd ⟨h.1,h.2.1,h.2.2.1⟩ c⟩⟩
      have:(bif (bif (decide (bs s.main=[])) then (s.a == 0) else false) then (s.b == 0) else false)=false:=by
       by_cases c1:bs s.main=[]
       · rw [decide_eq_true c1,cond_true]
         by_cases c2:s.a=0
         · rw [c2,beq_self_eq_true,cond_true,beq_eq_false_iff_ne];exact fun c3=>c ⟨c1,c2,c3⟩
         · rw [beq_eq_false_iff_ne.2 c2];rfl
       · rw [decide_eq_false c1];rfl
      rw [this];rfl
  · rw [beq_eq_false_iff_ne.2 r1,cond_false]
    by_cases r10:s.rule=10
    · rw [r10,beq_self_eq_true,cond_true,isEmp']
      have key:∀ b,(b=true↔bs s.main=[]∧s.b=0∧PreP S k s.a fun t=>PartP t.left s.seq.left∧PartP t.right s.seq.right)→(b=true↔CorP S k s):=fun b hb=>by
       rw [hb]
       constructor
       · exact fun ⟨h1,h2,h3⟩=>⟨hq,.inr (.inl ⟨r10,h1,h2,h3⟩)⟩
       · rintro ⟨_,⟨e,_⟩|⟨_,h⟩|⟨e,_⟩|⟨t,l,_,_,e,_⟩⟩
         · omega
         · exact h
         · omega
         · have:=(zbs t l).2.1;omega
      by_cases c:bs s.main=[]∧s.b=0
      · obtain ⟨c1,c2⟩:=c
        rw [decide_eq_true c1,c2]
        obtain ⟨b,b1,b2⟩:=pre_impl hS (k:=k) (by omega) (i:=s.a) (f:=fun x0=>zbT x0 s) (p:=fun t=>PartP t.left s.seq.left∧PartP t.right s.seq.right) (fun q _=>by
         show ∃ b,zbT q s=some b∧_
         unfold zbT
         obtain ⟨u,u1,u2⟩:=zdX q.left s.seq.left
         obtain ⟨v,v1,v2⟩:=zdX q.right s.seq.right
         rw [u1,zae]
         cases u with
         | false=>exact ⟨_,rfl,⟨fun g=>(by cases g),fun g=>absurd (u2.2 g.1) (by simp)⟩⟩
         | true=>rw [cond_true,v1];exact ⟨_,rfl,v2.trans ⟨fun g=>⟨u2.1 rfl,g⟩,fun g=>g.2⟩⟩)
        refine ⟨b,?_,key _ ⟨fun h=>⟨c1,c2,b2.1 h⟩,fun h=>b2.2 h.2.2⟩⟩
        show bd (bd (zbz s.a (fun x0=>zbT x0 s) (k:Int) S) fun r126=>some r126) (fun t119=>some t119)=_
        rw [b1];rfl
      · refine ⟨false,?_,key _ ⟨fun h=>(by cases h),fun h=>absurd ⟨h.1,h.2.1⟩ c⟩⟩
        have:(bif (decide (bs s.main=[])) then (s.b == 0) else false)=false:=by
         by_cases c1:bs s.main=[]
         · rw [decide_eq_true c1,cond_true,beq_eq_false_iff_ne];exact fun c3=>c ⟨c1,c3⟩
         · rw [decide_eq_false c1];rfl
        rw [this];rfl
    · rw [beq_eq_false_iff_ne.2 r10,cond_false]
      cases hg:goodB s.main with
      | false =>
       rw [zdQ hg,zae]
       refine ⟨false,rfl,⟨fun g=>(by cases g),?_⟩⟩
       rintro ⟨_,⟨e,_⟩|⟨e,_⟩|⟨_,e,_⟩|⟨t,l,e,e2,_⟩⟩
       · omega
       · omega
       · rw [hg] at e;cases e
       · rw [zbY.2 ⟨t,e,e2⟩] at hg;cases hg
      | true =>
       obtain ⟨t,t1,t2,t3,t4,t5⟩:=good_ft hg
       rw [zdc t1 t4,zae]
       dsimp only
       rw [Bool.not_true,cond_false]
       by_cases r11:s.rule=11
       · rw [r11,beq_self_eq_true,cond_true,zaX (by simp;omega),zae]
         obtain ⟨u,u1,u2⟩:=pre_impl hS (k:=k) (by omega) (i:=s.a) (f:=fun x0=>za5 x0 ⟨s.seq.left,wS s.seq.right [s.main]⟩) (p:=fun t=>(⟨s.seq.left,wS s.seq.right [s.main]⟩:zad)=t) (fun q _=>same_impl q)
         obtain ⟨v,v1,v2⟩:=pre_impl hS (k:=k) (by omega) (i:=s.b) (f:=fun x0=>za5 x0 ⟨wS s.seq.left [s.main],s.seq.right⟩) (p:=fun t=>(⟨wS s.seq.left [s.main],s.seq.right⟩:zad)=t) (fun q _=>same_impl q)
         have key:∀ b,(b=true↔u=true∧v=true)→(b=true↔CorP S k s):=fun b hb=>by
          rw [hb,u2,v2]
          constructor
          · exact fun ⟨h1,h2⟩=>⟨hq,.inr (.inr (.inl ⟨r11,hg,h1,h2⟩))⟩
          · rintro ⟨_,⟨e,_⟩|⟨e,_⟩|⟨_,_,h⟩|⟨t,l,_,_,e,_⟩⟩
            · omega
            · omega
            · exact h
            · have:=(zbs t l).2.1;omega
         rw [u1,zae]
         cases u with
         | false=>exact ⟨false,rfl,key _ ⟨fun g=>(by cases g),fun g=>by cases g.1⟩⟩
         | true =>
          rw [cond_true,zaX (by simp;omega),zae,v1]
          exact ⟨v,rfl,key _ ⟨fun g=>⟨rfl,g⟩,fun g=>g.2⟩⟩
       · obtain ⟨n,g1,g2,_⟩:=Ft.get_eq t
         rw [beq_eq_false_iff_ne.2 r11,cond_false,g1,zae,g2,zdU t2,zdU t2]
         have fit:∀ (l:Bool) (side:List ByteArray),(bif ruleV t l == s.rule then bd (zbo side s.main) (fun r=>some r) else some false)=some (decide (s.rule=ruleV t l∧s.main∈side)):=by
          intro l side
          by_cases e:ruleV t l=s.rule
          · rw [beq_iff_eq.2 e,cond_true,zcH,zae]
            congr 1
            exact decide_eq_decide.2 ⟨fun g=>⟨e.symm,g⟩,fun g=>g.2⟩
          · rw [beq_eq_false_iff_ne.2 e,cond_false,decide_eq_false fun g=>e g.1.symm]
         rw [fit,zae,fit,zae]
         have nofit:(∀ l:Bool,¬ (s.rule=ruleV t l∧s.rule≠0∧s.main∈(bif l then s.seq.left else s.seq.right)))→¬ CorP S k s:=by
          rintro hno ⟨_,⟨e,_⟩|⟨e,_⟩|⟨e,_⟩|⟨t',l,e1,e2,e3,e4,e5,_⟩⟩
          · omega
          · omega
          · omega
          · rw [t1] at e1;cases e1
            exact hno l ⟨e3,e4,e5⟩
         by_cases hf:∃ l:Bool,s.rule=ruleV t l∧s.rule≠0∧s.main∈(bif l then s.seq.left else s.seq.right)
         · obtain ⟨l,f1,f2,f3⟩:=hf
           have tst:(bif (s.rule == 0) then true else (bif (!decide (s.rule=ruleV t true∧s.main∈s.seq.left)) then (!decide (s.rule=ruleV t false∧s.main∈s.seq.right)) else false))=false:=by
            rw [beq_eq_false_iff_ne.2 f2,cond_false]
            cases l with
            | true=>rw [decide_eq_true (show s.rule=ruleV t true∧s.main∈s.seq.left from ⟨f1,f3⟩)];rfl
            | false =>
             rw [decide_eq_true (show s.rule=ruleV t false∧s.main∈s.seq.right from ⟨f1,f3⟩)]
             cases decide (s.rule=ruleV t true∧s.main∈s.seq.left) <;> rfl
           rw [tst,cond_false,impl_premisesOf_eq (by omega) (by omega) ⟨l,f1⟩ f2 t2,zae]
           have only:∀ P:List zad→Prop,(CorP S k s↔∃ p r,premV s.seq s.rule t=p::r∧PreP S k s.a (fun x=>p=x)∧((r=[]∧s.b=0)∨∃ q,r=[q]∧PreP S k s.b (fun x=>q=x))):=fun _=>by
            constructor
            · rintro ⟨_,⟨e,_⟩|⟨e,_⟩|⟨e,_⟩|⟨t',l',e1,e2,e3,e4,e5,h⟩⟩
              · omega
              · omega
              · omega
              · rw [t1] at e1;cases e1;exact h
            · exact fun h=>⟨hq,.inr (.inr (.inr ⟨t,l,t1,t4,f1,f2,f3,h⟩))⟩
           have only:=only (fun _=>True)
           have pl:=premV_len s.seq s.rule t
           cases hP:premV s.seq s.rule t with
           | nil =>
            exfalso
            unfold premV at hP
            dsimp only at hP
            repeat (split at hP;· cases hP)
            cases hP
           | cons p r =>
            rw [hP] at only pl
            obtain ⟨u,u1,u2⟩:=pre_impl hS (k:=k) (by omega) (i:=s.a) (f:=fun x0=>za5 x0 p) (p:=fun x=>p=x) (fun q _=>same_impl q)
            rw [show ix (p::r) 0=some p from rfl,zae,u1,zae]
            cases u with
            | false =>
             refine ⟨false,rfl,⟨fun g=>(by cases g),fun g=>?_⟩⟩
             obtain ⟨p',r',e,e2,_⟩:=only.1 g
             cases e
             exact u2.2 e2
            | true =>
             rw [Bool.not_true,cond_false]
             cases r with
             | nil =>
              rw [show ((len [p]) == 1)=true from rfl,cond_true]
              refine ⟨_,rfl,?_⟩
              rw [only,beq_iff_eq]
              constructor
              · exact fun g=>⟨p,[],rfl,u2.1 rfl,.inl ⟨rfl,g⟩⟩
              · rintro ⟨p',r',e,_,⟨_,g⟩|⟨q,e2,_⟩⟩
                · exact g
                · cases e;cases e2
             | cons q r' =>
              have:r'=[]:=by
               simp only [List.length_cons] at pl
               exact List.eq_nil_of_length_eq_zero (by omega)
              subst this
              obtain ⟨v,v1,v2⟩:=pre_impl hS (k:=k) (by omega) (i:=s.b) (f:=fun x0=>za5 x0 q) (p:=fun x=>q=x) (fun q _=>same_impl q)
              rw [show ((len [p,q]) == 1)=false from rfl,cond_false,show ix [p,q] 1=some q from rfl,zae,v1]
              refine ⟨v,rfl,?_⟩
              rw [only,v2]
              constructor
              · exact fun g=>⟨p,[q],rfl,u2.1 rfl,.inr ⟨q,rfl,g⟩⟩
              · rintro ⟨p',r',e,_,⟨e2,_⟩|⟨q',e2,g⟩⟩
                · cases e;cases e2
                · cases e;cases e2;exact g
         · have hno:=nofit fun l g=>hf ⟨l,g⟩
           have tst:(bif (s.rule == 0) then true else (bif (!decide (s.rule=ruleV t true∧s.main∈s.seq.left)) then (!decide (s.rule=ruleV t false∧s.main∈s.seq.right)) else false))=true:=by
            by_cases f2:s.rule=0
            · rw [f2];rfl
            · rw [beq_eq_false_iff_ne.2 f2,cond_false,decide_eq_false (fun g=>hf ⟨true,g.1,f2,g.2⟩),decide_eq_false (fun g=>hf ⟨false,g.1,f2,g.2⟩)];rfl
           rw [tst]
           exact ⟨false,rfl,⟨fun g=>(by cases g),fun g=>absurd g hno⟩⟩
end Go.PF
namespace Go.PF
open Go.Pu
theorem ruleV_par {t:Ft} {l:Bool} (h:ruleV t l≠0):((ruleV t l).tmod 2 == 0)=l:=by
 cases t with
 | leaf c=>exact absurd rfl h
 | neg a=>cases l <;> rfl
 | bin op a b =>
  simp only [ruleV]
  split
  · cases l <;> rfl
  · split
    · cases l <;> rfl
    · cases l <;> rfl
theorem spec_cut {s:zad} {m:ByteArray} {t:Ft} (h:F? (bs m)=some t) (hs:m.size≤1000) (h1:SS ltF s.left) (h2:SS ltF s.right) (l1:s.left.length≤1000) (l2:s.right.length≤1000) :
 zb4 s 11 m=some [⟨s.left,wS s.right [m]⟩,⟨wS s.left [m],s.right⟩]:=by
 unfold zb4
 rw [zdf h hs,zae,zcK (by omega),zae,zcK (by omega),zae]
 rw [show ((11:Int) == 2)=false from rfl,show ((11:Int) == 3)=false from rfl,show ((11:Int) == 4)=false from rfl,show ((11:Int) == 5)=false from rfl,show ((11:Int) == 6)=false from rfl,show ((11:Int) == 7)=false from rfl,show ((11:Int) == 8)=false from rfl,show ((11:Int) == 9)=false from rfl,
  cond_false,cond_false,cond_false,cond_false,cond_false,cond_false,cond_false,cond_false,za7 h2 (by omega),zae,za7 h1 (by omega),zae]
theorem spec_due {S:List zac} (hS:SOk S) {k:Nat} (hk:k≤S.length) {s:zac} {ps:List zad} {p:zad} {r:List zad} (hps:ps=p::r) (hr:r.length≤1) (hF:∀ x∈ps,FQ x) (hA:PreP S k s.a fun _=>True) :
 ∃ b,(bd (ix ps 0) (fun x312=>bd (ix S s.a) (fun x324=>bd (PF.zbP x312 x324.seq) (fun r330=>(bif (!r330) then some false else (bif ((len ps) == 1) then some (s.b == 0) else bd (PF.zb1 S (k:Int) s.b) (fun r338=>bd (bif r338 then bd (ix ps 1) (fun x379=>bd (ix S s.b) (fun x391=>bd (PF.zbP x379 x391.seq) (fun r397=>some r397))) else some false) (fun t366=>some t366))))))))=some b ∧
  (b=true↔PreP S k s.a (fun x=>p=x)∧((r=[]∧s.b=0)∨∃ q,r=[q]∧PreP S k s.b (fun x=>q=x))):=by
 subst hps
 obtain ⟨j,e,hj,y,hy,hq,_⟩:=hA
 have fp:=hF p (List.mem_cons_self ..)
 obtain ⟨u,u1,u2⟩:=zdW fp (FQ_good hq)
 have pa:PreP S k s.a (fun x=>p=x)↔u=true:=by
  rw [u2]
  constructor
  · intro h;rw [e] at h;exact h.at hy
  · exact fun h=>⟨j,e,hj,y,hy,hq,h⟩
 rw [pa,show ix (p::r) 0=some p from rfl,zae,e,zaP,hy,zae,u1,zae]
 cases u with
 | false=>exact ⟨false,rfl,⟨fun g=>(by cases g),fun g=>by cases g.1⟩⟩
 | true =>
  rw [Bool.not_true,cond_false]
  cases r with
  | nil =>
   rw [show ((len [p]) == 1)=true from rfl,cond_true]
   refine ⟨_,rfl,?_⟩
   rw [beq_iff_eq]
   constructor
   · exact fun g=>⟨rfl,.inl ⟨rfl,g⟩⟩
   · rintro ⟨_,⟨_,g⟩|⟨q,e2,_⟩⟩
     · exact g
     · cases e2
  | cons q r' =>
   have:r'=[]:=by
    simp only [List.length_cons] at hr
    exact List.eq_nil_of_length_eq_zero (by omega)
   subst this
   have fq:=hF q (by simp)
   rw [show ((len [p,q]) == 1)=false from rfl,cond_false]
   obtain ⟨v,v1,v2⟩:=pre_spec hS hk (i:=s.b)
   rw [v1,zae]
   cases v with
   | false =>
    refine ⟨false,rfl,⟨fun g=>(by cases g),?_⟩⟩
    rintro ⟨_,⟨e2,_⟩|⟨q',e2,g⟩⟩
    · cases e2
    · exact v2.2 (g.wk fun _ _=>trivial)
   | true =>
    obtain ⟨j2,e2,hj2,y2,hy2,hq2,_⟩:=v2.1 rfl
    obtain ⟨w,w1,w2⟩:=zdW fq (FQ_good hq2)
    rw [cond_true,show ix [p,q] 1=some q from rfl,zae,e2,zaP,hy2,zae,w1]
    refine ⟨w,rfl,?_⟩
    rw [w2]
    constructor
    · exact fun g=>⟨rfl,.inr ⟨q,rfl,j2,rfl,hj2,y2,hy2,hq2,g⟩⟩
    · rintro ⟨_,⟨e3,_⟩|⟨q',e3,g⟩⟩
      · cases e3
      · cases e3;exact g.at hy2
theorem spec_cor {S:List zac} (hS:SOk S) {k:Nat} {s:zac} (hs:S[k]?=some s):∃ b,zb5 S (k:Int)=some b∧(b=true↔CorP S k s):=by
 have hk:=zat hs
 unfold zb5
 rw [zaP,hs,zae,zdT,zae]
 cases hq:seqB s.seq with
 | false =>
  refine ⟨_,rfl,⟨fun g=>(by cases g),fun g=>?_⟩⟩
  rw [g.1] at hq;cases hq
 | true =>
  have hQ:=hq
  unfold seqB at hQ
  rw [Bool.and_eq_true,zaW,zaW] at hQ
  have n1:=hQ.1.len
  have n2:=hQ.2.len
  rw [Bool.not_true,cond_false]
  by_cases rr:1≤s.rule∧s.rule≤11
  · have hin:za3 s.rule 1 11=true:=by unfold za3;rw [decide_eq_true rr.1,decide_eq_true rr.2];rfl
    rw [hin,Bool.not_true,cond_false]
    by_cases r1:s.rule=1
    · rw [r1,beq_self_eq_true,cond_true,isEmp']
      have key:∀ b,(b=true↔bs s.main=[]∧s.a=0∧s.b=0∧axB s.seq=true)→(b=true↔CorP S k s):=fun b hb=>by
       rw [hb]
       constructor
       · exact fun ⟨h1,h2,h3,h4⟩=>⟨hq,.inl ⟨r1,h1,h2,h3,h4⟩⟩
       · rintro ⟨_,⟨_,h⟩|⟨e,_⟩|⟨e,_⟩|⟨t,l,_,_,e,_⟩⟩
         · exact h
         · omega
         · omega
         · have:=(zbs t l).2.2;omega
      by_cases c:bs s.main=[]∧s.a=0∧s.b=0
      · obtain ⟨c1,c2,c3⟩:=c
        rw [decide_eq_true c1,c2,c3]
        refine ⟨axB s.seq,?_,key _ ⟨fun h=>⟨c1,c2,c3,h⟩,fun h=>h.2.2.2⟩⟩
        show bd (bd (zco s.seq) fun r97=>some r97) (fun t90=>some t90)=_
        rw [spec_l23Axiom_eq (by omega)];rfl
      · refine ⟨false,?_,key _ ⟨fun h=>(by cases h),fun h=>absurd ⟨h.1,h.2.1,h.2.2.1⟩ c⟩⟩
        have:(bif (bif (decide (bs s.main=[])) then (s.a == 0) else false) then (s.b == 0) else false)=false:=by
         by_cases c1:bs s.main=[]
         · rw [decide_eq_true c1,cond_true]
           by_cases c2:s.a=0
           · rw [c2,beq_self_eq_true,cond_true,beq_eq_false_iff_ne];exact fun c3=>c ⟨c1,c2,c3⟩
           · rw [beq_eq_false_iff_ne.2 c2];rfl
         · rw [decide_eq_false c1];rfl
        rw [this];rfl
    · rw [beq_eq_false_iff_ne.2 r1,cond_false]
      obtain ⟨ea,ea1,ea2⟩:=pre_spec hS (k:=k) (by omega) (i:=s.a)
      rw [ea1,zae]
      cases ea with
      | false =>
       refine ⟨false,rfl,⟨fun g=>(by cases g),fun g=>?_⟩⟩
       refine ea2.2 ?_
       rcases g with ⟨_,⟨e,_⟩|⟨_,_,_,h⟩|⟨_,_,h,_⟩|⟨_,_,_,_,_,_,_,_,_,_,h,_⟩⟩
       · exact absurd e r1
       · exact h.wk fun _ _=>trivial
       · exact h.wk fun _ _=>trivial
       · exact h.wk fun _ _=>trivial
      | true =>
       have hA:=ea2.1 rfl
       rw [Bool.not_true,cond_false]
       by_cases r10:s.rule=10
       · rw [r10,beq_self_eq_true,cond_true,isEmp']
         have key:∀ b,(b=true↔bs s.main=[]∧s.b=0∧PreP S k s.a fun t=>PartP t.left s.seq.left∧PartP t.right s.seq.right)→(b=true↔CorP S k s):=fun b hb=>by
          rw [hb]
          constructor
          · exact fun ⟨h1,h2,h3⟩=>⟨hq,.inr (.inl ⟨r10,h1,h2,h3⟩)⟩
          · rintro ⟨_,⟨e,_⟩|⟨_,h⟩|⟨e,_⟩|⟨t,l,_,_,e,_⟩⟩
            · omega
            · exact h
            · omega
            · have:=(zbs t l).2.1;omega
         by_cases c:bs s.main=[]∧s.b=0
         · obtain ⟨c1,c2⟩:=c
           rw [decide_eq_true c1,c2]
           obtain ⟨j,e,hj,y,hy,hyq,_⟩:=hA
           obtain ⟨u,u1,u2⟩:=zdg y.seq.left s.seq.left
           obtain ⟨v,v1,v2⟩:=zdg y.seq.right s.seq.right
           have pa:(PreP S k s.a fun t=>PartP t.left s.seq.left∧PartP t.right s.seq.right)↔u=true∧v=true:=by
            rw [u2,v2]
            constructor
            · intro h;rw [e] at h;exact h.at hy
            · exact fun h=>⟨j,e,hj,y,hy,hyq,h⟩
           rw [beq_self_eq_true,cond_true,cond_true,e,zaP,hy,zae,u1,zae,zae]
           cases u with
           | false=>exact ⟨false,rfl,key _ ⟨fun g=>(by cases g),fun g=>by cases (pa.1 g.2.2).1⟩⟩
           | true =>
            rw [cond_true,zae,v1]
            exact ⟨v,rfl,key _ ⟨fun g=>⟨c1,c2,pa.2 ⟨rfl,g⟩⟩,fun g=>(pa.1 g.2.2).2⟩⟩
         · refine ⟨false,?_,key _ ⟨fun h=>(by cases h),fun h=>absurd ⟨h.1,h.2.1⟩ c⟩⟩
           have:(bif (decide (bs s.main=[])) then (s.b == 0) else false)=false:=by
            by_cases c1:bs s.main=[]
            · rw [decide_eq_true c1,cond_true,beq_eq_false_iff_ne];exact fun c3=>c ⟨c1,c3⟩
            · rw [decide_eq_false c1];rfl
           rw [this];rfl
       · rw [beq_eq_false_iff_ne.2 r10,cond_false,zdP,zae]
         cases hg:goodB s.main with
         | false =>
          refine ⟨false,rfl,⟨fun g=>(by cases g),?_⟩⟩
          rintro ⟨_,⟨e,_⟩|⟨e,_⟩|⟨_,e,_⟩|⟨t,l,e,e2,_⟩⟩
          · omega
          · omega
          · rw [hg] at e;cases e
          · rw [zbY.2 ⟨t,e,e2⟩] at hg;cases hg
         | true =>
          obtain ⟨t,t1,t2,t3,t4,t5⟩:=good_ft hg
          rw [Bool.not_true,cond_false]
          by_cases r11:s.rule=11
          · rw [r11,beq_self_eq_true,Bool.not_true,cond_false,za9,spec_cut t1 (by omega) hQ.1.ord hQ.2.ord (by omega) (by omega),zae]
            have hqs:=FQ_good hq
            have gm:FT s.main∧s.main.size≤1000:=⟨FT_good hg,by omega⟩
            have w:∀ {m:List ByteArray},(∀ y∈m,FT y∧y.size≤1000)→∀ y∈wS m [s.main],FT y∧y.size≤1000:=fun h1 y hy=>by
             unfold wS at hy
             rw [zbL STO_F,List.mem_append,List.mem_singleton] at hy
             exact hy.elim (h1 y) fun e=>e ▸ gm
            have wl:∀ m:List ByteArray,(wS m [s.main]).length≤m.length + 1:=fun m=>by
             have:=setO_len (l:=m++[s.main])
             unfold wS;rw [List.length_append] at this;exact this
            have w1:=wl s.seq.left
            have w2:=wl s.seq.right
            obtain ⟨b,b1,b2⟩:=spec_due hS (k:=k) (by omega) (s:=s) (ps:=[⟨s.seq.left,wS s.seq.right [s.main]⟩,⟨wS s.seq.left [s.main],s.seq.right⟩]) rfl (by simp) (fun x hx=>by
             simp only [List.mem_cons,List.not_mem_nil,or_false] at hx
             rcases hx with rfl|rfl
             · exact ⟨hqs.l,w hqs.r,by dsimp only;omega,by dsimp only;omega⟩
             · exact ⟨w hqs.l,hqs.r,by dsimp only;omega,by dsimp only;omega⟩) hA
            refine ⟨b,b1,b2.trans ?_⟩
            constructor
            · rintro ⟨h1,⟨e,_⟩|⟨q,e,h2⟩⟩
              · cases e
              · cases e;exact ⟨hq,.inr (.inr (.inl ⟨r11,hg,h1,h2⟩))⟩
            · rintro ⟨_,⟨e,_⟩|⟨e,_⟩|⟨_,_,h1,h2⟩|⟨t,l,_,_,e,_⟩⟩
              · omega
              · omega
              · exact ⟨h1,.inr ⟨_,rfl,h2⟩⟩
              · have:=(zbs t l).2.1;omega
          · rw [beq_eq_false_iff_ne.2 r11,Bool.not_false,cond_true]
            generalize hl:(s.rule.tmod 2 == 0)=l
            have side:(bif l then (some (Rs.go s.seq.left):Option (Rs (List ByteArray) Empty)) else some (Rs.go s.seq.right))=some (Rs.go (bif l then s.seq.left else s.seq.right)):=by cases l <;> rfl
            rw [side,za9,spec_l23Rule_eq t1 (by omega),zae]
            have only:CorP S k s→s.rule=ruleV t l∧s.main∈(bif l then s.seq.left else s.seq.right):=by
             rintro ⟨_,⟨e,_⟩|⟨e,_⟩|⟨e,_⟩|⟨t',l',e1,e2,e3,e4,e5,_⟩⟩
             · omega
             · omega
             · omega
             · rw [t1] at e1;cases e1
               have:l'=l:=by
                rw [← hl,e3]
                exact (ruleV_par (by rw [← e3];exact e4)).symm
               rw [← this];exact ⟨e3,e5⟩
            by_cases e1:s.rule=ruleV t l
            · rw [show (ruleV t l == s.rule)=true by rw [beq_iff_eq];exact e1.symm,Bool.not_true,cond_false,zde,zae,zae]
              by_cases e2:s.main∈(bif l then s.seq.left else s.seq.right)
              · rw [decide_eq_true e2,Bool.not_true,cond_false,za9]
                have rb:=zbs t l
                rw [zep t1 (by omega) hQ.1.ord hQ.2.ord (by omega) (by omega) (by omega) (by omega),zae]
                have pl:=premV_len s.seq s.rule t
                cases hP:premV s.seq s.rule t with
                | nil =>
                 exfalso
                 unfold premV at hP
                 dsimp only at hP
                 repeat (split at hP;· cases hP)
                 cases hP
                | cons p r =>
                 rw [hP] at pl
                 simp only [List.length_cons] at pl
                 obtain ⟨b,b1,b2⟩:=spec_due hS (k:=k) (by omega) (s:=s) (ps:=p::r) rfl (by omega) (fun x hx=>by
                  rw [← hP,e1] at hx
                  exact FQ_prem hq t2 (by omega) (by omega) x hx) hA
                 refine ⟨b,b1,b2.trans ?_⟩
                 constructor
                 · exact fun h=>⟨hq,.inr (.inr (.inr ⟨t,l,t1,t4,e1,by omega,e2,p,r,hP,h⟩))⟩
                 · rintro ⟨_,⟨e,_⟩|⟨e,_⟩|⟨e,_⟩|⟨t',l',f1,f2,f3,f4,f5,p',r',f6,f7⟩⟩
                   · omega
                   · omega
                   · omega
                   · rw [t1] at f1;cases f1
                     rw [hP] at f6;cases f6;exact f7
              · rw [decide_eq_false e2]
                exact ⟨false,rfl,⟨fun g=>(by cases g),fun g=>absurd (only g).2 e2⟩⟩
            · rw [show (ruleV t l == s.rule)=false by rw [beq_eq_false_iff_ne];exact fun e=>e1 e.symm]
              exact ⟨false,rfl,⟨fun g=>(by cases g),fun g=>absurd (only g).1 e1⟩⟩
  · have hin:za3 s.rule 1 11=false:=by
     unfold za3
     by_cases h1:1≤s.rule
     · rw [decide_eq_true h1,cond_true];exact decide_eq_false fun g=>rr ⟨h1,g⟩
     · rw [decide_eq_false h1];rfl
    rw [hin]
    refine ⟨false,rfl,⟨fun g=>(by cases g),?_⟩⟩
    rintro ⟨_,⟨e,_⟩|⟨e,_⟩|⟨e,_⟩|⟨t,l,_,_,e,e4,_⟩⟩
    · omega
    · omega
    · omega
    · have:=zbs t l;omega
def PrfP (S:List zac):Prop:=1≤S.length∧S.length≤200∧∀ (k:Nat) (s:zac),S[k]?=some s→CorP S k s
theorem first_eq {S:List zac} (hS:SOk S) {f:List zac→Int→Option Bool} (hf:∀ (k:Nat) (s:zac),S[k]?=some s→∃ b,f S (k:Int)=some b∧(b=true↔CorP S k s)) {g:Nat→zac→Unit→Option (Lp Unit Int)}
 (hg:∀ i y u,g i y u=bd (f S ((i:Nat):Int)) (fun r43=>(bif (!r43) then some (Lp.rt ((i:Nat):Int)) else some (Lp.nx ())))) :
 ∃ r,bdR (forL (S:=Unit) (X:=Int) S g ()) (fun s22=>some (-1)) (fun x22=>some x22)=some r∧(r < 0↔∀ (k:Nat) (s:zac),S[k]?=some s→CorP S k s):=by
 have key:∀ (m:List zac) (k:Nat),S.drop k=m→∃ q,zaI g m k ()=some q∧((q=.go ()∧∀ j s,k≤j→S[j]?=some s→CorP S j s)∨∃ i:Nat,q=.rt (i:Int)∧∃ s,S[i]?=some s∧¬ CorP S i s):=by
  intro m
  induction m with
  | nil =>
   intro k hk
   refine ⟨_,rfl,.inl ⟨rfl,fun j s h1 h2=>?_⟩⟩
   have:=congrArg List.length hk
   rw [List.length_drop,List.length_nil] at this
   have:=zat h2
   omega
  | cons y m ih =>
   intro k hk
   have hy:S[k]?=some y:=by
    have:(S.drop k)[0]?=some y:=by rw [hk];rfl
    rwa [List.getElem?_drop,Nat.add_zero] at this
   have hk':S.drop (k + 1)=m:=by rw [← List.tail_drop,hk];rfl
   obtain ⟨b,b1,b2⟩:=hf k y hy
   cases b with
   | false =>
    refine ⟨.rt (k:Int),?_,.inr ⟨k,rfl,y,hy,fun h=>by cases b2.2 h⟩⟩
    rw [zaI,hg,b1];rfl
   | true =>
    obtain ⟨q,q1,q2⟩:=ih (k + 1) hk'
    refine ⟨q,by rw [zbp (s':=()) (by rw [hg,b1];rfl),q1],?_⟩
    rcases q2 with ⟨e,h⟩|h
    · refine .inl ⟨e,fun j s h1 h2=>?_⟩
      by_cases ej:j=k
      · subst ej;rw [hy] at h2;cases h2;exact b2.1 rfl
      · exact h j s (by omega) h2
    · exact .inr h
 obtain ⟨q,q1,q2⟩:=key S 0 rfl
 unfold forL
 rw [q1]
 rcases q2 with ⟨rfl,h⟩|⟨i,rfl,s,h1,h2⟩
 · exact ⟨_,rfl,⟨fun _ k s e=>h k s (by omega) e,fun _=>by omega⟩⟩
 · exact ⟨_,rfl,⟨fun g=>by omega,fun g=>absurd (g i s h1) h2⟩⟩
theorem zdY {S:List zac} (hS:SOk S):∃ b,zbQ S=some b∧(b=true↔PrfP S):=by
 unfold zbQ za3 PrfP
 by_cases h:1≤S.length∧S.length≤200
 · rw [bifT (decide_eq_true (show 1≤len S by rw [zaq];omega)),bifT (decide_eq_true (show len S≤200 by rw [zaq];omega))]
   unfold zdh
   obtain ⟨r,r1,r2⟩:=first_eq hS (f:=zb5) (fun k s e=>spec_cor hS e) (g:=fun i22 y21 s22=>bd (PF.zb5 S ((i22:Nat):Int)) (fun r43=>(bif (!r43) then some (Lp.rt ((i22:Nat):Int)) else some (Lp.nx ())))) (fun _ _ _=>rfl)
   rw [r1,zae]
   refine ⟨_,rfl,?_⟩
   rw [decide_eq_true_iff,r2]
   exact ⟨fun g=>⟨h.1,h.2,g⟩,fun g=>g.2.2⟩
 · have:(bif decide (1≤len S) then decide (len S≤200) else false)=false:=by
    rw [zaq]
    by_cases h1:1≤S.length
    · rw [decide_eq_true (by omega),cond_true];exact decide_eq_false fun g=>h ⟨h1,by omega⟩
    · rw [decide_eq_false (by omega)];rfl
   rw [this]
   exact ⟨false,rfl,⟨fun g=>(by cases g),fun g=>absurd ⟨g.1,g.2.1⟩ h⟩⟩
theorem impl_isSeqProof_eq {S:List zac} (hS:SOk S):∃ b,zca S=some b∧(b=true↔PrfP S):=by
 unfold zca zbG PrfP
 by_cases h:1≤S.length∧S.length≤200
 · rw [bifT (decide_eq_true (show 1≤len S by rw [zaq];omega)),bifT (decide_eq_true (show len S≤200 by rw [zaq];omega))]
   unfold zdl
   obtain ⟨r,r1,r2⟩:=first_eq hS (f:=zb9) (fun k s e=>impl_cor hS e) (g:=fun i22 y21 s22=>bd (PF.zb9 S ((i22:Nat):Int)) (fun r43=>(bif (!r43) then some (Lp.rt ((i22:Nat):Int)) else some (Lp.nx ())))) (fun _ _ _=>rfl)
   rw [r1,zae]
   refine ⟨_,rfl,?_⟩
   rw [decide_eq_true_iff,r2]
   exact ⟨fun g=>⟨h.1,h.2,g⟩,fun g=>g.2.2⟩
 · have:(bif decide (1≤len S) then decide (len S≤200) else false)=false:=by
    rw [zaq]
    by_cases h1:1≤S.length
    · rw [decide_eq_true (by omega),cond_true];exact decide_eq_false fun g=>h ⟨h1,by omega⟩
    · rw [decide_eq_false (by omega)];rfl
   rw [this]
   exact ⟨false,rfl,⟨fun g=>(by cases g),fun g=>absurd ⟨g.1,g.2.1⟩ h⟩⟩
theorem proof_both {S:List zac} (hS:SOk S):∃ b,zbQ S=some b∧zca S=some b∧(b=true↔PrfP S):=by
 obtain ⟨b,b1,b2⟩:=zdY hS
 obtain ⟨c,c1,c2⟩:=impl_isSeqProof_eq hS
 have:b=c:=Bool.eq_iff_iff.2 (b2.trans c2.symm)
 subst this
 exact ⟨b,b1,c1,b2⟩
end Go.PF
namespace Go.PF
open Go.Pu
def wtS (y:zac):Nat:=(y.seq.left.length + tot (·.size) y.seq.left) + (y.seq.right.length + tot (·.size) y.seq.right) + y.main.size
theorem sz_SeqStep {a:zac} {s:Int} (ha:okSeqStep a) (h0:0≤s) (h1:s≤1048576):∃ r,zb0 a s=some r∧(r < 0∨r + wtS a=s):=by
 unfold zb0 wtS
 obtain ⟨r,e,hr⟩:=sz_Sequent ha.1 h0 h1
 rw [e,zae]
 by_cases hn:r < 0
 · rw [bifT (decide_eq_true hn)]
   exact ⟨_,rfl,.inl (by omega)⟩
 · rw [bifF (decide_eq_false hn)]
   have hm:a.main.size≤9223372036854775807:=ha.2.2.1
   have hw:wr (r - (a.main.size:Int))=r - (a.main.size:Int):=wr_of _ (by omega) (by omega)
   rw [hw]
   by_cases hn':r - (a.main.size:Int) < 0
   · rw [bifT (decide_eq_true hn')]
     exact ⟨_,rfl,.inl (by omega)⟩
   · rw [bifF (decide_eq_false hn')]
     exact ⟨_,rfl,.inr (by omega)⟩
theorem sz_SeqStepS {a:List zac} {s:Int} (ha:okL okSeqStep a) (h0:0≤s) (h1:s≤1048576):∃ r,zch a s=some r∧(r < 0∨r + (a.length + tot wtS a:Nat)=s):=by
 unfold zch
 have:=sz_list (sz:=zb0) (wt:=wtS) (l:=a) (s:=s)
  (f:=fun i23 y22 s23=>bd (PF.zb0 y22 s23) (fun r66=>(bif (decide (r66 < 0)) then some (Lp.rt (-1)) else some (Lp.nx r66)))) (fun _ _ _=>rfl) (fun y hy s h0 h1=>sz_SeqStep (ha.2 y hy) h0 h1) ha.1 h0 h1
 exact this
theorem SOk_sz {a:List zac} {r s:Int} (hs:s≤1048576) (h0:0≤r) (h:r + (a.length + tot wtS a:Nat)=s):SOk a:=by
 refine ⟨by omega,fun y hy=>?_⟩
 have:=tot_mem (wt:=wtS) hy
 have e:wtS y=(y.seq.left.length + tot (·.size) y.seq.left) + (y.seq.right.length + tot (·.size) y.seq.right) + y.main.size:=rfl
 unfold lim
 constructor <;> omega
theorem to_SeqStepS {a:List zac} (ha:SOk a):zbg a=some a:=by
 unfold zbg
 have hl:=ha.len
 have:=to_list (z:=(zac.mk (zad.mk [] []) 0 ByteArray.empty 0 0:zac)) (l:=a) (g:=zcj) (h:=fun y=>y)
  (f:=fun i33 y32 s33=>bd (PF.zcj y32) (fun r173=>bd (ix s33 ((i33:Nat):Int)) (fun x198=>bd (put s33 ((i33:Nat):Int) r173) (fun xs207=>some (Lp.nx xs207))))) (fun _ _ _=>rfl) (fun y hy=>by
   unfold zcj
   have:=ha.sides y hy
   rw [to_Sequent this.1 this.2];rfl) (by unfold lim;omega)
 rw [List.map_id'] at this
 exact this
theorem wtStep_wtS (y:zac):zbf y≤wtS y + 4:=by unfold zbf wtS;omega
theorem tot_le4 {a:List zac}:tot zbf a≤tot wtS a + 4 * a.length:=by
 induction a with
 | nil=>simp [tot]
 | cons y a ih =>
  have:=wtStep_wtS y
  simp only [tot,List.length_cons];omega
theorem mark_in {a:List zac} {r s:Int} (hs:s≤1048576) (h0:0≤r) (h:r + (a.length + tot wtS a:Nat)=s) {k:Int} (hk:0≤k) (hk2:k≤100000000):0≤(zaz a k).2∧(zaz a k).2≤k + 10000000:=by
 have:=tot_le4 (a:=a)
 have h2:=mark_SeqStepS (a:=a) (k:=k) hk (by omega)
 omega
theorem last_eq {S:List zac} (h1:1≤S.length) (h2:S.length≤1048576):∃ y,S[S.length - 1]?=some y∧ix S (wr (len S - 1))=some y∧zcy S=some y:=by
 obtain ⟨y,hy⟩:∃ y,S[S.length - 1]?=some y:=⟨_,List.getElem?_eq_getElem (by omega)⟩
 have e:wr (len S - 1)=((S.length - 1:Nat):Int):=by rw [zaq,wr_of _ (by omega) (by omega)];omega
 refine ⟨y,hy,by rw [e,zaP,hy],?_⟩
 unfold zcy
 rw [e,zaP,hy];rfl
theorem PrfP.seq {S:List zac} (h:PrfP S) {k:Nat} {y:zac} (hy:S[k]?=some y):seqB y.seq=true:=(h.2.2 k y hy).1
end Go.PF
namespace Go.PF
open Go.Pu
def nUse (y:zac):Nat:=if y.rule=1 then 0 else if y.rule=5∨y.rule=6∨y.rule=8∨y.rule=11 then 2 else 1
theorem uses_spec (y:zac):len (zbm y)=(nUse y:Int):=by
 unfold zbm nUse
 by_cases h1:y.rule=1
 · rw [h1];rfl
 · rw [beq_eq_false_iff_ne.2 h1,cond_false,if_neg h1]
   by_cases h5:y.rule=5
   · rw [h5];rfl
   · rw [beq_eq_false_iff_ne.2 h5,cond_false]
     by_cases h6:y.rule=6
     · rw [h6];rfl
     · rw [beq_eq_false_iff_ne.2 h6,cond_false]
       by_cases h8:y.rule=8
       · rw [h8];rfl
       · rw [beq_eq_false_iff_ne.2 h8,cond_false]
         by_cases h11:y.rule=11
         · rw [h11];rfl
         · rw [beq_eq_false_iff_ne.2 h11,cond_false,if_neg (by omega)];rfl
theorem uses_impl (y:zac):len (zbA y)=(nUse y:Int):=uses_spec y
def shS (n:Nat) (y:zac):zac:=⟨y.seq,y.rule,y.main,if 0 < nUse y then y.a + n else y.a,if 1 < nUse y then y.b + n else y.b⟩
def ixOk (y:zac):Prop:=(0 < nUse y→0≤y.a∧y.a≤1000)∧(1 < nUse y→0≤y.b∧y.b≤1000)
theorem premV_use {s:zad} {r:Int} {t:Ft} (h2:2≤r) (h9:r≤9):(premV s r t).length=(if r=5∨r=6∨r=8 then 2 else 1):=by
 unfold premV
 dsimp only
 have hc:r=2∨r=3∨r=4∨r=5∨r=6∨r=7∨r=8∨r=9:=by omega
 rcases hc with rfl|rfl|rfl|rfl|rfl|rfl|rfl|rfl <;> rfl
theorem PreP.lt {S:List zac} {k:Nat} {i:Int} {p:zad→Prop} (h:PreP S k i p):0≤i∧i < k:=by
 obtain ⟨j,e,h,_⟩:=h
 omega
theorem CorP.ixOk {S:List zac} {k:Nat} {s:zac} (h:CorP S k s) (hk:k≤1000):ixOk s:=by
 obtain ⟨_,⟨e,_⟩|⟨e,_,_,h⟩|⟨e,_,h1,h2⟩|⟨t,l,_,_,e,e0,_,p,r,hp,h1,h2⟩⟩:=h
 · unfold PF.ixOk nUse;rw [if_pos e];exact ⟨fun h=>by omega,fun h=>by omega⟩
 · have:=h.lt
   unfold PF.ixOk nUse;rw [if_neg (by omega),if_neg (by omega)];exact ⟨fun _=>by omega,fun h=>by omega⟩
 · have:=h1.lt;have:=h2.lt
   unfold PF.ixOk;exact ⟨fun _=>by omega,fun _=>by omega⟩
 · have rb:=zbs t l
   have:=h1.lt
   have hl:=premV_use (s:=s.seq) (t:=t) (r:=s.rule) (by omega) (by omega)
   rw [hp] at hl
   unfold PF.ixOk nUse
   rw [if_neg (by omega)]
   refine ⟨fun _=>by omega,fun g=>?_⟩
   rcases h2 with ⟨rfl,_⟩|⟨q,rfl,h2⟩
   · by_cases c:s.rule=5∨s.rule=6∨s.rule=8
     · rw [if_pos c] at hl;simp at hl
     · rw [if_neg (by omega)] at g;omega
   · have:=h2.lt;omega
theorem sh_a {n:Nat} (hn:n≤1000) {y:zac} (hy:ixOk y):(0 < nUse y→wr (y.a + (n:Int))=y.a + n)∧(1 < nUse y→wr (y.b + (n:Int))=y.b + n) :=
 ⟨fun h=>by have:=hy.1 h;exact wr_of _ (by omega) (by omega),fun h=>by have:=hy.2 h;exact wr_of _ (by omega) (by omega)⟩
theorem nUse_le (y:zac):nUse y≤2:=by unfold nUse;split <;> (try split) <;> omega
theorem spec_l25Behind_eq {A B:List zac} (hA:∀ y∈A,seqB y.seq=true) (hB:∀ y∈B,seqB y.seq=true∧ixOk y) (la:A.length≤1000) (lb:B.length≤1000):zcQ A B=some (A++B.map (shS A.length)):=by
 unfold zcQ
 have own:∀ {y:zac},seqB y.seq=true→zbw y.seq=some y.seq:=fun h=>by
  unfold seqB at h
  rw [Bool.and_eq_true,zaW,zaW] at h
  have:=h.1.len;have:=h.2.len
  exact own_eq (by unfold lim;omega) (by unfold lim;omega)
 have h1:forL (S:=List zac) (X:=Empty) A (fun i27 y26 s27=>bd (PF.zbw y26.seq) (fun r130=>bd (app s27 [(zac.mk r130 y26.rule y26.main y26.a y26.b)]) (fun xs163=>some (Lp.nx xs163)))) []=some (.go A):=by
  have key:∀ (m:List zac) (k:Nat) (t:List zac),(∀ y∈m,seqB y.seq=true)→t.length + m.length≤3000→zaI (X:=Empty) (fun i27 (y26:zac) s27=>bd (PF.zbw y26.seq) (fun r130=>bd (app s27 [(zac.mk r130 y26.rule y26.main y26.a y26.b)]) (fun xs163=>some (Lp.nx xs163)))) m k t=some (.go (t++m)):=by
   intro m
   induction m with
   | nil=>intro k t _ _;rw [zce];simp
   | cons y m ih =>
    intro k t hm hn
    rw [List.length_cons] at hn
    rw [zbp (s':=t++[y]) (by rw [own (hm y (List.mem_cons_self ..)),zae,zaV (by simp;unfold lim;omega),zae]),ih _ _ (fun z hz=>hm z (List.mem_cons_of_mem _ hz)) (by simp;omega)]
    simp
  unfold forL
  rw [key A 0 [] hA (by simp;omega)];rfl
 rw [h1,za9]
 have key:∀ (m:List zac) (k:Nat) (t:List zac),(∀ y∈m,seqB y.seq=true∧ixOk y)→t.length + m.length≤3000→zaI (X:=Empty) (fun i185 (y184:zac) s185=>bd (PF.zbw y184.seq) (fun r333=>(bif (decide (0 < (len (PF.zbm (zac.mk r333 y184.rule y184.main y184.a y184.b))))) then (bif (decide (1 < (len (PF.zbm (zac.mk r333 y184.rule y184.main y184.a y184.b))))) then bd (app s185 [(zac.mk r333 y184.rule y184.main (wr (y184.a + (len A))) (wr (y184.b + (len A))))]) (fun xs382=>some (Lp.nx xs382)) else bd (app s185 [(zac.mk r333 y184.rule y184.main (wr (y184.a + (len A))) y184.b)]) (fun xs401=>some (Lp.nx xs401))) else (bif (decide (1 < (len (PF.zbm (zac.mk r333 y184.rule y184.main y184.a y184.b))))) then bd (app s185 [(zac.mk r333 y184.rule y184.main y184.a (wr (y184.b + (len A))))]) (fun xs424=>some (Lp.nx xs424)) else bd (app s185 [(zac.mk r333 y184.rule y184.main y184.a y184.b)]) (fun xs443=>some (Lp.nx xs443)))))) m k t=some (.go (t++m.map (shS A.length))):=by
  intro m
  induction m with
  | nil=>intro k t _ _;rw [zce];simp
  | cons y m ih =>
   intro k t hm hn
   rw [List.length_cons] at hn
   obtain ⟨g1,g2⟩:=hm y (List.mem_cons_self ..)
   have w:=sh_a la g2
   have u:=nUse_le y
   have hy:(zac.mk y.seq y.rule y.main y.a y.b)=y:=rfl
   rw [zbp (s':=t++[shS A.length y]) (by
    rw [own g1,zae,hy,uses_spec,zaq]
    unfold shS
    by_cases c0:0 < nUse y
    · rw [bifT (decide_eq_true (show 0 < (nUse y:Int) by omega)),if_pos c0,w.1 c0]
      by_cases c1:1 < nUse y
      · rw [bifT (decide_eq_true (show 1 < (nUse y:Int) by omega)),if_pos c1,w.2 c1,zaV (by simp;unfold lim;omega),zae]
      · rw [bifF (decide_eq_false (show ¬ 1 < (nUse y:Int) by omega)),if_neg c1,zaV (by simp;unfold lim;omega),zae]
    · rw [bifF (decide_eq_false (show ¬ 0 < (nUse y:Int) by omega)),if_neg c0,bifF (decide_eq_false (show ¬ 1 < (nUse y:Int) by omega)),if_neg (by omega),zaV (by simp;unfold lim;omega),zae]),
    ih _ _ (fun z hz=>hm z (List.mem_cons_of_mem _ hz)) (by simp;omega)]
   simp
 unfold forL
 rw [key B 0 A hB (by omega)];rfl
theorem clone_eq {s:zad} (h:seqB s=true):zaS s=some s∧zaQ s=some true:=by
 have hS:=h
 unfold seqB at hS
 rw [Bool.and_eq_true,zaW,zaW] at hS
 have:=hS.1.len;have:=hS.2.len
 constructor
 · unfold zaS
   rw [zcI (by unfold lim;omega),zae,zcI (by unfold lim;omega)];rfl
 · rw [zdd (by unfold lim;omega) (by unfold lim;omega),h]
theorem put_part {s:zad} (hs:seqB s=true) {b:Bool} {t:List zac} (ht:t.length≤3000) (f:zad→zac) :
 (bd (zaS s) (fun r=>bd (bif b then some true else bd (zaQ r) (fun q=>some (!q))) (fun c=>bd (app t [f r]) (fun xs=>some (xs,(bif c then true else (decide (200≤(len t)))),(wr ((len xs) - 1)))))):Option (List zac×Bool×Int))=some (t++[f s],b || decide (200≤t.length),(t.length:Int)):=by
 obtain ⟨c1,c2⟩:=clone_eq hs
 rw [c1,zae,c2]
 have e:(bif b then (some true:Option Bool) else bd (some true) fun q=>some (!q))=some b:=by cases b <;> rfl
 rw [e,zae,zaV (by simp;unfold lim;omega),zae]
 congr 2
 have d:decide (200≤len t)=decide (200≤t.length):=decide_eq_decide.2 (by rw [zaq];omega)
 rw [d]
 have w:wr (len (t++[f s]) - 1)=(t.length:Int):=by
  rw [zaq,List.length_append]
  simp only [List.length_cons,List.length_nil]
  rw [wr_of _ (by omega) (by omega)];omega
 rw [w]
 cases b <;> rfl
theorem append_eq {A B:List zac} {bad:Bool} (hB:∀ y∈B,seqB y.seq=true∧ixOk y) (la:A.length≤1000) (lb:B.length≤1000) (h1:1≤B.length) :
 zcz ⟨A,bad⟩ B=some (((A.length + B.length - 1:Nat):Int),⟨A++B.map (shS A.length),bad || decide (200 < A.length + B.length)⟩):=by
 unfold zcz
 have key:∀ (m:List zac) (k:Nat) (t:List zac) (b:Bool),(∀ y∈m,seqB y.seq=true∧ixOk y)→t.length + m.length≤3000→∃ b',zaI (X:=Empty) (fun i22 (y21:zac) (s22:List zac×Bool)=>(bif ((len (PF.zbA y21)) == 2) then bd (β:=_) (bd (PF.zaS y21.seq) (fun r273770=>bd (bif s22.2 then some true else bd (PF.zaQ r273770) (fun r273808=>some (!r273808))) (fun t273801=>bd (app s22.1 [(zac.mk r273770 y21.rule y21.main (wr (y21.a + (len A))) (wr (y21.b + (len A))))]) (fun xs297831=>some (xs297831,(bif t273801 then true else (decide (200≤(len s22.1)))),(wr ((len xs297831) - 1)))))):Option ((List zac)×Bool×Int)) (fun s273760=>some (Lp.nx (s273760.1,s273760.2.1))) else (bif ((len (PF.zbA y21)) == 1) then bd (β:=_) (bd (PF.zaS y21.seq) (fun r351938=>bd (bif s22.2 then some true else bd (PF.zaQ r351938) (fun r351976=>some (!r351976))) (fun t351969=>bd (app s22.1 [(zac.mk r351938 y21.rule y21.main (wr (y21.a + (len A))) y21.b)]) (fun xs375999=>some (xs375999,(bif t351969 then true else (decide (200≤(len s22.1)))),(wr ((len xs375999) - 1)))))):Option ((List zac)×Bool×Int)) (fun s351928=>some (Lp.nx (s351928.1,s351928.2.1))) else bd (β:=_) (bd (PF.zaS y21.seq) (fun r430102=>bd (bif s22.2 then some true else bd (PF.zaQ r430102) (fun r430140=>some (!r430140))) (fun t430133=>bd (app s22.1 [(zac.mk r430102 y21.rule y21.main y21.a y21.b)]) (fun xs454163=>some (xs454163,(bif t430133 then true else (decide (200≤(len s22.1)))),(wr ((len xs454163) - 1)))))):Option ((List zac)×Bool×Int)) (fun s430092=>some (Lp.nx (s430092.1,s430092.2.1)))))) m k (t,b)=some (.go (t++m.map (shS A.length),b'))∧b'=(b || decide (1≤m.length∧200 < t.length + m.length)):=by
  intro m
  induction m with
  | nil=>intro k t b _ _;exact ⟨b,by rw [zce];simp,by simp⟩
  | cons y m ih =>
   intro k t b hm hn
   rw [List.length_cons] at hn
   obtain ⟨g1,g2⟩:=hm y (List.mem_cons_self ..)
   have w:=sh_a la g2
   have u:=nUse_le y
   obtain ⟨b',e1,e2⟩:=ih (k + 1) (t++[shS A.length y]) (b || decide (200≤t.length)) (fun z hz=>hm z (List.mem_cons_of_mem _ hz)) (by simp;omega)
   refine ⟨b',?_,?_⟩
   · rw [zbp (s':=(t++[shS A.length y],b || decide (200≤t.length))) (by
      rw [uses_impl,zaq]
      dsimp only
      have hc:nUse y=0∨nUse y=1∨nUse y=2:=by omega
      unfold shS
      rcases hc with hc|hc|hc
      · rw [hc,show (((0:Nat):Int) == 2)=false from rfl,show (((0:Nat):Int) == 1)=false from rfl,cond_false,cond_false,put_part g1 (by omega) (fun r=>zac.mk r y.rule y.main y.a y.b)];rfl
      · rw [hc,show (((1:Nat):Int) == 2)=false from rfl,show (((1:Nat):Int) == 1)=true from rfl,cond_false,cond_true,w.1 (by omega),put_part g1 (by omega) (fun r=>zac.mk r y.rule y.main (y.a + (A.length:Int)) y.b)];rfl
      · rw [hc,show (((2:Nat):Int) == 2)=true from rfl,cond_true,w.1 (by omega),w.2 (by omega),put_part g1 (by omega) (fun r=>zac.mk r y.rule y.main (y.a + (A.length:Int)) (y.b + (A.length:Int)))];rfl),e1]
     simp
   · rw [e2,List.length_append,List.length_cons,List.length_cons,List.length_nil]
     by_cases c1:200≤t.length
     · rw [decide_eq_true c1,decide_eq_true (show 1≤m.length + 1∧200 < t.length + (m.length + 1) by omega)];simp
     · rw [decide_eq_false c1,Bool.or_false]
       congr 1
       exact decide_eq_decide.2 ⟨fun g=>by omega,fun g=>by omega⟩
 obtain ⟨b',e1,e2⟩:=key B 0 A bad hB (by omega)
 unfold forL
 dsimp only
 rw [e1,za9,e2]
 congr 2
 · rw [zaq,List.length_append,List.length_map,wr_of _ (by omega) (by omega)];omega
 · dsimp only
   rw [show decide (1≤B.length∧200 < A.length + B.length)=decide (200 < A.length + B.length) from decide_eq_decide.2 ⟨fun g=>g.2,fun g=>⟨h1,g⟩⟩]
theorem PreP.mv {S S':List zac} {k n:Nat} {i:Int} {p:zad→Prop} (h:PreP S k i p) (hS:∀ (j:Nat) (y:zac),j < k→S[j]?=some y→∃ y',S'[n + j]?=some y'∧y'.seq=y.seq):PreP S' (n + k) (i + n) p:=by
 obtain ⟨j,e,h1,y,h2,h3,h4⟩:=h
 obtain ⟨y',e1,e2⟩:=hS j y h1 h2
 exact ⟨n + j,by omega,by omega,y',e1,by rw [e2];exact h3,by rw [e2];exact h4⟩
theorem CorP.mv {S S':List zac} {k n:Nat} {s:zac} (h:CorP S k s) (hS:∀ (j:Nat) (y:zac),j < k→S[j]?=some y→∃ y',S'[n + j]?=some y'∧y'.seq=y.seq):CorP S' (n + k) (shS n s):=by
 obtain ⟨h0,h⟩:=h
 refine ⟨h0,?_⟩
 rcases h with ⟨e,h1,h2,h3,h4⟩|⟨e,h1,h2,h3⟩|⟨e,h1,h2,h3⟩|⟨t,l,h1,h2,h3,h4,h5,p,r,h6,h7,h8⟩
 · have u:nUse s=0:=by unfold nUse;rw [if_pos e]
   refine .inl ⟨e,h1,?_,?_,h4⟩
   · show (if 0 < nUse s then _ else s.a)=0
     rw [if_neg (by omega)];exact h2
   · show (if 1 < nUse s then _ else s.b)=0
     rw [if_neg (by omega)];exact h3
 · have u:nUse s=1:=by unfold nUse;rw [if_neg (by omega),if_neg (by omega)]
   refine .inr (.inl ⟨e,h1,?_,?_⟩)
   · show (if 1 < nUse s then _ else s.b)=0
     rw [if_neg (by omega)];exact h2
   · show PreP S' (n + k) (if 0 < nUse s then s.a + n else s.a) _
     rw [if_pos (by omega)];exact h3.mv hS
 · have u:nUse s=2:=by unfold nUse;rw [if_neg (by omega),if_pos (by omega)]
   refine .inr (.inr (.inl ⟨e,h1,?_,?_⟩))
   · show PreP S' (n + k) (if 0 < nUse s then s.a + n else s.a) _
     rw [if_pos (by omega)];exact h2.mv hS
   · show PreP S' (n + k) (if 1 < nUse s then s.b + n else s.b) _
     rw [if_pos (by omega)];exact h3.mv hS
 · have rb:=zbs t l
   have hl:=premV_use (s:=s.seq) (t:=t) (r:=s.rule) (by omega) (by omega)
   rw [h6] at hl
   refine .inr (.inr (.inr ⟨t,l,h1,h2,h3,h4,h5,p,r,h6,?_,?_⟩))
   · show PreP S' (n + k) (if 0 < nUse s then s.a + n else s.a) _
     rw [if_pos (by unfold nUse;rw [if_neg (by omega)];split <;> omega)];exact h7.mv hS
   · rcases h8 with ⟨rfl,h8⟩|⟨q,rfl,h8⟩
     · have c:¬ (s.rule=5∨s.rule=6∨s.rule=8):=fun c=>by rw [if_pos c] at hl;simp at hl
       refine .inl ⟨rfl,?_⟩
       show (if 1 < nUse s then _ else s.b)=0
       rw [if_neg (by unfold nUse;rw [if_neg (by omega),if_neg (by omega)];omega)];exact h8
     · have c:s.rule=5∨s.rule=6∨s.rule=8:=by
        apply Classical.byContradiction
        intro c;rw [if_neg c] at hl;simp at hl
       refine .inr ⟨q,rfl,?_⟩
       show PreP S' (n + k) (if 1 < nUse s then s.b + n else s.b) _
       rw [if_pos (by unfold nUse;rw [if_neg (by omega),if_pos (by omega)];omega)];exact h8.mv hS
theorem shS_zero (y:zac):shS 0 y=y:=by
 unfold shS
 have h1:(if 0 < nUse y then y.a + ((0:Nat):Int) else y.a)=y.a:=by split <;> simp
 have h2:(if 1 < nUse y then y.b + ((0:Nat):Int) else y.b)=y.b:=by split <;> simp
 rw [h1,h2]
theorem both_cor {A B C:List zac} (hA:PrfP A) (hB:PrfP B) {k:Nat} {y:zac} (hk:k < A.length + B.length) (hy:(A++B.map (shS A.length)++C)[k]?=some y):CorP (A++B.map (shS A.length)++C) k y:=by
 rw [List.append_assoc] at hy ⊢
 have at1:∀ j,j < A.length→(A++(B.map (shS A.length)++C))[j]?=A[j]?:=fun j h=>List.getElem?_append_left h
 have at2:∀ j,j < B.length→(A++(B.map (shS A.length)++C))[A.length + j]?=(B[j]?).map (shS A.length):=fun j h=>by
  rw [List.getElem?_append_right (by omega),show A.length + j - A.length=j by omega,List.getElem?_append_left (by simpa using h),List.getElem?_map]
 by_cases h:k < A.length
 · rw [at1 k h] at hy
   have:=(hA.2.2 k y hy).mv (S':=A++(B.map (shS A.length)++C)) (n:=0) fun j y' hj e=>⟨y',by rw [Nat.zero_add,at1 j (by omega)];exact e,rfl⟩
   rw [shS_zero,Nat.zero_add] at this;exact this
 · obtain ⟨j,rfl⟩:∃ j,k=A.length + j:=⟨k - A.length,by omega⟩
   rw [at2 j (by omega)] at hy
   obtain ⟨z,hz⟩:∃ z,B[j]?=some z:=⟨_,List.getElem?_eq_getElem (by omega)⟩
   rw [hz] at hy
   cases hy
   exact (hB.2.2 j z hz).mv fun i y' hi e=>⟨shS A.length y',by rw [at2 i (by omega),e];rfl,rfl⟩
end Go.PF
namespace Go.PF
open Go.Pu
theorem PrfP.all {S:List zac} (h:PrfP S):∀ y∈S,seqB y.seq=true∧ixOk y:=fun y hy=>by
 obtain ⟨k,hk⟩:=List.getElem?_of_mem hy
 have:=zat hk
 exact ⟨h.seq hk,(h.2.2 k y hk).ixOk (by have:=h.2.1;omega)⟩
theorem Few_seq {S:List zac} (hl:S.length≤1000) (h:∀ y∈S,seqB y.seq=true):Few S:=⟨hl,fun y hy=>by
 have:=h y hy
 unfold seqB at this
 rw [Bool.and_eq_true,zaW,zaW] at this
 have h1:=this.1.len;have h2:=this.2.len
 omega⟩
theorem zbZ {s:zad} (h1:s.left.length≤1000) (h2:s.right.length≤1000) {b:Bool} {t:List zac} (ht:t.length≤3000) (f:zad→zac) :
 (bd (zaS s) (fun r=>bd (bif b then some true else bd (zaQ r) (fun q=>some (!q))) (fun c=>bd (app t [f r]) (fun xs=>some (xs,(bif c then true else (decide (200≤(len t)))),(wr ((len xs) - 1)))))):Option (List zac×Bool×Int))=some (t++[f s],(b || !seqB s) || decide (200≤t.length),(t.length:Int)):=by
 have c1:zaS s=some s:=by
  unfold zaS
  rw [zcI (by unfold lim;omega),zae,zcI (by unfold lim;omega)];rfl
 rw [c1,zae,zdd (by unfold lim;omega) (by unfold lim;omega)]
 have e:(bif b then (some true:Option Bool) else bd (some (seqB s)) fun q=>some (!q))=some (b || !seqB s):=by cases b <;> rfl
 rw [e,zae,zaV (by simp;unfold lim;omega),zae]
 congr 2
 have d:decide (200≤len t)=decide (200≤t.length):=decide_eq_decide.2 (by rw [zaq];omega)
 rw [d]
 have w:wr (len (t++[f s]) - 1)=(t.length:Int):=by
  rw [zaq,List.length_append]
  simp only [List.length_cons,List.length_nil]
  rw [wr_of _ (by omega) (by omega)];omega
 rw [w]
 cases (b || !seqB s) <;> rfl
theorem mem_wS {l m:List ByteArray} {x:ByteArray}:x∈wS l m↔x∈l∨x∈m:=by unfold wS;rw [zbL STO_F,List.mem_append]
theorem zbu (m q:List ByteArray):(wS m q).length≤m.length + q.length:=by
 have:=setO_len (l:=m++q)
 unfold wS;rw [List.length_append] at this;exact this
theorem mem_lack {l:List ByteArray} {s x:ByteArray}:x∈lackS l s↔x∈l∧x≠s:=by unfold lackS;rw [List.mem_filter];simp
def sev (n:Nat) (o w:Int) (l:List ByteArray) (x y z:ByteArray):List zac :=
  let a:=wS l [x];let q:=lackS a z
  [⟨⟨l,wS [y] [x]⟩,10,ByteArray.empty,o,0⟩,⟨⟨a,wS [y] [z]⟩,10,ByteArray.empty,w,0⟩,⟨⟨q,wS [y] [x]⟩,1,ByteArray.empty,0,0⟩,⟨⟨wS q [y],[y]⟩,1,ByteArray.empty,0,0⟩,
   ⟨⟨wS a [z],[y]⟩,8,z,((n + 2:Nat):Int),((n + 3:Nat):Int)⟩,⟨⟨a,[y]⟩,11,z,((n + 1:Nat):Int),((n + 4:Nat):Int)⟩,⟨⟨l,[y]⟩,11,x,((n:Nat):Int),((n + 5:Nat):Int)⟩]
theorem SS_one (y:ByteArray):SS ltF [y]:=by unfold SS;simp
theorem spec_modus {J:List zac} {l:List ByteArray} {o w:Int} {a b:Ft} (hJ:J.length≤1000) (hl:SS ltF l) (ll:l.length≤100) (ha:a.txt.length≤100) (hb:b.txt.length≤100) :
 zcS J l o w (tx a.txt) (tx b.txt)=some (J++sev J.length o w l (tx a.txt) (tx b.txt) (tx (Ft.bin 62 a b).txt)):=by
 unfold zcS
 have hj:zcR (ByteArray.mk #[62]) (tx a.txt) (tx b.txt)=some (tx (Ft.bin 62 a b).txt):=by
  unfold zcR
  have s1:(ByteArray.mk #[40]).size=1:=rfl
  have s2:(ByteArray.mk #[41]).size=1:=rfl
  have s3:(ByteArray.mk #[62]).size=1:=rfl
  rw [zbb (by rw [zaB,s1];omega),zae,zbb (by rw [ByteArray.size_append,zaB,s1,s3];omega),zae,zbb (by rw [ByteArray.size_append,ByteArray.size_append,zaB,zaB,s1,s3];omega),zae,
   zbb (by rw [ByteArray.size_append,ByteArray.size_append,ByteArray.size_append,zaB,zaB,s1,s2,s3];omega),zae]
  congr 1
  apply zbq
  rw [zba,zba,zba,zba,bs_tx,bs_tx,bs_tx]
  simp [Ft.txt,bs]
 have w1:=zbu l [tx a.txt]
 have k1:=zbE (wS l [tx a.txt]) (tx (Ft.bin 62 a b).txt)
 simp only [List.length_cons,List.length_nil] at w1
 rw [hj,zae,za7 hl (by omega),zae,zcK (by omega),zae,zbF (s:=tx b.txt) (SS_lack (SS_wS _ _) _) (by omega),zaV (by simp;unfold lim;omega),zae,zbF (SS_one _) (by simp),zae,zaV (by simp;unfold lim;omega),zae,
  za7 (SS_one _) (by simp),zae,zaV (by simp;unfold lim;omega),zae,za7 (SS_one _) (by simp),zae,zae,za7 (SS_wS _ _) (by omega),zae,
  zae,zae,List.nil_append,List.nil_append,List.nil_append,zaV (by simp;unfold lim;omega),zae]
 have e:∀ q:Nat,q≤10→wr (len J + (q:Int))=((J.length + q:Nat):Int):=fun q hq=>by rw [zaq,wr_of _ (by omega) (by omega)];omega
 have e1:=e 1 (by omega);have e2:=e 2 (by omega);have e3:=e 3 (by omega);have e4:=e 4 (by omega);have e5:=e 5 (by omega)
 rw [show ((1:Nat):Int)=1 from rfl] at e1
 rw [show ((2:Nat):Int)=2 from rfl] at e2
 rw [show ((3:Nat):Int)=3 from rfl] at e3
 rw [show ((4:Nat):Int)=4 from rfl] at e4
 rw [show ((5:Nat):Int)=5 from rfl] at e5
 rw [e1,e2,e3,e4,e5];rfl
def allB (L:List zac):Bool:=L.all fun y=>seqB y.seq
theorem impl_modus {J:List zac} {bad:Bool} {o w:Nat} {s t:zac} {a b:Ft} (hJ:J.length≤1000) (hs:J[o]?=some s) (ht:J[w]?=some t) (ll:s.seq.left.length≤100) (hr:s.seq.right=[tx a.txt]) (hq:t.seq.right=[tx (Ft.bin 62 a b).txt]) (hw:(Ft.bin 62 a b).wf=true) (hz:(Ft.bin 62 a b).txt.length≤80)
    (ho:(o:Int)≤1000000) :
    zc5 ⟨J,bad⟩ (o:Int) (w:Int)=some (((J.length + 6:Nat):Int),⟨J++sev J.length o w s.seq.left (tx a.txt) (tx b.txt) (tx (Ft.bin 62 a b).txt),bad || !allB (sev J.length o w s.seq.left (tx a.txt) (tx b.txt) (tx (Ft.bin 62 a b).txt)) || decide (200 < J.length + 7)⟩):=by
  unfold zc5
  have hg:(Ft.bin 62 a b).fo.get=some ⟨((62:UInt8).toNat:Int),a.fo,b.fo,tx (Ft.bin 62 a b).txt⟩:=rfl
  obtain ⟨nb,nb1,_,nb2⟩:=Ft.get_eq b
  have cm:∀ u v:ByteArray,wS [u] [v]=wS [v] [u]:=fun u v=>setO_ext STO_F fun x=>by simp [or_comm]
  have w1:=zbu s.seq.left [tx a.txt]
  have k1:=zbE (wS s.seq.left [tx a.txt]) (tx (Ft.bin 62 a b).txt)
  have w2:∀ u v:ByteArray,(wS [u] [v]).length≤2:=fun u v=>zbu [u] [v]
  have w3:=zbu (lackS (wS s.seq.left [tx a.txt]) (tx (Ft.bin 62 a b).txt)) [tx b.txt]
  have w4:=zbu (wS s.seq.left [tx a.txt]) [tx (Ft.bin 62 a b).txt]
  have w5:=w2 (tx b.txt) (tx a.txt)
  have w6:=w2 (tx b.txt) (tx (Ft.bin 62 a b).txt)
  simp only [List.length_cons,List.length_nil] at w1 w3 w4
  dsimp only
  rw [zaP,hs,zae,zae,zaP,ht,zae,hq,show ix [tx (Ft.bin 62 a b).txt] 0=some (tx (Ft.bin 62 a b).txt) from rfl,zae,
    zdc (F?_tx hw) (by rw [zaB];omega),zae,hg,zae,nb1,zae,hr,nb2,zaX (by simp;omega),zae,zcJ (by omega),zae,
    zaX (by simp),zae,cm (tx a.txt) (tx b.txt)]
  rw [zbZ (s:=⟨s.seq.left,wS [tx b.txt] [tx a.txt]⟩) (by dsimp only;omega) (by dsimp only;omega) (by omega) (fun r=>zac.mk r 10 ByteArray.empty (o:Int) 0),zae]
  dsimp only
  rw [zaX (by simp),zae,cm (tx (Ft.bin 62 a b).txt) (tx b.txt)]
  rw [zbZ (s:=⟨wS s.seq.left [tx a.txt],wS [tx b.txt] [tx (Ft.bin 62 a b).txt]⟩) (by dsimp only;omega) (by dsimp only;omega) (by simp;omega) (fun r=>zac.mk r 10 ByteArray.empty (w:Int) 0),zae]
  dsimp only
  rw [zaX (by simp),zae]
  rw [zbZ (s:=⟨lackS (wS s.seq.left [tx a.txt]) (tx (Ft.bin 62 a b).txt),wS [tx b.txt] [tx a.txt]⟩) (by dsimp only;omega) (by dsimp only;omega) (by simp;omega) (fun r=>zac.mk r 1 ByteArray.empty 0 0),zae]
  dsimp only
  rw [zaX (by simp;omega),zae]
  rw [zbZ (s:=⟨wS (lackS (wS s.seq.left [tx a.txt]) (tx (Ft.bin 62 a b).txt)) [tx b.txt],[tx b.txt]⟩) (by dsimp only;omega) (by simp) (by simp;omega) (fun r=>zac.mk r 1 ByteArray.empty 0 0),zae]
  dsimp only
  rw [zaX (by simp;omega),zae]
  rw [zbZ (s:=⟨wS (wS s.seq.left [tx a.txt]) [tx (Ft.bin 62 a b).txt],[tx b.txt]⟩) (by dsimp only;omega) (by simp) (by simp;omega) (fun r=>zac.mk r 8 (tx (Ft.bin 62 a b).txt) _ _),zae]
  dsimp only
  rw [zbZ (s:=⟨wS s.seq.left [tx a.txt],[tx b.txt]⟩) (by dsimp only;omega) (by simp) (by simp;omega) (fun r=>zac.mk r 11 (tx (Ft.bin 62 a b).txt) _ _),zae]
  dsimp only
  rw [show ix [tx a.txt] 0=some (tx a.txt) from rfl,zae]
  rw [zbZ (s:=⟨s.seq.left,[tx b.txt]⟩) (by dsimp only;omega) (by simp) (by simp;omega) (fun r=>zac.mk r 11 (tx a.txt) _ _),zae]
  dsimp only
  simp only [List.length_append,List.length_cons,List.length_nil,List.append_assoc,List.cons_append,List.nil_append,Nat.add_assoc]
  congr 3
  unfold allB sev
  dsimp only
  simp only [List.all_cons,List.all_nil,Bool.and_true]
  generalize seqB _=b1
  generalize seqB _=b2
  generalize seqB _=b3
  generalize seqB _=b4
  generalize seqB _=b5
  generalize seqB _=b6
  generalize seqB _=b7
  have dd:∀ k,k≤6→(decide (200≤J.length + k)=true→decide (200 < J.length + 7)=true):=fun k hk h=>decide_eq_true (by have:=of_decide_eq_true h;omega)
  have d6:decide (200≤J.length + 6)=decide (200 < J.length + 7):=decide_eq_decide.2 (by omega)
  have or_abs:∀ p q:Bool,(p=true→q=true)→(p || q)=q:=fun p q h=>by cases p <;> cases q <;> simp at h ⊢
  simp only [Nat.zero_add,Nat.reduceAdd,d6]
  have e0:=dd 0 (by omega);have e1:=dd 1 (by omega);have e2:=dd 2 (by omega);have e3:=dd 3 (by omega);have e4:=dd 4 (by omega);have e5:=dd 5 (by omega)
  rw [Nat.add_zero] at e0
  revert e0 e1 e2 e3 e4 e5
  generalize decide (200≤J.length)=c0
  generalize decide (200≤J.length + 1)=c1
  generalize decide (200≤J.length + 2)=c2
  generalize decide (200≤J.length + 3)=c3
  generalize decide (200≤J.length + 4)=c4
  generalize decide (200≤J.length + 5)=c5
  generalize decide (200 < J.length + 7)=c6
  intro e0 e1 e2 e3 e4 e5
  cases c6 with
  | true=>cases bad <;> cases b1 <;> cases b2 <;> cases b3 <;> cases b4 <;> cases b5 <;> cases b6 <;> cases b7 <;> simp
  | false =>
    have z : ∀ c : Bool, (c = true → false = true) → c = false := fun c h => by cases c;· rfl
                                                                                · cases h rfl
    rw [z c0 e0,z c1 e1,z c2 e2,z c3 e3,z c4 e4,z c5 e5]
    cases bad <;> cases b1 <;> cases b2 <;> cases b3 <;> cases b4 <;> cases b5 <;> cases b6 <;> cases b7 <;> rfl
theorem FT_leaf_lt {a b:Ft}:(Ft.bin 62 a b).txt.length=a.txt.length + b.txt.length + 3:=by
 simp only [Ft.txt,List.length_cons,List.length_append,List.length_nil];omega
theorem sev_cor {J:List zac} {o w:Nat} {s t:zac} {a b:Ft} (hs:J[o]?=some s) (ht:J[w]?=some t) (qs:seqB s.seq=true) (qt:seqB t.seq=true) (hl:t.seq.left=s.seq.left)
 (hr:s.seq.right=[tx a.txt]) (hq:t.seq.right=[tx (Ft.bin 62 a b).txt]) (hw:(Ft.bin 62 a b).wf=true) (hz:(Ft.bin 62 a b).txt.length≤80)
 (hall:allB (sev J.length o w s.seq.left (tx a.txt) (tx b.txt) (tx (Ft.bin 62 a b).txt))=true) :
 ∀ i y,(sev J.length o w s.seq.left (tx a.txt) (tx b.txt) (tx (Ft.bin 62 a b).txt))[i]?=some y→CorP (J++sev J.length o w s.seq.left (tx a.txt) (tx b.txt) (tx (Ft.bin 62 a b).txt)) (J.length + i) y:=by
 have ho:=zat hs
 have hw':=zat ht
 have hw2:=hw
 simp only [Ft.wf,Bool.and_eq_true] at hw2
 have lz:=FT_leaf_lt (a:=a) (b:=b)
 generalize hS:sev J.length o w s.seq.left (tx a.txt) (tx b.txt) (tx (Ft.bin 62 a b).txt)=L at *
 have lL:L.length=7:=by rw [← hS];rfl
 have atJ:∀ {j:Nat} {y:zac},J[j]?=some y→(J++L)[j]?=some y:=fun {j y} h=>by rw [List.getElem?_append_left (zat h)];exact h
 have atL:∀ {j:Nat} {y:zac},L[j]?=some y→(J++L)[J.length + j]?=some y:=fun {j y} h=>by rw [List.getElem?_append_right (by omega),show J.length + j - J.length=j by omega];exact h
 have qB:∀ {j:Nat} {y:zac},L[j]?=some y→seqB y.seq=true:=fun {j y} h=>List.all_eq_true.1 hall y (List.mem_of_getElem? h)
 generalize hx:tx a.txt=x at *
 generalize hy':tx b.txt=yy at *
 generalize hzz:tx (Ft.bin 62 a b).txt=z at *
 have gz:goodB z=true:=zbY.2 ⟨_,by rw [← hzz];exact F?_tx hw,by rw [← hzz,zaB];exact hz⟩
 have gx:goodB x=true:=zbY.2 ⟨_,by rw [← hx];exact F?_tx hw2.1.2,by rw [← hx,zaB];omega⟩
 have xz:x≠z:=fun e=>by
  have:=congrArg ByteArray.size e
  rw [← hx,← hzz,zaB,zaB] at this;omega
 have ss:SS ltF s.seq.left:=by
  unfold seqB at qs
  rw [Bool.and_eq_true,zaW,zaW] at qs
  exact qs.1.ord
 -- the seven by name
 have l0:L[0]?=some ⟨⟨s.seq.left,wS [yy] [x]⟩,10,ByteArray.empty,(o:Int),0⟩:=by rw [← hS];rfl
 have l1:L[1]?=some ⟨⟨wS s.seq.left [x],wS [yy] [z]⟩,10,ByteArray.empty,(w:Int),0⟩:=by rw [← hS];rfl
 have l2:L[2]?=some ⟨⟨lackS (wS s.seq.left [x]) z,wS [yy] [x]⟩,1,ByteArray.empty,0,0⟩:=by rw [← hS];rfl
 have l3:L[3]?=some ⟨⟨wS (lackS (wS s.seq.left [x]) z) [yy],[yy]⟩,1,ByteArray.empty,0,0⟩:=by rw [← hS];rfl
 have l4:L[4]?=some ⟨⟨wS (wS s.seq.left [x]) [z],[yy]⟩,8,z,((J.length + 2:Nat):Int),((J.length + 3:Nat):Int)⟩:=by rw [← hS];rfl
 have l5:L[5]?=some ⟨⟨wS s.seq.left [x],[yy]⟩,11,z,((J.length + 1:Nat):Int),((J.length + 4:Nat):Int)⟩:=by rw [← hS];rfl
 have l6:L[6]?=some ⟨⟨s.seq.left,[yy]⟩,11,x,((J.length:Nat):Int),((J.length + 5:Nat):Int)⟩:=by rw [← hS];rfl
 clear hS hall
 have pre:∀ {i k:Nat} {y:zac} {p:zad→Prop},L[i]?=some y→i < k→p y.seq→PreP (J++L) (J.length + k) ((J.length + i:Nat):Int) p:=fun {i k y p} h hk hp=>⟨_,rfl,by omega,y,atL h,qB h,hp⟩
 intro i y hy
 have hi:=zat hy
 rw [lL] at hi
 have hc:i=0∨i=1∨i=2∨i=3∨i=4∨i=5∨i=6:=by omega
 rcases hc with rfl|rfl|rfl|rfl|rfl|rfl|rfl
 · rw [l0] at hy;cases hy
   refine ⟨qB l0,.inr (.inl ⟨rfl,rfl,rfl,o,rfl,by omega,s,atJ hs,qs,?_,?_⟩)⟩
   · exact fun v hv=>hv
   · intro v hv
     show v∈wS [yy] [x]
     rw [hr] at hv;rw [mem_wS];exact .inr hv
 · rw [l1] at hy;cases hy
   refine ⟨qB l1,.inr (.inl ⟨rfl,rfl,rfl,w,rfl,by omega,t,atJ ht,qt,?_,?_⟩)⟩
   · intro v hv
     show v∈wS s.seq.left [x]
     rw [hl] at hv;rw [mem_wS];exact .inl hv
   · intro v hv
     show v∈wS [yy] [z]
     rw [hq] at hv;rw [mem_wS];exact .inr hv
 · rw [l2] at hy;cases hy
   refine ⟨qB l2,.inl ⟨rfl,rfl,rfl,rfl,?_⟩⟩
   unfold axB
   rw [Bool.or_eq_true]
   refine .inr (List.any_eq_true.2 ⟨x,?_,?_⟩)
   · rw [mem_lack,mem_wS];exact ⟨.inr (List.mem_singleton.2 rfl),xz⟩
   · rw [decide_eq_true_iff,mem_wS];exact .inr (List.mem_singleton.2 rfl)
 · rw [l3] at hy;cases hy
   refine ⟨qB l3,.inl ⟨rfl,rfl,rfl,rfl,?_⟩⟩
   unfold axB
   rw [Bool.or_eq_true]
   refine .inr (List.any_eq_true.2 ⟨yy,?_,?_⟩)
   · rw [mem_wS];exact .inr (List.mem_singleton.2 rfl)
   · rw [decide_eq_true_iff];exact List.mem_singleton.2 rfl
 · rw [l4] at hy;cases hy
   have elack:lackS (wS (wS s.seq.left [x]) [z]) z=lackS (wS s.seq.left [x]) z:=SS.ext STO_F (SS_lack (SS_wS _ _) _) (SS_lack (SS_wS _ _) _) fun v=>by
    rw [mem_lack,mem_lack,mem_wS]
    constructor
    · rintro ⟨h1|h1,h2⟩
      · exact ⟨h1,h2⟩
      · exact absurd (List.mem_singleton.1 h1) h2
    · exact fun h=>⟨.inl h.1,h.2⟩
   refine ⟨qB l4,.inr (.inr (.inr ⟨Ft.bin 62 a b,true,by rw [← hzz];exact F?_tx hw,by rw [← hzz,zaB];exact hz,rfl,(show (8:Int)≠0 by decide),?_,⟨lackS (wS (wS s.seq.left [x]) [z]) z,wS [yy] [x]⟩,[⟨wS (lackS (wS (wS s.seq.left [x]) [z]) z) [yy],[yy]⟩],?_,?_,.inr ⟨_,rfl,?_⟩⟩))⟩
   · show z∈wS (wS s.seq.left [x]) [z]
     rw [mem_wS];exact .inr (List.mem_singleton.2 rfl)
   · show premV ⟨wS (wS s.seq.left [x]) [z],[yy]⟩ 8 (Ft.bin 62 a b)=_
     unfold premV
     have eA:(Ft.bin 62 a b).tA=x:=hx
     have eB:(Ft.bin 62 a b).tB=yy:=hy'
     rw [eA,eB,hzz];rfl
   · exact pre l2 (by omega) (by rw [elack])
   · exact pre l3 (by omega) (by rw [elack])
 · rw [l5] at hy;cases hy
   exact ⟨qB l5,.inr (.inr (.inl ⟨rfl,gz,pre l1 (by omega) rfl,pre l4 (by omega) rfl⟩))⟩
 · rw [l6] at hy;cases hy
   exact ⟨qB l6,.inr (.inr (.inl ⟨rfl,gx,pre (i:=0) l0 (by omega) rfl,pre l5 (by omega) rfl⟩))⟩
theorem SOk_any {S:List zac} (hl:S.length≤1048576) (h:∀ y∈S,y.seq.left.length≤1000∧y.seq.right.length≤1000):SOk S:=⟨hl,fun y hy=>by have:=h y hy;unfold lim;omega⟩
theorem modus_both {A B:List zac} (hA:SOk A) (hB:SOk B):∃ r,zcT A B=some r∧zcA A B=some r∧Few r.1:=by
 unfold zcT zcA
 obtain ⟨b,b1,b2,b3⟩:=proof_both hA
 rw [b1,zae,b2,zae]
 cases b with
 | false=>exact ⟨_,rfl,rfl,⟨by simp,by simp⟩⟩
 | true =>
  obtain ⟨c,c1,c2,c3⟩:=proof_both hB
  rw [Bool.not_true,cond_false,cond_false,c1,zae,c2,zae]
  cases c with
  | false=>exact ⟨_,rfl,rfl,⟨by simp,by simp⟩⟩
  | true =>
   have pA:=b3.1 rfl
   have pB:=c3.1 rfl
   have nA:=pA.2.1
   have nB:=pB.2.1
   obtain ⟨s,s1,s2,s3⟩:=last_eq pA.1 hA.len
   obtain ⟨t,t1,t2,t3⟩:=last_eq pB.1 hB.len
   have qs:=pA.seq s1
   have qt:=pB.seq t1
   have qS:=qs
   have qT:=qt
   unfold seqB at qS qT
   rw [Bool.and_eq_true,zaW,zaW] at qS qT
   have z1:=qS.1.len;have z2:=qS.2.len;have z3:=qT.1.len;have z4:=qT.2.len
   simp only [Bool.not_true,zae,cond_false]
   rw [s2,zae,t2,zae,s3,zae,t3,zae]
   unfold zdm
   obtain ⟨u,u1,u2⟩:=zdC s.seq.left t.seq.left
   rw [u1,zae]
   obtain ⟨v,v1,v2⟩:=zdg s.seq.left t.seq.left
   obtain ⟨w,w1,w2⟩:=zdg t.seq.left s.seq.left
   rw [v1,w1]
   have uvw:u=true↔v=true∧w=true:=by
    rw [u2,v2,w2]
    constructor
    · intro h;rw [h];exact ⟨fun x hx=>hx,fun x hx=>hx⟩
    · rintro ⟨h1,h2⟩;exact SS.ext STO_F qS.1.ord qT.1.ord fun x=>⟨h1 x,h2 x⟩
   have no:∀ {α:Type} (k:α),(some ([],false):Option (List zac×Bool))=some ([],false):=fun _=>rfl
   by_cases hc:(s.seq.right.length=1∧t.seq.right.length=1)∧u=true
   · obtain ⟨⟨k1,k2⟩,rfl⟩:=hc
     obtain ⟨rfl,rfl⟩:=uvw.1 rfl
     obtain ⟨x,hx⟩:=List.length_eq_one_iff.1 k1
     obtain ⟨z,hz⟩:=List.length_eq_one_iff.1 k2
     have hl:t.seq.left=s.seq.left:=(u2.1 rfl).symm
     have gz:=qT.2.good z (by rw [hz];exact List.mem_singleton.2 rfl)
     obtain ⟨f,f1,f2,f3,f4,f5⟩:=good_ft gz
     rw [show (len s.seq.right == 1)=true by rw [zaq,k1];rfl,show (len t.seq.right == 1)=true by rw [zaq,k2];rfl]
     simp only [Bool.not_true,cond_false,zae]
     rw [hz,show ix [z] 0=some z from rfl,zae,zae,zdf f1 (by omega),zae,zdc f1 f4,zae]
     obtain ⟨nd,n1,n2,n3⟩:=Ft.get_eq f
     rw [n1,zae,n2]
     dsimp only
     by_cases h62:f.opI=62
     · have:∃ a b,f=Ft.bin 62 a b:=by
        cases f with
        | leaf c =>
         have h4:=(leaf_ne (show isLf c=true from f2)).2.2.2
         have:(c.toNat:Int)=62:=h62
         exact absurd (UInt8.toNat_inj.1 (show c.toNat=(62:UInt8).toNat by show c.toNat=62;omega)) h4
        | neg a=>exact absurd h62 (by show (126:Int)≠62;decide)
        | bin op a b =>
         have:(op.toNat:Int)=62:=h62
         have:=UInt8.toNat_inj.1 (show op.toNat=(62:UInt8).toNat by show op.toNat=62;omega)
         subst this
         exact ⟨a,b,rfl⟩
       obtain ⟨a,b,rfl⟩:=this
       have en:nd=⟨((62:UInt8).toNat:Int),a.fo,b.fo,tx (Ft.bin 62 a b).txt⟩:=by
        have:(Ft.bin 62 a b).fo.get=some ⟨((62:UInt8).toNat:Int),a.fo,b.fo,tx (Ft.bin 62 a b).txt⟩:=rfl
        rw [this] at n1;cases n1;rfl
       obtain ⟨na,a1,_,a2⟩:=Ft.get_eq a
       rw [h62,en]
       simp only [beq_self_eq_true,Bool.not_true,cond_false,cond_true]
       rw [a1,zae,a2,hx,show ix [x] 0=some x from rfl,zae,zae,zae,eqS,eqS]
       have eA:(Ft.bin 62 a b).tA=tx a.txt:=rfl
       have eB:(Ft.bin 62 a b).tB=tx b.txt:=rfl
       rw [eA,eB]
       by_cases hxe:tx a.txt=x
       · rw [decide_eq_true hxe]
         simp only [Bool.not_true,cond_false,zae]
         have lz:=FT_leaf_lt (a:=a) (b:=b)
         rw [spec_l25Behind_eq (fun y hy=>(pA.all y hy).1) pB.all (by omega) (by omega),zae]
         generalize hJ:A++B.map (shS A.length)=J
         have lJ:J.length=A.length + B.length:=by rw [← hJ];simp
         have h1:=pA.1
         have h2:=pB.1
         have e1:wr (len A - 1)=((A.length - 1:Nat):Int):=by rw [zaq,wr_of _ (by omega) (by omega)];omega
         have e2:wr (wr (len A + len B) - 1)=((A.length + B.length - 1:Nat):Int):=by
          rw [zaq,zaq,wr_of ((A.length:Int) + B.length) (by omega) (by omega),wr_of _ (by omega) (by omega)];omega
         rw [e1,e2,spec_modus (by omega) qS.1.ord (by omega) (by omega) (by omega),zae]
         have at1:J[A.length - 1]?=some s:=by rw [← hJ,List.getElem?_append_left (by omega)];exact s1
         have at2:J[A.length + B.length - 1]?=some (shS A.length t):=by
          rw [← hJ,List.getElem?_append_right (by omega),show A.length + B.length - 1 - A.length=B.length - 1 by omega,List.getElem?_map,t1];rfl
         have ap1:=append_eq (A:=[]) (B:=A) (bad:=false) pA.all (by simp) (by omega) pA.1
         have hm:A.map (shS ([]:List zac).length)=A:=by
          rw [List.length_nil,show shS 0=id from funext shS_zero,List.map_id]
         rw [List.nil_append,hm,List.length_nil,Nat.zero_add,decide_eq_false (show ¬ 200 < A.length by omega),Bool.or_false] at ap1
         have ap2:=append_eq (A:=A) (B:=B) (bad:=false) pB.all (by omega) (by omega) pB.1
         rw [hJ,Bool.false_or] at ap2
         have hzz:z=tx (Ft.bin 62 a b).txt:=f3
         have mo:=impl_modus (J:=J) (bad:=decide (200 < A.length + B.length)) (a:=a) (b:=b) (by omega) at1 at2 (by omega) (by rw [hx,hxe]) (by show t.seq.right=_;rw [hz,hzz]) f2 (by omega) (by omega)
         rw [ap1,zae]
         dsimp only
         rw [ap2,zae]
         dsimp only
         rw [mo,zae]
         dsimp only
         generalize hL:sev J.length ((A.length - 1:Nat):Int) ((A.length + B.length - 1:Nat):Int) s.seq.left (tx a.txt) (tx b.txt) (tx (Ft.bin 62 a b).txt)=L at mo ⊢
         have lL:L.length=7:=by rw [← hL];rfl
         have wl1:=zbu s.seq.left [tx a.txt]
         have wl2:=zbE (wS s.seq.left [tx a.txt]) (tx (Ft.bin 62 a b).txt)
         have wl3:=zbu (lackS (wS s.seq.left [tx a.txt]) (tx (Ft.bin 62 a b).txt)) [tx b.txt]
         have wl4:=zbu (wS s.seq.left [tx a.txt]) [tx (Ft.bin 62 a b).txt]
         have wl5:=zbu [tx b.txt] [tx a.txt]
         have wl6:=zbu [tx b.txt] [tx (Ft.bin 62 a b).txt]
         simp only [List.length_cons,List.length_nil] at wl1 wl3 wl4 wl5 wl6
         have sdL:∀ y∈L,y.seq.left.length≤1000∧y.seq.right.length≤1000:=by
          rw [← hL]
          unfold sev
          dsimp only
          intro y hy
          simp only [List.mem_cons,List.not_mem_nil,or_false] at hy
          rcases hy with rfl|rfl|rfl|rfl|rfl|rfl|rfl <;> dsimp only <;> (try simp only [List.length_cons,List.length_nil]) <;> omega
         have sdJ:∀ y∈J,seqB y.seq=true:=by
          rw [← hJ]
          intro y hy
          rcases List.mem_append.1 hy with hy|hy
          · exact (pA.all y hy).1
          · obtain ⟨q,hq,rfl⟩:=List.mem_map.1 hy
            exact (pB.all q hq).1
         have sk:SOk (J++L):=SOk_any (by rw [List.length_append];omega) fun y hy=>by
          rcases List.mem_append.1 hy with hy|hy
          · have:=sdJ y hy
            unfold seqB at this
            rw [Bool.and_eq_true,zaW,zaW] at this
            have g1:=this.1.len;have g2:=this.2.len
            omega
          · exact sdL y hy
         obtain ⟨d,d1,d2⟩:=zdY sk
         rw [d1,zae]
         have dd:d=true↔allB L=true∧J.length + 7≤200:=by
          rw [d2]
          constructor
          · intro hp
            refine ⟨List.all_eq_true.2 fun y hy=>?_,?_⟩
            · obtain ⟨k,hk⟩:=List.getElem?_of_mem (List.mem_append_right J hy)
              exact hp.seq hk
            · have:=hp.2.1;rw [List.length_append,lL] at this;exact this
          · rintro ⟨g1,g2⟩
            refine ⟨by rw [List.length_append];omega,by rw [List.length_append,lL];exact g2,fun k y hy=>?_⟩
            have hk:=zat hy
            rw [List.length_append,lL] at hk
            by_cases hkJ:k < J.length
            · have:=both_cor pA pB (C:=L) (k:=k) (y:=y) (by omega) (by rw [hJ];exact hy)
              rw [hJ] at this;exact this
            · obtain ⟨i,rfl⟩:∃ i,k=J.length + i:=⟨k - J.length,by omega⟩
              rw [List.getElem?_append_right (by omega),show J.length + i - J.length=i by omega] at hy
              have:=sev_cor (J:=J) (a:=a) (b:=b) at1 at2 qs qt hl (by rw [hx,hxe]) (by show t.seq.right=_;rw [hz,hzz]) f2 (by omega) (by rw [hL];exact g1) i y (by rw [hL];exact hy)
              rw [hL] at this;exact this
         cases hd:d with
         | true =>
          obtain ⟨g1,g2⟩:=dd.1 hd
          rw [g1,decide_eq_false (show ¬ 200 < A.length + B.length by omega),decide_eq_false (show ¬ 200 < J.length + 7 by omega)]
          refine ⟨_,rfl,rfl,Few_seq (by simp;omega) fun y hy=>?_⟩
          rcases List.mem_append.1 hy with hy|hy
          · exact sdJ y hy
          · exact List.all_eq_true.1 g1 y hy
         | false =>
          have:(decide (200 < A.length + B.length) || !allB L || decide (200 < J.length + 7))=true:=by
           cases ha:allB L with
           | false=>simp
           | true =>
            have:¬ J.length + 7≤200:=fun g=>by rw [dd.2 ⟨ha,g⟩] at hd;cases hd
            rw [decide_eq_true (show 200 < J.length + 7 by omega)];simp
          rw [this]
          exact ⟨_,rfl,rfl,⟨by simp,by simp⟩⟩
       · rw [decide_eq_false hxe]
         exact ⟨_,rfl,rfl,⟨by simp,by simp⟩⟩
     · rw [beq_eq_false_iff_ne.2 h62]
       exact ⟨_,rfl,rfl,⟨by simp,by simp⟩⟩
   · have i1:(bif (bif (!u) then true else (!((len s.seq.right) == 1))) then true else (!((len t.seq.right) == 1)))=true:=by
      cases u with
      | false=>rfl
      | true =>
       by_cases k1:s.seq.right.length=1
       · by_cases k2:t.seq.right.length=1
         · exact absurd ⟨⟨k1,k2⟩,rfl⟩ hc
         · rw [show (len t.seq.right == 1)=false by rw [zaq,beq_eq_false_iff_ne];omega];simp
       · rw [show (len s.seq.right == 1)=false by rw [zaq,beq_eq_false_iff_ne];omega];simp
     rw [i1]
     simp only [zae,cond_true,Bool.not_false]
     by_cases k1:s.seq.right.length=1
     · by_cases k2:t.seq.right.length=1
       · have hu:u=false:=by
          cases u with
          | false=>rfl
          | true=>exact absurd ⟨⟨k1,k2⟩,rfl⟩ hc
         rw [show (len s.seq.right == 1)=true by rw [zaq,k1];rfl,show (len t.seq.right == 1)=true by rw [zaq,k2];rfl]
         have:v=false∨w=false:=by
          cases v with
          | false=>exact .inl rfl
          | true=>cases w with
           | false=>exact .inr rfl
           | true=>rw [uvw.2 ⟨rfl,rfl⟩] at hu;cases hu
         rcases this with rfl|rfl
         · exact ⟨_,rfl,rfl,⟨by simp,by simp⟩⟩
         · cases v <;> exact ⟨_,rfl,rfl,⟨by simp,by simp⟩⟩
       · rw [show (len t.seq.right == 1)=false by rw [zaq,beq_eq_false_iff_ne];omega,show (len s.seq.right == 1)=true by rw [zaq,k1];rfl]
         exact ⟨_,rfl,rfl,⟨by simp,by simp⟩⟩
     · rw [show (len s.seq.right == 1)=false by rw [zaq,beq_eq_false_iff_ne];omega]
       exact ⟨_,rfl,rfl,⟨by simp,by simp⟩⟩
theorem plain_ModusSequents (a b:List zac) (ha:okL okSeqStep a) (hb:okL okSeqStep b):zdn a b=some true:=by
 unfold zdn
 obtain ⟨r,e,hr⟩:=sz_SeqStepS ha (s:=1048576) (by omega) (by omega)
 rw [e,zae]
 by_cases hn:r < 0
 · rw [bifT (decide_eq_true hn)]
 · rw [bifF (decide_eq_false hn)]
   have hr:=hr.resolve_left hn
   obtain ⟨r',e',hr'⟩:=sz_SeqStepS hb (s:=r) (by omega) (by omega)
   rw [e',zae]
   by_cases hn':r' < 0
   · rw [bifT (decide_eq_true hn')]
   · rw [bifF (decide_eq_false hn')]
     have hr':=hr'.resolve_left hn'
     have hS:=SOk_sz (by omega) (by omega) hr
     have hT:=SOk_sz (by omega) (by omega) hr'
     obtain ⟨q,q1,q2,q3⟩:=modus_both hS hT
     obtain ⟨k,m1,m2,m3⟩:=q3.marks
     have mS:=mark_in (by omega) (by omega) hr (k:=1) (by omega) (by omega)
     have mT:=mark_in (by omega) (by omega) hr' (k:=(zaz a 1).2) (by omega) (by omega)
     rw [to_SeqStepS hS,zae,to_SeqStepS hT,zae,q1,zae,zae,zae,q2,zae,eq_SeqStepS,zae]
     simp only [beq_self_eq_true,Bool.not_true,cond_false,zae,eq_SeqStepS,q2,decide_eq_false (show ¬ (zaz b (zaz a 1).2).2 < 0 by omega),m1,m2,decide_eq_false (show ¬ k < 0 by omega)]
end Go.PF
