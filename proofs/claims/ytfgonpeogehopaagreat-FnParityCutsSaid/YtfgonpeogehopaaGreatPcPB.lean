/- Helpers of the walks and plain laws. -/
import Derived.Test.YtfgonpeogehopaaGreatPcPA
set_option linter.unusedVariables false
namespace Go.PF
open Go.Pu
theorem zbm {P:Prop} (h:¬ P):(false=true↔P):=⟨fun g=>(nomatch g),fun g=>absurd g h⟩
theorem spec_good {G:zae}:∃ b,zbM G=some b∧(b=true↔OkG G):=by
 unfold zbM
 rw [za8]
 by_cases h1:inB G.vertices 1 8=true
 · by_cases h2:G.edges.length≤12
   · by_cases h3:len G.charges=G.vertices
     · rw [h1,decide_eq_false (show ¬ 12 < len G.edges by rw [zai];omega),h3,beq_self_eq_true]
       simp only [Bool.not_true,cond_false]
       obtain ⟨v1,v8⟩:=zaN.1 h1
       have hc:=h3;rw [zai] at hc
       have hw:wr (G.vertices - 1)=G.vertices - 1:=wr_s (by omega) (by omega)
       refine cnt_m (σ:=Unit) (fun _ i=>i) (n:=G.edges.length) (a:=0) (s0:=()) (fun i _=>∀ e∈G.edges.take i,0≤e.1∧e.1 < e.2∧e.2 < G.vertices) rfl (Nat.zero_le _) (by simp) ?_ ?_ ?_
       · rintro i ⟨⟩ - hi hI
         have he:G.edges[i]?=some G.edges[i]:=List.getElem?_eq_getElem hi
         generalize G.edges[i]=e at he
         rw [cT (by rw [zai];omega),zal he,zaa,za8,hw]
         by_cases hg:0≤e.1∧e.1 < e.2∧e.2 < G.vertices
         · left
           rw [zaN.2 ⟨hg.1,by omega⟩,Bool.not_true,cond_false,zaa,zaa,za8,zaN.2 ⟨show 0≤e.2 by omega,show e.2≤G.vertices - 1 by omega⟩,Bool.not_true,cond_false,zaa,zaa,zaa,decide_eq_false (show ¬ e.2≤e.1 by omega),cond_false,wr_s (by omega) (by omega)]
           refine ⟨(),rfl,fun x hx=>?_⟩
           rw [List.take_add_one,he] at hx
           rcases List.mem_append.1 hx with hx|hx
           · exact hI x hx
           · simp at hx;subst hx;exact hg
         · right
           refine ⟨false,?_,false,rfl,zbm fun g=>hg (g.ed e (List.mem_of_getElem? he))⟩
           cases a1:inB e.1 0 (G.vertices - 1) with
           | false=>rfl
           | true =>
            rw [Bool.not_true,cond_false,zaa,zaa,za8]
            cases a2:inB e.2 0 (G.vertices - 1) with
            | false=>rfl
            | true =>
             obtain ⟨b1,b2⟩:=zaN.1 a1
             obtain ⟨b3,b4⟩:=zaN.1 a2
             rw [Bool.not_true,cond_false,zaa,zaa,zaa,decide_eq_true (show e.2≤e.1 by omega)]
             rfl
       · rintro ⟨⟩ hE
         rw [cF (by rw [zai];omega)]
       · rintro ⟨⟩ hE
         rw [List.take_length] at hE
         refine cnt_m (σ:=Unit) (fun _ i=>i) (n:=G.charges.length) (a:=0) (s0:=()) (fun i _=>(∀ c∈G.charges.take i,c=0∨c=1)∧∀ v:Nat,v < i→(idE (inc (v:Int)) G.edges).length≤4) rfl (Nat.zero_le _) (by simp) ?_ ?_ ?_
         · rintro i ⟨⟩ - hi ⟨hI,hJ⟩
           have hc':G.charges[i]?=some G.charges[i]:=List.getElem?_eq_getElem hi
           generalize G.charges[i]=c at hc'
           rw [cT (by omega),zal hc',zaa,za8,spec_at_eq (by omega)]
           by_cases a1:c=0∨c=1
           · rw [inB01.2 a1,Bool.not_true,cond_false,zaa,zaa]
             by_cases a2:(idE (inc (i:Int)) G.edges).length≤4
             · left
               rw [decide_eq_false (show ¬ 4 < len (idE (inc (i:Int)) G.edges) by rw [zai];omega),cond_false,wr_s (by omega) (by omega)]
               refine ⟨(),rfl,fun x hx=>?_,fun v hv=>?_⟩
               · rw [List.take_add_one,hc'] at hx
                 rcases List.mem_append.1 hx with hx|hx
                 · exact hI x hx
                 · simp at hx;subst hx;exact a1
               · by_cases e:v=i
                 · subst e;exact a2
                 · exact hJ v (by omega)
             · right
               rw [decide_eq_true (show 4 < len (idE (inc (i:Int)) G.edges) by rw [zai];omega)]
               exact ⟨false,rfl,false,rfl,zbm fun g=>a2 (g.dg i hi)⟩
           · right
             have:inB c 0 1=false:=by
              cases hh:inB c 0 1 with
              | true=>exact absurd (inB01.1 hh) a1
              | false=>rfl
             rw [this,Bool.not_false,cond_true,zaa,cond_true]
             exact ⟨false,rfl,false,rfl,zbm fun g=>a1 (g.ch c (List.mem_of_getElem? hc'))⟩
         · rintro ⟨⟩ -
           rw [cF (by omega)]
         · rintro ⟨⟩ ⟨hI,hJ⟩
           rw [List.take_length] at hI
           exact ⟨true,rfl,fun _=>⟨v1,v8,h2,hc,hE,hI,hJ⟩,fun _=>rfl⟩
     · refine ⟨false,?_,zbm fun g=>h3 g.cl⟩
       rw [h1,decide_eq_false (show ¬ 12 < len G.edges by rw [zai];omega),show (len G.charges == G.vertices)=false from by rw [beq_eq_false_iff_ne];exact h3]
       rfl
   · refine ⟨false,?_,zbm fun g=>h2 g.e12⟩
     rw [h1,decide_eq_true (show 12 < len G.edges by rw [zai];omega)]
     rfl
 · refine ⟨false,?_,zbm fun g=>h1 (zaN.2 ⟨g.v1,g.v8⟩)⟩
   rw [show inB G.vertices 1 8=false from by simpa using h1]
   rfl
theorem zbu (G:zae):∃ b,za3 G=some b∧zbM G=some b∧(b=true↔OkG G):=by
 obtain ⟨b,e,hb⟩:=impl_good (G:=G)
 obtain ⟨c,e',hc⟩:=spec_good (G:=G)
 have:b=c:=by
  cases b <;> cases c
  · rfl
  · exact absurd (hb.2 (hc.1 rfl)) (by decide)
  · exact absurd (hc.2 (hb.1 rfl)) (by decide)
  · rfl
 subst this
 exact ⟨b,e,e',hb⟩
structure Rise (V:Int) (S:List Int):Prop where
 rng:∀ x∈S,0≤x∧x < V
 srt:S.Pairwise (· < ·)
theorem rising_eq {V:Int} (hV:1≤V∧V≤8) {S:List Int} (hl:S.length≤100000):∃ b,zbN S 0 (V - 1)=some b∧(b=true↔Rise V S):=by
 unfold zbN
 refine loop_lx (fun i _=>(∀ x∈S.take i,0≤x∧x < V)∧(S.take i).Pairwise (· < ·)) (by simp) ?_ ?_
 · rintro i x ⟨⟩ hx ⟨hI,hP⟩
   have hi:=(List.getElem?_eq_some_iff.1 hx).1
   rw [za8]
   cases a1:inB x 0 (V - 1) with
   | false =>
    right
    refine ⟨false,false,rfl,rfl,zbm fun g=>?_⟩
    have:=g.rng x (List.mem_of_getElem? hx)
    have:inB x 0 (V - 1)=true:=zaN.2 ⟨this.1,by omega⟩
    rw [a1] at this;cases this
   | true =>
    obtain ⟨b1,b2⟩:=zaN.1 a1
    rw [Bool.not_true,cond_false]
    have htake:S.take (i + 1)=S.take i++[x]:=by rw [List.take_add_one,hx];rfl
    have hrng:∀ y∈S.take (i + 1),0≤y∧y < V:=by
     intro y hy
     rw [htake] at hy
     rcases List.mem_append.1 hy with hy|hy
     · exact hI y hy
     · simp at hy;subst hy;exact ⟨b1,by omega⟩
    by_cases h0:0 < i
    · obtain ⟨y,hy⟩:∃ y,S[i - 1]?=some y:=⟨_,List.getElem?_eq_getElem (by omega)⟩
      rw [cT (by omega),wr_s (by omega) (by omega),show ((i:Int) - 1)=((i - 1:Nat):Int) by omega,zal hy,zaa,zaa,zaa]
      have htk:S.take i=S.take (i - 1)++[y]:=by
       have:=List.take_add_one (l:=S) (i:=i - 1)
       rw [show i - 1 + 1=i by omega,hy] at this
       exact this
      by_cases hlt:y < x
      · left
        rw [cF (by omega)]
        refine ⟨(),rfl,hrng,?_⟩
        rw [htake,List.pairwise_append]
        refine ⟨hP,by simp,fun a ha c hc=>?_⟩
        simp at hc;subst hc
        rw [htk] at ha hP
        rcases List.mem_append.1 ha with ha|ha
        · have:=(List.pairwise_append.1 hP).2.2 a ha y (by simp)
          omega
        · simp at ha;subst ha;exact hlt
      · right
        rw [cT (by omega)]
        refine ⟨false,false,rfl,rfl,zbm fun g=>hlt ?_⟩
        have h1:=List.pairwise_iff_getElem.1 g.srt (i - 1) i (by omega) hi (by omega)
        rw [(List.getElem?_eq_some_iff.1 hx).2,(List.getElem?_eq_some_iff.1 hy).2] at h1
        exact h1
    · left
      rw [cF (by omega),zaa,zaa,cond_false]
      refine ⟨(),rfl,hrng,?_⟩
      have:i=0:=by omega
      subst this
      rw [htake];simp
 · rintro ⟨⟩ ⟨hI,hP⟩
   rw [List.take_length] at hI hP
   exact ⟨true,rfl,fun _=>⟨hI,hP⟩,fun _=>rfl⟩
theorem impl_verts_eq {G:zae} (hw:wr (G.vertices - 1)=G.vertices - 1) (S:List Int):zb4 G S=zbN S 0 (G.vertices - 1):=by
 unfold zb4 zbN zbK
 rw [hw]
 rfl
theorem size_eq (G:zae) {S:List Int} (hl:S.length≤100000):∃ q,zb7 G S=some q∧zcC G S=some q∧(q.2=true→OkG G∧Rise G.vertices S∧q.1=((idE (cro S) G.edges).length:Int))∧(OkG G→Rise G.vertices S→q.2=true):=by
 unfold zb7 zcC zb6
 obtain ⟨b,e1,e2,hb⟩:=zbu G
 rw [e1,e2,zaa,zaa]
 cases b with
 | false=>exact ⟨(0,false),rfl,rfl,fun h=>(nomatch h),fun g=>by have:=hb.2 g;cases this⟩
 | true =>
  have hG:=hb.1 rfl
  have:=hG.v1;have:=hG.v8;have he:=hG.e12
  have hw:wr (G.vertices - 1)=G.vertices - 1:=wr_s (by omega) (by omega)
  obtain ⟨c,r1,r2⟩:=rising_eq (V:=G.vertices) ⟨hG.v1,hG.v8⟩ hl
  rw [Bool.not_true,cond_false,cond_true,impl_verts_eq hw,hw,r1,zaa,zaa,zaa,zaa,zaa]
  cases c with
  | false=>exact ⟨(0,false),rfl,rfl,fun h=>(nomatch h),fun _ g=>by have:=r2.2 g;cases this⟩
  | true =>
   rw [Bool.not_true,cond_false,cond_false,zdq (by omega),zdr (by omega),zaa]
   exact ⟨_,rfl,rfl,fun _=>⟨hG,r2.1 rfl,rfl⟩,fun _ _=>rfl⟩
end Go.PF
namespace Go.PF
open Go.Pu
def sumR:Nat→(Nat→Int)→Int
 | 0,_=>0
 | n + 1,f=>sumR n f + f n
theorem zaY {f g:Nat→Int}:∀ {n:Nat},(∀ k,k < n→f k=g k)→sumR n f=sumR n g
 | 0,_=>rfl
 | n + 1,h=>by rw [sumR,sumR,zaY (n:=n) fun k hk=>h k (by omega),h n (by omega)]
theorem zb1 {f g:Nat→Int}:∀ {n:Nat},sumR n (fun k=>f k + g k)=sumR n f + sumR n g
 | 0=>rfl
 | n + 1=>by rw [sumR,sumR,sumR,zb1 (n:=n)];omega
theorem zcp:∀ {n:Nat},sumR n (fun _=>0)=0
 | 0=>rfl
 | n + 1=>by rw [sumR,zcp (n:=n)];rfl
theorem sumR_comm {f:Nat→Nat→Int}:∀ {n m:Nat},sumR n (fun i=>sumR m (fun j=>f i j))=sumR m (fun j=>sumR n (fun i=>f i j))
 | 0,m=>by rw [sumR];exact (zcp (n:=m)).symm
 | n + 1,m=>by
  rw [sumR,sumR_comm (n:=n)]
  have:(fun j=>sumR (n + 1) fun i=>f i j)=fun j=>sumR n (fun i=>f i j) + f n j:=rfl
  rw [this,zb1]
theorem sumR_one {a:Nat} {x:Int}:∀ {n:Nat},a < n→sumR n (fun k=>if k=a then x else 0)=x
 | 0,h=>absurd h (Nat.not_lt_zero _)
 | n + 1,h=>by
  rw [sumR]
  by_cases e:a=n
  · subst e
    rw [if_pos rfl,zaY (g:=fun _=>0) fun k hk=>if_neg (by omega),zcp];omega
  · rw [sumR_one (n:=n) (by omega),if_neg (by omega)];omega
theorem sumR_even {f g:Nat→Int}:∀ {n:Nat},(∀ k,k < n→(2:Int) ∣ f k - g k)→(2:Int) ∣ sumR n f - sumR n g
 | 0,_=>by simp [sumR]
 | n + 1,h=>by
  have h1:=sumR_even (n:=n) (f:=f) (g:=g) fun k hk=>h k (by omega)
  have h2:=h n (by omega)
  rw [sumR,sumR]
  omega
theorem sumR_rng {f:Nat→Int} {a b:Int}:∀ {n:Nat},(∀ k,k < n→a≤f k∧f k≤b)→a * n≤sumR n f∧sumR n f≤b * n
 | 0,_=>by simp [sumR]
 | n + 1,h=>by
  have h1:=sumR_rng (n:=n) (f:=f) fun k hk=>h k (by omega)
  have h2:=h n (by omega)
  rw [sumR]
  have e1:a * ((n + 1:Nat):Int)=a * n + a:=by rw [Int.natCast_add,Int.mul_add];simp
  have e2:b * ((n + 1:Nat):Int)=b * n + b:=by rw [Int.natCast_add,Int.mul_add];simp
  omega
theorem forR_invX {σ X:Type} {m:Nat} {body:Nat→σ→Option (Lp σ X)} (I:Nat→σ→Prop) {s0:σ} (h0:I 0 s0) (h:∀ i s,i < m→I i s→∃ s',body i s=some (.nx s')∧I (i + 1) s'):∃ s',forR 0 m body s0=some (.go s')∧I m s':=by
 have key:∀ (n i:Nat) (s:σ),i + n=m→I i s→∃ s',zbD body n i s=some (.go s')∧I m s':=by
  intro n
  induction n with
  | zero=>intro i s hi hI;rw [Nat.add_zero] at hi;subst hi;exact ⟨s,rfl,hI⟩
  | succ n ih =>
   intro i s hi hI
   obtain ⟨s',e,hI'⟩:=h i s (by omega) hI
   obtain ⟨s'',e',hI''⟩:=ih (i + 1) s' (by omega) hI'
   exact ⟨s'',by simp only [zbD,e];exact e',hI''⟩
 exact key m 0 s0 (by omega) h0
theorem zbd {A:Type} {xs:List A} (h:xs.length≤1000000):chk (len xs)=some xs.length:=by
 rw [zai]
 generalize xs.length=n at h
 unfold chk
 rw [if_pos (by omega),Int.toNat_natCast]
theorem sum_idT {p:Int×Int→Bool} {E:List (Int×Int)} {f:Int→Int}:∀ {i:Nat},((idT p E i).map f).sum=sumR i fun k=>if qE p E k then f (k:Int) else 0
 | 0=>rfl
 | i + 1=>by
  unfold idT
  rw [List.range_succ,List.filter_append,List.map_append,List.map_append,List.sum_append,sumR,← sum_idT (i:=i)]
  congr 1
  cases h:qE p E i <;> simp [h]
theorem len_idT {p:Int×Int→Bool} {E:List (Int×Int)} {i:Nat}:(((idT p E i).length:Nat):Int)=sumR i fun k=>if qE p E k then 1 else 0:=by
 rw [← sum_idT (f:=fun _=>1)]
 generalize idT p E i=l
 induction l with
 | nil=>rfl
 | cons a l ih=>simp only [List.length_cons,List.map_cons,List.sum_cons,← ih];omega
theorem sum_rise {V:Nat} {f:Int→Int}:∀ {S:List Int},Rise (V:Int) S→(S.map f).sum=sumR V fun v=>if ((v:Nat):Int)∈S then f (v:Int) else 0
 | [],_=>by
  rw [zaY (g:=fun _=>0) fun k hk=>if_neg (by simp),zcp];rfl
 | x::S,h=>by
  have h1:Rise (V:Int) S:=⟨fun y hy=>h.rng y (by simp [hy]),(List.pairwise_cons.1 h.srt).2⟩
  have h2:=h.rng x (by simp)
  have h3:x ∉ S:=fun hx=>by have:=(List.pairwise_cons.1 h.srt).1 x hx;omega
  obtain ⟨a,rfl⟩:∃ a:Nat,x=(a:Int):=⟨x.toNat,by omega⟩
  rw [List.map_cons,List.sum_cons,sum_rise h1,← sumR_one (n:=V) (a:=a) (x:=f (a:Int)) (by omega),← zb1]
  refine zaY fun k hk=>?_
  by_cases e:k=a
  · subst e
    rw [if_pos rfl,if_neg h3,if_pos (by simp)];omega
  · rw [if_neg e]
    have:(k:Int)∈(a:Int)::S↔(k:Int)∈S:=by
     rw [List.mem_cons];constructor
     · rintro (h|h)
       · omega
       · exact h
     · exact .inr
    by_cases hs:(k:Int)∈S
    · rw [if_pos hs,if_pos (this.2 hs)];omega
    · rw [if_neg hs,if_neg (fun h=>hs (this.1 h))];omega
def btI (b k:Int):Int:=andK true 64 (shrK 64 b k) 1
theorem btI_eq {n k:Nat} (hn:n < 9223372036854775808) (hk:k≤63):btI (n:Int) (k:Int)=if n.testBit k then 1 else 0:=by
 unfold btI
 rw [shrK_nat hk]
 have h1:n >>> k < 9223372036854775808:=Nat.lt_of_le_of_lt (Nat.shiftRight_le n k) hn
 have:=andK_nat h1 (show 1 < 9223372036854775808 by omega)
 rw [show (1:Int)=((1:Nat):Int) from rfl,this]
 unfold Nat.testBit
 rw [Nat.and_comm]
 have hb:1 &&& n >>> k=0∨1 &&& n >>> k=1:=by
  have:1 &&& n >>> k≤1:=Nat.and_le_left
  omega
 rcases hb with h|h <;> rw [h] <;> rfl
theorem sum_take {xs:List Int} {g:Int→Int} {i:Nat} {y:Int} (h:xs[i]?=some y):((xs.take (i + 1)).map g).sum=((xs.take i).map g).sum + g y:=by
 rw [List.take_add_one,h,Option.toList_some,List.map_append,List.sum_append];simp
theorem sum_b {g:Int→Int}:∀ {xs:List Int},(∀ y∈xs,0≤g y∧g y≤1)→0≤(xs.map g).sum∧(xs.map g).sum≤xs.length
 | [],_=>by simp
 | x::xs,h=>by
  have h1:=sum_b (xs:=xs) fun y hy=>h y (by simp [hy])
  have h2:=h x (by simp)
  rw [List.map_cons,List.sum_cons,List.length_cons]
  omega
section
variable {B:Type} {xs:List Int} {g:Int→Int} {a:Int} {k:Int→Option B} {lx:Empty→Option B}
theorem forL_sum {body:Nat→Int→Int→Option (Lp Int Empty)} (hb:∀ (i:Nat) y s,xs[i]?=some y→body i y s=some (.nx (wr (s + g y)))) (hg:∀ y∈xs,0≤g y∧g y≤1) (ha:0≤a∧a≤1000) (hl:xs.length≤1000) :
 bdR (forL xs body a) k lx=k (a + (xs.map g).sum):=by
 obtain ⟨s,e,hs⟩:=forL_inv (body:=body) (l:=xs) (s:=a) (fun i s=>s=a + ((xs.take i).map g).sum) (by simp) (fun i y s hy hs=>by
  subst hs
  have h1:=sum_b (xs:=xs.take i) fun y hy=>hg y (List.mem_of_mem_take hy)
  have h2:=hg y (List.mem_of_getElem? hy)
  rw [List.length_take] at h1
  rw [hb i y _ hy,sum_take hy,wr_s (by omega) (by omega)]
  exact ⟨_,rfl,by omega⟩)
 rw [List.take_length] at hs
 rw [e,hs];rfl
theorem forR_sum {n:Nat} (hn:n=xs.length) {body:Nat→Int→Option (Lp Int Empty)} (hb:∀ (i:Nat) y s,xs[i]?=some y→body i s=some (.nx (wr (s + g y)))) (hg:∀ y∈xs,0≤g y∧g y≤1) (ha:0≤a∧a≤1000) (hl:xs.length≤1000) :
 bdR (forR 0 n body a) k lx=k (a + (xs.map g).sum):=by
 subst hn
 obtain ⟨s,e,hs⟩:=forR_invX (body:=body) (m:=xs.length) (s0:=a) (fun i s=>s=a + ((xs.take i).map g).sum) (by simp) (fun i s hi hs=>by
  subst hs
  have hy:xs[i]?=some xs[i]:=List.getElem?_eq_getElem hi
  generalize xs[i]=y at hy
  have h1:=sum_b (xs:=xs.take i) fun y hy=>hg y (List.mem_of_mem_take hy)
  have h2:=hg y (List.mem_of_getElem? hy)
  rw [List.length_take] at h1
  rw [hb i y _ hy,sum_take hy,wr_s (by omega) (by omega)]
  exact ⟨_,rfl,by omega⟩)
 rw [List.take_length] at hs
 rw [e,hs];rfl
theorem iter_sum {k:Int×Int→Option B} {body:Int×Int→Option (Lp (Int×Int) Empty)} (hb:∀ (i:Nat) y s,xs[i]?=some y→body (s,(i:Int))=some (.nx (wr (s + g y),wr ((i:Int) + 1)))) (he:∀ s,body (s,(xs.length:Int))=some (.bk (s,(xs.length:Int)))) (hg:∀ y∈xs,0≤g y∧g y≤1) (ha:0≤a∧a≤1000) (hl:xs.length≤1000) :
 bdR (iter body (a,0)) k lx=k (a + (xs.map g).sum,(xs.length:Int)):=by
 obtain ⟨r,e,hr⟩:=cnt_m (X:=Empty) (B:=Int×Int) (σ:=Int) (fun s i=>(s,i)) (n:=xs.length) (body:=body) (a:=0) (t0:=(a,0)) (k:=some) (lx:=fun x=>nomatch x) (R:=fun r=>r=(a + (xs.map g).sum,(xs.length:Int))) (fun i s=>s=a + ((xs.take i).map g).sum) rfl (Nat.zero_le _) (s0:=a) (by simp)
  (by
   rintro i s - hi rfl
   left
   have hy:xs[i]?=some xs[i]:=List.getElem?_eq_getElem hi
   generalize xs[i]=y at hy
   have h1:=sum_b (xs:=xs.take i) fun y hy=>hg y (List.mem_of_mem_take hy)
   have h2:=hg y (List.mem_of_getElem? hy)
   rw [List.length_take] at h1
   rw [hb i y _ hy,sum_take hy,wr_s (by omega) (by omega),wr_s (by omega) (by omega)]
   exact ⟨_,rfl,by omega⟩)
  (fun s _=>he s) (by rintro s rfl;rw [List.take_length];exact ⟨_,rfl,rfl⟩)
 cases hq:iter body (a,0) with
 | none=>rw [hq] at e;cases e
 | some q =>
  rw [hq] at e
  cases q with
  | go s =>
   have:some s=some r:=e
   cases this
   rw [hr];rfl
  | rt x=>exact nomatch x
end
def chg (G:zae) (v:Int):Int:=(G.charges[v.toNat]?).getD 0
theorem chg_ix {G:zae} (h:OkG G) {v:Int} (h0:0≤v) (h1:v < G.vertices):ix G.charges v=some (chg G v)∧0≤chg G v∧chg G v≤1:=by
 have:=h.cl
 obtain ⟨n,rfl⟩:∃ n:Nat,v=(n:Int):=⟨v.toNat,by omega⟩
 have hn:n < G.charges.length:=by omega
 have e:G.charges[n]?=some G.charges[n]:=List.getElem?_eq_getElem hn
 have hc:=h.ch _ (List.getElem_mem hn)
 unfold chg
 rw [Int.toNat_natCast,zal e,e,Option.getD_some]
 exact ⟨rfl,by omega,by omega⟩
theorem Rise.len {V:Int} (h0:0≤V) {S:List Int} (h:Rise V S):S.length≤V.toNat:=by
 obtain ⟨n,rfl⟩:∃ n:Nat,V=(n:Int):=⟨V.toNat,by omega⟩
 have h1:=sum_rise (f:=fun _=>1) h
 have h2:((S.map fun _=>(1:Int)).sum)=(S.length:Int):=by
  clear h h1
  induction S with
  | nil=>rfl
  | cons a l ih=>simp only [List.map_cons,List.sum_cons,ih,List.length_cons];omega
 have h3:=sumR_rng (f:=fun v=>if ((v:Nat):Int)∈S then (1:Int) else 0) (a:=0) (b:=1) (n:=n) fun k hk=>by split <;> omega
 rw [h2] at h1
 rw [Int.toNat_natCast]
 omega
theorem bits_eq (G:zae) (h:OkG G) (bits:Int):∃ b,zbv G bits=some b∧zcA (len G.edges) bits=some b∧(b=true→∃ n:Nat,bits=(n:Int)∧n < 2 ^ G.edges.length):=by
 unfold zbv zcx zcA
 have he:=h.e12
 have hnn:nn (len G.edges)=some ():=by
  unfold nn
  rw [if_neg (by rw [zai];omega)]
 rw [hnn,zaa,zaa,zbH,za8,zaa,zai,shlK_nat (by omega)]
 refine ⟨_,rfl,rfl,fun hb=>?_⟩
 have hp:2 ^ G.edges.length≤2 ^ 12:=Nat.pow_le_pow_right (by omega) he
 have hp0:0 < 2 ^ G.edges.length:=Nat.pow_pos (by omega)
 generalize 2 ^ G.edges.length=P at hb hp hp0
 rw [wr_s (by omega) (by omega),zaN] at hb
 exact ⟨bits.toNat,by omega,by omega⟩
theorem btI_b {n:Nat} (hn:n < 4096) {k:Int} (h0:0≤k) (h1:k≤12):0≤btI (n:Int) k∧btI (n:Int) k≤1:=by
 obtain ⟨j,rfl⟩:∃ j:Nat,k=(j:Int):=⟨k.toNat,by omega⟩
 rw [btI_eq (by omega) (by omega)]
 split <;> omega
theorem idE_b {G:zae} (h:OkG G) {p:Int×Int→Bool} {n:Nat} (hn:n < 4096):∀ y∈idE p G.edges,(0≤y∧y≤12)∧0≤btI (n:Int) y∧btI (n:Int) y≤1:=by
 intro y hy
 obtain ⟨k,e,rfl,he,_⟩:=zbt.1 hy
 have:=(List.getElem?_eq_some_iff.1 he).1
 have:=h.e12
 exact ⟨by omega,btI_b hn (by omega) (by omega)⟩
def cutT (G:zae) (S:List Int) (bits:Int):Int:=(S.map (chg G)).sum + ((idE (cro S) G.edges).map (btI bits)).sum
theorem nn_of {x:Int} (h:0≤x):nn x=some ():=by unfold nn;rw [if_neg (by omega)]
theorem sumcut_eq (G:zae) {S:List Int} (hl:S.length≤100000) (bits:Int):∃ q,zcz G S bits=some q∧zcB G S bits=some q∧(q.2=true→OkG G∧Rise G.vertices S∧(∃ n:Nat,bits=(n:Int)∧n < 2 ^ G.edges.length)∧q.1=(cutT G S bits).tmod 2):=by
 unfold zcz zcB zb6
 obtain ⟨b,e1,e2,hb⟩:=zbu G
 rw [e1,e2,zaa,zaa]
 cases b with
 | false=>exact ⟨(0,false),rfl,rfl,fun h=>(nomatch h)⟩
 | true =>
  have hG:=hb.1 rfl
  have v1:=hG.v1;have v8:=hG.v8;have he:=hG.e12
  have hw:wr (G.vertices - 1)=G.vertices - 1:=wr_s (by omega) (by omega)
  obtain ⟨c,r1,r2⟩:=rising_eq (V:=G.vertices) ⟨hG.v1,hG.v8⟩ hl
  rw [Bool.not_true,cond_false,cond_true,impl_verts_eq hw,hw,r1,zaa,zaa,zaa,zaa,zaa]
  cases c with
  | false=>exact ⟨(0,false),rfl,rfl,fun h=>(nomatch h)⟩
  | true =>
   have hR:=r2.1 rfl
   have hS8:=hR.len (by omega)
   obtain ⟨d,d1,d2,d3⟩:=bits_eq G hG bits
   rw [Bool.not_true,cond_false,cond_false,d1,d2,zaa,zaa,zaa]
   cases d with
   | false=>exact ⟨(0,false),rfl,rfl,fun h=>(nomatch h)⟩
   | true =>
    obtain ⟨n,rfl,hn⟩:=d3 rfl
    have hp:2 ^ G.edges.length≤2 ^ 12:=Nat.pow_le_pow_right (by omega) he
    have hn':n < 4096:=by omega
    have hc:∀ y∈S,ix G.charges y=some (chg G y)∧0≤chg G y∧chg G y≤1:=fun y hy=>chg_ix hG (hR.rng y hy).1 (hR.rng y hy).2
    have hsum:=sum_b (xs:=S) (g:=chg G) fun y hy=>(hc y hy).2
    have hidl:=idE_len (p:=cro S) (E:=G.edges)
    unfold zdb
    rw [Bool.not_true,cond_false,cond_false]
    have first:∀ {B:Type} {k:Int→Option B} {lx:Empty→Option B},bdR (forL (S:=Int) (X:=Empty) S (fun i78 y77 s78=>bd (ix G.charges y77) (fun x129=>some (Lp.nx (wr (s78 + x129))))) 0) k lx=k (0 + (S.map (chg G)).sum):=by
     intro B k lx
     exact forL_sum (g:=chg G) (fun i y s hy=>by rw [(hc y (List.mem_of_getElem? hy)).1,zaa]) (fun y hy=>(hc y hy).2) (by omega) (by omega)
    rw [first,first,zaa,Int.zero_add,zdq (by omega),zdr (by omega),zaa,zaa,zbd (by omega),zaa]
    have e3:=forR_sum (B:=Int×Bool) (xs:=idE (cro S) G.edges) (g:=btI (n:Int)) (a:=(S.map (chg G)).sum) (n:=(idE (cro S) G.edges).length) rfl (k:=fun s152=>some ((s152.tmod 2),true)) (lx:=fun x=>nomatch x)
     (body:=fun i152 s152=>bd (ix (idE (cro S) G.edges) ((i152:Nat):Int)) (fun x189=>bd (nn x189) (fun u192=>some (Lp.nx (wr (s152 + (andK true 64 (shrK 64 (n:Int) x189) 1)))))))
     (fun i y s hy=>by rw [zal hy,zaa,nn_of ((idE_b hG hn' y (List.mem_of_getElem? hy)).1.1),zaa];rfl) (fun y hy=>(idE_b hG hn' y hy).2) (by omega) (by omega)
    have e4:=iter_sum (B:=Int×Bool) (xs:=idE (cro S) G.edges) (g:=btI (n:Int)) (a:=(S.map (chg G)).sum) (k:=fun s=>some ((s.1.tmod 2),true)) (lx:=fun x=>nomatch x)
     (body:=fun s30069=>(bif (decide (s30069.2 < (len (idE (cro S) G.edges)))) then bd (ix (idE (cro S) G.edges) s30069.2) (fun x30106=>bd (nn x30106) (fun u30109=>some (Lp.nx ((wr (s30069.1 + (andK true 64 (shrK 64 (n:Int) x30106) 1))),(wr (s30069.2 + 1)))))) else some (Lp.bk (s30069.1,s30069.2))))
     (fun i y s hy=>by
      have:=(List.getElem?_eq_some_iff.1 hy).1
      dsimp only
      rw [cT (by rw [zai];omega),zal hy,zaa,nn_of ((idE_b hG hn' y (List.mem_of_getElem? hy)).1.1),zaa];rfl) (fun s=>by dsimp only;rw [cF (by rw [zai];omega)]) (fun y hy=>(idE_b hG hn' y hy).2) (by omega) (by omega)
    exact ⟨_,e3,e4,fun _=>⟨hG,hR,⟨n,rfl,hn⟩,rfl⟩⟩
end Go.PF
namespace Go.PF
open Go.Pu
def rfL (q:Nat→Bool) (i:Nat):List Int:=((List.range i).filter q).map fun (k:Nat)=>(k:Int)
theorem rfL_succ {q:Nat→Bool} {i:Nat}:rfL q (i + 1)=rfL q i++(if q i then [(i:Int)] else []):=by
 unfold rfL
 rw [List.range_succ,List.filter_append,List.map_append]
 congr 1
 cases hp:q i <;> simp [hp]
theorem rfL_len {q:Nat→Bool} {i:Nat}:(rfL q i).length≤i:=by
 unfold rfL
 rw [List.length_map]
 have:=List.length_filter_le q (List.range i)
 simpa using this
theorem zbn {q:Nat→Bool} {i:Nat} {x:Int}:x∈rfL q i↔∃ k:Nat,x=(k:Int)∧k < i∧q k=true:=by
 unfold rfL
 simp only [List.mem_map,List.mem_filter,List.mem_range]
 constructor
 · rintro ⟨k,⟨h1,h2⟩,rfl⟩;exact ⟨k,rfl,h1,h2⟩
 · rintro ⟨k,rfl,h1,h2⟩;exact ⟨k,⟨h1,h2⟩,rfl⟩
theorem sum_rfL {q:Nat→Bool} {f:Int→Int}:∀ {i:Nat},((rfL q i).map f).sum=sumR i fun k=>if q k then f (k:Int) else 0
 | 0=>rfl
 | i + 1=>by
  rw [rfL_succ,List.map_append,List.sum_append,sumR,sum_rfL (i:=i)]
  congr 1
  cases q i <;> simp
def wrT (G:zae) (bits v:Int):Int:=chg G v + ((idE (inc v) G.edges).map (btI bits)).sum
theorem wrT_b {G:zae} (hG:OkG G) {n:Nat} (hn:n < 4096) {v:Int} (h0:0≤v) (h1:v < G.vertices):0≤wrT G (n:Int) v∧wrT G (n:Int) v≤13:=by
 have a:=(chg_ix hG h0 h1).2
 have b:=sum_b (xs:=idE (inc v) G.edges) (g:=btI (n:Int)) fun y hy=>(idE_b hG hn y hy).2
 have c:=idE_len (p:=inc v) (E:=G.edges)
 have:=hG.e12
 unfold wrT
 omega
theorem wrong_eq {G:zae} (hG:OkG G) {n:Nat} (hn:n < 4096) {v:Int} (h0:0≤v) (h1:v < G.vertices):zb9 G v (n:Int)=some ((wrT G (n:Int) v).tmod 2 == 1):=by
 have he:=hG.e12
 have hidl:=idE_len (p:=inc v) (E:=G.edges)
 obtain ⟨c1,c2⟩:=chg_ix hG h0 h1
 unfold zb9
 rw [c1,zaa,zc9 (by omega),zaa,zbd (by omega),zaa]
 exact forR_sum (B:=Bool) (xs:=idE (inc v) G.edges) (g:=btI (n:Int)) (a:=chg G v) (n:=(idE (inc v) G.edges).length) rfl (k:=fun s=>some ((s.tmod 2) == 1)) (lx:=fun x=>nomatch x)
  (body:=fun i s=>bd (ix (idE (inc v) G.edges) ((i:Nat):Int)) (fun x=>bd (nn x) (fun u=>some (Lp.nx (wr (s + (andK true 64 (shrK 64 (n:Int) x) 1)))))))
  (fun i y s hy=>by rw [zal hy,zaa,nn_of ((idE_b hG hn y (List.mem_of_getElem? hy)).1.1),zaa];rfl) (fun y hy=>(idE_b hG hn y hy).2) (by omega) (by omega)
def wrB (G:zae) (n:Nat) (v:Nat):Bool:=(wrT G (n:Int) (v:Int)).tmod 2 == 1
theorem wrongs_eq {G:zae} (hG:OkG G) {n:Nat} (hn:n < 2 ^ G.edges.length):zcF G (n:Int)=some (rfL (wrB G n) G.vertices.toNat,true):=by
 have he:=hG.e12;have v1:=hG.v1;have v8:=hG.v8
 have hp:2 ^ G.edges.length≤2 ^ 12:=Nat.pow_le_pow_right (by omega) he
 obtain ⟨b,e1,_,hb⟩:=zbu G
 obtain rfl:b=true:=hb.2 hG
 unfold zcF
 have hbit:zbv G (n:Int)=some true:=by
  unfold zbv zcx
  rw [nn_of (by rw [zai];omega),zaa,zbH,zaa,zai,shlK_nat (by omega)]
  have hp0:0 < 2 ^ G.edges.length:=Nat.pow_pos (by omega)
  generalize 2 ^ G.edges.length=P at hn hp hp0
  rw [wr_s (by omega) (by omega),zaN.2 ⟨by omega,by omega⟩]
 obtain ⟨V,hV⟩:∃ V:Nat,G.vertices=(V:Int):=⟨G.vertices.toNat,by omega⟩
 have hchk:chk G.vertices=some V:=by unfold chk;rw [if_pos (by omega),hV,Int.toNat_natCast]
 rw [e1,zaa,Bool.not_true,cond_false,hbit,zaa,zaa,Bool.not_true,cond_false,hchk,zaa]
 obtain ⟨s,e,hs⟩:=forR_invX (m:=V) (X:=Empty) (s0:=([]:List Int)) (body:=fun i s=>bd (PF.zb9 G ((i:Nat):Int) (n:Int)) (fun r103=>(bif r103 then bd (app s [((i:Nat):Int)]) (fun xs114=>some (Lp.nx xs114)) else some (Lp.nx s)))) (fun i s=>s=rfL (wrB G n) i) rfl (by
  rintro i s hi rfl
  have:=rfL_len (q:=wrB G n) (i:=i)
  rw [wrong_eq hG (by omega) (by omega) (by omega),zaa,rfL_succ]
  have hq:((wrT G (n:Int) (i:Int)).tmod 2 == 1)=wrB G n i:=rfl
  rw [hq]
  cases wrB G n i
  · exact ⟨_,rfl,by simp⟩
  · rw [cond_true,app_x (by simp;omega)]
    exact ⟨_,rfl,by simp⟩)
 rw [e,hs,hV,Int.toNat_natCast]
 rfl
theorem odd_tmod {x:Int} (h:0≤x):(2:Int) ∣ (if (x.tmod 2 == 1)=true then 1 else 0) - x:=by
 have:x.tmod 2=x % 2:=Int.tmod_eq_emod_of_nonneg h
 rw [this]
 have h2:=Int.emod_two_eq x
 rcases h2 with h2|h2 <;> rw [h2] <;> simp <;> omega
theorem two_ends {V a1 a2:Nat} (h1:a1 < V) (h2:a2 < V) (hne:a1≠a2) {S:List Int} {b:Int} :
 sumR V (fun v=>if (v:Int)∈S then (if inc (v:Int) ((a1:Int),(a2:Int)) then b else 0) else 0)=(if (a1:Int)∈S then b else 0) + (if (a2:Int)∈S then b else 0):=by
 rw [← sumR_one (n:=V) (a:=a1) (x:=if (a1:Int)∈S then b else 0) h1,← sumR_one (n:=V) (a:=a2) (x:=if (a2:Int)∈S then b else 0) h2,← zb1]
 refine zaY fun v hv=>?_
 unfold inc
 dsimp only
 by_cases e1:v=a1
 · subst e1
   rw [if_pos rfl,if_neg hne,beq_self_eq_true]
   simp
 · have n1:((a1:Int) == (v:Int))=false:=by rw [beq_eq_false_iff_ne];omega
   rw [if_neg e1,n1,cond_false]
   by_cases e2:v=a2
   · subst e2
     rw [if_pos rfl,beq_self_eq_true];simp
   · have n2:((a2:Int) == (v:Int))=false:=by rw [beq_eq_false_iff_ne];omega
     rw [if_neg e2,n2];simp
theorem parity_eq {G:zae} (hG:OkG G) {S:List Int} (hS:Rise G.vertices S) {n:Nat} (hn:n < 2 ^ G.edges.length) :
 (2:Int) ∣ sumR G.vertices.toNat (fun v=>if wrB G n v then (if (v:Int)∈S then 1 else 0) else 0) - cutT G S (n:Int):=by
 have he:=hG.e12;have v1:=hG.v1;have v8:=hG.v8
 have hp:2 ^ G.edges.length≤2 ^ 12:=Nat.pow_le_pow_right (by omega) he
 obtain ⟨V,hV⟩:∃ V:Nat,G.vertices=(V:Int):=⟨G.vertices.toNat,by omega⟩
 have hS':=hS
 rw [hV] at hS'
 rw [hV,Int.toNat_natCast]
 have s1:(2:Int) ∣ sumR V (fun v=>if wrB G n v then (if (v:Int)∈S then 1 else 0) else 0) - sumR V (fun v=>if (v:Int)∈S then wrT G (n:Int) (v:Int) else 0):=by
  refine sumR_even fun v hv=>?_
  have hb:=wrT_b hG (show n < 4096 by omega) (v:=(v:Int)) (by omega) (by omega)
  have ho:=odd_tmod hb.1
  unfold wrB
  by_cases hm:(v:Int)∈S
  · rw [if_pos hm,if_pos hm];exact ho
  · rw [if_neg hm,if_neg hm];split <;> simp
 have s2:sumR V (fun v=>if (v:Int)∈S then wrT G (n:Int) (v:Int) else 0)=(S.map (chg G)).sum + sumR G.edges.length (fun k=>sumR V (fun v=>if (v:Int)∈S then (if qE (inc (v:Int)) G.edges k then btI (n:Int) (k:Int) else 0) else 0)):=by
  rw [sum_rise hS',← sumR_comm,← zb1]
  refine zaY fun v hv=>?_
  by_cases hm:(v:Int)∈S
  · rw [if_pos hm,if_pos hm]
    unfold wrT idE
    rw [sum_idT]
    congr 1
    exact zaY fun k hk=>by rw [if_pos hm]
  · rw [if_neg hm,if_neg hm,zaY (g:=fun _=>0) fun k hk=>if_neg hm,zcp];rfl
 have s3:(2:Int) ∣ sumR G.edges.length (fun k=>sumR V (fun v=>if (v:Int)∈S then (if qE (inc (v:Int)) G.edges k then btI (n:Int) (k:Int) else 0) else 0)) - sumR G.edges.length (fun k=>if qE (cro S) G.edges k then btI (n:Int) (k:Int) else 0):=by
  refine sumR_even fun k hk=>?_
  have hek:G.edges[k]?=some G.edges[k]:=List.getElem?_eq_getElem hk
  have hee:=hG.ed _ (List.getElem_mem hk)
  generalize G.edges[k]=e at hek hee
  obtain ⟨e1,e2⟩:=e
  obtain ⟨a1,rfl⟩:∃ a:Nat,e1=(a:Int):=⟨e1.toNat,by dsimp only at hee;omega⟩
  obtain ⟨a2,rfl⟩:∃ a:Nat,e2=(a:Int):=⟨e2.toNat,by dsimp only at hee;omega⟩
  dsimp only at hee
  have hin:sumR V (fun v=>if (v:Int)∈S then (if qE (inc (v:Int)) G.edges k then btI (n:Int) (k:Int) else 0) else 0)=(if (a1:Int)∈S then btI (n:Int) (k:Int) else 0) + (if (a2:Int)∈S then btI (n:Int) (k:Int) else 0):=by
   rw [← two_ends (V:=V) (a1:=a1) (a2:=a2) (by omega) (by omega) (by omega)]
   exact zaY fun v hv=>by unfold qE;rw [hek]
  have hq:qE (cro S) G.edges k = !(decide ((a1:Int)∈S) == decide ((a2:Int)∈S)):=by
   unfold qE;rw [hek];unfold cro;simp
  rw [hin,hq]
  generalize btI (n:Int) (k:Int)=b
  by_cases h1:(a1:Int)∈S <;> by_cases h2:(a2:Int)∈S <;> simp [h1,h2] <;> omega
 have s4:cutT G S (n:Int)=(S.map (chg G)).sum + sumR G.edges.length (fun k=>if qE (cro S) G.edges k then btI (n:Int) (k:Int) else 0):=by
  unfold cutT idE
  rw [sum_idT]
 rw [s2] at s1
 rw [s4]
 omega
end Go.PF
namespace Go.PF
open Go.Pu
def Lx:List Int→List Int→Prop
 | x::a,y::b=>x < y∨(x=y∧Lx a b)
 | _,_=>False
theorem Lx.irr:∀ {a:List Int},¬ Lx a a
 | [],h=>h
 | x::a,h=>by
  rcases h with h|⟨_,h⟩
  · omega
  · exact Lx.irr h
theorem Lx.tr:∀ {a b c:List Int},Lx a b→Lx b c→Lx a c
 | [],_,_,h,_=>h.elim
 | _::_,[],_,h,_=>h.elim
 | _::_,_::_,[],_,h=>h.elim
 | x::a,y::b,z::c,h,k=>by
  rcases h with h|⟨rfl,h⟩
  · rcases k with k|⟨rfl,k⟩
    · exact .inl (by omega)
    · exact .inl h
  · rcases k with k|⟨rfl,k⟩
    · exact .inl k
    · exact .inr ⟨rfl,Lx.tr h k⟩
theorem Lx.tot:∀ {a b:List Int},a.length=b.length→a=b∨Lx a b∨Lx b a
 | [],[],_=>.inl rfl
 | [],_::_,h=>by simp at h
 | _::_,[],h=>by simp at h
 | x::a,y::b,h=>by
  have h':a.length=b.length:=by simpa using h
  by_cases h1:x < y
  · exact .inr (.inl (.inl h1))
  · by_cases h2:y < x
    · exact .inr (.inr (.inl h2))
    · obtain rfl:x=y:=by omega
      rcases Lx.tot h' with rfl|h3|h3
      · exact .inl rfl
      · exact .inr (.inl (.inr ⟨rfl,h3⟩))
      · exact .inr (.inr (.inr ⟨rfl,h3⟩))
theorem Lx.pre {x y:Int} {a b:List Int}:∀ {p:List Int},Lx (p++x::a) (p++y::b)↔(x < y∨(x=y∧Lx a b))
 | []=>Iff.rfl
 | z::p=>by
  show (z < z∨(z=z∧Lx (p++x::a) (p++y::b)))↔_
  rw [Lx.pre (p:=p)]
  constructor
  · rintro (h|⟨_,h⟩)
    · omega
    · exact h
  · exact fun h=>.inr ⟨rfl,h⟩
theorem Lx.map {f:Int→Int} (hf:∀ x y,x < y→f x < f y):∀ {a b:List Int},Lx a b→Lx (a.map f) (b.map f)
 | [],_,h=>h.elim
 | _::_,[],h=>h.elim
 | x::a,y::b,h=>by
  rcases h with h|⟨rfl,h⟩
  · exact .inl (hf _ _ h)
  · exact .inr ⟨rfl,Lx.map hf h⟩
def Bef (a b:List Int):Prop:=a.length < b.length∨(a.length=b.length∧Lx a b)
theorem Bef.irr {a:List Int} (h:Bef a a):False:=by
 rcases h with h|⟨_,h⟩
 · omega
 · exact Lx.irr h
theorem Bef.tr {a b c:List Int} (h:Bef a b) (k:Bef b c):Bef a c:=by
 rcases h with h|⟨h,h'⟩ <;> rcases k with k|⟨k,k'⟩
 · exact .inl (by omega)
 · exact .inl (by omega)
 · exact .inl (by omega)
 · exact .inr ⟨by omega,h'.tr k'⟩
theorem Bef.tot {a b:List Int}:a=b∨Bef a b∨Bef b a:=by
 rcases Nat.lt_trichotomy a.length b.length with h|h|h
 · exact .inr (.inl (.inl h))
 · rcases Lx.tot h with e|k|k
   · exact .inl e
   · exact .inr (.inl (.inr ⟨h,k⟩))
   · exact .inr (.inr (.inr ⟨h.symm,k⟩))
 · exact .inr (.inr (.inl h))
def LtC (c:List Int→Nat) (a b:List Int):Prop:=c a < c b∨(c a=c b∧Bef a b)
theorem LtC.irr {c:List Int→Nat} {a:List Int} (h:LtC c a a):False:=by
 rcases h with h|⟨_,h⟩
 · omega
 · exact h.irr
theorem LtC.tr {c:List Int→Nat} {x y z:List Int} (h:LtC c x y) (k:LtC c y z):LtC c x z:=by
 rcases h with h|⟨h,h'⟩ <;> rcases k with k|⟨k,k'⟩
 · exact .inl (by omega)
 · exact .inl (by omega)
 · exact .inl (by omega)
 · exact .inr ⟨by omega,h'.tr k'⟩
theorem LtC.tot {c:List Int→Nat} {a b:List Int}:a=b∨LtC c a b∨LtC c b a:=by
 rcases Nat.lt_trichotomy (c a) (c b) with h|h|h
 · exact .inr (.inl (.inl h))
 · rcases Bef.tot (a:=a) (b:=b) with e|k|k
   · exact .inl e
   · exact .inr (.inl (.inr ⟨h,k⟩))
   · exact .inr (.inr (.inr ⟨h.symm,k⟩))
 · exact .inr (.inr (.inl h))
structure IsBest (P:List Int→Prop) (c:List Int→Nat) (S:List Int):Prop where
 mem:P S
 le:∀ T,P T→T=S∨LtC c S T
theorem IsBest.uniq {P:List Int→Prop} {c:List Int→Nat} {S T:List Int} (h:IsBest P c S) (k:IsBest P c T):S=T:=by
 rcases h.le T k.mem with e|h1
 · exact e.symm
 · rcases k.le S h.mem with e|h2
   · exact e
   · exact ((h1.tr h2).irr).elim
def Held (seen:List Int→Prop) (c:List Int→Nat) (found:Prop) (S:List Int):Prop:=(found∧IsBest seen c S)∨(¬ found∧∀ T,¬ seen T)
structure AscX (a b:Int) (t:List Int):Prop where
 rng:∀ x∈t,a≤x∧x < b
 srt:t.Pairwise (· < ·)
theorem chL_mem {many:Int}:∀ {m:Nat} {u:Int} {l x:List Int},x∈chL many m u l↔∃ t,x=l++t∧len x=many∧AscX u (u + m) t:=by
 intro m
 induction m with
 | zero =>
  intro u l x
  by_cases h:len l=many
  · rw [zbG h,List.mem_singleton]
    constructor
    · rintro rfl;exact ⟨[],by simp,h,by simp,.nil⟩
    · rintro ⟨t,rfl,_,ht⟩
      cases t with
      | nil=>simp
      | cons y t=>have:=ht.rng y (by simp);omega
  · rw [chL_zero h]
    constructor
    · intro h;cases h
    · rintro ⟨t,rfl,h2,ht⟩
      cases t with
      | nil=>rw [List.append_nil] at h2;exact absurd h2 h
      | cons y t=>have:=ht.rng y (by simp);omega
 | succ m ih =>
  intro u l x
  by_cases h:len l=many
  · rw [zbG h,List.mem_singleton]
    constructor
    · rintro rfl;exact ⟨[],by simp,h,by simp,.nil⟩
    · rintro ⟨t,rfl,h2,ht⟩
      have:t.length=0:=by
       have h2':=h2
       rw [zai,List.length_append] at h2'
       rw [zai] at h
       omega
      rw [List.eq_nil_of_length_eq_zero this,List.append_nil]
  · rw [chL_succ h,List.mem_append,ih,ih]
    constructor
    · rintro (⟨t,rfl,h2,ht⟩|⟨t,rfl,h2,ht⟩)
      · refine ⟨u::t,by simp,h2,fun y hy=>?_,?_⟩
        · rcases List.mem_cons.1 hy with rfl|hy
          · omega
          · have:=ht.rng y hy;omega
        · exact List.pairwise_cons.2 ⟨fun y hy=>by have:=ht.rng y hy;omega,ht.srt⟩
      · exact ⟨t,rfl,h2,fun y hy=>by have:=ht.rng y hy;omega,ht.srt⟩
    · rintro ⟨t,rfl,h2,ht⟩
      cases t with
      | nil=>rw [List.append_nil] at h2;exact absurd h2 h
      | cons y t =>
       have hy:=ht.rng y (by simp)
       have hp:=List.pairwise_cons.1 ht.srt
       by_cases e:y=u
       · subst e
         left
         refine ⟨t,by simp,h2,fun z hz=>?_,hp.2⟩
         have:=hp.1 z hz;have:=ht.rng z (by simp [hz]);omega
       · right
         refine ⟨y::t,rfl,h2,fun z hz=>?_,ht.srt⟩
         rcases List.mem_cons.1 hz with rfl|hz
         · omega
         · have:=hp.1 z hz;have:=ht.rng z (by simp [hz]);omega
theorem chL_srt {many:Int}:∀ {m:Nat} {u:Int} {l:List Int},(chL many m u l).Pairwise Lx:=by
 intro m
 induction m with
 | zero =>
  intro u l
  by_cases h:len l=many
  · rw [zbG h];simp
  · rw [chL_zero h];simp
 | succ m ih =>
  intro u l
  by_cases h:len l=many
  · rw [zbG h];simp
  · rw [chL_succ h,List.pairwise_append]
    refine ⟨ih,ih,fun a ha b hb=>?_⟩
    obtain ⟨t,rfl,h2,_⟩:=chL_mem.1 ha
    obtain ⟨s,rfl,h3,hs⟩:=chL_mem.1 hb
    cases s with
    | nil=>rw [List.append_nil] at h3;exact absurd h3 h
    | cons y s =>
     rw [List.append_assoc,List.singleton_append,Lx.pre]
     have:=hs.rng y (by simp)
     exact .inl (by omega)
theorem chL_len {many:Int}:∀ {m:Nat} {u:Int} {l:List Int},(chL many m u l).length≤2 ^ m:=by
 intro m
 induction m with
 | zero =>
  intro u l
  by_cases h:len l=many
  · rw [zbG h];simp
  · rw [chL_zero h];simp
 | succ m ih =>
  intro u l
  by_cases h:len l=many
  · rw [zbG h]
    have:0 < 2 ^ (m + 1):=Nat.pow_pos (by omega)
    simp only [List.length_singleton];omega
  · rw [chL_succ h,List.length_append,Nat.pow_succ]
    have h1:=ih (u:=u + 1) (l:=l++[u])
    have h2:=ih (u:=u + 1) (l:=l)
    omega
def blk (V i:Nat):List (List Int):=(chL (i:Int) V 1 []).map fun y=>y.map fun x=>x - 1
theorem blk_mem {V i:Nat} {S:List Int}:S∈blk V i↔Rise (V:Int) S∧S.length=i:=by
 unfold blk
 rw [List.mem_map]
 constructor
 · rintro ⟨y,hy,rfl⟩
   obtain ⟨t,rfl,h2,ht⟩:=chL_mem.1 hy
   refine ⟨⟨fun x hx=>?_,?_⟩,?_⟩
   · obtain ⟨z,hz,rfl⟩:=List.mem_map.1 hx
     have:=ht.rng z hz;omega
   · rw [List.pairwise_map]
     exact ht.srt.imp fun h=>by omega
   · rw [List.length_map];rw [zai] at h2;omega
 · rintro ⟨hS,rfl⟩
   refine ⟨S.map fun x=>x + 1,chL_mem.2 ⟨_,(List.nil_append _).symm,by rw [zai,List.length_map],fun x hx=>?_,?_⟩,?_⟩
   · obtain ⟨z,hz,rfl⟩:=List.mem_map.1 hx
     have:=hS.rng z hz;omega
   · rw [List.pairwise_map]
     exact hS.srt.imp fun h=>by omega
   · rw [List.map_map]
     have:((fun x=>x - 1) ∘ fun x:Int=>x + 1)=id:=by funext x;simp
     rw [this,List.map_id]
theorem blk_srt {V i:Nat}:(blk V i).Pairwise Bef:=by
 have h1:(blk V i).Pairwise Lx:=by
  unfold blk
  rw [List.pairwise_map]
  exact chL_srt.imp fun h=>h.map fun x y hxy=>by omega
 have h2:∀ (L:List (List Int)),(∀ S∈L,S.length=i)→L.Pairwise Lx→L.Pairwise Bef:=by
  intro L
  induction L with
  | nil=>intro _ _;exact .nil
  | cons a L ih =>
   intro hl hp
   obtain ⟨p1,p2⟩:=List.pairwise_cons.1 hp
   refine List.pairwise_cons.2 ⟨fun b hb=>.inr ⟨?_,p1 b hb⟩,ih (fun S hS=>hl S (by simp [hS])) p2⟩
   rw [hl a (by simp),hl b (by simp [hb])]
 exact h2 _ (fun S hS=>(blk_mem.1 hS).2) h1
def midB (V i:Nat):Bool:=decide (V≤3 * i) && decide (3 * i≤2 * V)
def preL (V:Nat):Nat→List (List Int)
 | 0=>[]
 | n + 1=>preL V n++(if midB V n then blk V n else [])
theorem preL_mem {V:Nat} {S:List Int}:∀ {n:Nat},S∈preL V n↔Rise (V:Int) S∧S.length < n∧midB V S.length=true
 | 0=>by simp [preL]
 | n + 1=>by
  rw [preL,List.mem_append,preL_mem (n:=n)]
  constructor
  · rintro (⟨h1,h2,h3⟩|h)
    · exact ⟨h1,by omega,h3⟩
    · split at h
      · rename_i hm
        obtain ⟨h1,rfl⟩:=blk_mem.1 h
        exact ⟨h1,by omega,hm⟩
      · cases h
  · rintro ⟨h1,h2,h3⟩
    by_cases e:S.length=n
    · right
      subst e
      rw [if_pos h3]
      exact blk_mem.2 ⟨h1,rfl⟩
    · exact .inl ⟨h1,by omega,h3⟩
theorem preL_srt {V:Nat}:∀ {n:Nat},(preL V n).Pairwise Bef
 | 0=>.nil
 | n + 1=>by
  rw [preL,List.pairwise_append]
  refine ⟨preL_srt (n:=n),?_,fun a ha b hb=>?_⟩
  · split
    · exact blk_srt
    · exact .nil
  · split at hb
    · obtain ⟨_,h2⟩:=blk_mem.1 hb
      obtain ⟨_,h4,_⟩:=preL_mem.1 ha
      exact .inl (by omega)
    · cases hb
theorem Held.later {seen:List Int→Prop} {c:List Int→Nat} {found:Prop} {S y:List Int} (h:Held seen c found S) (hb:∀ T,seen T→Bef T y) :
 (¬ found∨c y < c S→Held (fun T=>seen T∨T=y) c True y)∧(found→¬ c y < c S→Held (fun T=>seen T∨T=y) c True S):=by
 constructor
 · intro hc
   refine .inl ⟨trivial,.inr rfl,fun T hT=>?_⟩
   rcases hT with hT|rfl
   · rcases h with ⟨hf,hS⟩|⟨hf,hn⟩
     · rcases hc with hc|hc
       · exact absurd hf hc
       · right
         rcases hS.le T hT with rfl|hlt
         · exact .inl hc
         · rcases hlt with hlt|⟨hlt,_⟩
           · exact .inl (by omega)
           · exact .inl (by omega)
     · exact absurd hT (hn T)
   · exact .inl rfl
 · intro hf hc
   rcases h with ⟨_,hS⟩|⟨hn,_⟩
   · refine .inl ⟨trivial,.inl hS.mem,fun T hT=>?_⟩
     rcases hT with hT|rfl
     · exact hS.le T hT
     · right
       by_cases e:c S=c T
       · exact .inr ⟨e,hb S hS.mem⟩
       · exact .inl (by omega)
   · exact absurd hf hn
theorem Held.any {seen:List Int→Prop} {c:List Int→Nat} {found:Prop} {S y:List Int} (h:Held seen c found S) :
 (¬ found∨LtC c y S→Held (fun T=>seen T∨T=y) c True y)∧(found→¬ LtC c y S→Held (fun T=>seen T∨T=y) c True S):=by
 constructor
 · intro hc
   refine .inl ⟨trivial,.inr rfl,fun T hT=>?_⟩
   rcases hT with hT|rfl
   · rcases h with ⟨hf,hS⟩|⟨hf,hn⟩
     · rcases hc with hc|hc
       · exact absurd hf hc
       · right
         rcases hS.le T hT with rfl|hlt
         · exact hc
         · exact hc.tr hlt
     · exact absurd hT (hn T)
   · exact .inl rfl
 · intro hf hc
   rcases h with ⟨_,hS⟩|⟨hn,_⟩
   · refine .inl ⟨trivial,.inl hS.mem,fun T hT=>?_⟩
     rcases hT with hT|rfl
     · exact hS.le T hT
     · rcases LtC.tot (c:=c) (a:=T) (b:=S) with e|k|k
       · exact .inl e
       · exact absurd k hc
       · exact .inr k
   · exact absurd hf hn
end Go.PF
namespace Go.PF
open Go.Pu
theorem zbe {σ X B:Type} {m:Nat} {body:Nat→σ→Option (Lp σ X)} {k:σ→Option B} {lx:X→Option B} {R:B→Prop} (I:Nat→σ→Prop) {s0:σ} (h0:I 0 s0)
 (h:∀ i s,i < m→I i s→∃ s',body i s=some (.nx s')∧I (i + 1) s') (hk:∀ s,I m s→∃ r,k s=some r∧R r):∃ r,bdR (forR 0 m body s0) k lx=some r∧R r:=by
 obtain ⟨s,e,hs⟩:=forR_invX I h0 h
 rw [e]
 exact hk s hs
theorem nx_ofX {σ T X:Type} {f:σ→T} {x:Option (Lp T X)} {I:σ→Prop} (h:∃ q,x=some q∧∃ s',q=.nx (f s')∧I s'):∃ s',x=some (.nx (f s'))∧I s':=by
 obtain ⟨q,e,s',rfl,i⟩:=h
 exact ⟨s',e,i⟩
theorem dec_loop {B:Type} {y:List Int} (hy:∀ x∈y,0≤x∧x≤100) {k:List Int→Option B} {lx:Empty→Option B} :
 bdR (forR (S:=(List Int)) (X:=Empty) 0 y.length (fun i s=>bd (ix s ((i:Nat):Int)) (fun x1=>bd (ix s ((i:Nat):Int)) (fun x2=>bd (put s ((i:Nat):Int) (wr (x1 - 1))) (fun xs=>some (Lp.nx xs))))) y) k lx=k (y.map fun x=>x - 1):=by
 obtain ⟨s,e,hs⟩:=forR_invX (m:=y.length) (X:=Empty) (s0:=y) (body:=fun i s=>bd (ix s ((i:Nat):Int)) (fun x1=>bd (ix s ((i:Nat):Int)) (fun x2=>bd (put s ((i:Nat):Int) (wr (x1 - 1))) (fun xs=>some (Lp.nx xs))))) (fun i s=>s=(y.take i).map (fun x=>x - 1)++y.drop i) (by simp) (by
  rintro i s hi rfl
  have hl:((y.take i).map (fun x=>x - 1)).length=i:=by rw [List.length_map,List.length_take];omega
  have ht:(y.take (i + 1)).map (fun x=>x - 1)=(y.take i).map (fun x=>x - 1)++[y[i] - 1]:=by
   rw [List.take_add_one,List.getElem?_eq_getElem hi,Option.toList_some,List.map_append];rfl
  have hm:=hy _ (List.getElem_mem hi)
  rw [List.drop_eq_getElem_cons hi,ht]
  generalize (y.take i).map (fun x=>x - 1)=A at hl
  generalize y[i]=z at hm
  generalize y.drop (i + 1)=D
  have hg:(A++z::D)[i]?=some z:=by rw [List.getElem?_append_right (by omega),hl,Nat.sub_self];rfl
  have hlt:i < (A++z::D).length:=by rw [List.length_append,List.length_cons];omega
  rw [zal hg,zaa,zaa,put_at hlt,zaa,wr_s (by omega) (by omega)]
  refine ⟨_,rfl,?_⟩
  rw [List.set_append_right _ _ (by omega),hl,Nat.sub_self,List.append_assoc]
  rfl)
 rw [e,hs,List.take_length,List.drop_length,List.append_nil]
 rfl
def costN (G:zae) (S:List Int):Nat:=(idE (cro S) G.edges).length
def MidP (G:zae) (V:Nat) (T:List Int):Prop:=Rise (V:Int) T∧midB V T.length=true
def zbf (G:zae) (q:Int×List Int×Bool):Prop :=
 (q.2.2=true∧IsBest (MidP G G.vertices.toNat) (costN G) q.2.1∧q.1=(costN G q.2.1:Int))∨(q=(0,[],false)∧∀ T,¬ MidP G G.vertices.toNat T)
theorem zbf.uniq {G:zae} {q r:Int×List Int×Bool} (h:zbf G q) (k:zbf G r):q=r:=by
 obtain ⟨q1,q2,q3⟩:=q
 obtain ⟨r1,r2,r3⟩:=r
 rcases h with ⟨h1,h2,h3⟩|⟨h1,h2⟩ <;> rcases k with ⟨k1,k2,k3⟩|⟨k1,k2⟩
 · dsimp only at h1 h2 h3 k1 k2 k3
   have:=h2.uniq k2
   subst this
   rw [h1,k1,h3,k3]
 · exact absurd h2.mem (k2 _)
 · exact absurd k2.mem (h2 _)
 · rw [h1,k1]
theorem mid_cond {V i:Nat} (hV:V≤8) (hi:i≤100):(bif (decide ((wr (3 * (i:Int))) < (V:Int))) then true else (decide ((wr (2 * (V:Int))) < (wr (3 * (i:Int)))))) = !midB V i:=by
 rw [wr_s (by omega) (by omega),wr_s (by omega) (by omega)]
 unfold midB
 by_cases h1:V≤3 * i
 · rw [cF (by omega),decide_eq_true h1,Bool.true_and]
   by_cases h2:3 * i≤2 * V
   · rw [decide_eq_true h2,decide_eq_false (by omega)];rfl
   · rw [decide_eq_false h2,decide_eq_true (by omega)];rfl
 · rw [cT (by omega),decide_eq_false h1];rfl
theorem choices_eq {V i:Nat} (hV:V≤8):zcD (V:Int) (i:Int) 256=some (chL (i:Int) V 1 []):=by
 unfold zcD chO
 have h1:=chL_len (many:=(i:Int)) (m:=V) (u:=1) (l:=[])
 have h2:2 ^ V≤2 ^ 8:=Nat.pow_le_pow_right (by omega) hV
 rw [Int.toNat_natCast,if_pos ⟨by omega,by omega,by omega,by omega⟩]
theorem impl_least_cut {G:zae} (hG:OkG G):∃ q,zbw G=some q∧zbf G q:=by
 have v1:=hG.v1;have v8:=hG.v8;have he:=hG.e12
 obtain ⟨b,e1,_,hb⟩:=zbu G
 obtain rfl:b=true:=hb.2 hG
 obtain ⟨V,hV⟩:∃ V:Nat,G.vertices=(V:Int):=⟨G.vertices.toNat,by omega⟩
 unfold zbw zbf
 have hchk:chk (wr (G.vertices + 1))=some (V + 1):=by
  rw [wr_s (by omega) (by omega)]
  unfold chk
  rw [if_pos (by omega),hV];congr 1
 rw [e1,zaa,Bool.not_true,cond_false,hchk,zaa,hV,Int.toNat_natCast]
 refine zbe (fun i s=>Held (fun T=>T∈preL V i) (costN G) (0≤s.1) s.2∧(0≤s.1→s.1=(costN G s.2:Int))∧(¬ 0≤s.1→s.1=-1)) ?_ ?_ ?_
 · exact ⟨.inr ⟨by decide,fun T h=>by cases h⟩,fun h=>by simp at h,fun _=>rfl⟩
 · rintro i ⟨least,first⟩ hi ⟨h1,h2,h3⟩
   dsimp only at h1 h2 h3 ⊢
   rw [mid_cond (by omega) (by omega)]
   cases hm:midB V i with
   | false =>
    rw [Bool.not_false,cond_true]
    refine ⟨_,rfl,?_,h2,h3⟩
    have:preL V (i + 1)=preL V i:=by rw [preL,hm];simp
    rw [this];exact h1
   | true =>
    rw [Bool.not_true,cond_false,choices_eq (by omega),zaa]
    have hpre:preL V (i + 1)=preL V i++blk V i:=by rw [preL,hm];rfl
    have hsrt:=preL_srt (V:=V) (n:=i + 1)
    rw [hpre,List.pairwise_append] at hsrt
    refine nx_ofX (f:=fun s=>s) ?_
    refine loop_l (fun j s=>Held (fun T=>T∈preL V i∨T∈(blk V i).take j) (costN G) (0≤s.1) s.2∧(0≤s.1→s.1=(costN G s.2:Int))∧(¬ 0≤s.1→s.1=-1)) ?_ ?_ ?_
    · refine ⟨?_,h2,h3⟩
      have:(fun T=>T∈preL V i∨T∈(blk V i).take 0)=fun T=>T∈preL V i:=by funext T;simp
      rw [this];exact h1
    · rintro j y ⟨least,first⟩ hy ⟨h1,h2,h3⟩
      dsimp only at h1 h2 h3 ⊢
      have hbj:(blk V i)[j]?=some (y.map fun x=>x - 1):=by unfold blk;rw [List.getElem?_map,hy];rfl
      have hymem:=List.mem_of_getElem? hy
      obtain ⟨t,hyt,hylen,hta⟩:=chL_mem.1 hymem
      rw [List.nil_append] at hyt
      subst hyt
      have hyr:∀ x∈y,0≤x∧x≤100:=fun x hx=>by have:=hta.rng x hx;omega
      have hyl:y.length≤8:=by
       obtain ⟨g1,g2⟩:=blk_mem.1 (List.mem_of_getElem? hbj)
       have:=g1.len (by omega)
       rw [List.length_map] at this;omega
      have hcl:zaZ y=some y:=by unfold zaZ;rw [app_x (by simp;omega)];rfl
      rw [hcl,zaa,zbd (by omega),zaa,dec_loop hyr,zdq (by omega),zaa]
      generalize hS:(y.map fun x=>x - 1)=S at hbj ⊢
      have hlen:len (idE (cro S) G.edges)=(costN G S:Int):=rfl
      rw [hlen]
      have htake:∀ T,(T∈preL V i∨T∈(blk V i).take (j + 1))↔((T∈preL V i∨T∈(blk V i).take j)∨T=S):=by
       intro T
       rw [List.take_add_one,hbj,Option.toList_some,List.mem_append,List.mem_singleton,or_assoc]
      have hfun:(fun T=>T∈preL V i∨T∈(blk V i).take (j + 1))=fun T=>(T∈preL V i∨T∈(blk V i).take j)∨T=S:=by funext T;exact propext (htake T)
      have hbef:∀ T,(T∈preL V i∨T∈(blk V i).take j)→Bef T S:=by
       rintro T (hT|hT)
       · exact hsrt.2.2 T hT S (List.mem_of_getElem? hbj)
       · obtain ⟨k,hk⟩:=List.getElem?_of_mem hT
         have hk2:=hk
         rw [List.getElem?_take] at hk2
         split at hk2
         · rename_i hkj
           have h4:=(List.getElem?_eq_some_iff.1 hbj)
           have h5:=(List.getElem?_eq_some_iff.1 hk2)
           have:=List.pairwise_iff_getElem.1 (blk_srt (V:=V) (i:=i)) k j h5.1 h4.1 hkj
           rw [h4.2,h5.2] at this
           exact this
         · cases hk2
      obtain ⟨k1,k2⟩:=h1.later hbef
      rw [hfun]
      by_cases hc:least < 0∨(costN G S:Int) < least
      · have:(bif (decide (least < 0)) then true else (decide ((costN G S:Int) < least)))=true:=by
         by_cases h0:least < 0
         · rw [cT h0]
         · rw [cF h0,decide_eq_true (by omega)]
        rw [this,cond_true]
        refine ⟨_,rfl,?_,fun _=>rfl,fun h=>absurd (show (0:Int)≤(costN G S:Int) by omega) h⟩
        have:=k1 (by
         rcases hc with hc|hc
         · exact .inl (by omega)
         · by_cases h0:0≤least
           · right;have:=h2 h0;omega
           · exact .inl h0)
        rcases this with ⟨_,q⟩|⟨q,_⟩
        · exact .inl ⟨by dsimp only;omega,q⟩
        · exact absurd trivial q
      · have:(bif (decide (least < 0)) then true else (decide ((costN G S:Int) < least)))=false:=by
         rw [cF (by omega),decide_eq_false (by omega)]
        rw [this,cond_false]
        refine ⟨_,rfl,?_,h2,h3⟩
        have h0:0≤least:=by omega
        have:=k2 h0 (by have:=h2 h0;omega)
        rcases this with ⟨_,q⟩|⟨q,_⟩
        · exact .inl ⟨h0,q⟩
        · exact absurd trivial q
    · rintro ⟨least,first⟩ ⟨h1,h2,h3⟩
      refine ⟨_,rfl,_,rfl,?_,h2,h3⟩
      have:(fun T=>T∈preL V i∨T∈(blk V i).take (chL (i:Int) V 1 []).length)=fun T=>T∈preL V (i + 1):=by
       funext T
       rw [hpre,List.mem_append,show (chL (i:Int) V 1 []).length=(blk V i).length by unfold blk;rw [List.length_map],List.take_length]
      rw [← this];exact h1
 · rintro ⟨least,first⟩ ⟨h1,h2,h3⟩
   dsimp only at h1 h2 h3 ⊢
   have hfun:(fun T=>T∈preL V (V + 1))=MidP G V:=by
    funext T
    apply propext
    rw [preL_mem]
    constructor
    · exact fun h=>⟨h.1,h.2.2⟩
    · exact fun h=>⟨h.1,by have:=h.1.len (by omega);omega,h.2⟩
   rw [hfun] at h1
   rcases h1 with ⟨q1,q2⟩|⟨q1,q2⟩
   · rw [cF (by omega)]
     exact ⟨_,rfl,.inl ⟨rfl,q2,h2 q1⟩⟩
   · rw [cT (by omega)]
     exact ⟨_,rfl,.inr ⟨rfl,q2⟩⟩
end Go.PF
namespace Go.PF
open Go.Pu
theorem bits_of (q:Nat→Bool):∀ V:Nat,∃ j:Nat,j < 2 ^ V∧∀ v,v < V→j.testBit v=q v
 | 0=>⟨0,by decide,fun v hv=>absurd hv (Nat.not_lt_zero _)⟩
 | V + 1=>by
  obtain ⟨j,hj,h⟩:=bits_of q V
  cases hq:q V with
  | false =>
   refine ⟨j,by rw [Nat.pow_succ];omega,fun v hv=>?_⟩
   by_cases e:v=V
   · subst e;rw [hq,Nat.testBit_lt_two_pow hj]
   · exact h v (by omega)
  | true =>
   refine ⟨j ||| 2 ^ V,Nat.or_lt_two_pow (by rw [Nat.pow_succ];omega) (Nat.pow_lt_pow_right (by omega) (by omega)),fun v hv=>?_⟩
   rw [Nat.testBit_or,Nat.testBit_two_pow]
   by_cases e:v=V
   · subst e;rw [hq];simp
   · rw [h v (by omega),decide_eq_false (by omega),Bool.or_false]
theorem asc_ext:∀ {a b:List Int},a.Pairwise (· < ·)→b.Pairwise (· < ·)→(∀ x,x∈a↔x∈b)→a=b
 | [],[],_,_,_=>rfl
 | [],y::b,_,_,h=>by have:=(h y).2 (by simp);cases this
 | x::a,[],_,_,h=>by have:=(h x).1 (by simp);cases this
 | x::a,y::b,ha,hb,h=>by
  obtain ⟨a1,a2⟩:=List.pairwise_cons.1 ha
  obtain ⟨b1,b2⟩:=List.pairwise_cons.1 hb
  have e:x=y:=by
   have h1:=(h x).1 (by simp)
   have h2:=(h y).2 (by simp)
   rcases List.mem_cons.1 h1 with h1|h1
   · exact h1
   · rcases List.mem_cons.1 h2 with h2|h2
     · exact h2.symm
     · have:=b1 x h1;have:=a1 y h2;omega
  subst e
  rw [asc_ext a2 b2 fun z=>?_]
  constructor
  · intro hz
    have:=(h z).1 (by simp [hz])
    rcases List.mem_cons.1 this with rfl|this
    · have:=a1 z hz;omega
    · exact this
  · intro hz
    have:=(h z).2 (by simp [hz])
    rcases List.mem_cons.1 this with rfl|this
    · have:=b1 z hz;omega
    · exact this
theorem rfL_srt {q:Nat→Bool}:∀ {i:Nat},(rfL q i).Pairwise (· < ·)
 | 0=>.nil
 | i + 1=>by
  rw [rfL_succ,List.pairwise_append]
  refine ⟨rfL_srt (i:=i),by split <;> simp,fun a ha b hb=>?_⟩
  obtain ⟨k,rfl,hk,_⟩:=zbn.1 ha
  split at hb
  · rw [List.mem_singleton] at hb;subst hb;omega
  · cases hb
theorem rfL_rise {q:Nat→Bool} {V:Nat}:Rise (V:Int) (rfL q V) :=
 ⟨fun x hx=>by obtain ⟨k,rfl,hk,_⟩:=zbn.1 hx;omega,rfL_srt⟩
def subL (V j:Nat):List Int:=rfL (fun v=>j.testBit v) V
theorem subL_all {V:Nat} {S:List Int} (h:Rise (V:Int) S):∃ j,j < 2 ^ V∧S=subL V j:=by
 obtain ⟨j,hj,hb⟩:=bits_of (fun v=>decide ((v:Int)∈S)) V
 refine ⟨j,hj,asc_ext h.srt rfL_srt fun x=>?_⟩
 unfold subL
 rw [zbn]
 constructor
 · intro hx
   have:=h.rng x hx
   refine ⟨x.toNat,by omega,by omega,?_⟩
   rw [hb _ (by omega),show ((x.toNat:Nat):Int)=x by omega]
   exact decide_eq_true hx
 · rintro ⟨k,rfl,hk,hk2⟩
   rw [hb _ hk] at hk2
   exact of_decide_eq_true hk2
theorem before_eq (a b:List Int):∃ r,zb8 a b=some r∧(r=true↔Bef a b):=by
 unfold zb8
 by_cases h:a.length=b.length
 · rw [show (len a == len b)=true from by rw [zai,zai,h];simp,Bool.not_true,cond_false]
   refine loop_lx (fun i _=>a.take i=b.take i) rfl ?_ ?_
   · rintro i x ⟨⟩ hx hI
     have hi:=(List.getElem?_eq_some_iff.1 hx).1
     have hy:b[i]?=some b[i]:=List.getElem?_eq_getElem (by omega)
     generalize b[i]=y at hy
     rw [zal hy,zaa]
     by_cases e:x=y
     · subst e
       left
       rw [beq_self_eq_true]
       refine ⟨(),rfl,?_⟩
       rw [List.take_add_one,List.take_add_one,hx,hy,hI]
     · right
       rw [show (x == y)=false from by rw [beq_eq_false_iff_ne];exact e,Bool.not_false,cond_true,zaa]
       refine ⟨_,_,rfl,rfl,?_⟩
       rw [decide_eq_true_iff]
       have ha:a=a.take i++x::a.drop (i + 1):=by
        have:=List.take_append_drop i a
        rw [List.drop_eq_getElem_cons hi,(List.getElem?_eq_some_iff.1 hx).2] at this
        exact this.symm
       have hb:b=a.take i++y::b.drop (i + 1):=by
        have:=List.take_append_drop i b
        rw [List.drop_eq_getElem_cons (show i < b.length by omega),(List.getElem?_eq_some_iff.1 hy).2,← hI] at this
        exact this.symm
       constructor
       · intro hlt
         refine .inr ⟨h,?_⟩
         rw [ha,hb,Lx.pre]
         exact .inl hlt
       · rintro (hl|⟨_,hl⟩)
         · omega
         · rw [ha,hb,Lx.pre] at hl
           rcases hl with hl|⟨hl,_⟩
           · exact hl
           · exact absurd hl e
   · rintro ⟨⟩ hI
     refine ⟨false,rfl,?_⟩
     rw [List.take_length,h,List.take_length] at hI
     subst hI
     exact ⟨(fun h=>nomatch h),fun h=>h.irr.elim⟩
 · rw [show (len a == len b)=false from by rw [beq_eq_false_iff_ne,zai,zai];omega,Bool.not_false,cond_true]
   refine ⟨_,rfl,?_⟩
   rw [decide_eq_true_iff,zai,zai]
   constructor
   · exact fun hl=>.inl (by omega)
   · rintro (hl|⟨hl,_⟩)
     · omega
     · exact absurd hl h
theorem spec_least_cut {G:zae} (hG:OkG G):∃ q,zbx G=some q∧zbf G q:=by
 have v1:=hG.v1;have v8:=hG.v8;have he:=hG.e12
 obtain ⟨b,_,e1,hb⟩:=zbu G
 obtain rfl:b=true:=hb.2 hG
 obtain ⟨V,hV⟩:∃ V:Nat,G.vertices=(V:Int):=⟨G.vertices.toNat,by omega⟩
 have hp:2 ^ V≤2 ^ 8:=Nat.pow_le_pow_right (by omega) (by omega)
 unfold zbx zbf
 rw [e1,zaa,Bool.not_true,cond_false,hV,Int.toNat_natCast,shlK_nat (by omega)]
 refine cnt_m (σ:=List Int×Int×Bool) (fun s i=>(s.1,s.2.1,s.2.2,i)) (n:=2 ^ V) (a:=0) (s0:=([],0,false)) (fun i s=>Held (fun T=>midB V T.length=true∧∃ j,j < i∧T=subL V j) (costN G) (s.2.2=true) s.1∧(s.2.2=true→s.2.1=(costN G s.1:Int))∧(s.2.2=false→s=([],0,false))) rfl (Nat.zero_le _) ?_ ?_ ?_ ?_
 · refine ⟨.inr ⟨by decide,?_⟩,(fun h=>nomatch h),fun _=>rfl⟩
   rintro T ⟨_,j,hj,_⟩
   omega
 · rintro i ⟨best,size,found⟩ - hi ⟨h1,h2,h3⟩
   left
   dsimp only at h1 h2 h3 ⊢
   rw [nn_of (by omega),zaa,cT (by omega)]
   refine nx_ofX (f:=fun s:List Int×Int×Bool=>(s.1,s.2.1,s.2.2,((i + 1:Nat):Int))) ?_
   refine cnt_m (σ:=List Int) (fun s v=>(s,v)) (n:=V) (a:=0) (s0:=[]) (fun v s=>s=rfL (fun v=>i.testBit v) v) rfl (Nat.zero_le _) rfl ?_ ?_ ?_
   · rintro v s - hv rfl
     left
     dsimp only
     rw [cT (by omega),nn_of (by omega),zaa,bit_nat (by omega) (by omega),rfL_succ,wr_s (by omega) (by omega)]
     have:=rfL_len (q:=fun v=>i.testBit v) (i:=v)
     cases i.testBit v
     · exact ⟨_,rfl,by simp⟩
     · rw [cond_true,app_x (by simp;omega)]
       exact ⟨_,rfl,by simp⟩
   · rintro s -
     dsimp only
     rw [cF (by omega)]
   · rintro s rfl
     dsimp only
     have hlen:=rfL_len (q:=fun v=>i.testBit v) (i:=V)
     rw [show rfL (fun v=>i.testBit v) V=subL V i from rfl] at hlen ⊢
     generalize hS:subL V i=S at hlen
     rw [zai,mid_cond (by omega) (by omega),wr_s (by omega) (by omega)]
     cases hm:midB V S.length with
     | false =>
      rw [Bool.not_false,cond_true]
      refine ⟨_,rfl,(best,size,found),rfl,?_,h2,h3⟩
      have:(fun T=>midB V T.length=true∧∃ j,j < i + 1∧T=subL V j)=fun T=>midB V T.length=true∧∃ j,j < i∧T=subL V j:=by
       funext T
       apply propext
       constructor
       · rintro ⟨g1,j,g2,rfl⟩
         refine ⟨g1,j,?_,rfl⟩
         by_cases e:j=i
         · subst e;rw [hS,hm] at g1;cases g1
         · omega
       · rintro ⟨g1,j,g2,rfl⟩
         exact ⟨g1,j,by omega,rfl⟩
      dsimp only
      rw [this];exact h1
     | true =>
      rw [Bool.not_true,cond_false,zdr (by omega),zaa]
      have hlen2:len (idE (cro S) G.edges)=(costN G S:Int):=rfl
      rw [hlen2]
      have hfun:(fun T=>midB V T.length=true∧∃ j,j < i + 1∧T=subL V j)=fun T=>(midB V T.length=true∧∃ j,j < i∧T=subL V j)∨T=S:=by
       funext T
       apply propext
       constructor
       · rintro ⟨g1,j,g2,rfl⟩
         by_cases e:j=i
         · subst e;exact .inr hS
         · exact .inl ⟨g1,j,by omega,rfl⟩
       · rintro (⟨g1,j,g2,rfl⟩|rfl)
         · exact ⟨g1,j,by omega,rfl⟩
         · exact ⟨hm,i,by omega,hS.symm⟩
      obtain ⟨k1,k2⟩:=h1.any (y:=S)
      have hdec:∃ t:Bool,(bd (bif (bif (!found) then true else (decide ((costN G S:Int) < size))) then some true else bd (bif ((costN G S:Int) == size) then bd (PF.zb8 S best) (fun r751=>some r751) else some false) (fun t734=>some t734))=fun (f:Bool→Option (Lp (List Int×Int×Bool×Int) Empty))=>f t)∧(t=true↔(¬ found=true∨LtC (costN G) S best)):=by
       cases found with
       | false=>exact ⟨true,rfl,by simp⟩
       | true =>
        have hs:=h2 rfl
        rw [hs,Bool.not_true,cond_false]
        by_cases g1:costN G S < costN G best
        · rw [decide_eq_true (show (costN G S:Int) < (costN G best:Int) by omega)]
          exact ⟨true,rfl,by simp;exact .inl g1⟩
        · rw [decide_eq_false (show ¬ (costN G S:Int) < (costN G best:Int) by omega),cond_false]
          by_cases g2:costN G S=costN G best
          · rw [g2,beq_self_eq_true,cond_true]
            obtain ⟨r,r1,r2⟩:=before_eq S best
            rw [r1,zaa,zaa]
            refine ⟨r,rfl,?_⟩
            rw [r2]
            constructor
            · exact fun h=>.inr (.inr ⟨g2,h⟩)
            · rintro (h|h|⟨_,h⟩)
              · exact (h rfl).elim
              · omega
              · exact h
          · rw [show ((costN G S:Int) == (costN G best:Int))=false from by rw [beq_eq_false_iff_ne];omega]
            refine ⟨false,rfl,zbm ?_⟩
            rintro (h|h|⟨h,_⟩)
            · exact h rfl
            · omega
            · exact g2 h
      obtain ⟨t,t1,t2⟩:=hdec
      rw [t1]
      dsimp only
      cases t with
      | true =>
       rw [cond_true]
       refine ⟨_,rfl,(S,(costN G S:Int),true),rfl,?_,fun _=>rfl,(fun h=>nomatch h)⟩
       dsimp only
       rw [hfun]
       rcases k1 (t2.1 rfl) with ⟨_,q⟩|⟨q,_⟩
       · exact .inl ⟨rfl,q⟩
       · exact absurd trivial q
      | false =>
       rw [cond_false]
       have ht:¬ (¬ found=true∨LtC (costN G) S best):=fun h=>by have:=t2.2 h;cases this
       have hf:found=true:=Classical.byContradiction fun h=>ht (.inl h)
       refine ⟨_,rfl,(best,size,found),rfl,?_,h2,h3⟩
       dsimp only
       rw [hfun]
       rcases k2 hf (fun h=>ht (.inr h)) with ⟨_,q⟩|⟨q,_⟩
       · exact .inl ⟨hf,q⟩
       · exact absurd trivial q
 · rintro ⟨best,size,found⟩ -
   dsimp only
   rw [nn_of (by omega),zaa,cF (by omega)]
 · rintro ⟨best,size,found⟩ ⟨h1,h2,h3⟩
   dsimp only at h1 h2 h3 ⊢
   have hfun:(fun T=>midB V T.length=true∧∃ j,j < 2 ^ V∧T=subL V j)=MidP G V:=by
    funext T
    apply propext
    constructor
    · rintro ⟨g1,j,_,rfl⟩
      exact ⟨rfL_rise,g1⟩
    · rintro ⟨g1,g2⟩
      obtain ⟨j,j1,j2⟩:=subL_all g1
      exact ⟨g2,j,j1,j2⟩
   rw [hfun] at h1
   refine ⟨_,rfl,?_⟩
   rcases h1 with ⟨q1,q2⟩|⟨q1,q2⟩
   · exact .inl ⟨q1,q2,h2 q1⟩
   · have hf:found=false:=by simpa using q1
     have:=h3 hf
     cases this
     exact .inr ⟨rfl,q2⟩
theorem least_two {G:zae} (hG:OkG G):∃ q,zbw G=some q∧zbx G=some q∧zbf G q:=by
 obtain ⟨q,e1,h1⟩:=impl_least_cut hG
 obtain ⟨r,e2,h2⟩:=spec_least_cut hG
 obtain rfl:=h1.uniq h2
 exact ⟨q,e1,e2,h1⟩
end Go.PF
namespace Go.PF
open Go.Pu
theorem contains_reached {c:List zan} {g:zan→Bool}:zcH c (fun x=>some (g x))=some (c.any g):=by
 unfold zcH zdc
 obtain ⟨r,e,hr⟩:∃ r,bdR (forL (S:=Unit) (X:=Int) c (fun i22 y21 s22=>bd (some (g y21)) (fun r64=>(bif r64 then some (Lp.rt ((i22:Nat):Int)) else some (Lp.nx ())))) ()) (fun s22=>some (-1)) (fun x22=>some x22)=some r∧decide (0≤r)=c.any g:=by
  refine loop_lx (fun i _=>∀ x∈c.take i,g x=false) (by simp) ?_ ?_
  · rintro i x ⟨⟩ hx hI
    cases h:g x with
    | true =>
     right
     refine ⟨_,_,rfl,rfl,?_⟩
     rw [decide_eq_true (by omega)]
     symm
     rw [List.any_eq_true]
     exact ⟨x,List.mem_of_getElem? hx,h⟩
    | false =>
     left
     refine ⟨(),rfl,fun y hy=>?_⟩
     rw [List.take_add_one,hx] at hy
     rcases List.mem_append.1 hy with hy|hy
     · exact hI y hy
     · simp at hy;subst hy;exact h
  · rintro ⟨⟩ hI
    rw [List.take_length] at hI
    refine ⟨_,rfl,?_⟩
    symm
    rw [show decide ((0:Int)≤-1)=false from rfl,List.any_eq_false]
    exact fun x hx=>by rw [hI x hx];decide
 rw [e,zaa,hr]
def Closed (G:zae) (U:Int→Prop):Prop:=∀ e∈G.edges,(U e.1↔U e.2)
def Conn (G:zae):Prop:=∀ U:Int→Prop,Closed G U→U 0→∀ v,0≤v→v < G.vertices→U v
def vsL (out:List zan):List Int:=out.map (·.vertex)
structure LineI (G:zae) (v:Int) (out:List zan):Prop where
 beg:v∈vsL out
 nd:(vsL out).Nodup
 rng:∀ x∈vsL out,0≤x∧x < G.vertices
 rch:∀ U,Closed G U→U v→∀ x∈vsL out,U x
theorem zcq {A:Type} [DecidableEq A]:∀ {l m:List A},l.Nodup→(∀ x∈l,x∈m)→l.length≤m.length
 | [],_,_,_=>Nat.zero_le _
 | x::l,m,h,hs=>by
  obtain ⟨h1,h2⟩:=List.nodup_cons.1 h
  have hx:=hs x (by simp)
  have:=zcq (l:=l) (m:=m.erase x) h2 fun y hy=>(List.mem_erase_of_ne (by rintro rfl;exact h1 hy)).2 (hs y (by simp [hy]))
  rw [List.length_erase_of_mem hx] at this
  have:=List.length_pos_of_mem hx
  rw [List.length_cons];omega
theorem nodup_len {V:Nat} {l:List Int} (hn:l.Nodup) (hr:∀ x∈l,0≤x∧x < (V:Int)):l.length≤V:=by
 have:=zcq (m:=(List.range V).map fun (k:Nat)=>(k:Int)) hn fun x hx=>by
  have:=hr x hx
  rw [List.mem_map]
  exact ⟨x.toNat,by rw [List.mem_range];omega,by omega⟩
 simpa using this
theorem nx_bind {σ T X:Type} {f:σ→T} {x:Option (Lp T X)} {I:σ→Prop} {J:T→Prop} (h:∃ q,x=some q∧∃ s',q=.nx (f s')∧I s') (g:∀ s,I s→J (f s)):∃ s',x=some (.nx s')∧J s':=by
 obtain ⟨q,e,s',rfl,i⟩:=h
 exact ⟨_,e,g s' i⟩
theorem LineI.len {G:zae} (hG:OkG G) {v:Int} {out:List zan} (h:LineI G v out):out.length≤8:=by
 have v1:=hG.v1;have v8:=hG.v8
 have:=nodup_len (V:=G.vertices.toNat) h.nd (fun x hx=>by have:=h.rng x hx;omega)
 unfold vsL at this
 rw [List.length_map] at this
 omega
def Full (G:zae) (x:Int) (out:List zan):Prop:=∀ e∈G.edges,(e.1=x→e.2∈vsL out)∧(e.2=x→e.1∈vsL out)
theorem line_eq {G:zae} (hG:OkG G) {v:Int} (h0:0≤v) (h1:v < G.vertices):∃ out,zcI G v=some out∧LineI G v out∧∀ x∈vsL out,Full G x out:=by
 have v1:=hG.v1;have v8:=hG.v8;have he:=hG.e12
 unfold zcI
 refine iter_m (S:=List zan×Int) (X:=Empty) (fun s=>∃ i:Nat,s.2=(i:Int)∧i≤s.1.length∧LineI G v s.1∧∀ x∈(vsL s.1).take i,Full G x s.1) (fun s=>9 - s.2.toNat) ?_ ?_
 · refine ⟨0,rfl,by simp,⟨by simp [vsL],by simp [vsL],fun x hx=>?_,fun U _ hv x hx=>?_⟩,by simp⟩
   · simp [vsL] at hx;subst hx;exact ⟨h0,h1⟩
   · simp [vsL] at hx;subst hx;exact hv
 · rintro ⟨out,z⟩ ⟨i,rfl,hi,hL,hF⟩
   dsimp only at hi hL hF ⊢
   have hl8:=hL.len hG
   by_cases hlt:i < out.length
   · left
     have hx:out[i]?=some out[i]:=List.getElem?_eq_getElem hlt
     generalize out[i]=r at hx
     have hrv:(vsL out)[i]?=some r.vertex:=by unfold vsL;rw [List.getElem?_map,hx];rfl
     have hrr:=hL.rng _ (List.mem_of_getElem? hrv)
     have hidl:=idE_len (p:=inc r.vertex) (E:=G.edges)
     rw [cT (by rw [zai];omega),zal hx,zaa,zc9 (by omega),zaa,zbd (by omega),zaa]
     refine nx_bind (σ:=List zan) (f:=fun s=>(s,((i + 1:Nat):Int))) (I:=fun s=>LineI G v s∧(∃ t,s=out++t)∧∀ k∈idE (inc r.vertex) G.edges,∀ e,G.edges[k.toNat]?=some e→(e.1=r.vertex→e.2∈vsL s)∧(e.2=r.vertex→e.1∈vsL s)) ?_ ?_
     · refine zbe (fun j s=>LineI G v s∧(∃ t,s=out++t)∧∀ k∈(idE (inc r.vertex) G.edges).take j,∀ e,G.edges[k.toNat]?=some e→(e.1=r.vertex→e.2∈vsL s)∧(e.2=r.vertex→e.1∈vsL s)) ⟨hL,⟨[],by simp⟩,by simp⟩ ?_ ?_
       · rintro j s hj ⟨g1,⟨t,rfl⟩,g3⟩
         have hk:(idE (inc r.vertex) G.edges)[j]?=some (idE (inc r.vertex) G.edges)[j]:=List.getElem?_eq_getElem hj
         have hkm:=List.getElem_mem hj
         generalize hq:(idE (inc r.vertex) G.edges)[j]=q at hk hkm
         obtain ⟨k,e,rfl,hke,hinc⟩:=zbt.1 hkm
         have hek:=hG.ed e (List.mem_of_getElem? hke)
         rw [zal hk,zaa,zal hke,zaa,zaa,show wr (e.1 + e.2)=e.1 + e.2 from wr_s (by omega) (by omega),show wr (e.1 + e.2 - r.vertex)=e.1 + e.2 - r.vertex from wr_s (by omega) (by omega)]
         have hc:=contains_reached (c:=out++t) (g:=fun x0=>PF.zbq x0 (e.1 + e.2 - r.vertex))
         rw [hc,zaa]
         have hany:(out++t).any (fun x0=>PF.zbq x0 (e.1 + e.2 - r.vertex))=true↔(e.1 + e.2 - r.vertex)∈vsL (out++t):=by
          rw [List.any_eq_true]
          unfold vsL zbq
          rw [List.mem_map]
          constructor
          · rintro ⟨y,hy,h⟩;exact ⟨y,hy,by simpa using h⟩
          · rintro ⟨y,hy,h⟩;exact ⟨y,hy,by simpa using h⟩
         have hends:e.1=r.vertex∨e.2=r.vertex:=by
          unfold inc at hinc
          by_cases h:e.1=r.vertex
          · exact .inl h
          · right
            rw [show (e.1 == r.vertex)=false from by rw [beq_eq_false_iff_ne];exact h,cond_false,beq_iff_eq] at hinc
            exact hinc
         have htake:(idE (inc r.vertex) G.edges).take (j + 1)=(idE (inc r.vertex) G.edges).take j++[(k:Int)]:=by rw [List.take_add_one,hk];rfl
         have hnew:∀ s:List zan,(e.1 + e.2 - r.vertex)∈vsL s→(e.1=r.vertex→e.2∈vsL s)∧(e.2=r.vertex→e.1∈vsL s):=by
          intro s hs
          refine ⟨fun h=>?_,fun h=>?_⟩
          · rwa [show e.1 + e.2 - r.vertex=e.2 by omega] at hs
          · rwa [show e.1 + e.2 - r.vertex=e.1 by omega] at hs
         cases hb:(out++t).any (fun x0=>PF.zbq x0 (e.1 + e.2 - r.vertex)) with
         | true =>
          rw [Bool.not_true,cond_false]
          refine ⟨_,rfl,g1,⟨t,rfl⟩,fun k' hk' e' he'=>?_⟩
          rw [htake] at hk'
          rcases List.mem_append.1 hk' with hk'|hk'
          · exact g3 k' hk' e' he'
          · rw [List.mem_singleton] at hk';subst hk'
            rw [Int.toNat_natCast,hke] at he'
            cases he'
            exact hnew _ (hany.1 hb)
         | false =>
          have hnm:¬ (e.1 + e.2 - r.vertex)∈vsL (out++t):=fun h=>by have:=hany.2 h;rw [hb] at this;cases this
          have hl:=g1.len hG
          have hvs:vsL (out++t++[zan.mk (e.1 + e.2 - r.vertex) (k:Int)])=vsL (out++t)++[e.1 + e.2 - r.vertex]:=by unfold vsL;rw [List.map_append];rfl
          rw [Bool.not_false,cond_true,app_x (by rw [List.length_singleton];omega),zaa]
          refine ⟨_,rfl,⟨?_,?_,?_,?_⟩,⟨t++[zan.mk (e.1 + e.2 - r.vertex) (k:Int)],by simp⟩,?_⟩
          · rw [hvs];exact List.mem_append_left _ g1.beg
          · rw [hvs,List.nodup_append]
            refine ⟨g1.nd,by simp,fun a ha b hb'=>?_⟩
            rw [List.mem_singleton] at hb';subst hb'
            exact fun e=>hnm (e ▸ ha)
          · intro x hx
            rw [hvs] at hx
            rcases List.mem_append.1 hx with hx|hx
            · exact g1.rng x hx
            · rw [List.mem_singleton] at hx;subst hx
              rcases hends with h|h <;> omega
          · intro U hU hv x hx
            rw [hvs] at hx
            rcases List.mem_append.1 hx with hx|hx
            · exact g1.rch U hU hv x hx
            · rw [List.mem_singleton] at hx;subst hx
              have hr:U r.vertex:=hL.rch U hU hv _ (List.mem_of_getElem? hrv)
              have hc:=hU e (List.mem_of_getElem? hke)
              rcases hends with h|h
              · rw [show e.1 + e.2 - r.vertex=e.2 by omega];exact hc.1 (h ▸ hr)
              · rw [show e.1 + e.2 - r.vertex=e.1 by omega];exact hc.2 (h ▸ hr)
          · intro k' hk' e' he'
            rw [htake] at hk'
            rcases List.mem_append.1 hk' with hk'|hk'
            · have:=g3 k' hk' e' he'
              rw [hvs]
              exact ⟨fun h=>List.mem_append_left _ (this.1 h),fun h=>List.mem_append_left _ (this.2 h)⟩
            · rw [List.mem_singleton] at hk';subst hk'
              rw [Int.toNat_natCast,hke] at he'
              cases he'
              exact hnew _ (by rw [hvs];simp)
       · rintro s ⟨g1,g2,g3⟩
         rw [List.take_length] at g3
         refine ⟨_,rfl,s,?_,g1,g2,g3⟩
         rw [wr_s (by omega) (by omega)]
         rfl
     · rintro s ⟨g1,⟨t,rfl⟩,g3⟩
       refine ⟨⟨i + 1,rfl,by dsimp only;rw [List.length_append];omega,g1,fun x hx=>?_⟩,by dsimp only;omega⟩
       have hvs:vsL (out++t)=vsL out++vsL t:=by unfold vsL;rw [List.map_append]
       have hlv:(vsL out).length=out.length:=by unfold vsL;rw [List.length_map]
       dsimp only at hx
       rw [hvs,List.take_append_of_le_length (by omega),List.take_add_one,hrv] at hx
       rcases List.mem_append.1 hx with hx|hx
       · intro e he
         have:=hF x hx e he
         rw [hvs]
         exact ⟨fun h=>List.mem_append_left _ (this.1 h),fun h=>List.mem_append_left _ (this.2 h)⟩
       · simp at hx;subst hx
         intro e he
         obtain ⟨k,hk⟩:=List.getElem?_of_mem he
         constructor
         · intro h
           exact (g3 (k:Int) (zbt.2 ⟨k,e,rfl,hk,by unfold inc;rw [h,beq_self_eq_true];rfl⟩) e (by rw [Int.toNat_natCast];exact hk)).1 h
         · intro h
           exact (g3 (k:Int) (zbt.2 ⟨k,e,rfl,hk,by unfold inc;rw [h,beq_self_eq_true];cases (e.1 == r.vertex) <;> rfl⟩) e (by rw [Int.toNat_natCast];exact hk)).2 h
   · right;left
     rw [cF (by rw [zai];omega)]
     refine ⟨_,rfl,_,rfl,hL,fun x hx=>?_⟩
     have:i=out.length:=by omega
     subst this
     rw [show out.length=(vsL out).length by unfold vsL;rw [List.length_map],List.take_length] at hF
     exact hF x hx
end Go.PF
namespace Go.PF
open Go.Pu
structure LineOf (G:zae) (v:Int) (out:List zan):Prop where
 i:LineI G v out
 full:∀ x∈vsL out,Full G x out
structure LinesI (G:zae) (v:Nat) (seen:List Bool) (out:List (List zan)):Prop where
 len:seen.length=8
 sn:∀ u:Nat,u < 8→(seen[u]?=some true↔∃ L∈out,(u:Int)∈vsL L)
 fst:0 < v→∃ L,out[0]?=some L∧LineOf G 0 L
 all:∀ u:Nat,u < v→seen[u]?=some true
 few:out.length≤v
 lns:∀ L∈out,∃ w:Int,LineI G w L
 emp:v=0→out=[]
theorem lines_eq {G:zae} (hG:OkG G):∃ out,zcJ G=some out∧∃ seen,LinesI G G.vertices.toNat seen out:=by
 have v1:=hG.v1;have v8:=hG.v8;have he:=hG.e12
 obtain ⟨V,hV⟩:∃ V:Nat,G.vertices=(V:Int):=⟨G.vertices.toNat,by omega⟩
 have hchk:chk G.vertices=some V:=by unfold chk;rw [if_pos (by omega),hV,Int.toNat_natCast]
 unfold zcJ
 rw [hchk,zaa,hV,Int.toNat_natCast]
 refine zbe (fun v s=>LinesI G v s.1 s.2) ⟨rfl,fun u hu=>?_,fun h=>absurd h (Nat.lt_irrefl 0),fun u hu=>absurd hu (Nat.not_lt_zero _),Nat.le_refl _,by simp,fun _=>rfl⟩ ?_ ?_
 · have:([false,false,false,false,false,false,false,false]:List Bool)[u]?=some false:=by
    have:∀ u:Nat,u < 8→([false,false,false,false,false,false,false,false]:List Bool)[u]?=some false:=by decide
    exact this u hu
   rw [this];simp
 · rintro v ⟨seen,out⟩ hv hI
   dsimp only at hI ⊢
   have hlt:v < seen.length:=by rw [hI.len];omega
   have hsv:seen[v]?=some seen[v]:=List.getElem?_eq_getElem hlt
   generalize seen[v]=b at hsv
   rw [zal hsv,zaa]
   cases b with
   | true =>
    rw [cond_true]
    refine ⟨_,rfl,hI.len,hI.sn,fun _=>?_,fun u hu=>?_,by have:=hI.few;dsimp only;omega,hI.lns,fun h=>by omega⟩
    · by_cases h0:0 < v
      · exact hI.fst h0
      · have hv0:v=0:=by omega
        obtain ⟨L,hL,_⟩:=(hI.sn v (by omega)).1 hsv
        rw [hI.emp hv0] at hL;cases hL
    · by_cases e:u=v
      · subst e;exact hsv
      · exact hI.all u (by omega)
   | false =>
    rw [cond_false]
    obtain ⟨L,eL,hL,hF⟩:=line_eq hG (v:=(v:Int)) (by omega) (by omega)
    have hl8:=hL.len hG
    rw [eL,zaa,zbd (by omega),zaa]
    refine nx_bind (σ:=List Bool) (f:=fun s=>(s,out++[L])) (I:=fun s=>s.length=8∧∀ u:Nat,u < 8→(s[u]?=some true↔seen[u]?=some true∨(u:Int)∈vsL L)) ?_ ?_
    · refine zbe (fun j s=>s.length=8∧∀ u:Nat,u < 8→(s[u]?=some true↔seen[u]?=some true∨(u:Int)∈(vsL L).take j)) ⟨hI.len,fun u hu=>by simp⟩ ?_ ?_
      · rintro j s hj ⟨g1,g2⟩
        have hx:L[j]?=some L[j]:=List.getElem?_eq_getElem hj
        generalize L[j]=r at hx
        have hrv:(vsL L)[j]?=some r.vertex:=by unfold vsL;rw [List.getElem?_map,hx];rfl
        have hrr:=hL.rng _ (List.mem_of_getElem? hrv)
        obtain ⟨a,ha⟩:∃ a:Nat,r.vertex=(a:Int):=⟨r.vertex.toNat,by omega⟩
        have hsa:s[a]?=some s[a]:=List.getElem?_eq_getElem (by omega)
        rw [zal hx,zaa,ha,zal hsa,zaa,put_at (by omega),zaa]
        refine ⟨_,rfl,by rw [List.length_set];exact g1,fun u hu=>?_⟩
        rw [List.take_add_one,hrv,Option.toList_some,List.mem_append,List.mem_singleton,ha]
        by_cases e:a=u
        · subst e
          rw [set_self (by omega)];simp
        · rw [set_ne e,g2 u hu]
          constructor
          · rintro (h|h)
            · exact .inl h
            · exact .inr (.inl h)
          · rintro (h|h|h)
            · exact .inl h
            · exact .inr h
            · omega
      · rintro s ⟨g1,g2⟩
        have:=hI.few
        rw [app_x (by rw [List.length_singleton];omega),zaa]
        refine ⟨_,rfl,s,rfl,g1,fun u hu=>?_⟩
        rw [g2 u hu,show L.length=(vsL L).length by unfold vsL;rw [List.length_map],List.take_length]
    · rintro s ⟨g1,g2⟩
      refine ⟨g1,fun u hu=>?_,fun _=>?_,fun u hu=>?_,?_,?_,fun h=>by omega⟩
      · dsimp only
        rw [g2 u hu,hI.sn u hu]
        constructor
        · rintro (⟨M,hM,h⟩|h)
          · exact ⟨M,by simp [hM],h⟩
          · exact ⟨L,by simp,h⟩
        · rintro ⟨M,hM,h⟩
          rcases List.mem_append.1 hM with hM|hM
          · exact .inl ⟨M,hM,h⟩
          · rw [List.mem_singleton] at hM;subst hM;exact .inr h
      · by_cases h0:0 < v
        · obtain ⟨M,hM,h⟩:=hI.fst h0
          exact ⟨M,by dsimp only;rw [List.getElem?_append_left (List.getElem?_eq_some_iff.1 hM).1];exact hM,h⟩
        · have hv0:v=0:=by omega
          subst hv0
          exact ⟨L,by dsimp only;rw [hI.emp rfl];rfl,hL,hF⟩
      · by_cases e:u=v
        · subst e
          exact (g2 u (by omega)).2 (.inr hL.beg)
        · exact (g2 u (by omega)).2 (.inl (hI.all u (by omega)))
      · have:=hI.few
        dsimp only;rw [List.length_append,List.length_singleton];omega
      · intro M hM
        rcases List.mem_append.1 hM with hM|hM
        · exact hI.lns M hM
        · rw [List.mem_singleton] at hM;subst hM;exact ⟨_,hL⟩
 · rintro ⟨seen,out⟩ hI
   exact ⟨_,rfl,seen,hI⟩
theorem sort_eq {xs:List Int} (h:xs.length≤1000):∃ ys,zdd xs=some ys∧ys.length=xs.length∧∀ x,x∈ys↔x∈xs:=by
 unfold zdd sortI
 rw [if_pos (by unfold lim;omega)]
 exact ⟨_,rfl,List.length_mergeSort _,fun x=>List.mem_mergeSort⟩
theorem parts_eq {G:zae} (hG:OkG G):∃ P,zca G=some P∧(∀ p∈P,p.length≤8∧∀ x∈p,0≤x∧x < G.vertices)∧P.length≤8∧(P.length=1→Conn G):=by
 have v1:=hG.v1;have v8:=hG.v8
 obtain ⟨out,e,seen,hI⟩:=lines_eq hG
 have hfew:=hI.few
 unfold zca
 rw [e,zaa,zbd (by omega),zaa]
 refine zbe (fun i s=>s.length=i∧∀ p∈s,p.length≤8∧∀ x∈p,0≤x∧x < G.vertices) ⟨rfl,by simp⟩ ?_ ?_
 · rintro i s hi ⟨g1,g2⟩
   have hx:out[i]?=some out[i]:=List.getElem?_eq_getElem hi
   have hm:=List.getElem_mem hi
   generalize out[i]=L at hx hm
   obtain ⟨w,hL⟩:=hI.lns L hm
   have hl8:=hL.len hG
   rw [zal hx,zaa]
   refine nx_bind (σ:=List (List Int)) (f:=fun s=>s) (I:=fun t=>t.length=i + 1∧∀ p∈t,p.length≤8∧∀ x∈p,0≤x∧x < G.vertices) ?_ (fun s h=>h)
   refine loop_l (fun j t=>t=(vsL L).take j) (by simp) ?_ ?_
   · rintro j r t hr rfl
     have:=(List.getElem?_eq_some_iff.1 hr).1
     have hrv:(vsL L)[j]?=some r.vertex:=by unfold vsL;rw [List.getElem?_map,hr];rfl
     rw [app_x (by rw [List.length_take,List.length_singleton];omega),zaa]
     exact ⟨_,rfl,by rw [List.take_add_one,hrv];rfl⟩
   · rintro t rfl
     have hv:(vsL L).length=L.length:=by unfold vsL;rw [List.length_map]
     rw [← hv,List.take_length]
     obtain ⟨ys,y1,y2,y3⟩:=sort_eq (xs:=vsL L) (by omega)
     rw [y1,zaa,app_x (by rw [List.length_singleton];omega),zaa]
     refine ⟨_,rfl,_,rfl,by rw [List.length_append,List.length_singleton];omega,fun p hp=>?_⟩
     rcases List.mem_append.1 hp with hp|hp
     · exact g2 p hp
     · rw [List.mem_singleton] at hp;subst hp
       exact ⟨by omega,fun x hx=>hL.rng x ((y3 x).1 hx)⟩
 · rintro s ⟨g1,g2⟩
   refine ⟨_,rfl,g2,by omega,fun h1=>?_⟩
   obtain ⟨L,hL0,hL⟩:=hI.fst (by omega)
   intro U hU hU0 v h0 hv
   obtain ⟨a,rfl⟩:∃ a:Nat,v=(a:Int):=⟨v.toNat,by omega⟩
   obtain ⟨M,hM,hm⟩:=(hI.sn a (by omega)).1 (hI.all a (by omega))
   obtain ⟨k,hk⟩:=List.getElem?_of_mem hM
   have hkl:=(List.getElem?_eq_some_iff.1 hk).1
   have hk0:k=0:=by omega
   subst hk0
   rw [hL0] at hk;cases hk
   exact hL.i.rch U hU hU0 _ hm
theorem odd_eq {G:zae} (hG:OkG G):∃ O,zcL G=some O:=by
 have v1:=hG.v1;have v8:=hG.v8
 obtain ⟨P,e,hP,hl,_⟩:=parts_eq hG
 unfold zcL
 rw [e,zaa,zbd (by omega),zaa]
 have:∃ r,bdR (forR (S:=(List Int)) (X:=Empty) 0 P.length (fun i42 s42=>bd (ix P ((i42:Nat):Int)) (fun x158=>bdR (forL (S:=Int) (X:=Empty) x158 (fun i163 y162 s163=>bd (ix G.charges y162) (fun x220=>some (Lp.nx (wr (s163 + x220))))) 0) (fun s163=>(bif ((s163.tmod 2) == 1) then bd (app s42 [((i42:Nat):Int)]) (fun xs241=>some (Lp.nx xs241)) else some (Lp.nx s42))) (fun x163=>nomatch x163))) []) (fun s42=>some s42) (fun x42=>nomatch x42)=some r∧True:=by
  refine zbe (fun i s=>s.length≤i) (Nat.le_refl _) ?_ (fun s _=>⟨_,rfl,trivial⟩)
  rintro i s hi hs
  have hx:P[i]?=some P[i]:=List.getElem?_eq_getElem hi
  have hm:=List.getElem_mem hi
  generalize P[i]=p at hx hm
  have hp:=hP p hm
  rw [zal hx,zaa]
  have hc:∀ y∈p,ix G.charges y=some (chg G y)∧0≤chg G y∧chg G y≤1:=fun y hy=>chg_ix hG (hp.2 y hy).1 (hp.2 y hy).2
  have e2:=forL_sum (B:=Lp (List Int) Empty) (xs:=p) (g:=chg G) (a:=0) (k:=fun s163=>(bif ((s163.tmod 2) == 1) then bd (app s [((i:Nat):Int)]) (fun xs241=>some (Lp.nx xs241)) else some (Lp.nx s))) (lx:=fun x=>nomatch x)
   (body:=fun i163 y162 s163=>bd (ix G.charges y162) (fun x220=>some (Lp.nx (wr (s163 + x220)))))
   (fun i y s hy=>by rw [(hc y (List.mem_of_getElem? hy)).1,zaa]) (fun y hy=>(hc y hy).2) (by omega) (by omega)
  have e3:∃ s',(fun s163:Int=>(bif ((s163.tmod 2) == 1) then bd (app s [((i:Nat):Int)]) (fun xs241=>some (Lp.nx xs241)) else some (Lp.nx s):Option (Lp (List Int) Empty))) (0 + (p.map (chg G)).sum)=some (.nx s')∧s'.length≤i + 1:=by
   dsimp only
   cases ((0 + (p.map (chg G)).sum).tmod 2 == 1)
   · exact ⟨_,rfl,by omega⟩
   · rw [cond_true,app_x (by rw [List.length_singleton];omega)]
     exact ⟨_,rfl,by rw [List.length_append,List.length_singleton];omega⟩
  obtain ⟨s',g1,g2⟩:=e3
  exact ⟨s',e2.trans g1,g2⟩
 obtain ⟨r,e,_⟩:=this
 exact ⟨r,e⟩
end Go.PF
namespace Go.PF
open Go.Pu
inductive Sgn:List Int→List Int→Prop
 | nil:Sgn [] []
 | cons {l v:Int} {c vs:List Int}:(l=v∨l=-v)→Sgn c vs→Sgn (l::c) (v::vs)
theorem Sgn.snoc {l v:Int} (h:l=v∨l=-v):∀ {c vs:List Int},Sgn c vs→Sgn (c++[l]) (vs++[v])
 | _,_,.nil=>.cons h .nil
 | _,_,.cons h' t=>.cons h' (t.snoc h)
theorem Sgn.len:∀ {c vs:List Int},Sgn c vs→c.length=vs.length
 | _,_,.nil=>rfl
 | _,_,.cons _ t=>by rw [List.length_cons,List.length_cons,t.len]
theorem Sgn.mem:∀ {c vs:List Int},Sgn c vs→∀ l∈c,∃ v∈vs,l=v∨l=-v
 | _,_,.nil,l,h=>by cases h
 | _,_,.cons (l:=a) (v:=b) h' t,l,h=>by
  rcases List.mem_cons.1 h with rfl|h
  · exact ⟨b,by simp,h'⟩
  · obtain ⟨v,hv,e⟩:=t.mem l h
    exact ⟨v,by simp [hv],e⟩
def evN:List Int→Bool
 | []=>true
 | l::c=>if l < 0 then !evN c else evN c
theorem evN_snoc {l:Int}:∀ {c:List Int},evN (c++[l])=if l < 0 then !evN c else evN c
 | []=>by simp [evN]
 | x::c=>by
  rw [List.cons_append,evN,evN,evN_snoc (c:=c)]
  split <;> split <;> rfl
theorem zda {A:Type} {p:A→Bool} {l:List A} {x:A}:(l++[x]).countP p=l.countP p + if p x then 1 else 0:=by
 simp [List.countP_append,List.countP_cons]
structure SgI (vs:List Int) (out:List (List Int)):Prop where
 mem:∀ c∈out,Sgn c vs
 ev:out.countP evN≤(if vs=[] then 1 else 2 ^ (vs.length - 1))
 od:out.countP (fun c => !evN c)≤(if vs=[] then 1 else 2 ^ (vs.length - 1))
 len:out.length=2 ^ vs.length
theorem clone_LL {x:List Int} (h:x.length≤1000):zaZ x=some x:=by
 unfold zaZ
 rw [app_x (by simp;omega)];rfl
theorem signings_eq {vs:List Int} (hl:vs.length≤8) (hv:∀ v∈vs,1≤v∧v≤100):∃ out,zcN vs=some out∧SgI vs out:=by
 unfold zcN
 refine loop_l (fun i out=>SgI (vs.take i) out) ?_ ?_ ?_
 · refine ⟨fun c hc=>?_,by simp [evN],by simp [evN],by simp⟩
   simp at hc;subst hc;exact .nil
 · rintro i v out hx hI
   have hi:=(List.getElem?_eq_some_iff.1 hx).1
   have hvv:=hv v (List.mem_of_getElem? hx)
   have htk:vs.take (i + 1)=vs.take i++[v]:=by rw [List.take_add_one,hx];rfl
   have htl:(vs.take i).length=i:=by rw [List.length_take];omega
   have hol:=hI.len
   rw [htl] at hol
   have hp:2 ^ i≤2 ^ 8:=Nat.pow_le_pow_right (by omega) (by omega)
   rw [zbd (by omega),zaa]
   refine nx_bind (σ:=List (List Int)) (f:=fun s=>s) (I:=fun t=>(∀ c∈t,Sgn c (vs.take (i + 1)))∧t.countP evN=out.length∧t.countP (fun c => !evN c)=out.length∧t.length=2 * out.length) ?_ ?_
   · refine zbe (fun j t=>(∀ c∈t,Sgn c (vs.take (i + 1)))∧t.countP evN=j∧t.countP (fun c => !evN c)=j∧t.length=2 * j) (by simp) ?_ (fun s hs=>⟨_,rfl,s,rfl,hs⟩)
     rintro j t hj ⟨g1,g2,g3,g4⟩
     have hc:out[j]?=some out[j]:=List.getElem?_eq_getElem hj
     have hcm:=hI.mem _ (List.getElem_mem hj)
     generalize out[j]=c at hc hcm
     have hcl:=hcm.len
     rw [htl] at hcl
     rw [zal hc,zaa,clone_LL (by omega),zaa,app_x (by rw [List.length_singleton];omega),zaa,zaa,wr_s (by omega) (by omega),app_x (by rw [List.length_singleton];omega),zaa,app_x (by simp;omega),zaa]
     have e1:evN (c++[v])=evN c:=by rw [evN_snoc,if_neg (by omega)]
     have e2:evN (c++[-v]) = !evN c:=by rw [evN_snoc,if_pos (by omega)]
     have esp:t++[c++[v],c++[-v]]=t++[c++[v]]++[c++[-v]]:=by simp
     refine ⟨_,rfl,?_,?_,?_,?_⟩
     · intro d hd
       rcases List.mem_append.1 hd with hd|hd
       · exact g1 d hd
       · rw [htk]
         simp only [List.mem_cons,List.not_mem_nil,or_false] at hd
         rcases hd with rfl|rfl
         · exact hcm.snoc (.inl rfl)
         · exact hcm.snoc (.inr rfl)
     · rw [esp,zda,zda,e1,e2,g2]
       cases evN c <;> simp
     · rw [esp,zda,zda,e1,e2,g3]
       cases evN c <;> simp
     · simp;omega
   · rintro t ⟨g1,g2,g3,g4⟩
     have hne:vs.take (i + 1)≠[]:=by rw [htk];simp
     have hl1:(vs.take (i + 1)).length=i + 1:=by rw [htk,List.length_append,htl];rfl
     refine ⟨g1,?_,?_,?_⟩
     · rw [if_neg hne,g2,hl1,hol];exact Nat.le_refl _
     · rw [if_neg hne,g3,hl1,hol];exact Nat.le_refl _
     · rw [g4,hl1,hol,Nat.pow_succ];omega
 · intro out hI
   rw [List.take_length] at hI
   exact ⟨_,rfl,hI⟩
theorem xor_eq {vs:List Int} (hl:vs.length≤4) (hv:∀ v∈vs,1≤v∧v≤100) (odd:Bool):∃ X,zcb vs odd=some X∧X.length≤2 * vs.length + 1∧∀ c∈X,Sgn c vs∧evN c=odd:=by
 obtain ⟨out,e,hI⟩:=signings_eq (by omega) hv
 have hp:2 ^ vs.length≤2 ^ 4:=Nat.pow_le_pow_right (by omega) hl
 have hol:=hI.len
 unfold zcb
 rw [e,zaa,zbd (by omega),zaa]
 refine zbe (fun i s=>s=(out.take i).filter (fun c=>evN c == odd)) (by simp) ?_ ?_
 · rintro i s hi rfl
   have hc:out[i]?=some out[i]:=List.getElem?_eq_getElem hi
   have hcm:=hI.mem _ (List.getElem_mem hi)
   generalize out[i]=c at hc hcm
   have hcl:=hcm.len
   rw [zal hc,zaa]
   refine nx_bind (σ:=List (List Int)) (f:=fun s=>s) (I:=fun t=>t=(out.take (i + 1)).filter (fun c=>evN c == odd)) ?_ (fun s h=>h)
   refine loop_l (fun (j:Nat) (n:Int)=>0≤n∧n≤j∧(evN (c.take j)=decide (n % 2=0))) (s0:=(0:Int)) ⟨by omega,by omega,by simp [evN]⟩ ?_ ?_
   · rintro j l n hl' ⟨n0,n1,n2⟩
     have hj:=(List.getElem?_eq_some_iff.1 hl').1
     have ht:c.take (j + 1)=c.take j++[l]:=by rw [List.take_add_one,hl'];rfl
     by_cases g:l < 0
     · rw [cT g,wr_s (by omega) (by omega)]
       refine ⟨_,rfl,by omega,by omega,?_⟩
       rw [ht,evN_snoc,if_pos g,n2]
       by_cases h2:n % 2=0
       · rw [decide_eq_true h2,decide_eq_false (by omega)];rfl
       · rw [decide_eq_false h2,decide_eq_true (by omega)];rfl
     · rw [cF g]
       refine ⟨_,rfl,by omega,by omega,?_⟩
       rw [ht,evN_snoc,if_neg g,n2]
   · rintro n ⟨n0,n1,n2⟩
     rw [List.take_length] at n2
     have hm:(n.tmod 2 == 0)=evN c:=by
      rw [Int.tmod_eq_emod_of_nonneg n0,n2]
      by_cases h2:n % 2=0
      · rw [h2];rfl
      · rw [decide_eq_false h2,beq_eq_false_iff_ne];exact h2
     have hf:(out.take (i + 1)).filter (fun c=>evN c == odd)=(out.take i).filter (fun c=>evN c == odd)++(if evN c == odd then [c] else []):=by
      rw [List.take_add_one,hc,Option.toList_some,List.filter_append]
      congr 1
      cases h:(evN c == odd) <;> simp [h]
     have hfl:=List.length_filter_le (fun c=>evN c == odd) (out.take i)
     rw [List.length_take] at hfl
     rw [hm,hf]
     cases (evN c == odd) with
     | true =>
      rw [cond_true,app_x (by rw [List.length_singleton];omega),zaa]
      exact ⟨_,rfl,_,rfl,rfl⟩
     | false =>
      rw [cond_false]
      exact ⟨_,rfl,_,rfl,by simp⟩
 · rintro s rfl
   rw [List.take_length]
   refine ⟨_,rfl,?_,fun c hc=>?_⟩
   · rw [← List.countP_eq_length_filter]
     have hb:(if vs=[] then 1 else 2 ^ (vs.length - 1))≤2 * vs.length + 1:=by
      have:∀ d:Nat,d≤4→(if d=0 then 1 else 2 ^ (d - 1))≤2 * d + 1:=by decide
      have:=this vs.length hl
      by_cases h0:vs=[]
      · rw [if_pos h0];omega
      · rw [if_neg h0]
        have h1:¬ vs.length=0:=fun h=>h0 (List.eq_nil_of_length_eq_zero h)
        rw [if_neg h1] at this
        exact this
     cases odd with
     | true =>
      have:(fun c=>evN c == true)=evN:=by funext c;cases evN c <;> rfl
      rw [this];have:=hI.ev;omega
     | false =>
      have:(fun c=>evN c == false)=fun c => !evN c:=by funext c;cases evN c <;> rfl
      rw [this];have:=hI.od;omega
   · obtain ⟨h1,h2⟩:=List.mem_filter.1 hc
     exact ⟨hI.mem c h1,by simpa using h2⟩
end Go.PF
namespace Go.PF
open Go.Pu
def satC (β:Nat→Bool) (c:List Int):Prop:=∃ l∈c,(0 < l∧β (l.natAbs - 1)=true)∨(l < 0∧β (l.natAbs - 1)=false)
def bvI (β:Nat→Bool) (k:Int):Int:=if β k.toNat then 1 else 0
def evenV (G:zae) (β:Nat→Bool) (v:Int):Prop:=(2:Int) ∣ chg G v + ((idE (inc v) G.edges).map (bvI β)).sum
def plus1 (ks:List Int):List Int:=ks.map fun k=>k + 1
theorem not_sat {β:Nat→Bool}:∀ {c ks:List Int},Sgn c (plus1 ks)→(∀ k∈ks,0≤k)→¬ satC β c→(evN c=decide (((ks.map (bvI β)).sum) % 2=0))
 | _,[],.nil,_,_=>rfl
 | _,k::ks,.cons (l:=l) (c:=c) h t,hk,hn=>by
  have h:l=k + 1∨l=-(k + 1):=h
  have h0:=hk k (by simp)
  have ih:=not_sat (β:=β) t (fun x hx=>hk x (by simp [hx])) fun ⟨x,hx,g⟩=>hn ⟨x,by simp [hx],g⟩
  have hl:l.natAbs - 1=k.toNat:=by rcases h with h|h <;> omega
  have hn':¬ ((0 < l∧β (l.natAbs - 1)=true)∨(l < 0∧β (l.natAbs - 1)=false)):=fun g=>hn ⟨l,by simp,g⟩
  rw [hl] at hn'
  rw [evN,List.map_cons,List.sum_cons,ih]
  generalize (ks.map (bvI β)).sum=s
  cases hb:β k.toNat with
  | true =>
   have hneg:l < 0:=by
    rcases h with h|h
    · exact absurd (.inl ⟨by omega,hb⟩) hn'
    · omega
   have hb1:bvI β k=1:=by unfold bvI;rw [hb];rfl
   rw [if_pos hneg,hb1]
   by_cases h2:s % 2=0
   · rw [decide_eq_true h2,decide_eq_false (by omega)];rfl
   · rw [decide_eq_false h2,decide_eq_true (by omega)];rfl
  | false =>
   have hpos:¬ l < 0:=fun g=>hn' (.inr ⟨g,hb⟩)
   have hb1:bvI β k=0:=by unfold bvI;rw [hb];rfl
   rw [if_neg hpos,hb1,Int.zero_add]
theorem vertex_sat {G:zae} (hG:OkG G) {v:Int} (h0:0≤v) (h1:v < G.vertices) {c:List Int} (hs:Sgn c (plus1 (idE (inc v) G.edges))) (he:evN c=(chg G v == 1)) {β:Nat→Bool} (hb:evenV G β v):satC β c:=by
 apply Classical.byContradiction
 intro hn
 have hk:∀ k∈idE (inc v) G.edges,0≤k:=fun k hk=>by obtain ⟨j,_,rfl,_,_⟩:=zbt.1 hk;omega
 have:=not_sat hs hk hn
 obtain ⟨_,c1,c2⟩:=chg_ix hG h0 h1
 unfold evenV at hb
 rw [he] at this
 by_cases g:chg G v=1
 · rw [g] at hb this
   rw [show ((1:Int) == 1)=true from rfl] at this
   have:=of_decide_eq_true this.symm
   omega
 · rw [show (chg G v == 1)=false from by rw [beq_eq_false_iff_ne];exact g] at this
   have:=of_decide_eq_false this.symm
   omega
theorem idE_srt {p:Int×Int→Bool} {E:List (Int×Int)}:(idE p E).Pairwise (· < ·):=rfL_srt
theorem sgn_isC {V:Int} (hV:0≤V∧V≤12):∀ {c vs:List Int},Sgn c vs→(∀ v∈vs,1≤v∧v≤V)→vs.Pairwise (· < ·)→IsC V c
 | _,_,.nil,_,_=>⟨hV.1,hV.2,by simp,.nil⟩
 | _,_,.cons (l:=l) (v:=v) h t,hv,hs=>by
  obtain ⟨s1,s2⟩:=List.pairwise_cons.1 hs
  have ih:=sgn_isC hV t (fun x hx=>hv x (by simp [hx])) s2
  have hv0:=hv v (by simp)
  refine ⟨hV.1,hV.2,fun x hx=>?_,List.pairwise_cons.2 ⟨fun x hx=>?_,ih.srt⟩⟩
  · rcases List.mem_cons.1 hx with rfl|hx
    · rcases h with h|h <;> omega
    · exact ih.lit x hx
  · obtain ⟨w,hw,e⟩:=t.mem x hx
    have:=s1 w hw
    rcases h with h|h <;> rcases e with e|e <;> omega
theorem deg_sum {G:zae} (hG:OkG G):sumR G.vertices.toNat (fun v=>((idE (inc (v:Int)) G.edges).length:Int))=2 * (G.edges.length:Int):=by
 have v1:=hG.v1
 obtain ⟨V,hV⟩:∃ V:Nat,G.vertices=(V:Int):=⟨G.vertices.toNat,by omega⟩
 rw [hV,Int.toNat_natCast]
 have h1:sumR V (fun v=>((idE (inc (v:Int)) G.edges).length:Int))=sumR V (fun v=>sumR G.edges.length fun k=>if qE (inc (v:Int)) G.edges k then 1 else 0):=zaY fun v _=>by unfold idE;rw [len_idT]
 rw [h1,sumR_comm]
 have h2:sumR G.edges.length (fun k=>sumR V fun v=>if qE (inc (v:Int)) G.edges k then 1 else 0)=sumR G.edges.length (fun k=>2):=zaY fun k hk=>by
  have hek:G.edges[k]?=some G.edges[k]:=List.getElem?_eq_getElem hk
  have hee:=hG.ed _ (List.getElem_mem hk)
  generalize G.edges[k]=e at hek hee
  obtain ⟨e1,e2⟩:=e
  obtain ⟨a1,rfl⟩:∃ a:Nat,e1=(a:Int):=⟨e1.toNat,by dsimp only at hee;omega⟩
  obtain ⟨a2,rfl⟩:∃ a:Nat,e2=(a:Int):=⟨e2.toNat,by dsimp only at hee;omega⟩
  dsimp only at hee
  have:=two_ends (V:=V) (a1:=a1) (a2:=a2) (S:=rfL (fun _=>true) V) (b:=1) (by omega) (by omega) (by omega)
  rw [if_pos (zbn.2 ⟨a1,rfl,by omega,rfl⟩),if_pos (zbn.2 ⟨a2,rfl,by omega,rfl⟩)] at this
  rw [show (2:Int)=1 + 1 from rfl,← this]
  refine zaY fun v hv=>?_
  rw [if_pos (zbn.2 ⟨v,rfl,hv,rfl⟩)]
  unfold qE;rw [hek]
 rw [h2]
 generalize G.edges.length=m
 induction m with
 | zero=>rfl
 | succ m ih=>rw [sumR,ih];omega
theorem okL_mk {X:Type} {p:X→Prop} {xs:List X} (hl:xs.length≤1000) (h:∀ x∈xs,p x):okL p xs:=⟨by omega,h⟩
structure CnfOf (G:zae) (F:Cnf):Prop where
 cnf:cnfB F=true
 ok:okCnf F
 vars:F.vars=(G.edges.length:Int)
 cl:∀ c∈F.clauses,∃ v:Int,0≤v∧v < G.vertices∧∀ β,evenV G β v→satC β c
theorem cnf_eq {G:zae} (hG:OkG G):∃ F,zcQ G=some (F,true)∧CnfOf G F:=by
 have v1:=hG.v1;have v8:=hG.v8;have he:=hG.e12;have hcl:=hG.cl
 obtain ⟨b,e1,_,hb⟩:=zbu G
 obtain rfl:b=true:=hb.2 hG
 unfold zcQ
 rw [e1,zaa,Bool.not_true,cond_false]
 suffices ∃ r,bdR (forL (S:=(List (List Int))) (X:=Empty) G.charges (fun i49 y48 s49=>bd (PF.zbp G ((i49:Nat):Int)) (fun r135426=>bd (chk (len r135426)) (fun m135436=>bdR (forR (S:=(List Int)) (X:=Empty) 0 m135436 (fun i135437 s135437=>bd (ix r135426 ((i135437:Nat):Int)) (fun x135504=>bd (app s135437 [(wr (x135504 + 1))]) (fun xs135511=>some (Lp.nx xs135511)))) []) (fun s135437=>bd (PF.zcb s135437 (y48 == 1)) (fun r162541=>bd (app s49 r162541) (fun xs165536=>some (Lp.nx xs165536)))) (fun x135437=>nomatch x135437)))) []) (fun s49=>bd (PF.zcP (family.mk (len G.edges) s49)) (fun r180581=>some (r180581.1,r180581.2.1))) (fun x49=>nomatch x49)=some r∧r.2=true∧CnfOf G r.1 by
  obtain ⟨⟨F,t⟩,e,h1,h2⟩:=this
  dsimp only at h1 h2
  subst h1
  exact ⟨F,e,h2⟩
 refine loop_l (fun i s=>(s.length:Int)≤2 * sumR i (fun v=>((idE (inc (v:Int)) G.edges).length:Int)) + i∧∀ c∈s,IsC (G.edges.length:Int) c∧∃ v:Int,0≤v∧v < G.vertices∧∀ β,evenV G β v→satC β c) ⟨by simp [sumR],by simp⟩ ?_ ?_
 · rintro i y s hy ⟨g1,g2⟩
   have hi:=(List.getElem?_eq_some_iff.1 hy).1
   have hdg:=hG.dg i hi
   have hrg:=sumR_rng (f:=fun v=>((idE (inc (v:Int)) G.edges).length:Int)) (a:=0) (b:=4) (n:=i) fun k hk=>by have:=hG.dg k (by omega);omega
   have hch:chg G (i:Int)=y:=by unfold chg;rw [Int.toNat_natCast,hy];rfl
   have hmem:∀ v∈plus1 (idE (inc (i:Int)) G.edges),1≤v∧v≤(G.edges.length:Int):=by
    intro v hv
    unfold plus1 at hv
    obtain ⟨k,hk,rfl⟩:=List.mem_map.1 hv
    obtain ⟨j,e,rfl,hj,_⟩:=zbt.1 hk
    have:=(List.getElem?_eq_some_iff.1 hj).1
    omega
   have hidb:∀ x∈idE (inc (i:Int)) G.edges,0≤x∧x≤12:=fun x hx=>by
    obtain ⟨j,e,rfl,hj,_⟩:=zbt.1 hx
    have:=(List.getElem?_eq_some_iff.1 hj).1
    omega
   rw [zc9 (by omega),zaa,zbd (by omega),zaa]
   refine nx_bind (σ:=List (List Int)) (f:=fun s=>s) (I:=fun t=>(t.length:Int)≤2 * sumR (i + 1) (fun v=>((idE (inc (v:Int)) G.edges).length:Int)) + ((i + 1:Nat):Int)∧∀ c∈t,IsC (G.edges.length:Int) c∧∃ v:Int,0≤v∧v < G.vertices∧∀ β,evenV G β v→satC β c) ?_ (fun s h=>h)
   refine zbe (fun j t=>t=plus1 ((idE (inc (i:Int)) G.edges).take j)) rfl ?_ ?_
   · rintro j t hj rfl
     have hx:(idE (inc (i:Int)) G.edges)[j]?=some (idE (inc (i:Int)) G.edges)[j]:=List.getElem?_eq_getElem hj
     have hxm:=hidb _ (List.getElem_mem hj)
     generalize (idE (inc (i:Int)) G.edges)[j]=x at hx hxm
     rw [zal hx,zaa,wr_s (by omega) (by omega),app_x (by unfold plus1;rw [List.length_map,List.length_take,List.length_singleton];omega),zaa]
     refine ⟨_,rfl,?_⟩
     unfold plus1
     rw [List.take_add_one,hx,Option.toList_some,List.map_append];rfl
   · rintro t rfl
     rw [List.take_length]
     have hpl:(plus1 (idE (inc (i:Int)) G.edges)).length=(idE (inc (i:Int)) G.edges).length:=by unfold plus1;rw [List.length_map]
     obtain ⟨X,x1,x2,x3⟩:=xor_eq (vs:=plus1 (idE (inc (i:Int)) G.edges)) (by omega) (fun v hv=>by have:=hmem v hv;omega) (y == 1)
     rw [x1,zaa,app_x (by omega),zaa]
     refine ⟨_,rfl,_,rfl,?_,fun c hc=>?_⟩
     · rw [List.length_append,sumR];omega
     · rcases List.mem_append.1 hc with hc|hc
       · exact g2 c hc
       · obtain ⟨c1,c2⟩:=x3 c hc
         refine ⟨sgn_isC ⟨by omega,by omega⟩ c1 hmem ?_,(i:Int),by omega,by omega,fun β hβ=>vertex_sat hG (by omega) (by omega) c1 (by rw [hch];exact c2) hβ⟩
         unfold plus1
         rw [List.pairwise_map]
         exact idE_srt.imp fun h=>by omega
 · rintro s ⟨g1,g2⟩
   have hds:=deg_sum hG
   rw [show G.charges.length=G.vertices.toNat by omega,hds] at g1
   have hcnf:cnfB (Cnf.mk (len G.edges) s)=true:=by
    unfold cnfB
    rw [Bool.and_eq_true,Bool.and_eq_true]
    refine ⟨⟨varsB_iff.2 ⟨show (0:Int)≤(G.edges.length:Int) by omega,show (G.edges.length:Int)≤12 by omega⟩,decide_eq_true (show (s.length:Int)≤60 by omega)⟩,?_⟩
    rw [List.all_eq_true]
    exact fun c hc=>clauseB_iff.2 (g2 c hc).1
   have hok:okCnf (Cnf.mk (len G.edges) s):=⟨show okI (G.edges.length:Int) by unfold okI;omega,okL_mk (show s.length≤1000 by omega) fun c hc=>(g2 c hc).1.ok⟩
   unfold zcP
   dsimp only
   rw [impl_IsCnf_eq hok,zaa,hcnf,Bool.not_true,cond_false,zaa]
   exact ⟨_,rfl,rfl,hcnf,hok,rfl,fun c hc=>(g2 c hc).2⟩
end Go.PF
namespace Go.PF
open Go.Pu
def flB (β:Nat→Bool) (k:Nat):Nat→Bool:=fun j=>if j=k then !β j else β j
theorem flip_even {G:zae} {β:Nat→Bool} {k:Nat} {e:Int×Int} (hk:G.edges[k]?=some e) (v:Int):evenV G (flB β k) v↔(if inc v e=true then ¬ evenV G β v else evenV G β v):=by
 have hlt:=(List.getElem?_eq_some_iff.1 hk).1
 have h1:((idE (inc v) G.edges).map (bvI (flB β k))).sum=((idE (inc v) G.edges).map (bvI β)).sum + (if inc v e=true then bvI (flB β k) (k:Int) - bvI β (k:Int) else 0):=by
  unfold idE
  rw [sum_idT,sum_idT,← sumR_one (n:=G.edges.length) (a:=k) (x:=if inc v e=true then bvI (flB β k) (k:Int) - bvI β (k:Int) else 0) hlt,← zb1]
  refine zaY fun j hj=>?_
  by_cases ej:j=k
  · subst ej
    rw [if_pos rfl]
    have:qE (inc v) G.edges j=inc v e:=by unfold qE;rw [hk]
    rw [this]
    cases inc v e
    · simp
    · simp only [if_true];omega
  · rw [if_neg ej]
    have:bvI (flB β k) (j:Int)=bvI β (j:Int):=by
     unfold bvI flB
     rw [Int.toNat_natCast,if_neg ej]
    rw [this];omega
 unfold evenV
 rw [h1]
 have hd:bvI (flB β k) (k:Int) - bvI β (k:Int)=1∨bvI (flB β k) (k:Int) - bvI β (k:Int)=-1:=by
  unfold bvI flB
  rw [Int.toNat_natCast,if_pos rfl]
  cases β k
  · left;rfl
  · right;rfl
 cases inc v e
 · simp
 · simp only [if_true]
   rcases hd with hd|hd <;> rw [hd] <;> omega
theorem inc_iff {v:Int} {e:Int×Int}:inc v e=true↔e.1=v∨e.2=v:=by
 unfold inc
 by_cases h:e.1=v
 · rw [h,beq_self_eq_true];simp
 · rw [show (e.1 == v)=false from by rw [beq_eq_false_iff_ne];exact h,cond_false,beq_iff_eq]
   constructor
   · exact .inr
   · rintro (h'|h')
     · exact absurd h' h
     · exact h'
def Turn (G:zae) (z v:Int):Prop:=∀ β,∃ β',∀ u,u≠z→(evenV G β' u↔(if u=v then ¬ evenV G β u else evenV G β u))
theorem turn_step {G:zae} {z:Int} {k:Nat} {e:Int×Int} (hk:G.edges[k]?=some e) {a b:Int} (hab:a≠b) (he:∀ v,(e.1=v∨e.2=v)↔(v=a∨v=b)) (h:Turn G z a):Turn G z b:=by
  intro β
  obtain ⟨β',h'⟩:=h (flB β k)
  refine ⟨β',fun u hu=>?_⟩
  rw [h' u hu,flip_even hk]
  have hi:inc u e=true↔(u=a∨u=b):=inc_iff.trans (he u)
  by_cases h1:u=a
  · subst h1
    rw [if_pos rfl,if_pos (hi.2 (.inl rfl)),if_neg hab,Classical.not_not]
  · rw [if_neg h1]
    by_cases h2:u=b
    · subst h2
      rw [if_pos (hi.2 (.inr rfl)),if_pos rfl]
    · rw [if_neg (fun g => by rcases hi.1 g with g|g
                              · exact h1 g
                              · exact h2 g),if_neg h2]
theorem turn_all {G:zae} (hG:OkG G) (hc:Conn G) {z:Int} (h0:0≤z) (h1:z < G.vertices) {v:Int} (hv0:0≤v) (hv1:v < G.vertices):Turn G z v:=by
 have hcl:Closed G (Turn G z):=by
  intro e he
  obtain ⟨k,hk⟩:=List.getElem?_of_mem he
  have:=hG.ed e he
  constructor
  · exact turn_step hk (a:=e.1) (b:=e.2) (by omega) (fun v=>by constructor <;> (rintro (h|h) <;> simp [h]))
  · exact turn_step hk (a:=e.2) (b:=e.1) (by omega) (fun v=>by constructor <;> (rintro (h|h) <;> simp [h]))
 have hz:Turn G z z:=fun β=>⟨β,fun u hu=>by rw [if_neg hu]⟩
 have ht0:Turn G z 0:=by
  apply Classical.byContradiction
  intro hn
  exact hc (fun v=>¬ Turn G z v) (fun e he=>not_congr (hcl e he)) hn z h0 h1 hz
 exact hc (Turn G z) hcl ht0 v hv0 hv1
theorem all_even {G:zae} (hG:OkG G) (hc:Conn G) {z:Int} (h0:0≤z) (h1:z < G.vertices):∀ L:List Int,(∀ v∈L,0≤v∧v < G.vertices)→∃ β,∀ v∈L,v≠z→evenV G β v
 | [],_=>⟨fun _=>false,by simp⟩
 | v::L,h=>by
  obtain ⟨β,hb⟩:=all_even hG hc h0 h1 L fun x hx=>h x (by simp [hx])
  by_cases he:evenV G β v
  · refine ⟨β,fun x hx hz=>?_⟩
    rcases List.mem_cons.1 hx with rfl|hx
    · exact he
    · exact hb x hx hz
  · have hv:=h v (by simp)
    obtain ⟨β',h'⟩:=turn_all hG hc h0 h1 hv.1 hv.2 β
    refine ⟨β',fun x hx hz=>?_⟩
    rw [h' x hz]
    by_cases e:x=v
    · subst e;rw [if_pos rfl];exact he
    · rw [if_neg e]
      rcases List.mem_cons.1 hx with hx|hx
      · exact absurd hx e
      · exact hb x hx hz
def Imp (G:zae) (U c:List Int):Prop:=∀ β,(∀ v∈U,evenV G β v)→satC β c
theorem isC_one {V:Int} {c:List Int} (h:IsC V c) {x y:Int} (hx:x∈c) (hy:y∈c) (e:x.natAbs=y.natAbs):x=y:=by
 obtain ⟨i,hi⟩:=List.getElem?_of_mem hx
 obtain ⟨j,hj⟩:=List.getElem?_of_mem hy
 have h1:=List.getElem?_eq_some_iff.1 hi
 have h2:=List.getElem?_eq_some_iff.1 hj
 have hp:=List.pairwise_iff_getElem.1 h.srt
 rcases Nat.lt_trichotomy i j with g|g|g
 · have:=hp i j h1.1 h2.1 g
   rw [h1.2,h2.2] at this;omega
 · subst g
   rw [hi] at hj;exact Option.some.inj hj
 · have:=hp j i h2.1 h1.1 g
   rw [h1.2,h2.2] at this;omega
theorem res_sat {V:Int} {a b c:List Int} (ha:IsC V a) (hb:IsC V b) {v:Int} (h1:1≤v) (h2:v≤V) (h3:(res a b v).2=true) (h4:(res a b v).1=c) {β:Nat→Bool} (sa:satC β a) (sb:satC β b):satC β c:=by
 obtain ⟨r1,r2⟩:=res_iff ha hb h1 h2
 obtain ⟨va,vb,_⟩:=r1.1 h3
 have hm:=r2 h3
 rw [h4] at hm
 obtain ⟨l,hl,hl2⟩:=sa
 obtain ⟨m,hm1,hm2⟩:=sb
 by_cases e1:l.natAbs=v.natAbs
 · by_cases e2:m.natAbs=v.natAbs
   · exfalso
     have:=isC_one ha hl va e1
     have:=isC_one hb hm1 vb (by omega)
     subst l m
     rcases hl2 with ⟨_,g1⟩|⟨g0,_⟩
     · rcases hm2 with ⟨g0,_⟩|⟨_,g2⟩
       · omega
       · rw [Int.natAbs_neg,g1] at g2;cases g2
     · omega
   · exact ⟨m,(hm m).2 ⟨.inr hm1,e2⟩,hm2⟩
 · exact ⟨l,(hm l).2 ⟨.inl hl,e1⟩,hl2⟩
theorem sat_flip {β:Nat→Bool} {k:Nat} {c:List Int} (hn:∀ l∈c,l≠0∧l.natAbs≠k + 1):satC (flB β k) c→satC β c:=by
 rintro ⟨l,hl,h⟩
 have:=hn l hl
 refine ⟨l,hl,?_⟩
 unfold flB at h
 rw [if_neg (by omega)] at h
 exact h
theorem cross_mem {G:zae} (hG:OkG G) {U c:List Int} (hU:Rise G.vertices U) (hi:Imp G U c) (hmin:∀ a∈U,¬ Imp G (U.erase a) c) (hc0:∀ l∈c,l≠0) {k:Nat} {e:Int×Int} (hk:G.edges[k]?=some e) (hcr:cro U e=true):∃ l∈c,l.natAbs=k + 1:=by
 apply Classical.byContradiction
 intro hno
 have hno':∀ l∈c,l≠0∧l.natAbs≠k + 1:=fun l hl=>⟨hc0 l hl,fun h=>hno ⟨l,hl,h⟩⟩
 have hends:∃ a b,a∈U∧b ∉ U∧(e.1=a∧e.2=b∨e.1=b∧e.2=a):=by
  unfold cro at hcr
  have m1:U.contains e.1=decide (e.1∈U):=by simp
  have m2:U.contains e.2=decide (e.2∈U):=by simp
  rw [m1,m2] at hcr
  by_cases h1:e.1∈U <;> by_cases h2:e.2∈U
  · simp [h1,h2] at hcr
  · exact ⟨e.1,e.2,h1,h2,.inl ⟨rfl,rfl⟩⟩
  · exact ⟨e.2,e.1,h2,h1,.inr ⟨rfl,rfl⟩⟩
  · simp [h1,h2] at hcr
 obtain ⟨a,b,ha,hb,hab⟩:=hends
 have hnot:=hmin a ha
 unfold Imp at hnot
 rw [Classical.not_forall] at hnot
 obtain ⟨β,hβ⟩:=hnot
 rw [Classical.not_imp] at hβ
 obtain ⟨hev,hns⟩:=hβ
 have hnd:U.Nodup:=hU.srt.imp fun h e=>by omega
 have hodd:¬ evenV G β a:=fun h=>hns (hi β fun v hv=>by
  by_cases e:v=a
  · subst e;exact h
  · exact hev v ((List.mem_erase_of_ne e).2 hv))
 refine hns (sat_flip hno' (hi _ fun v hv=>?_))
 rw [flip_even hk]
 by_cases ev:v=a
 · subst ev
   rw [if_pos (inc_iff.2 (by rcases hab with ⟨h,_⟩|⟨_,h⟩ <;> simp [h]))]
   exact hodd
 · have hvb:v≠b:=fun h=>hb (h ▸ hv)
   rw [if_neg (fun g=>by
    rcases inc_iff.1 g with g|g <;> rcases hab with ⟨h1,h2⟩|⟨h1,h2⟩
    · exact ev (by omega)
    · exact hvb (by omega)
    · exact hvb (by omega)
    · exact ev (by omega))]
   exact hev v ((List.mem_erase_of_ne ev).2 hv)
theorem cost_le {G:zae} (hG:OkG G) {U c:List Int} (hU:Rise G.vertices U) (hi:Imp G U c) (hmin:∀ a∈U,¬ Imp G (U.erase a) c) (hc0:∀ l∈c,l≠0):costN G U≤c.length:=by
 have:=zcq (l:=idE (cro U) G.edges) (m:=c.map fun l=>(l.natAbs:Int) - 1) (idE_srt.imp fun h e=>by omega) fun x hx=>by
  obtain ⟨k,e,rfl,hk,hcr⟩:=zbt.1 hx
  obtain ⟨l,hl,h⟩:=cross_mem hG hU hi hmin hc0 hk hcr
  exact List.mem_map.2 ⟨l,hl,by omega⟩
 rw [List.length_map] at this
 exact this
theorem Rise.erase {V:Int} {U:List Int} (h:Rise V U) (a:Int):Rise V (U.erase a):=⟨fun x hx=>h.rng x (List.mem_of_mem_erase hx),h.srt.sublist List.erase_sublist⟩
theorem small_imp {G:zae} (hG:OkG G) {w:Nat} (hcost:∀ T,MidP G G.vertices.toNat T→w < costN G T):∀ (n:Nat) (U c:List Int),U.length=n→Rise G.vertices U→Imp G U c→(∀ l∈c,l≠0)→c.length≤w→3 * U.length≤2 * G.vertices.toNat→∃ U',Rise G.vertices U'∧3 * U'.length < G.vertices.toNat∧Imp G U' c:=by
 intro n
 have v1:=hG.v1
 induction n with
 | zero =>
  intro U c hn hU hi h0 hw h3
  exact ⟨U,hU,by omega,hi⟩
 | succ n ih =>
  intro U c hn hU hi h0 hw h3
  by_cases hs:3 * U.length < G.vertices.toNat
  · exact ⟨U,hU,hs,hi⟩
  · by_cases hmin:∀ a∈U,¬ Imp G (U.erase a) c
    · exfalso
      have h1:=cost_le hG hU hi hmin h0
      have h2:=hcost U ⟨by rw [show ((G.vertices.toNat:Nat):Int)=G.vertices by omega];exact hU,by unfold midB;rw [decide_eq_true (by omega),decide_eq_true (by omega)];rfl⟩
      omega
    · rw [Classical.not_forall] at hmin
      obtain ⟨a,ha⟩:=hmin
      rw [Classical.not_imp,Classical.not_not] at ha
      have hl:=List.length_erase_of_mem ha.1
      exact ih (U.erase a) c (by omega) (hU.erase a) ha.2 h0 hw (by omega)
theorem all_small {G:zae} (hG:OkG G) {F:Cnf} (hF:CnfOf G F) (hN:Nar F) {w:Nat} (hcost:∀ T,MidP G G.vertices.toNat T→w < costN G T) (hV:2≤G.vertices):∀ (n:Nat) (c:List Int),Kn F (w:Int) n c→∃ U,Rise G.vertices U∧3 * U.length < G.vertices.toNat∧Imp G U c:=by
 intro n
 induction n with
 | zero=>intro c h;exact h.elim
 | succ n ih =>
  intro c h
  have hk:=hN.kn h
  have hl:=h.len
  rw [zai] at hl
  have h0:∀ l∈c,l≠0:=fun l hl=>(hk.c.lit l hl).2.2
  rcases h with ⟨h,_⟩|h|⟨a,b,v,h1,h2,h3,h4,h5,h6,h7⟩
  · obtain ⟨v,v0,v1,hv⟩:=hF.cl c h
    refine small_imp hG hcost 1 [v] c rfl ⟨by simp;omega,by simp⟩ (fun β hβ=>hv β (hβ v (by simp))) h0 (by omega) (by simp;omega)
  · exact ih c h
  · obtain ⟨A,a1,a2,a3⟩:=ih a h1
    obtain ⟨B,b1,b2,b3⟩:=ih b h2
    have hR:Rise G.vertices (rfL (fun v=>decide ((v:Int)∈A) || decide ((v:Int)∈B)) G.vertices.toNat):=by
     have:=rfL_rise (q:=fun v=>decide ((v:Int)∈A) || decide ((v:Int)∈B)) (V:=G.vertices.toNat)
     rwa [show ((G.vertices.toNat:Nat):Int)=G.vertices by omega] at this
    have hm:∀ x,x∈A∨x∈B→x∈rfL (fun v=>decide ((v:Int)∈A) || decide ((v:Int)∈B)) G.vertices.toNat:=by
     intro x hx
     have hr:0≤x∧x < G.vertices:=by
      rcases hx with hx|hx
      · exact a1.rng x hx
      · exact b1.rng x hx
     refine zbn.2 ⟨x.toNat,by omega,by omega,?_⟩
     rw [show ((x.toNat:Nat):Int)=x by omega]
     rcases hx with hx|hx <;> simp [hx]
    have hlen:=zcq (l:=rfL (fun v=>decide ((v:Int)∈A) || decide ((v:Int)∈B)) G.vertices.toNat) (m:=A++B) (hR.srt.imp fun h e=>by omega) fun x hx=>by
     obtain ⟨k,rfl,_,hk2⟩:=zbn.1 hx
     simp only [Bool.or_eq_true,decide_eq_true_eq] at hk2
     exact List.mem_append.2 hk2
    rw [List.length_append] at hlen
    refine small_imp hG hcost _ _ c rfl hR (fun β hβ=>?_) h0 (by omega) (by omega)
    exact res_sat (hN.kn h1).c (hN.kn h2).c h3 h4 h5 h6 (a3 β fun v hv=>hβ v (hm v (.inl hv))) (b3 β fun v hv=>hβ v (hm v (.inr hv)))
theorem width_bound {G:zae} (hG:OkG G) (hc:Conn G) {F:Cnf} (hF:CnfOf G F) (hN:Nar F) {q:Int×List Int×Bool} (hq:zbf G q) (ht:q.2.2=true) {w:Nat} (hr:Refut F (w:Int)):q.1≤(w:Int):=by
 have v1:=hG.v1
 rcases hq with ⟨_,hb,hq1⟩|⟨hq,_⟩
 · rw [hq1]
   apply Classical.byContradiction
   intro hlt
   have hcost:∀ T,MidP G G.vertices.toNat T→w < costN G T:=by
    intro T hT
    rcases hb.le T hT with rfl|h|⟨h,_⟩ <;> omega
   have hV:2≤G.vertices:=by
    have:=hb.mem.2
    unfold midB at this
    rw [Bool.and_eq_true,decide_eq_true_iff,decide_eq_true_iff] at this
    omega
   obtain ⟨n,hn⟩:=hr
   obtain ⟨U,u1,u2,u3⟩:=all_small hG hF hN hcost hV n [] hn
   have hz:∃ z,0≤z∧z < G.vertices∧z ∉ U:=by
    apply Classical.byContradiction
    intro hno
    have:=zcq (l:=rfL (fun _=>true) G.vertices.toNat) (m:=U) (rfL_srt.imp fun h e=>by omega) fun x hx=>by
     obtain ⟨k,rfl,hk,_⟩:=zbn.1 hx
     apply Classical.byContradiction
     intro hx
     exact hno ⟨(k:Int),by omega,by omega,hx⟩
    have hl:(rfL (fun _=>true) G.vertices.toNat).length=G.vertices.toNat:=by unfold rfL;rw [List.length_map,List.filter_eq_self.2 (fun _ _=>rfl),List.length_range]
    omega
   obtain ⟨z,z0,z1,z2⟩:=hz
   obtain ⟨β,hβ⟩:=all_even hG hc z0 z1 U u1.rng
   obtain ⟨l,hl,_⟩:=u3 β fun v hv=>hβ v hv fun e=>z2 (e ▸ hv)
   cases hl
 · rw [hq] at ht;cases ht
end Go.PF
namespace Go.PF
open Go.Pu
def Gs (E:List (Int×Int)) (C:List Int):Prop:=E.length≤50∧0 < C.length∧C.length≤50
theorem mk2_x {n:Nat} (h:n≤1000):mk2 (0:Int) (n:Int) (n:Int)=some (List.replicate n 0):=by
 unfold mk2
 rw [if_pos ⟨by omega,by omega,by unfold lim;omega⟩,Int.toNat_natCast]
theorem charge_x {n:Nat} (h0:0 < n) (h:n≤1000) (odd:Bool) {B:Type} {f:List Int→Int→Option B} {m:Int} {Q:B→Prop} (hf:∀ C:List Int,C.length=n→∃ r,f C m=some r∧Q r) :
 ∃ r,bd (bd (mk2 (0:Int) (n:Int) (n:Int)) (fun xs=>(bif odd then bd (ix xs 0) (fun x=>bd (put xs 0 1) (fun xs2=>some (xs2,m))) else some (xs,m)))) (fun s=>f s.1 s.2)=some r∧Q r:=by
 rw [mk2_x h,zaa]
 cases odd with
 | false=>exact hf _ (by simp)
 | true =>
  have hx:ix (List.replicate n (0:Int)) 0=some 0:=zal (i:=0) (by rw [List.getElem?_replicate,if_pos h0])
  have hp:put (List.replicate n (0:Int)) 0 1=some ((List.replicate n (0:Int)).set 0 1):=put_at (i:=0) (by simpa using h0)
  rw [cond_true,hx,zaa,hp,zaa,zaa]
  exact hf _ (by simp)
theorem cycle_x {n:Nat} (h3:3≤n) (h8:n≤8) (odd:Bool):∃ r,zcs (n:Int) odd=some r∧Gs r.1.edges r.1.charges:=by
 unfold zcs
 rw [za8,zaN.2 ⟨by omega,by omega⟩,Bool.not_true,cond_false]
 refine iter_m (S:=List (Int×Int)×Int) (X:=Empty) (fun s=>0≤s.2∧s.2≤8∧(s.1.length:Int)=s.2) (fun s=>9 - s.2.toNat) ⟨Int.le_refl 0,by decide,rfl⟩ ?_
 rintro ⟨E,v⟩ ⟨g0,g1,g2⟩
 dsimp only at g0 g1 g2 ⊢
 rw [wr_s (by omega) (by omega)]
 by_cases h:v + 1 < (n:Int)
 · left
   rw [cT h,app_x (by rw [List.length_singleton];omega),zaa]
   exact ⟨_,rfl,⟨by dsimp only;omega,by dsimp only;omega,by dsimp only;rw [List.length_append,List.length_singleton];omega⟩,by dsimp only;omega⟩
 · right;left
   rw [cF h]
   refine ⟨_,rfl,?_⟩
   dsimp only
   rw [app_x (by rw [List.length_singleton];omega),zaa]
   refine charge_x (n:=n) (by omega) (by omega) odd (m:=(n:Int)) (f:=fun C m=>some ((zae.mk m (E++[(0,wr ((n:Int) - 1))]) C),true)) fun C hC=>⟨_,rfl,?_⟩
   unfold Gs
   dsimp only
   rw [List.length_append,List.length_singleton]
   omega
theorem ladder_x {n:Nat} (h2:2≤n) (h4:n≤4) (odd:Bool):∃ r,zb3 (n:Int) odd=some r∧Gs r.1.edges r.1.charges:=by
 unfold zb3
 have hchk:chk (n:Int)=some n:=by unfold chk;rw [if_pos (by omega),Int.toNat_natCast]
 rw [za8,zaN.2 ⟨by omega,by omega⟩,Bool.not_true,cond_false,hchk,zaa]
 refine zbe (fun i s=>s.length=i) rfl ?_ ?_
 · rintro i s hi hs
   rw [app_x (by rw [List.length_singleton];omega),zaa]
   exact ⟨_,rfl,by rw [List.length_append,List.length_singleton];omega⟩
 · rintro E0 hE0
   refine iter_m (S:=List (Int×Int)×Int) (X:=Empty) (fun s=>0≤s.2∧s.2≤4∧(s.1.length:Int)≤4 + 2 * s.2) (fun s=>9 - s.2.toNat) ⟨Int.le_refl 0,show (0:Int)≤4 by omega,by dsimp only;omega⟩ ?_
   rintro ⟨E,v⟩ ⟨g0,g1,g2⟩
   dsimp only at g0 g1 g2 ⊢
   rw [show wr (v + 1)=v + 1 from wr_s (by omega) (by omega)]
   by_cases h:v + 1 < (n:Int)
   · left
     rw [cT h,app_x (by simp;omega),zaa]
     refine ⟨_,rfl,⟨by dsimp only;omega,by dsimp only;omega,?_⟩,by dsimp only;omega⟩
     dsimp only
     rw [List.length_append]
     show ((E.length + 2:Nat):Int)≤_
     omega
   · right;left
     rw [cF h]
     refine ⟨_,rfl,?_⟩
     dsimp only
     rw [show wr (2 * (n:Int))=((2 * n:Nat):Int) by rw [wr_s (by omega) (by omega)];omega]
     refine charge_x (n:=2 * n) (by omega) (by omega) odd (m:=((2 * n:Nat):Int)) (f:=fun C m=>some ((zae.mk m E C),true)) fun C hC=>⟨_,rfl,?_⟩
     unfold Gs
     dsimp only
     omega
end Go.PF
namespace Go.PF
open Go.Pu
theorem among_pos {x:Int} (h:x∈([1,2,3,4,4,5,6,8]:List Int)):1≤x∧x≤8:=by
 simp only [List.mem_cons,List.not_mem_nil,or_false] at h;omega
def St7 (M:Nat) (t:List Int×Int×Int×Int×List (Int×Int)×List Int):Prop:=okC M (l1Cur.mk t.1 t.2.1 t.2.2.1)∧Gs t.2.2.2.2.1 t.2.2.2.2.2
theorem zbg {A B:Type} {n:Nat} {x:Option (A×l1Cur)} {Q:A→Prop} {k:A×l1Cur→Option B} {R:B→Prop} (h:Dr n x Q) (hk:∀ a c,okC n c→Q a→∃ r,k (a,c)=some r∧R r):∃ r,bd x k=some r∧R r:=by
 obtain ⟨a,c,rfl,hc,hq⟩:=h
 exact hk a c hc hq
theorem rs_dr {T A:Type} {n:Nat} {x:Option (Rs T Empty)} {k:T→Option (A×l1Cur)} {lx:Empty→Option (A×l1Cur)} {P:T→Prop} {Q:A→Prop} (h:∃ r,x=some r∧∃ t,r=.go t∧P t) (hk:∀ t,P t→Dr n (k t) Q):Dr n (bdR x k lx) Q:=by
 obtain ⟨r,rfl,t,rfl,hp⟩:=h
 exact hk t hp
theorem dr_charged {n:Nat} {c:l1Cur} (h:okC (n + 200) c):Dr n (zct c) fun _=>True:=by
 unfold zct
 refine (zaW (n:=n + 198) h 4).bind fun a c1 h1 hq=>?_
 refine rs_dr (P:=St7 (n + 60)) ?_ ?_
 · dsimp only
   cases (a == 0) with
   | true =>
    rw [cond_true]
    refine zbg (zaW (n:=n + 190) h1.le 4) fun b c2 h2 hb=>?_
    refine zbg (dr_one (n:=n + 180) h2.le 2) fun d c3 h3 _=>?_
    obtain ⟨b',rfl⟩:∃ b':Nat,b=(b':Int):=⟨b.toNat,by omega⟩
    obtain ⟨r,e,hr⟩:=cycle_x (n:=3 + b') (by omega) (by omega) d
    dsimp only
    rw [show wr (3 + (b':Int))=((3 + b':Nat):Int) by rw [wr_s (by omega) (by omega)];omega,e,zaa]
    exact ⟨_,rfl,_,rfl,h3.le,hr⟩
   | false =>
    rw [cond_false]
    cases (a == 1) with
    | true =>
     rw [cond_true]
     refine zbg (zaW (n:=n + 190) h1.le 3) fun b c2 h2 hb=>?_
     refine zbg (dr_one (n:=n + 180) h2.le 2) fun d c3 h3 _=>?_
     obtain ⟨b',rfl⟩:∃ b':Nat,b=(b':Int):=⟨b.toNat,by omega⟩
     obtain ⟨r,e,hr⟩:=ladder_x (n:=2 + b') (by omega) (by omega) d
     dsimp only
     rw [show wr (2 + (b':Int))=((2 + b':Nat):Int) by rw [wr_s (by omega) (by omega)];omega,e,zaa]
     exact ⟨_,rfl,_,rfl,h3.le,hr⟩
    | false =>
     rw [cond_false]
     refine zbg (zbI (n:=n + 190) h1.le (by simp)) fun V c2 h2 hV=>?_
     have hV:=among_pos hV
     refine zbg (zaW (n:=n + 180) h2.le 8) fun k c3 h3 hk=>?_
     dsimp only
     refine loop_ex (fun s=>s.2.2.2.2.toNat) (fun s:(List (Int×Int))×(List Int)×Int×Int×Int=>okC (n + 100 + 4 * s.2.2.2.2.toNat) (l1Cur.mk s.2.1 s.2.2.1 s.2.2.2.1)∧0≤s.2.2.2.2∧(s.1.length:Int) + s.2.2.2.2≤8) (fun s=>okC (n + 100) (l1Cur.mk s.2.1 s.2.2.1 s.2.2.2.1)∧s.1.length≤8) ⟨h3.le (by dsimp only;omega),by dsimp only;omega,by dsimp only;simp;omega⟩ ?_ ?_
     · rintro ⟨E,cd,at_,sd,j⟩ ⟨g1,g2,g3⟩
       dsimp only at g1 g2 g3 ⊢
       by_cases hj:0 < j∧1 < V
       · left
         rw [decide_eq_true hj.1,decide_eq_true hj.2]
         simp only [cond_true]
         refine nx_of ?_
         refine zbg (zaW (n:=n + 100 + 4 * (j - 1).toNat + 2) (g1.le (by omega)) V) fun x c4 h4 hx=>?_
         refine zbg (zaW (n:=n + 100 + 4 * (j - 1).toNat) h4 V) fun y c5 h5 hy=>?_
         dsimp only
         have hw:wr (j - 1)=j - 1:=wr_s (by omega) (by omega)
         rw [spec_at_eq (G:=zae.mk V E []) (show E.length≤100000 by omega),spec_at_eq (G:=zae.mk V E []) (show E.length≤100000 by omega),zaa,zaa,hw]
         have hskip:∃ r,some (Lp.nx (X:=Empty) (E,c5.code,c5.at_,c5.seed,j - 1))=some r∧∃ s',r=.nx s'∧(okC (n + 100 + 4 * s'.2.2.2.2.toNat) (l1Cur.mk s'.2.1 s'.2.2.1 s'.2.2.2.1)∧0≤s'.2.2.2.2∧(s'.1.length:Int) + s'.2.2.2.2≤8)∧s'.2.2.2.2.toNat < j.toNat:=⟨_,rfl,_,rfl,⟨h5,by dsimp only;omega,by dsimp only;omega⟩,by dsimp only;omega⟩
         have htake:∀ z,∃ r,bd (app E [z]) (fun xs=>some (Lp.nx (X:=Empty) (xs,c5.code,c5.at_,c5.seed,j - 1)))=some r∧∃ s',r=.nx s'∧(okC (n + 100 + 4 * s'.2.2.2.2.toNat) (l1Cur.mk s'.2.1 s'.2.2.1 s'.2.2.2.1)∧0≤s'.2.2.2.2∧(s'.1.length:Int) + s'.2.2.2.2≤8)∧s'.2.2.2.2.toNat < j.toNat:=fun z=>by
          rw [app_x (by rw [List.length_singleton];omega),zaa]
          exact ⟨_,rfl,_,rfl,⟨h5,by dsimp only;omega,by dsimp only;rw [List.length_append,List.length_singleton];omega⟩,by dsimp only;omega⟩
         cases (!(x == y)) with
         | false =>
          rw [cond_false,zaa,cond_false,zaa,cond_false]
          exact hskip
         | true =>
          rw [cond_true,zaa]
          cases decide (len (idE (inc x) (zae.mk V E []).edges) < 4) with
          | false =>
           rw [cond_false,zaa,cond_false]
           exact hskip
          | true =>
           rw [cond_true,zaa]
           cases decide (len (idE (inc y) (zae.mk V E []).edges) < 4) with
           | false =>
            rw [cond_false]
            exact hskip
           | true =>
            rw [cond_true]
            exact htake _
       · right
         have:(bif (decide (0 < j)) then (decide (1 < V)) else false)=false:=by
          by_cases h1:0 < j
          · rw [decide_eq_true h1,decide_eq_false (fun h2=>hj ⟨h1,h2⟩)];rfl
          · rw [decide_eq_false h1];rfl
         rw [this,cond_false]
         exact ⟨_,rfl,g1.le (by omega),by dsimp only;omega⟩
     · rintro ⟨E,cd,at_,sd,j⟩ ⟨g1,g2⟩
       dsimp only at g1 g2 ⊢
       refine loop_ex (fun s=>(V - s.2.2.2.2).toNat) (fun s:(List Int)×(List Int)×Int×Int×Int=>okC (n + 60 + 2 * (V - s.2.2.2.2).toNat) (l1Cur.mk s.2.1 s.2.2.1 s.2.2.2.1)∧0≤s.2.2.2.2∧s.2.2.2.2≤V∧(s.1.length:Int)=s.2.2.2.2) (fun s=>okC (n + 60) (l1Cur.mk s.2.1 s.2.2.1 s.2.2.2.1)∧(s.1.length:Int)=V) ⟨g1.le (by dsimp only;omega),by dsimp only;omega,by dsimp only;omega,rfl⟩ ?_ ?_
       · rintro ⟨C,cd,at_,sd,v⟩ ⟨f1,f2,f3,f4⟩
         dsimp only at f1 f2 f3 f4 ⊢
         by_cases hv:v < V
         · left
           rw [cT hv]
           refine nx_of ?_
           refine zbg (zaW (n:=n + 60 + 2 * (V - (v + 1)).toNat) (f1.le (by omega)) 2) fun x c4 h4 hx=>?_
           dsimp only
           rw [app_x (by rw [List.length_singleton];omega),zaa,wr_s (by omega) (by omega)]
           exact ⟨_,rfl,_,rfl,⟨h4,by dsimp only;omega,by dsimp only;omega,by dsimp only;rw [List.length_append,List.length_singleton];omega⟩,by dsimp only;omega⟩
         · right
           rw [cF hv]
           exact ⟨_,rfl,f1.le (by omega),by dsimp only;omega⟩
       · rintro ⟨C,cd,at_,sd,v⟩ ⟨f1,f2⟩
         dsimp only at f1 f2 ⊢
         exact ⟨_,rfl,_,rfl,f1,by unfold Gs;dsimp only;omega⟩
 · rintro ⟨cd,at_,sd,V,E,C⟩ ⟨g1,g2,g3,g4⟩
   dsimp only at g1 g2 g3 g4 ⊢
   refine (zaW (n:=n + 58) g1 24).bind fun a2 c2 h2 hq2=>?_
   dsimp only
   cases (a2 == 0) with
   | true =>
    rw [cond_true]
    exact (zbI (n:=n + 50) h2.le (by simp)).bind fun b c3 h3 hb=>⟨_,_,rfl,h3.le,trivial⟩
   | false =>
    rw [cond_false]
    cases (a2 == 1) with
    | true =>
     rw [cond_true]
     refine (zaW (n:=n + 50) h2.le (len C)).bind fun b c3 h3 hb=>?_
     refine (zbI (n:=n + 40) h3.le (by simp)).bind fun d c4 h4 hd=>?_
     dsimp only
     obtain ⟨b',rfl⟩:∃ b':Nat,b=(b':Int):=⟨b.toNat,by omega⟩
     have hb':b' < C.length:=by rw [zai] at hb;omega
     rw [zal (List.getElem?_eq_getElem hb'),zaa,put_at hb',zaa]
     exact ⟨_,_,rfl,h4.le,trivial⟩
    | false =>
     rw [cond_false]
     cases (a2 == 2) with
     | true =>
      rw [cond_true]
      by_cases hE:0 < len E
      · rw [cT hE]
        rw [zai] at hE
        refine (zaW (n:=n + 50) h2.le (len E)).bind fun b c3 h3 hb=>?_
        refine (zbI (n:=n + 40) h3.le (by simp)).bind fun d c4 h4 hd=>?_
        refine (zbI (n:=n + 30) h4.le (by simp)).bind fun f c5 h5 hf=>?_
        dsimp only
        obtain ⟨b',rfl⟩:∃ b':Nat,b=(b':Int):=⟨b.toNat,by omega⟩
        have hb':b' < E.length:=by rw [zai] at hb;omega
        rw [zal (List.getElem?_eq_getElem hb'),zaa,put_at hb',zaa]
        exact ⟨_,_,rfl,h5.le,trivial⟩
      · rw [cF hE]
        exact ⟨_,_,rfl,h2.le,trivial⟩
     | false =>
      rw [cond_false]
      cases (a2 == 3) with
      | true =>
       rw [cond_true]
       refine (zaW (n:=n + 50) h2.le 9).bind fun b c3 h3 hb=>?_
       dsimp only
       rw [show wr (5 + b)=5 + b from wr_s (by omega) (by omega)]
       refine dr_loop (fun s=>s.2.toNat) (fun s:(List (Int×Int))×Int=>0≤s.2∧(s.1.length:Int) + s.2≤70) (fun _=>True) ⟨by dsimp only;omega,by dsimp only;omega⟩ ?_ (fun s _=>⟨_,_,rfl,h3.le,trivial⟩)
       rintro ⟨E2,j⟩ ⟨f1,f2⟩
       dsimp only at f1 f2 ⊢
       by_cases hj:0 < len E2∧0 < j
       · left
         rw [decide_eq_true hj.1,decide_eq_true hj.2]
         simp only [cond_true]
         have hl:=hj.1
         rw [zai] at hl
         have hx:ix E2 0=some E2[0]:=zal (i:=0) (List.getElem?_eq_getElem (by omega))
         rw [hx,zaa,app_x (by rw [List.length_singleton];omega),zaa,wr_s (by omega) (by omega)]
         exact ⟨_,rfl,⟨by dsimp only;omega,by dsimp only;rw [List.length_append,List.length_singleton];omega⟩,by dsimp only;omega⟩
       · right
         have:(bif (decide (0 < len E2)) then (decide (0 < j)) else false)=false:=by
          by_cases h1:0 < len E2
          · rw [decide_eq_true h1,decide_eq_false (fun h2=>hj ⟨h1,h2⟩)];rfl
          · rw [decide_eq_false h1];rfl
         rw [this,cond_false]
         exact ⟨_,rfl,trivial⟩
      | false =>
       rw [cond_false]
       cases (a2 == 4) with
       | true =>
        rw [cond_true]
        refine (dr_one (n:=n + 50) h2.le 2).bind fun d c3 h3 _=>?_
        dsimp only
        obtain ⟨r,e,hr⟩:=ladder_x (n:=4) (by omega) (by omega) d
        rw [show (4:Int)=((4:Nat):Int) from rfl,e,zaa,app_x (by have:=hr.1;simp;omega),zaa]
        refine (dr_one (n:=n + 40) h3.le 2).bind fun f c4 h4 _=>?_
        dsimp only
        cases f with
        | true =>
         rw [cond_true,app_x (by have:=hr.1;simp;omega),zaa]
         exact ⟨_,_,rfl,h4.le,trivial⟩
        | false =>
         rw [cond_false]
         exact ⟨_,_,rfl,h4.le,trivial⟩
       | false =>
        rw [cond_false]
        exact ⟨_,_,rfl,h2.le,trivial⟩
end Go.PF
namespace Go.PF
open Go.Pu
theorem dr_some27 {n:Nat} {c:l1Cur} (h:okC (n + 60) c) (G:zae):Dr n (zcu c G) fun S=>S.length≤20:=by
 unfold zcu
 refine dr_loop (fun s=>(9 - s.2.2.2.2).toNat) (fun s:(List Int)×(List Int)×Int×Int×Int=>okC (n + 10 + 4 * (9 - s.2.2.2.2).toNat) (l1Cur.mk s.2.1 s.2.2.1 s.2.2.2.1)∧0≤s.2.2.2.2∧s.2.2.2.2≤9∧(s.1.length:Int)≤s.2.2.2.2) (fun s=>okC (n + 10) (l1Cur.mk s.2.1 s.2.2.1 s.2.2.2.1)∧s.1.length≤9) ⟨h.le (by dsimp only;omega),by dsimp only;omega,by dsimp only;omega,by dsimp only;simp⟩ ?_ ?_
 · rintro ⟨S,cd,at_,sd,v⟩ ⟨g1,g2,g3,g4⟩
   dsimp only at g1 g2 g3 g4 ⊢
   by_cases hv:v < G.vertices∧v < 9
   · left
     rw [decide_eq_true hv.1,decide_eq_true hv.2]
     simp only [cond_true]
     refine nx_of ?_
     refine zbg (dr_one (n:=n + 10 + 4 * (9 - (v + 1)).toNat) (g1.le (by omega)) 2) fun b c2 h2 _=>?_
     dsimp only
     rw [wr_s (by omega) (by omega)]
     cases b with
     | true =>
      rw [cond_true,app_x (by rw [List.length_singleton];omega),zaa]
      exact ⟨_,rfl,_,rfl,⟨h2,by dsimp only;omega,by dsimp only;omega,by dsimp only;rw [List.length_append,List.length_singleton];omega⟩,by dsimp only;omega⟩
     | false =>
      rw [cond_false]
      exact ⟨_,rfl,_,rfl,⟨h2,by dsimp only;omega,by dsimp only;omega,by dsimp only;omega⟩,by dsimp only;omega⟩
   · right
     have:(bif (decide (v < G.vertices)) then (decide (v < 9)) else false)=false:=by
      by_cases h1:v < G.vertices
      · rw [decide_eq_true h1,decide_eq_false (fun h2=>hv ⟨h1,h2⟩)];rfl
      · rw [decide_eq_false h1];rfl
     rw [this,cond_false]
     exact ⟨_,rfl,g1.le (by omega),by dsimp only;omega⟩
 · rintro ⟨S,cd,at_,sd,v⟩ ⟨g1,g2⟩
   dsimp only at g1 g2 ⊢
   refine (dr_one (n:=n + 8) g1 20).bind fun b c2 h2 _=>?_
   dsimp only
   cases b with
   | true =>
    rw [cond_true]
    refine (zbI (n:=n + 6) h2 (by simp)).bind fun x c3 h3 hx=>?_
    dsimp only
    rw [app_x (by rw [List.length_singleton];omega),zaa]
    exact ⟨_,_,rfl,h3.le,by dsimp only;rw [List.length_append,List.length_singleton];omega⟩
   | false =>
    rw [cond_false]
    exact ⟨_,_,rfl,h2.le,by dsimp only;omega⟩
theorem dr_bits6 {n:Nat} {c:l1Cur} (h:okC (n + 10) c) {m:Nat}:Dr n (zcv c (m:Int)) fun _=>True:=by
 unfold zcv
 have h13:zaw (zaB (m:Int) 0) 13≤13∧0≤zaw (zaB (m:Int) 0) 13:=by
  have e1:zaB (m:Int) 0=(m:Int):=by unfold zaB;cases hd:decide ((0:Int) < m) <;> simp at hd ⊢ <;> omega
  rw [e1]
  unfold zaw
  by_cases hl:(m:Int) < 13
  · rw [cT hl];omega
  · rw [cF hl];omega
 have h7:0≤zaw (m:Int) 7:=by
  unfold zaw
  by_cases hl:(m:Int) < 7
  · rw [cT hl];omega
  · rw [cF hl];omega
 have key:∀ (cd:List Int) (at_ sd:Int) (b:Bool),okC (n + 8) (l1Cur.mk cd at_ sd)→Dr n (bif b then bd (nn (PF.zaw (PF.zaB (m:Int) 0) 13)) (fun u60=>bd (PF.za1 (l1Cur.mk cd at_ sd) [(-1),0,4096,(shlK true 64 1 (PF.zaw (PF.zaB (m:Int) 0) 13))]) (fun r71=>some (r71.1,r71.2))) else bd (nn (PF.zaw (m:Int) 7)) (fun u83=>bd (PF.zaH (l1Cur.mk cd at_ sd) (shlK true 64 1 (PF.zaw (m:Int) 7))) (fun r84=>some (r84.1,r84.2)))) (fun _=>True):=by
  intro cd at_ sd b hc
  cases b with
  | true =>
   rw [cond_true,nn_of h13.2,zaa]
   exact (zbI (n:=n + 6) hc (by simp)).bind fun x c3 h3 hx=>⟨_,_,rfl,h3.le,trivial⟩
  | false =>
   rw [cond_false,nn_of h7,zaa]
   exact (zaW (n:=n + 6) hc _).bind fun x c3 h3 hx=>⟨_,_,rfl,h3.le,trivial⟩
 cases (!(PF.za2 (m:Int))) with
 | true =>
  rw [cond_true,zaa]
  exact key _ _ _ true (h.le (by omega))
 | false =>
  rw [cond_false]
  obtain ⟨b,c2,e,h2,_⟩:=dr_one (n:=n + 8) h 20
  rw [e,zaa,zaa]
  exact key _ _ _ b h2
theorem draw_cut {cs:List Int} (h:okL okU8 cs):∃ G S bits,zcw cs=some (G,S,bits)∧S.length≤20:=by
 unfold zcw
 have h0:okC (1000 + 200) (l1Cur.mk cs 0 0):=⟨h,Int.le_refl 0,by dsimp only;omega⟩
 obtain ⟨G,c1,e1,h1,_⟩:=dr_charged h0
 obtain ⟨S,c2,e2,h2,hS⟩:=dr_some27 (n:=900) (h1.le (by omega)) G
 obtain ⟨b,c3,e3,h3,_⟩:=dr_bits6 (n:=800) (m:=G.edges.length) (h2.le (by omega))
 rw [e1,zaa]
 dsimp only
 rw [e2,zaa]
 dsimp only
 rw [zai,e3,zaa]
 exact ⟨G,S,b,rfl,hS⟩
theorem rHas_eq (c:List Int) (x:Int):zcG c x=some (c.contains x):=by
 rw [← zc7]
 rfl
theorem rInts_self (a:List Int):zcE a a=some true:=by
 unfold zcE
 rw [beq_self_eq_true]
 simp only [Bool.not_true,cond_false]
 obtain ⟨r,e,rfl⟩:=loop_l (B:=Bool) (xs:=a) (s0:=()) (R:=fun r=>r=true) (lx:=fun x:Bool=>some x) (k:=fun _:Unit=>some true) (body:=fun i23 y22 s23=>bd (ix a ((i23:Nat):Int)) (fun x72=>(bif (!(y22 == x72)) then some (Lp.rt false) else some (Lp.nx ())))) (fun _ _=>True) trivial
  (fun i x s hx _=>⟨(),by rw [zaQ,hx,zaa,beq_self_eq_true];rfl,trivial⟩) (fun s _=>⟨true,rfl,rfl⟩)
 exact e
theorem count_eq {G:zae} {S:List Int} {n V:Nat} (hV:V≤8) {B:Type} {k:Int×Int→Option B} {lx:Empty→Option B} {Q:B→Prop}
 (hk:∀ N:Int,0≤N→N=sumR V (fun v=>if wrB G n v then (if (v:Int)∈S then 1 else 0) else 0)→∃ r,k (N,((rfL (wrB G n) V).length:Int))=some r∧Q r) :
 ∃ r,bdR (iter (S:=(Int×Int)) (X:=Empty) (fun s332=>(bif (decide (s332.2 < (len (rfL (wrB G n) V)))) then bd (ix (rfL (wrB G n) V) s332.2) (fun x394=>bd (PF.zcG S x394) (fun r401=>(bif r401 then some (Lp.nx ((wr (s332.1 + 1)),(wr (s332.2 + 1)))) else some (Lp.nx (s332.1,(wr (s332.2 + 1))))))) else some (Lp.bk (s332.1,s332.2)))) (0,0)) k lx=some r∧Q r:=by
 have hl:=rfL_len (q:=wrB G n) (i:=V)
 refine cnt_m (σ:=Int) (fun s i=>(s,i)) (n:=(rfL (wrB G n) V).length) (a:=0) (s0:=0) (fun i s=>s=(((rfL (wrB G n) V).take i).map fun x=>if x∈S then (1:Int) else 0).sum∧0≤s∧s≤i) rfl (Nat.zero_le _) ⟨rfl,by omega,by omega⟩ ?_ ?_ ?_
 · rintro i s - hi ⟨rfl,h0,h1⟩
   left
   have hx:(rfL (wrB G n) V)[i]?=some (rfL (wrB G n) V)[i]:=List.getElem?_eq_getElem hi
   generalize (rfL (wrB G n) V)[i]=x at hx
   dsimp only
   rw [cT (by rw [zai];omega),zal hx,zaa,rHas_eq,zaa,sum_take hx,wr_s (n:=((i:Nat):Int) + 1) (by omega) (by omega)]
   have hc:S.contains x=decide (x∈S):=by simp
   rw [hc]
   by_cases hm:x∈S
   · rw [decide_eq_true hm,cond_true,if_pos hm,wr_s (by omega) (by omega)]
     exact ⟨_,rfl,rfl,by omega,by omega⟩
   · rw [decide_eq_false hm,cond_false,if_neg hm]
     exact ⟨_,rfl,by omega,by omega,by omega⟩
 · rintro s -
   dsimp only
   rw [cF (by rw [zai];omega)]
 · rintro s ⟨h1,h2,h3⟩
   rw [List.take_length,sum_rfL] at h1
   exact hk s h2 h1
theorem tmod_eq {a b:Int} (ha:0≤a) (hb:0≤b) (h:(2:Int) ∣ a - b):a.tmod 2=b.tmod 2:=by
 rw [Int.tmod_eq_emod_of_nonneg ha,Int.tmod_eq_emod_of_nonneg hb]
 omega
theorem cutT_nn {G:zae} (hG:OkG G) {S:List Int} (hS:Rise G.vertices S) {n:Nat} (hn:n < 4096):0≤cutT G S (n:Int):=by
 have a:=sum_b (xs:=S) (g:=chg G) fun y hy=>(chg_ix hG (hS.rng y hy).1 (hS.rng y hy).2).2
 have b:=sum_b (xs:=idE (cro S) G.edges) (g:=btI (n:Int)) fun y hy=>(idE_b hG hn y hy).2
 unfold cutT
 omega
end Go.PF
namespace Go.PF
open Go.Pu
theorem least_any (G:zae):∃ L,zbw G=some L∧zbx G=some L∧(L.2.2=true→OkG G)∧(OkG G→zbf G L):=by
 by_cases hG:OkG G
 · obtain ⟨L,e1,e2,h⟩:=least_two hG
   exact ⟨L,e1,e2,fun _=>hG,fun _=>h⟩
 · obtain ⟨b,e1,e2,hb⟩:=zbu G
   have:b=false:=by
    cases b with
    | false=>rfl
    | true=>exact absurd (hb.1 rfl) hG
   subst this
   refine ⟨(0,[],false),?_,?_,(fun h=>nomatch h),fun h=>absurd h hG⟩
   · unfold zbw;rw [e1];rfl
   · unfold zbx;rw [e2];rfl
theorem width_two {F:Cnf} (hok:okCnf F):∃ y,zbA F=some y∧zck F=some y∧(y.2=true→∃ w:Nat,y.1=(w:Int)∧Nar F∧Refut F (w:Int)):=by
 cases h:goodB F with
 | false =>
  refine ⟨(0,false),?_,?_,fun h=>nomatch h⟩
  · unfold zbA;rw [zdp hok,zaa,h];rfl
  · unfold zck;rw [zdJ hok,zaa,h];rfl
 | true =>
  have hN:=goodB_nar h
  obtain ⟨q,e1,hq⟩:=impl_least_eq hok h
  obtain ⟨r,e2,hr⟩:=spec_least_eq hN
  refine ⟨q,e1,?_,?_⟩
  · unfold zck
    rw [zdJ hok,zaa,h,Bool.not_true,cond_false,e2,zaa]
    obtain ⟨a,b⟩:=q
    dsimp only at hq
    rcases hq with ⟨rfl,hl⟩|⟨rfl,g1,g2,hl⟩
    · have hr0:r < 0:=by
       apply Classical.byContradiction
       intro hr0
       have:=hr.uniq hl (by omega)
       omega
      rw [cT hr0]
      have ha:a=0:=by
       have e1':=e1
       unfold zbA at e1'
       rw [zdp hok,zaa,h,show (true && inB 0 0 6)=true from rfl,Bool.not_true,cond_false] at e1'
       obtain ⟨z,ez,hz⟩:∃ z,bdR (iter (S:=Int) (X:=(Int×Bool)) (fun s35=>(bif (decide (s35≤6)) then bd (PF.zcd F s35) (fun r58=>(bif r58 then some (Lp.rt (s35,true)) else some (Lp.nx (wr (s35 + 1))))) else some (Lp.bk s35))) 0) (fun s35=>some (0,false)) (fun x35=>some x35)=some z∧(z.2=true∨z.1=0):=by
        refine cnt_m (σ:=Unit) (fun _ i=>i) (n:=7) (a:=0) (s0:=()) (I:=fun _ _=>True) rfl (by omega) trivial ?_ (fun s _=>rfl) (fun s _=>⟨_,rfl,.inr rfl⟩)
        rintro i ⟨⟩ - hi -
        rw [cT (by omega)]
        obtain ⟨b,eb,_⟩:=zdK (w:=(i:Int)) hN
        rw [eb,zaa]
        cases b
        · left
          rw [cond_false,wr_s (by omega) (by omega)]
          exact ⟨(),rfl,trivial⟩
        · right
          rw [cond_true]
          exact ⟨_,rfl,_,rfl,.inl rfl⟩
       rw [ez] at e1'
       cases e1'
       rcases hz with hz|hz
       · cases hz
       · exact hz
      rw [ha]
    · have:=hl.uniq hr g1
      subst this
      rw [cF (by omega)]
  · intro hy
    rcases hq with ⟨g,_⟩|⟨_,g1,g2,hl⟩
    · rw [g] at hy;cases hy
    · rcases hl with ⟨g,_⟩|⟨w,e,_,g3,_⟩
      · omega
      · exact ⟨w,e,hN,g3⟩
theorem go_k {X B:Type} {x:Option (Rs Unit X)} {k:Unit→Option B} {lx:X→Option B} {v:B} (h:∃ r,x=some r∧r=.go ()) (hk:k ()=some v):bdR x k lx=some v:=by
 obtain ⟨r,rfl,rfl⟩:=h
 exact hk
theorem plain_FnParityCuts (code:List Int) (hc:okL okU8 code):zde code=some true:=by
 unfold zde
 cases zcr code with
 | true=>rfl
 | false =>
  rw [cond_false]
  obtain ⟨G,S,bits,d,hS⟩:=draw_cut hc
  rw [d,zaa]
  dsimp only
  obtain ⟨q,q1,q2,q3⟩:=sumcut_eq G (S:=S) (by omega) bits
  obtain ⟨z,z1,z2,z3,z4⟩:=size_eq G (S:=S) (by omega)
  obtain ⟨L,l1,l2,l3,l4⟩:=least_any G
  have c2:∀ (a:Int) (b:Bool),(bif (!(a == a)) then true else (!(b == b)))=false:=by
   intro a b;rw [beq_self_eq_true,beq_self_eq_true];rfl
  rw [q1,zaa,q2,zaa,c2,cond_false,z1,zaa,z2,zaa,c2,cond_false,l1,zaa,l2,zaa,c2,cond_false,rInts_self,zaa,zaa,Bool.not_true,cond_false]
  refine go_k ?_ ?_
  · cases hq2:q.2 with
    | false=>exact ⟨_,rfl,rfl⟩
    | true =>
     obtain ⟨hG,hR,⟨n,rfl,hn⟩,hq1⟩:=q3 hq2
     have v1:=hG.v1;have v8:=hG.v8;have he:=hG.e12
     have hp:2 ^ G.edges.length≤2 ^ 12:=Nat.pow_le_pow_right (by omega) he
     rw [cond_true,wrongs_eq hG hn,zaa]
     dsimp only
     refine count_eq (by omega) fun N hN0 hN=>?_
     dsimp only
     have hpar:=parity_eq hG hR hn
     rw [← hN] at hpar
     rw [tmod_eq hN0 (cutT_nn hG hR (by omega)) hpar,← hq1,beq_self_eq_true]
     exact ⟨_,rfl,rfl⟩
  · have hfirst:(bif (bif (bif (bif (bif z.2 then L.2.2 else false) then (decide (G.vertices≤(wr (3 * (len S))))) else false) then (decide ((wr (3 * (len S)))≤(wr (2 * G.vertices)))) else false) then (decide (z.1 < L.1)) else false) then true else false)=false:=by
     cases hz:z.2 with
     | false=>rfl
     | true =>
      cases hl:L.2.2 with
      | false=>rfl
      | true =>
       obtain ⟨hG,hR,hz1⟩:=z3 hz
       have v1:=hG.v1;have v8:=hG.v8
       rw [zai,wr_s (n:=3 * (S.length:Int)) (by omega) (by omega),wr_s (n:=2 * G.vertices) (by omega) (by omega)]
       by_cases h1:G.vertices≤3 * (S.length:Int)
       · by_cases h2:3 * (S.length:Int)≤2 * G.vertices
         · rcases l4 hG with ⟨_,hb,hL1⟩|⟨hL,_⟩
           · have hmid:MidP G G.vertices.toNat S:=⟨by rw [show ((G.vertices.toNat:Nat):Int)=G.vertices by omega];exact hR,by unfold midB;rw [decide_eq_true (by omega),decide_eq_true (by omega)];rfl⟩
             have hle:¬ z.1 < L.1:=by
              rw [hz1,hL1]
              have:costN G S=(idE (cro S) G.edges).length:=rfl
              rcases hb.le S hmid with e|h|⟨h,_⟩
              · rw [← e,this];omega
              · omega
              · omega
             rw [decide_eq_true h1,decide_eq_true h2,decide_eq_false hle];rfl
           · rw [hL] at hl;cases hl
         · rw [decide_eq_true h1,decide_eq_false h2];rfl
       · rw [decide_eq_false h1];rfl
    have hc1:∀ (c:Bool) (x y:Option Bool),(bif c then true else false)=false→(bif c then x else y)=y:=by
     intro c x y h
     cases c with
     | true=>cases h
     | false=>rfl
    rw [hc1 _ _ _ hfirst]
    cases hl:L.2.2 with
    | false=>rfl
    | true =>
     have hG:=l3 hl
     have v1:=hG.v1;have v8:=hG.v8
     rw [Bool.not_true,cond_false]
     have hLR:=l4 hG
     rcases hLR with ⟨_,hb,hL1⟩|⟨hL,_⟩
     · have hRL:Rise G.vertices L.2.1:=by
        have:=hb.mem.1
        rwa [show ((G.vertices.toNat:Nat):Int)=G.vertices by omega] at this
       have hLl:=hRL.len (by omega)
       obtain ⟨y,y1,_,y3,y4⟩:=size_eq G (S:=L.2.1) (by omega)
       have hy2:=y4 hG hRL
       obtain ⟨_,_,hy1⟩:=y3 hy2
       obtain ⟨P,p1,_,p3,p4⟩:=parts_eq hG
       obtain ⟨O,o1⟩:=odd_eq hG
       obtain ⟨b,e1,_,hb2⟩:=zbu G
       obtain rfl:b=true:=hb2.2 hG
       have hparts:zcK G=some (P,true):=by unfold zcK;rw [e1,zaa,Bool.not_true,cond_false,p1,zaa]
       have hodd:zcM G=some (O,true):=by unfold zcM;rw [e1,zaa,Bool.not_true,cond_false,o1,zaa]
       rw [y1,zaa,hparts,zaa,hodd,zaa]
       dsimp only
       have hyL:y.1=L.1:=by rw [hy1,hL1];rfl
       rw [hy2,hyL,beq_self_eq_true,show (bif (bif (bif (!true) then true else (!true)) then true else (!true)) then true else (!true))=false from rfl,cond_false]
       cases hcon:(bif ((len P) == 1) then ((len O) == 1) else false) with
       | false=>rfl
       | true =>
        have hP1:P.length=1:=by
         cases hh:(len P == 1) with
         | false=>rw [hh] at hcon;cases hcon
         | true =>
          have:=beq_iff_eq.1 hh
          rw [zai] at this;omega
        have hConn:=p4 hP1
        obtain ⟨F,f1,f2⟩:=cnf_eq hG
        obtain ⟨x,x1,x2,x3⟩:=width_two f2.ok
        rw [cond_true,f1,zaa]
        dsimp only
        rw [Bool.not_true,cond_false,x1,zaa,x2,zaa,c2,cond_false]
        cases hx2:x.2 with
        | false=>rfl
        | true =>
         obtain ⟨w,w1,hN,hRf⟩:=x3 hx2
         have:=width_bound hG hConn f2 hN (l4 hG) hl hRf
         rw [cond_true,decide_eq_false (by omega)]
         rfl
     · rw [hL] at hl;cases hl
end Go.PF
