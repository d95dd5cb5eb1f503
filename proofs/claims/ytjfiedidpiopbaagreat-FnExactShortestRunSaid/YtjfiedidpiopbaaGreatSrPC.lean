/- Helpers of the walks and plain laws. -/
import Derived.Test.YtjfiedidpiopbaaGreatSrPB
import Derived.Test.YtjfiedidpiopbaaGreatSrPA
set_option linter.unusedVariables false
namespace Go.PF
open Go.Pu
theorem IsS.len6 {V:Int} {c:List Int} (h:IsS V c):c.length≤6:=by
 have:=srt_len (k:=0) (n:=6) h.c.srt fun l hl=>by have:=h.lit l hl;omega
 omega
structure Hit (F:Cnf) (all:List (List Int)) (a b v i:Nat):Prop where
 ex:∃ x y c,all[a]?=some x∧all[b]?=some y∧all[i]?=some c∧1≤v∧(v:Int)≤F.vars∧res x y (v:Int)=(c,true)
theorem Hit.uniq {F:Cnf} {all:List (List Int)} (hd:all.Nodup) {a b v i j:Nat} (h:Hit F all a b v i) (h':Hit F all a b v j):i=j:=by
 obtain ⟨x,y,c,h1,h2,h3,_,_,h4⟩:=h
 obtain ⟨x',y',c',g1,g2,g3,_,_,g4⟩:=h'
 rw [h1] at g1;cases g1
 rw [h2] at g2;cases g2
 rw [h4] at g4;cases g4
 exact (List.getElem?_inj (List.getElem?_eq_some_iff.1 h3).1 hd).1 (h3.trans g3.symm)
def two2 (a b:Nat):Nat:=2 ^ a ||| 2 ^ b
structure PI (F:Cnf) (all:List (List Int)) (D:Nat→Nat→Nat→Prop) (z:Nat→Prop) (k:Nat) (P:List (List Int)):Prop where
 len:P.length=all.length
 at_:∀ i Q,P[i]?=some Q→Q.length≤k∧∀ m:Int,m∈Q↔(z i∧m=0)∨∃ a b v,D a b v∧Hit F all a b v i∧m=((two2 a b:Nat):Int)
section
variable {F:Cnf} {all:List (List Int)} {D D':Nat→Nat→Nat→Prop} {z z':Nat→Prop} {k k':Nat} {P:List (List Int)} {a b v i:Nat}
theorem PI.congr (h:PI F all D z k P) (hD:∀ a b v i,Hit F all a b v i→(D a b v↔D' a b v)) (hk:k≤k'):PI F all D' z k' P:=by
 refine ⟨h.len,fun i Q hQ=>?_⟩
 obtain ⟨h1,h2⟩:=h.at_ i Q hQ
 refine ⟨by omega,fun m=>(h2 m).trans (or_congr_right ⟨?_,?_⟩)⟩
 · rintro ⟨a,b,v,g1,g2,g3⟩;exact ⟨a,b,v,(hD a b v i g2).1 g1,g2,g3⟩
 · rintro ⟨a,b,v,g1,g2,g3⟩;exact ⟨a,b,v,(hD a b v i g2).2 g1,g2,g3⟩
theorem PI.no (h:PI F all D z k P) (hn:∀ i,¬ Hit F all a b v i):PI F all (fun a' b' v'=>D a' b' v'∨(a'=a∧b'=b∧v'=v)) z (k + 1) P:=by
 refine h.congr (fun a' b' v' i g=>⟨.inl,?_⟩) (by omega)
 rintro (g'|⟨rfl,rfl,rfl⟩)
 · exact g'
 · exact absurd g (hn i)
theorem PI.hit (h:PI F all D z k P) (hh:Hit F all a b v i) (hd:all.Nodup) {Q:List Int} (hq:P[i]?=some Q) :
 PI F all (fun a' b' v'=>D a' b' v'∨(a'=a∧b'=b∧v'=v)) z (k + 1) (P.set i (Q++[((two2 a b:Nat):Int)])):=by
 refine ⟨by simp [h.len],fun j R hR=>?_⟩
 rcases set_get hR with ⟨rfl,rfl⟩|hR'
 · obtain ⟨h1,h2⟩:=h.at_ i Q hq
   refine ⟨by simp;omega,fun m=>?_⟩
   rw [List.mem_append,List.mem_singleton,h2 m]
   constructor
   · rintro ((g|⟨a',b',v',g1,g2,g3⟩)|rfl)
     · exact .inl g
     · exact .inr ⟨a',b',v',.inl g1,g2,g3⟩
     · exact .inr ⟨a,b,v,.inr ⟨rfl,rfl,rfl⟩,hh,rfl⟩
   · rintro (g|⟨a',b',v',g1|⟨rfl,rfl,rfl⟩,g2,g3⟩)
     · exact .inl (.inl g)
     · exact .inl (.inr ⟨a',b',v',g1,g2,g3⟩)
     · exact .inr g3
 · by_cases e:i=j
   · subst e
     have hlt:i < P.length:=(List.getElem?_eq_some_iff.1 hq).1
     rw [zbC hlt] at hR
     cases hR
     obtain ⟨h1,h2⟩:=h.at_ i Q hq
     refine ⟨by simp;omega,fun m=>?_⟩
     rw [List.mem_append,List.mem_singleton,h2 m]
     constructor
     · rintro ((g|⟨a',b',v',g1,g2,g3⟩)|rfl)
       · exact .inl g
       · exact .inr ⟨a',b',v',.inl g1,g2,g3⟩
       · exact .inr ⟨a,b,v,.inr ⟨rfl,rfl,rfl⟩,hh,rfl⟩
     · rintro (g|⟨a',b',v',g1|⟨rfl,rfl,rfl⟩,g2,g3⟩)
       · exact .inl (.inl g)
       · exact .inl (.inr ⟨a',b',v',g1,g2,g3⟩)
       · exact .inr g3
   · obtain ⟨h1,h2⟩:=h.at_ j R hR'
     refine ⟨by omega,fun m=>(h2 m).trans (or_congr_right ⟨?_,?_⟩)⟩
     · rintro ⟨a',b',v',g1,g2,g3⟩;exact ⟨a',b',v',.inl g1,g2,g3⟩
     · rintro ⟨a',b',v',g1|⟨rfl,rfl,rfl⟩,g2,g3⟩
       · exact ⟨a',b',v',g1,g2,g3⟩
       · exact absurd (Hit.uniq hd hh g2) e
theorem PI.mark (h:PI F all D z k P) {Q:List Int} (hq:P[i]?=some Q):PI F all D (fun j=>z j∨j=i) (k + 1) (P.set i (Q++[0])):=by
 have hlt:i < P.length:=(List.getElem?_eq_some_iff.1 hq).1
 refine ⟨by simp [h.len],fun j R hR=>?_⟩
 by_cases e:i=j
 · subst e
   rw [zbC hlt] at hR
   cases hR
   obtain ⟨h1,h2⟩:=h.at_ i Q hq
   refine ⟨by simp;omega,fun m=>?_⟩
   rw [List.mem_append,List.mem_singleton,h2 m]
   constructor
   · rintro ((⟨g1,g2⟩|g)|g)
     · exact .inl ⟨.inl g1,g2⟩
     · exact .inr g
     · exact .inl ⟨.inr rfl,g⟩
   · rintro (⟨_,g⟩|g)
     · exact .inr g
     · exact .inl (.inr g)
 · rw [set_ne e] at hR
   obtain ⟨h1,h2⟩:=h.at_ j R hR
   refine ⟨by omega,fun m=>(h2 m).trans (or_congr_left ⟨?_,?_⟩)⟩
   · rintro ⟨g1,g2⟩;exact ⟨.inl g1,g2⟩
   · rintro ⟨g1|g1,g2⟩
     · exact ⟨g1,g2⟩
     · exact absurd g1.symm e
theorem PI.zcongr (h:PI F all D z k P) (hz:∀ i,i < all.length→(z i↔z' i)):PI F all D z' k P:=by
 refine ⟨h.len,fun i Q hQ=>?_⟩
 obtain ⟨h1,h2⟩:=h.at_ i Q hQ
 have hi:i < all.length:=by rw [← h.len];exact (List.getElem?_eq_some_iff.1 hQ).1
 exact ⟨h1,fun m=>(h2 m).trans (or_congr_left (and_congr_left' (hz i hi)))⟩
end
def Dn (a b v a' b' v':Nat):Prop:=a' < a∨(a'=a∧(b' < b∨(b'=b∧v' < v)))
theorem Dn.next {a b v a' b' v':Nat}:Dn a b (v + 1) a' b' v'↔Dn a b v a' b' v'∨(a'=a∧b'=b∧v'=v):=by unfold Dn;omega
theorem Hit.bd {F:Cnf} {all:List (List Int)} {a b v i:Nat} (h:Hit F all a b v i):a < all.length∧b < all.length∧1≤v∧(v:Int)≤F.vars:=by
 obtain ⟨x,y,c,h1,h2,_,h3,h4,_⟩:=h
 exact ⟨(List.getElem?_eq_some_iff.1 h1).1,(List.getElem?_eq_some_iff.1 h2).1,h3,h4⟩
theorem DA.res {F:Cnf} {all:List (List Int)} (h:DA F all) {x y:List Int} (hx:x∈all) (hy:y∈all) {v:Nat} (h1:1≤v) (h2:(v:Int)≤F.vars) (hr:(PF.res x y (v:Int)).2=true):(PF.res x y (v:Int)).1∈all:=by
 obtain ⟨n,hn⟩:=(h.mem x).1 hx
 obtain ⟨m,hm⟩:=(h.mem y).1 hy
 have hs:IsS F.vars (PF.res x y (v:Int)).1:=⟨zaY (h.sm hx).c (h.sm hy).c hr,h.nar.le⟩
 refine (h.mem _).2 ⟨max n m + 1,.inr (.inr ⟨x,y,(v:Int),hn.up (by omega),hm.up (by omega),by omega,h2,hr,rfl,?_⟩)⟩
 have:=hs.len6
 rw [zah];omega
theorem DA.at_uniq {F:Cnf} {all:List (List Int)} (h:DA F all) {i j:Nat} {c:List Int} (hi:all[i]?=some c) (hj:all[j]?=some c):i=j :=
 (List.getElem?_inj (List.getElem?_eq_some_iff.1 hi).1 h.nd).1 (hi.trans hj.symm)
theorem DA.l2At {F:Cnf} {all:List (List Int)} (h:DA F all) {c:List Int} (hc:c∈all):∃ i:Nat,za8 all c=some (i:Int)∧all[i]?=some c:=by
 refine ⟨plc all c,?_,(plc_mem h.srt).1 hc⟩
 rw [zcW h.cfg (by omega) (h.sm hc).c.small,List.contains_iff_mem.2 hc,cond_true]
theorem DA.indexOf {F:Cnf} {all:List (List Int)} (h:DA F all) {c:List Int} (hc:c∈all):∃ i:Nat,zbd all c=some (i:Int)∧all[i]?=some c:=by
 obtain ⟨r,h1,j,rfl,h2,_⟩:=indexOf_eq hc
 exact ⟨j,h1,h2⟩
end Go.PF
namespace Go.PF
open Go.Pu
theorem za6 {A:Type} {xs ys:List A} (h:xs.length + ys.length≤1000000):app xs ys=some (xs++ys):=by
 unfold app;rw [if_pos (by simp [lim];omega)]
theorem mk2_n {A:Type} {x:A} {n:Nat} (h:n≤1000000):mk2 x (n:Int) (n:Int)=some (List.replicate n x):=by
 unfold mk2
 rw [if_pos (by simp [lim];omega)]
 simp
theorem zbs (n:Nat):nn (n:Int)=some ():=by unfold nn;rw [if_neg (by omega)]
theorem two2_lt {a b n:Nat} (ha:a < n) (hb:b < n):two2 a b < 2 ^ n:=Nat.or_lt_two_pow (Nat.pow_lt_pow_right (by omega) ha) (Nat.pow_lt_pow_right (by omega) hb)
theorem mask_s {a b:Nat} (ha:a < 14) (hb:b < 14):orK true 64 (shlK true 64 1 (a:Int)) (shlK true 64 1 (b:Int))=((two2 a b:Nat):Int):=by
 rw [zcq (by omega),zcq (by omega)]
 exact (orK_natK (k:=14) (Nat.pow_lt_pow_right (by omega) ha) (Nat.pow_lt_pow_right (by omega) hb) (by omega)).1
theorem mask_i {a b:Nat} (ha:a < 14) (hb:b < 14):orK false 64 (shlK false 64 1 (a:Int)) (shlK false 64 1 (b:Int))=((two2 a b:Nat):Int):=by
 have h1:2 ^ a < 2 ^ 14:=Nat.pow_lt_pow_right (by omega) ha
 have h2:2 ^ b < 2 ^ 14:=Nat.pow_lt_pow_right (by omega) hb
 rw [shl64 (by omega),shl64 (by omega)]
 exact or64 (by omega) (by omega)
theorem Nar.v0 {F:Cnf} (h:Nar F):0≤F.vars:=by
 have:=h.cnf
 unfold cnfB at this
 simp only [Bool.and_eq_true] at this
 exact (varsB_iff.1 this.1.1).1
theorem DA.ax {F:Cnf} {all:List (List Int)} (h:DA F all) {c:List Int} (hc:c∈F.clauses):c∈all:=by
 refine (h.mem c).2 ⟨1,.inl ⟨hc,?_⟩⟩
 have:=(h.nar.ax hc).len6
 rw [zah];omega
theorem PI.trip {F:Cnf} {all:List (List Int)} (h:DA F all) {a b v k:Nat} {z:Nat→Prop} {P:List (List Int)} {x y:List Int} (hx:all[a]?=some x) (hy:all[b]?=some y) (h1:1≤v) (h2:(v:Int)≤F.vars)
 (hP:PI F all (Dn a b v) z k P):((PF.res x y (v:Int)).2=false→PI F all (Dn a b (v + 1)) z (k + 1) P) ∧
  ((PF.res x y (v:Int)).2=true→∀ i:Nat,all[i]?=some (PF.res x y (v:Int)).1→∃ Q,P[i]?=some Q∧Q.length≤k∧PI F all (Dn a b (v + 1)) z (k + 1) (P.set i (Q++[((two2 a b:Nat):Int)]))):=by
 constructor
 · intro hr
   refine (hP.no (a:=a) (b:=b) (v:=v) fun i g=>?_).congr (fun a' b' v' i _=>Dn.next.symm) (Nat.le_refl _)
   obtain ⟨x',y',c,g1,g2,_,_,_,g3⟩:=g
   rw [hx] at g1;cases g1
   rw [hy] at g2;cases g2
   rw [g3] at hr;cases hr
 · intro hr i hi
   have hlt:i < P.length:=by rw [hP.len];exact (List.getElem?_eq_some_iff.1 hi).1
   have hq:P[i]?=some P[i]:=List.getElem?_eq_getElem hlt
   refine ⟨P[i],hq,(hP.at_ i _ hq).1,(hP.hit (a:=a) (b:=b) (v:=v) ⟨x,y,_,hx,hy,hi,h1,h2,?_⟩ h.nd hq).congr (fun a' b' v' i _=>Dn.next.symm) (Nat.le_refl _)⟩
   exact Prod.ext rfl hr
theorem PI.colEnd {F:Cnf} {all:List (List Int)} {a b k k':Nat} {z:Nat→Prop} {P:List (List Int)} (h:PI F all (Dn a b (F.vars.toNat + 1)) z k P) (hk:k≤k'):PI F all (Dn a (b + 1) 1) z k' P :=
 h.congr (fun a' b' v' i g=>by have:=g.bd;unfold Dn;omega) hk
theorem PI.rowEnd {F:Cnf} {all:List (List Int)} {a k k':Nat} {z:Nat→Prop} {P:List (List Int)} (h:PI F all (Dn a all.length 1) z k P) (hk:k≤k'):PI F all (Dn (a + 1) 0 1) z k' P :=
 h.congr (fun a' b' v' i g=>by have:=g.bd;unfold Dn;omega) hk
theorem PI.start {F:Cnf} {all:List (List Int)}:PI F all (Dn 0 0 1) (fun _=>False) 0 (List.replicate all.length []):=by
 refine ⟨by simp,fun i Q hQ=>?_⟩
 have:=List.eq_of_mem_replicate (List.mem_of_getElem? hQ)
 subst this
 refine ⟨Nat.le_refl _,fun m=>⟨(fun g=>by cases g),?_⟩⟩
 rintro (⟨g,_⟩|⟨a,b,v,g,hh,_⟩)
 · exact g.elim
 · have:=hh.bd;unfold Dn at g;omega
theorem PI.done {F:Cnf} {all:List (List Int)} {k k':Nat} {z:Nat→Prop} {P:List (List Int)} (h:PI F all (Dn all.length 0 1) z k P) (hk:k≤k'):PI F all (fun _ _ _=>True) z k' P :=
 h.congr (fun a' b' v' i g=>by have:=g.bd;unfold Dn;constructor <;> intro <;> first|trivial|omega) hk
theorem l15Of_eq {F:Cnf} {all:List (List Int)} (h:DA F all) (hN:all.length≤14):∃ W,zda F all=some W∧W.axiomS.length=all.length ∧
 (∀ (j:Nat) t,W.axiomS[j]?=some t→(t=true↔∃ c∈F.clauses,all[j]?=some c))∧PI F all (fun _ _ _=>True) (fun _=>False) 4000 W.pairs:=by
 unfold zda
 have hFl:=h.nar.len
 have hv0:=h.nar.v0
 have hv6:=h.nar.le
 rw [zah,mk2_n (by omega),zaa,mk2_n (by omega),zaa]
 refine cnt_m (σ:=List Bool) (fun s i=>(s,i)) (n:=F.clauses.length) (a:=0) (s0:=List.replicate all.length false)
  (I:=fun i s=>s.length=all.length∧∀ (j:Nat) t,s[j]?=some t→(t=true↔∃ c∈F.clauses.take i,all[j]?=some c)) rfl (by omega) ⟨by simp,fun j t hj=>?_⟩ ?_ ?_ ?_
 · have:=List.eq_of_mem_replicate (List.mem_of_getElem? hj)
   subst this
   simp
 · rintro i s - hi ⟨hl,hs⟩
   left
   dsimp only
   have hc:F.clauses[i]?=some F.clauses[i]:=List.getElem?_eq_getElem hi
   obtain ⟨p,e1,e2⟩:=h.l2At (h.ax (List.getElem_mem hi))
   have hp:p < s.length:=by rw [hl];exact (List.getElem?_eq_some_iff.1 e2).1
   rw [cT (by rw [zah];omega),zai hc,zaa,e1,zaa,zai (List.getElem?_eq_getElem hp),zaa,zbk hp,zaa,wr_s (by omega) (by omega)]
   refine ⟨_,rfl,by simp [hl],fun j t hj=>?_⟩
   rw [List.take_add_one,hc,Option.toList_some]
   by_cases e:p=j
   · subst e
     rw [zbC hp] at hj
     cases hj
     simp only [true_iff]
     exact ⟨_,List.mem_append_right _ (List.mem_singleton.2 rfl),e2⟩
   · rw [set_ne e] at hj
     rw [hs j t hj]
     constructor
     · rintro ⟨c,g1,g2⟩;exact ⟨c,List.mem_append_left _ g1,g2⟩
     · rintro ⟨c,g1,g2⟩
       rcases List.mem_append.1 g1 with g1|g1
       · exact ⟨c,g1,g2⟩
       · rw [List.mem_singleton.1 g1] at g2
         exact absurd (h.at_uniq e2 g2) e
 · rintro s ⟨hl,hs⟩
   dsimp only
   rw [cF (by rw [zah];omega)]
 · rintro s ⟨hl,hs⟩
   rw [List.take_length] at hs
   dsimp only
   refine zaA (fun i P=>PI F all (Dn i 0 1) (fun _=>False) (200 * i) P) PI.start ?_ ?_
   · intro a x P hx hP
     left
     have ha:a < 14:=by have:=(List.getElem?_eq_some_iff.1 hx).1;omega
     have:=zaA (R:=fun r=>∃ s',r=Lp.nx (X:=Empty) s'∧PI F all (Dn (a + 1) 0 1) (fun _=>False) (200 * (a + 1)) s') (xs:=all) (k:=fun s=>some (Lp.nx s)) (lx:=fun (x:Empty)=>nomatch x)
      (fun b P=>PI F all (Dn a b 1) (fun _=>False) (200 * a + 10 * b + 1) P) (s0:=P) (hP.congr (fun _ _ _ _ _=>Iff.rfl) (by omega)) (body:=fun b y P=>bdR (iter (S:=((List (List Int))×Int)) (X:=Empty) (fun s=>(bif (decide (s.2≤F.vars)) then bd (PF.zbI x y s.2) (fun r1693340=>(bif r1693340.2 then bd (PF.za8 all r1693340.1) (fun r1714365=>bd (ix s.1 r1714365) (fun x1735376=>bd (nn ((a:Nat):Int)) (fun u1744371=>bd (nn ((b:Nat):Int)) (fun u1750371=>bd (app x1735376 [(orK true 64 (shlK true 64 1 ((a:Nat):Int)) (shlK true 64 1 ((b:Nat):Int)))]) (fun xs1759370=>bd (ix s.1 r1714365) (fun x1762376=>bd (put s.1 r1714365 xs1759370) (fun xs1765370=>some (Lp.nx (xs1765370,(wr (s.2 + 1))))))))))) else some (Lp.nx (s.1,(wr (s.2 + 1)))))) else some (Lp.bk (s.1,s.2)))) (P,1)) (fun s=>some (Lp.nx s.1)) (fun x=>nomatch x)) ?_ ?_
     · obtain ⟨r,e,s',rfl,hI⟩:=this
       exact ⟨s',e,hI⟩
     · intro b y P hy hP
       left
       have hb:b < 14:=by have:=(List.getElem?_eq_some_iff.1 hy).1;omega
       have:=cnt_m (σ:=List (List Int)) (R:=fun r=>∃ s',r=Lp.nx (X:=Empty) s'∧PI F all (Dn a (b + 1) 1) (fun _=>False) (200 * a + 10 * (b + 1) + 1) s') (k:=fun s=>some (Lp.nx s.1)) (lx:=fun (x:Empty)=>nomatch x)
        (fun s i=>(s,i)) (n:=F.vars.toNat + 1) (a:=1) (s0:=P) (t0:=(P,1)) (fun v P=>PI F all (Dn a b v) (fun _=>False) (200 * a + 10 * b + v) P) rfl (by omega) hP (body:=fun s=>(bif (decide (s.2≤F.vars)) then bd (PF.zbI x y s.2) (fun r1693340=>(bif r1693340.2 then bd (PF.za8 all r1693340.1) (fun r1714365=>bd (ix s.1 r1714365) (fun x1735376=>bd (nn ((a:Nat):Int)) (fun u1744371=>bd (nn ((b:Nat):Int)) (fun u1750371=>bd (app x1735376 [(orK true 64 (shlK true 64 1 ((a:Nat):Int)) (shlK true 64 1 ((b:Nat):Int)))]) (fun xs1759370=>bd (ix s.1 r1714365) (fun x1762376=>bd (put s.1 r1714365 xs1759370) (fun xs1765370=>some (Lp.nx (xs1765370,(wr (s.2 + 1))))))))))) else some (Lp.nx (s.1,(wr (s.2 + 1)))))) else some (Lp.bk (s.1,s.2)))) ?_ ?_ ?_
       · obtain ⟨r,e,s',rfl,hI⟩:=this
         exact ⟨s',e,hI⟩
       · intro v P h1 h2 hP
         left
         dsimp only
         have hxl:=(h.sm (List.mem_of_getElem? hx)).len6
         have hyl:=(h.sm (List.mem_of_getElem? hy)).len6
         have hlim:lim=4294967296:=rfl
         rw [cT (by omega),zd4 (by omega),zaa,wr_s (by omega) (by omega)]
         obtain ⟨st1,st2⟩:=hP.trip h hx hy h1 (by omega)
         cases hr:(PF.res x y (v:Int)).2 with
         | false=>rw [cond_false];exact ⟨_,rfl,st1 hr⟩
         | true =>
          rw [cond_true]
          obtain ⟨p,e1,e2⟩:=h.l2At (h.res (List.mem_of_getElem? hx) (List.mem_of_getElem? hy) h1 (by omega) hr)
          obtain ⟨Q,q1,q2,q3⟩:=st2 hr p e2
          have hp:=(List.getElem?_eq_some_iff.1 q1).1
          rw [e1,zaa,zai q1,zaa,zbs,zaa,zbs,zaa,mask_s ha hb,za6 (by simp;omega),zaa,zaa,zbk hp,zaa]
          exact ⟨_,rfl,q3⟩
       · intro P hP
         dsimp only
         rw [cF (by omega)]
       · intro P hP
         exact ⟨_,rfl,_,rfl,hP.colEnd (by omega)⟩
     · intro P hP
       exact ⟨_,rfl,_,rfl,hP.rowEnd (by omega)⟩
   · intro P hP
     exact ⟨_,rfl,hl,hs,hP.done (by omega)⟩
end Go.PF
namespace Go.PF
open Go.Pu
noncomputable def rowI (F:Cnf) (all:List (List Int)) (a:Nat) (x:List Int) (P:List (List Int)) (cl al:List (List Int)):Option (Lp ((List (List Int))×(List (List Int))×(List (List Int))) Empty) :=
 bdR (forL (S:=((List (List Int))×(List (List Int))×(List (List Int)))) (X:=Empty) all (fun b y s=>bdR (iter (S:=((List (List Int))×(List (List Int))×(List (List Int))×Int)) (X:=Empty) (fun s3977691=>(bif (decide (s3977691.2.2.2≤F.vars)) then bd (PF.zbw x y s3977691.2.2.2) (fun r4184937=>(bif r4184937.2 then bd (PF.zbd all r4184937.1) (fun r4184953=>bd (ix s3977691.1 r4184953) (fun x4217964=>bd (nn ((a:Nat):Int)) (fun u4226959=>bd (nn ((b:Nat):Int)) (fun u4232959=>bd (app x4217964 [(orK false 64 (shlK false 64 1 ((a:Nat):Int)) (shlK false 64 1 ((b:Nat):Int)))]) (fun xs4241958=>bd (ix s3977691.1 r4184953) (fun x4244964=>bd (put s3977691.1 r4184953 xs4241958) (fun xs4247958=>some (Lp.nx (xs4247958,s3977691.2.1,s3977691.2.2.1,(wr (s3977691.2.2.2 + 1))))))))))) else some (Lp.nx (s3977691.1,s3977691.2.1,s3977691.2.2.1,(wr (s3977691.2.2.2 + 1)))))) else some (Lp.bk (s3977691.1,s3977691.2.1,s3977691.2.2.1,s3977691.2.2.2)))) (s.1,s.2.1,s.2.2,1)) (fun s3977691=>some (Lp.nx (s3977691.1,s3977691.2.1,s3977691.2.2.1))) (fun x3977691=>nomatch x3977691)) (P,cl,al)) (fun s3355793=>some (Lp.nx (s3355793.1,s3355793.2.1,s3355793.2.2))) (fun x3355793=>nomatch x3355793)
theorem rowI_eq {F:Cnf} {all:List (List Int)} (h:DA F all) (hN:all.length≤14) {a:Nat} {x:List Int} (hx:all[a]?=some x) {z:Nat→Prop} {P cl al:List (List Int)} (hP:PI F all (Dn a 0 1) z (200 * a + 1) P) :
 ∃ P',rowI F all a x P cl al=some (Lp.nx (P',cl,al))∧PI F all (Dn (a + 1) 0 1) z (200 * (a + 1)) P':=by
 have hv0:=h.nar.v0
 have hv6:=h.nar.le
 have ha:a < 14:=by have:=(List.getElem?_eq_some_iff.1 hx).1;omega
 unfold rowI
 have:=zaA (σ:=(List (List Int))×(List (List Int))×(List (List Int))) (X:=Empty) (R:=fun r=>∃ P',r=Lp.nx (X:=Empty) (P',cl,al)∧PI F all (Dn (a + 1) 0 1) z (200 * (a + 1)) P') (xs:=all) (k:=fun s3355793=>some (Lp.nx (s3355793.1,s3355793.2.1,s3355793.2.2))) (lx:=fun (x:Empty)=>nomatch x)
  (fun b s=>∃ P,s=(P,cl,al)∧PI F all (Dn a b 1) z (200 * a + 10 * b + 1) P) (s0:=(P,cl,al)) ⟨P,rfl,hP⟩ (body:=fun b y s=>bdR (iter (S:=((List (List Int))×(List (List Int))×(List (List Int))×Int)) (X:=Empty) (fun s3977691=>(bif (decide (s3977691.2.2.2≤F.vars)) then bd (PF.zbw x y s3977691.2.2.2) (fun r4184937=>(bif r4184937.2 then bd (PF.zbd all r4184937.1) (fun r4184953=>bd (ix s3977691.1 r4184953) (fun x4217964=>bd (nn ((a:Nat):Int)) (fun u4226959=>bd (nn ((b:Nat):Int)) (fun u4232959=>bd (app x4217964 [(orK false 64 (shlK false 64 1 ((a:Nat):Int)) (shlK false 64 1 ((b:Nat):Int)))]) (fun xs4241958=>bd (ix s3977691.1 r4184953) (fun x4244964=>bd (put s3977691.1 r4184953 xs4241958) (fun xs4247958=>some (Lp.nx (xs4247958,s3977691.2.1,s3977691.2.2.1,(wr (s3977691.2.2.2 + 1))))))))))) else some (Lp.nx (s3977691.1,s3977691.2.1,s3977691.2.2.1,(wr (s3977691.2.2.2 + 1)))))) else some (Lp.bk (s3977691.1,s3977691.2.1,s3977691.2.2.1,s3977691.2.2.2)))) (s.1,s.2.1,s.2.2,1)) (fun s3977691=>some (Lp.nx (s3977691.1,s3977691.2.1,s3977691.2.2.1))) (fun x3977691=>nomatch x3977691)) ?_ ?_
 · obtain ⟨r,e,P',rfl,hI⟩:=this
   exact ⟨P',e,hI⟩
 · rintro b y s hy ⟨P,rfl,hP⟩
   left
   have hb:b < 14:=by have:=(List.getElem?_eq_some_iff.1 hy).1;omega
   have:=cnt_m (σ:=List (List Int)) (X:=Empty) (R:=fun r=>∃ P',r=Lp.nx (X:=Empty) (P',cl,al)∧PI F all (Dn a (b + 1) 1) z (200 * a + 10 * (b + 1) + 1) P') (k:=fun s3977691=>some (Lp.nx (s3977691.1,s3977691.2.1,s3977691.2.2.1))) (lx:=fun (x:Empty)=>nomatch x)
    (fun s i=>(s,cl,al,i)) (n:=F.vars.toNat + 1) (a:=1) (s0:=P) (t0:=(P,cl,al,1)) (fun v P=>PI F all (Dn a b v) z (200 * a + 10 * b + v) P) rfl (by omega) hP (body:=fun s3977691=>(bif (decide (s3977691.2.2.2≤F.vars)) then bd (PF.zbw x y s3977691.2.2.2) (fun r4184937=>(bif r4184937.2 then bd (PF.zbd all r4184937.1) (fun r4184953=>bd (ix s3977691.1 r4184953) (fun x4217964=>bd (nn ((a:Nat):Int)) (fun u4226959=>bd (nn ((b:Nat):Int)) (fun u4232959=>bd (app x4217964 [(orK false 64 (shlK false 64 1 ((a:Nat):Int)) (shlK false 64 1 ((b:Nat):Int)))]) (fun xs4241958=>bd (ix s3977691.1 r4184953) (fun x4244964=>bd (put s3977691.1 r4184953 xs4241958) (fun xs4247958=>some (Lp.nx (xs4247958,s3977691.2.1,s3977691.2.2.1,(wr (s3977691.2.2.2 + 1))))))))))) else some (Lp.nx (s3977691.1,s3977691.2.1,s3977691.2.2.1,(wr (s3977691.2.2.2 + 1)))))) else some (Lp.bk (s3977691.1,s3977691.2.1,s3977691.2.2.1,s3977691.2.2.2)))) ?_ ?_ ?_
   · obtain ⟨r,e,P',rfl,hI⟩:=this
     exact ⟨_,e,P',rfl,hI⟩
   · intro v P h1 h2 hP
     left
     dsimp only
     rw [cT (by omega),zes (h.sm (List.mem_of_getElem? hx)).c (h.sm (List.mem_of_getElem? hy)).c,zaa,wr_s (by omega) (by omega)]
     obtain ⟨st1,st2⟩:=hP.trip h hx hy h1 (by omega)
     cases hr:(PF.res x y (v:Int)).2 with
     | false=>rw [cond_false];exact ⟨_,rfl,st1 hr⟩
     | true =>
      rw [cond_true]
      obtain ⟨p,e1,e2⟩:=h.indexOf (h.res (List.mem_of_getElem? hx) (List.mem_of_getElem? hy) h1 (by omega) hr)
      obtain ⟨Q,q1,q2,q3⟩:=st2 hr p e2
      have hp:=(List.getElem?_eq_some_iff.1 q1).1
      rw [e1,zaa,zai q1,zaa,zbs,zaa,zbs,zaa,mask_i ha hb,za6 (by simp;omega),zaa,zaa,zbk hp,zaa]
      exact ⟨_,rfl,q3⟩
   · intro P hP
     dsimp only
     rw [cF (by omega)]
   · intro P hP
     exact ⟨_,rfl,P,rfl,hP.colEnd (by omega)⟩
 · rintro s ⟨P,rfl,hP⟩
   exact ⟨_,rfl,P,rfl,hP.rowEnd (by omega)⟩
theorem ex_swap {A B:Type} {x:Option A} {f:B→A} {Q:B→Prop} (h:∃ r,x=some r∧∃ P,r=f P∧Q P):∃ P,x=some (f P)∧Q P:=by
 obtain ⟨r,e,P,rfl,q⟩:=h
 exact ⟨P,e,q⟩
theorem spacesOf_eq {F:Cnf} {all:List (List Int)} (h:DA F all) (hN:all.length≤14):∃ P,zcH F all=some (some ⟨⟨F.vars,F.clauses⟩,all,P⟩) ∧
 PI F all (fun _ _ _=>True) (fun i=>∃ c∈F.clauses,all[i]?=some c) 4000 P:=by
 unfold zcH
 rw [zah,mk2_n (by omega),zaa]
 refine ex_swap (f:=fun P=>some (⟨⟨F.vars,F.clauses⟩,all,P⟩:zbt)) ?_
 refine zaA (fun i s=>∃ P,s=(P,F.clauses,all)∧PI F all (Dn i 0 1) (fun j=>j < i∧∃ c∈F.clauses,all[j]?=some c) (200 * i) P) ⟨_,rfl,PI.start.zcongr fun i _=>by simp⟩ ?_ ?_
 · rintro a x s hx ⟨P,rfl,hP⟩
   left
   have ha:a < all.length:=(List.getElem?_eq_some_iff.1 hx).1
   have hp:a < P.length:=by rw [hP.len];exact ha
   have hq:P[a]?=some P[a]:=List.getElem?_eq_getElem hp
   have hql:=(hP.at_ a _ hq).1
   dsimp only
   rw [zeu,zaa]
   cases hc:F.clauses.contains x with
   | true =>
    rw [cond_true,zai hq,zaa,za6 (by simp;omega),zaa,zaa,zbk hp,zaa]
    have hm:=(hP.mark (i:=a) hq).zcongr (z':=fun j=>j < a + 1∧∃ c∈F.clauses,all[j]?=some c) fun j hj=>by
     constructor
     · rintro (⟨g1,g2⟩|rfl)
       · exact ⟨by omega,g2⟩
       · exact ⟨by omega,x,List.contains_iff_mem.1 hc,hx⟩
     · rintro ⟨g1,g2⟩
       by_cases e:j=a
       · exact .inr e
       · exact .inl ⟨by omega,g2⟩
    obtain ⟨P',e,hP'⟩:=rowI_eq (cl:=F.clauses) (al:=all) h hN hx hm
    exact ⟨_,e,P',rfl,hP'⟩
   | false =>
    rw [cond_false]
    have hm:=(hP.congr (D':=Dn a 0 1) (k':=200 * a + 1) (fun _ _ _ _ _=>Iff.rfl) (by omega)).zcongr (z':=fun j=>j < a + 1∧∃ c∈F.clauses,all[j]?=some c) fun j hj=>by
     constructor
     · rintro ⟨g1,g2⟩;exact ⟨by omega,g2⟩
     · rintro ⟨g1,c,g2,g3⟩
       by_cases e:j=a
       · subst e
         rw [hx] at g3;cases g3
         rw [List.contains_iff_mem.2 g2] at hc;cases hc
       · exact ⟨by omega,c,g2,g3⟩
    obtain ⟨P',e,hP'⟩:=rowI_eq (cl:=F.clauses) (al:=all) h hN hx hm
    exact ⟨_,e,P',rfl,hP'⟩
 · rintro s ⟨P,rfl,hP⟩
   refine ⟨_,rfl,P,rfl,(hP.done (k':=4000) (by omega)).zcongr fun i hi=>?_⟩
   exact ⟨fun g=>g.2,fun g=>⟨hi,g⟩⟩
def Gn (F:Cnf) (all:List (List Int)) (s i:Nat):Prop:=∃ c,all[i]?=some c∧(c∈F.clauses∨∃ a b v,Hit F all a b v i∧s.testBit a=true∧s.testBit b=true)
theorem sub_two {s a b:Nat}:s &&& two2 a b=two2 a b↔s.testBit a=true∧s.testBit b=true:=by
 unfold two2
 constructor
 · intro h
   have h1:=congrArg (·.testBit a) h
   have h2:=congrArg (·.testBit b) h
   simp only [Nat.testBit_and,Nat.testBit_or,Nat.testBit_two_pow] at h1 h2
   exact ⟨by simpa using h1,by simpa using h2⟩
 · rintro ⟨h1,h2⟩
   apply Nat.eq_of_testBit_eq
   intro j
   rw [Nat.testBit_and,Nat.testBit_or,Nat.testBit_two_pow,Nat.testBit_two_pow]
   by_cases e1:a=j
   · subst e1;simp [h1]
   · by_cases e2:b=j
     · subst e2;simp [h2]
     · simp [e1,e2]
theorem PI.gain {F:Cnf} {all:List (List Int)} {z:Nat→Prop} {k:Nat} {P:List (List Int)} (h:PI F all (fun _ _ _=>True) z k P) {s i:Nat} {Q:List Int} (hQ:P[i]?=some Q) {ps:Int→Bool} (h0:ps 0=true)
 (hp:∀ a b,a < all.length→b < all.length→(ps ((two2 a b:Nat):Int)=true↔s.testBit a=true∧s.testBit b=true)) :
 (Q.any ps=true↔z i∨∃ a b v,Hit F all a b v i∧s.testBit a=true∧s.testBit b=true):=by
 rw [List.any_eq_true]
 constructor
 · rintro ⟨m,hm,g⟩
   rcases ((h.at_ i Q hQ).2 m).1 hm with ⟨g1,_⟩|⟨a,b,v,_,g1,rfl⟩
   · exact .inl g1
   · have:=g1.bd
     exact .inr ⟨a,b,v,g1,(hp a b this.1 this.2.1).1 g⟩
 · rintro (g|⟨a,b,v,g1,g2⟩)
   · exact ⟨0,((h.at_ i Q hQ).2 0).2 (.inl ⟨g,rfl⟩),h0⟩
   · have:=g1.bd
     exact ⟨_,((h.at_ i Q hQ).2 _).2 (.inr ⟨a,b,v,trivial,g1,rfl⟩),(hp a b this.1 this.2.1).2 g2⟩
theorem contains_u {c:List Int} {g:Int→Bool}:zcJ c (fun x0=>some (g x0))=some (c.any g):=by
 unfold zcJ zdM
 rw [forL_find (p:=fun _ y=>g y) (v:=fun i _=>(i:Int)) (fun i y hy=>by rw [zaa])]
 cases hf:findI (fun _ y=>g y) c 0 with
 | none =>
  have:=zcP.1 hf
  rw [zbi] at this;rw [this];rfl
 | some z =>
  obtain ⟨_,_,_,h4⟩:=zcQ hf
  rw [zbi] at h4
  rw [h4];simp [bdR_rt,zaa]
theorem gain_i {F:Cnf} {all:List (List Int)} (hN:all.length≤14) {k:Nat} {P:List (List Int)} (h:PI F all (fun _ _ _=>True) (fun i=>∃ c∈F.clauses,all[i]?=some c) k P) {s i:Nat} (hs:s < 16384) (hi:i < all.length) :
 ∃ Q g,P[i]?=some Q∧zcJ Q (fun x0=>some (zbL x0 (s:Int)))=some g∧(g=true↔Gn F all s i):=by
 have hp:i < P.length:=by rw [h.len];exact hi
 refine ⟨P[i],_,List.getElem?_eq_getElem hp,contains_u,?_⟩
 rw [h.gain (s:=s) (List.getElem?_eq_getElem hp) (ps:=fun x0=>zbL x0 (s:Int)) ?_ ?_]
 · unfold Gn
   have hc:all[i]?=some all[i]:=List.getElem?_eq_getElem hi
   constructor
   · rintro (⟨c,g1,g2⟩|g)
     · exact ⟨c,g2,.inl g1⟩
     · exact ⟨_,hc,.inr g⟩
   · rintro ⟨c,g1,g2|g2⟩
     · exact .inl ⟨c,g2,g1⟩
     · exact .inr g2
 · unfold zbL
   rw [show (0:Int)=((0:Nat):Int) from rfl,and64 (by omega) (by omega),Nat.and_zero];rfl
 · intro a b ha hb
   have h2:two2 a b < 2 ^ 14:=Nat.lt_of_lt_of_le (two2_lt ha hb) (Nat.pow_le_pow_right (by omega) hN)
   unfold zbL
   rw [and64 (by omega) (by omega),← sub_two,beq_iff_eq]
   exact ⟨fun g=>Int.ofNat.inj g,fun g=>by rw [g]⟩
theorem gain_s {F:Cnf} {all:List (List Int)} (hN:all.length≤14) {W:zb7} (hl:W.axiomS.length=all.length) (ha:∀ (j:Nat) t,W.axiomS[j]?=some t→(t=true↔∃ c∈F.clauses,all[j]?=some c))
 (h:PI F all (fun _ _ _=>True) (fun _=>False) 4000 W.pairs) {s i:Nat} (hs:s < 16384) (hi:i < all.length):∃ g,zdb W (s:Int) (i:Int)=some g∧(g=true↔Gn F all s i):=by
 have hia:i < W.axiomS.length:=by omega
 have hip:i < W.pairs.length:=by rw [h.len];exact hi
 have hq:W.pairs[i]?=some W.pairs[i]:=List.getElem?_eq_getElem hip
 have hql:=(h.at_ i _ hq).1
 have hax:=ha i _ (List.getElem?_eq_getElem hia)
 unfold zdb
 rw [zai (List.getElem?_eq_getElem hia),zaa]
 refine iter_m (fun st=>∃ k:Nat,st.2=(k:Int)∧k≤W.pairs[i].length∧(st.1=true↔(W.axiomS[i]=true∨(W.pairs[i].take k).any fun x=>andK true 64 (s:Int) x == x))) (fun st=>W.pairs[i].length - st.2.toNat) ⟨0,rfl,Nat.zero_le _,by simp⟩ ?_
 rintro ⟨g,q⟩ ⟨k,rfl,hk,hg⟩
 dsimp only at hg ⊢
 rw [zai hq,zaa,zah]
 by_cases hlt:k < W.pairs[i].length
 · have hx:W.pairs[i][k]?=some W.pairs[i][k]:=List.getElem?_eq_getElem hlt
   cases g with
   | false =>
    left
    rw [cT (show ((k:Nat):Int) < _ by omega),Bool.not_false,cond_true,zaa,zai hx,zaa,zaa,zai hx,zaa,wr_s (by omega) (by omega)]
    refine ⟨_,rfl,⟨k + 1,rfl,by omega,?_⟩,by dsimp only;omega⟩
    rw [List.take_add_one,hx,Option.toList_some,List.any_append]
    have:¬ (W.axiomS[i]=true∨(W.pairs[i].take k).any (fun x=>andK true 64 (s:Int) x == x)=true):=fun e=>by have:=hg.2 e;cases this
    rw [not_or] at this
    simp only [Bool.not_eq_true] at this
    simp [this.1,this.2]
   | true =>
    right;left
    rw [cT (show ((k:Nat):Int) < _ by omega),Bool.not_true,cond_false]
    refine ⟨_,rfl,_,rfl,?_⟩
    simp only [true_iff]
    rcases hg.1 rfl with e|e
    · obtain ⟨c,g1,g2⟩:=hax.1 e
      exact ⟨c,g2,.inl g1⟩
    · obtain ⟨m,hm,e⟩:=List.any_eq_true.1 e
      have hb:=(h.gain (s:=s) hq (ps:=fun x=>andK true 64 (s:Int) x == x) ?_ ?_).1 (List.any_eq_true.2 ⟨m,List.mem_of_mem_take hm,e⟩)
      · rcases hb with hb|hb
        · exact hb.elim
        · exact ⟨_,List.getElem?_eq_getElem hi,.inr hb⟩
      · rw [show (0:Int)=((0:Nat):Int) from rfl,zb3 (by omega) (by omega),Nat.and_zero];rfl
      · intro a b ha hb
        have h2:two2 a b < 2 ^ 14:=Nat.lt_of_lt_of_le (two2_lt ha hb) (Nat.pow_le_pow_right (by omega) hN)
        rw [zb3 (by omega) (by omega),← sub_two,beq_iff_eq]
        exact ⟨fun g=>Int.ofNat.inj g,fun g=>by rw [g]⟩
 · right;left
   rw [cF (show ¬ ((k:Nat):Int) < _ by omega),cond_false]
   refine ⟨_,rfl,_,rfl,?_⟩
   have e:k=W.pairs[i].length:=by omega
   subst e
   rw [List.take_length] at hg
   rw [hg,h.gain (s:=s) hq (ps:=fun x=>andK true 64 (s:Int) x == x) ?_ ?_,hax]
   · unfold Gn
     have hc:all[i]?=some all[i]:=List.getElem?_eq_getElem hi
     constructor
     · rintro (⟨c,g1,g2⟩|g|g)
       · exact ⟨c,g2,.inl g1⟩
       · exact g.elim
       · exact ⟨_,hc,.inr g⟩
     · rintro ⟨c,g1,g2|g2⟩
       · exact .inl ⟨c,g2,g1⟩
       · exact .inr (.inr g2)
   · rw [show (0:Int)=((0:Nat):Int) from rfl,zb3 (by omega) (by omega),Nat.and_zero];rfl
   · intro a b ha hb
     have h2:two2 a b < 2 ^ 14:=Nat.lt_of_lt_of_le (two2_lt ha hb) (Nat.pow_le_pow_right (by omega) hN)
     rw [zb3 (by omega) (by omega),← sub_two,beq_iff_eq]
     exact ⟨fun g=>Int.ofNat.inj g,fun g=>by rw [g]⟩
end Go.PF
namespace Go.PF
open Go.Pu
def ltb (j:Nat):Int:=if j < 6 then (j:Int) + 1 else -((j:Int) - 5)
theorem ltb_bd {j:Nat} (h:j < 12):-6≤ltb j∧ltb j≤6∧ltb j≠0:=by unfold ltb;split <;> omega
theorem bi_ltb {j:Nat} (h:j < 12):bi (ltb j)=j:=by unfold bi ltb;split <;> split <;> omega
theorem ltb_bi {l:Int} (h1:-6≤l) (h2:l≤6) (h3:l≠0):ltb (bi l)=l:=by unfold bi ltb;split <;> split <;> omega
theorem ltb_ng {j:Nat} (h:j < 12):ltb (ngL j)=- ltb j:=by unfold ltb ngL;split <;> split <;> omega
theorem ltb_inj {i j:Nat} (hi:i < 12) (hj:j < 12):ltb i=ltb j↔i=j:=⟨fun h=>by rw [← bi_ltb hi,h,bi_ltb hj],fun h=>by rw [h]⟩
theorem za7 {V:Int} {c:List Int} (h:IsS V c) {j:Nat}:Has (mkN c) j↔j < 12∧ltb j∈c:=by
 constructor
 · intro g
   have hj:j < 12:=by
    apply Classical.byContradiction
    intro e
    have:=bit_hi (n:=mkN c) (j:=j) (k:=12) (zaC h) (by omega)
    unfold Has at g
    rw [this] at g;cases g
   obtain ⟨a,b,d⟩:=ltb_bd hj
   refine ⟨hj,(zaZ h a b d).1 ?_⟩
   rw [bi_ltb hj];exact g
 · rintro ⟨hj,g⟩
   obtain ⟨a,b,d⟩:=ltb_bd hj
   have:=(zaZ h a b d).2 g
   rwa [bi_ltb hj] at this
theorem srt_sign {c:List Int} (hs:c.Pairwise fun a b=>a.natAbs < b.natAbs) {l:Int} (h:l∈c) (h':-l∈c) (h0:l≠0):False:=by
 induction c with
 | nil=>cases h
 | cons x c ih =>
  rw [List.pairwise_cons] at hs
  rcases List.mem_cons.1 h with rfl|h1 <;> rcases List.mem_cons.1 h' with h2|h2
  · omega
  · have:=hs.1 _ h2;omega
  · have:=hs.1 _ h1;subst h2;omega
  · exact ih hs.2 h1 h2
theorem mk_nt {V:Int} {c:List Int} (h:IsS V c):NT (mkN c):=by
 refine ⟨fun j hj=>((za7 h).1 hj).1,fun j hj hk=>?_⟩
 obtain ⟨h1,h2⟩:=(za7 h).1 hj
 obtain ⟨_,h3⟩:=(za7 h).1 hk
 rw [ltb_ng h1] at h3
 exact srt_sign h.c.srt h2 h3 (ltb_bd h1).2.2
theorem RsL.swap {i a b c:Nat} (h:RsL i a b c):RsL (ngL i) b a c:=by
 refine ⟨za1 h.lt,h.ib,by rw [zaq h.lt];exact h.ia,fun j hj h1 h2=>?_,fun j=>?_⟩
 · have:=h.one (ngL j) (za1 hj) h2 (by rw [zaq hj];exact h1)
   rw [← this,zaq hj]
 · rw [h.bits j,zaq h.lt];exact or_comm
theorem res_rsl {V:Int} {x y:List Int} (hx:IsS V x) (hy:IsS V y) {v:Int} (h1:1≤v) (h2:v≤V) (h:(res x y v).2=true):RsL (bi v) (mkN x) (mkN y) (mkN (res x y v).1):=by
 have hV:=hx.le
 have hc:IsS V (res x y v).1:=⟨zaY hx.c hy.c h,hV⟩
 obtain ⟨g1,g2,g3⟩:=(res_iff hx.c hy.c h1 h2).1.1 h
 have g4:=(res_iff hx.c hy.c h1 h2).2 h
 have hb:bi v < 12:=bi_lt (by omega) (by omega) (by omega)
 have e1:ltb (bi v)=v:=ltb_bi (by omega) (by omega) (by omega)
 refine ⟨hb,(za7 hx).2 ⟨hb,by rw [e1];exact g1⟩,(za7 hy).2 ⟨za1 hb,by rw [ltb_ng hb,e1];exact g2⟩,fun j hj k1 k2=>?_,fun j=>?_⟩
 · obtain ⟨_,k1⟩:=(za7 hx).1 k1
   obtain ⟨_,k2⟩:=(za7 hy).1 k2
   rw [ltb_ng hj] at k2
   rw [← ltb_inj hj hb,e1]
   exact g3 _ k1 k2
 · rw [za7 hc,za7 hx,za7 hy,g4]
   constructor
   · rintro ⟨hj,k1|k1,k2⟩
     · exact .inl ⟨⟨hj,k1⟩,fun e=>k2 (by rw [e,e1])⟩
     · exact .inr ⟨⟨hj,k1⟩,fun e=>k2 (by rw [e,ltb_ng hb,e1,Int.natAbs_neg])⟩
   · rintro (⟨⟨hj,k1⟩,k2⟩|⟨⟨hj,k1⟩,k2⟩)
     · refine ⟨hj,.inl k1,fun e=>?_⟩
       rcases Int.natAbs_eq_natAbs_iff.1 e with e|e
       · exact k2 ((ltb_inj hj hb).1 (by rw [e1];exact e))
       · exact srt_sign hx.c.srt g1 (e ▸ k1) (by omega)
     · refine ⟨hj,.inr k1,fun e=>?_⟩
       rcases Int.natAbs_eq_natAbs_iff.1 e with e|e
       · exact srt_sign hy.c.srt (e ▸ k1) g2 (by omega)
       · exact k2 ((ltb_inj hj (za1 hb)).1 (by rw [ltb_ng hb,e1];exact e))
theorem rsl_res0 {V:Int} {x y:List Int} (hx:IsS V x) (hy:IsS V y) {k c:Nat} (hk:k < 6) (h:RsL k (mkN x) (mkN y) c):1≤ltb k∧ltb k≤V∧(res x y (ltb k)).2=true∧mkN (res x y (ltb k)).1=c:=by
 obtain ⟨_,k1⟩:=(za7 hx).1 h.ia
 obtain ⟨_,k2⟩:=(za7 hy).1 h.ib
 rw [ltb_ng (by omega)] at k2
 have h1:1≤ltb k:=by unfold ltb;rw [if_pos hk];omega
 have h2:ltb k≤V:=(hx.c.lit _ k1).2.1
 have hr:(res x y (ltb k)).2=true:=by
  refine (res_iff hx.c hy.c h1 h2).1.2 ⟨k1,k2,fun l l1 l2=>?_⟩
  obtain ⟨b1,b2,b3⟩:=hx.lit l l1
  have hb:=bi_lt b1 b2 b3
  have e:=ltb_bi b1 b2 b3
  have:=h.one (bi l) hb ((za7 hx).2 ⟨hb,by rw [e];exact l1⟩) ((za7 hy).2 ⟨za1 hb,by rw [ltb_ng hb,e];exact l2⟩)
  rw [← e,this]
 refine ⟨h1,h2,hr,zaG fun j=>?_⟩
 have:=res_rsl hx hy h1 h2 hr
 rw [bi_ltb (by omega)] at this
 rw [this.bits,h.bits]
theorem rsl_res {V:Int} {x y:List Int} (hx:IsS V x) (hy:IsS V y) {k c:Nat} (h:RsL k (mkN x) (mkN y) c) :
 ∃ v:Nat,1≤v∧(v:Int)≤V∧(((res x y (v:Int)).2=true∧mkN (res x y (v:Int)).1=c)∨((res y x (v:Int)).2=true∧mkN (res y x (v:Int)).1=c)):=by
 by_cases hk:k < 6
 · obtain ⟨h1,h2,h3,h4⟩:=rsl_res0 hx hy hk h
   refine ⟨(ltb k).toNat,by omega,by omega,.inl ?_⟩
   rw [Int.toNat_of_nonneg (by omega)];exact ⟨h3,h4⟩
 · have hl:=h.lt
   obtain ⟨h1,h2,h3,h4⟩:=rsl_res0 hy hx (k:=ngL k) (by unfold ngL;rw [if_neg hk];omega) h.swap
   refine ⟨(ltb (ngL k)).toNat,by omega,by omega,.inr ?_⟩
   rw [Int.toNat_of_nonneg (by omega)];exact ⟨h3,h4⟩
def axM (F:Cnf) (m:Nat):Prop:=∃ c∈F.clauses,mkN c=m
theorem kn_cl {F:Cnf} (h:Nar F):∀ {n:Nat} {c:List Int},Kn F 6 n c→Cl (axM F) n (mkN c)
 | 0,_,g=>g.elim
 | n + 1,c,g=>by
  rcases g with ⟨g,_⟩|g|⟨a,b,v,g1,g2,g3,g4,g5,g6,_⟩
  · exact .inl ⟨c,g,rfl⟩
  · exact .inr (.inl (kn_cl h g))
  · exact .inr (.inr ⟨bi v,mkN a,mkN b,kn_cl h g1,kn_cl h g2,g6 ▸ res_rsl (h.kn g1) (h.kn g2) g3 g4 g5⟩)
theorem DA.cl_mem {F:Cnf} {all:List (List Int)} (h:DA F all):∀ {n m:Nat},Cl (axM F) n m→m∈all.map mkN
 | 0,_,g=>g.elim
 | n + 1,m,g=>by
  rcases g with ⟨c,g,rfl⟩|g|⟨i,a,b,g1,g2,g3⟩
  · exact List.mem_map.2 ⟨c,h.ax g,rfl⟩
  · exact h.cl_mem g
  · obtain ⟨x,hx,rfl⟩:=List.mem_map.1 (h.cl_mem g1)
    obtain ⟨y,hy,rfl⟩:=List.mem_map.1 (h.cl_mem g2)
    obtain ⟨v,h1,h2,⟨h3,rfl⟩|⟨h3,rfl⟩⟩:=rsl_res (h.sm hx) (h.sm hy) g3
    · exact List.mem_map.2 ⟨_,h.res hx hy h1 h2 h3,rfl⟩
    · exact List.mem_map.2 ⟨_,h.res hy hx h1 h2 h3,rfl⟩
theorem DA.place {F:Cnf} {all:List (List Int)} (h:DA F all) {i:Nat} {m:Nat} (hi:(all.map mkN)[i]?=some m):∃ c,all[i]?=some c∧mkN c=m∧IsS F.vars c:=by
 rw [List.getElem?_map] at hi
 cases e:all[i]? with
 | none=>rw [e] at hi;cases hi
 | some c=>rw [e] at hi;cases hi;exact ⟨c,rfl,rfl,h.sm (List.mem_of_getElem? e)⟩
theorem DA.sys {F:Cnf} {all:List (List Int)} (h:DA F all) (hN:all.length≤14):Sys (axM F) (fun m=>m∈all.map mkN) (all.map mkN) (Gn F all):=by
 refine ⟨?_,fun m=>⟨fun g=>?_,fun ⟨n,g⟩=>h.cl_mem g⟩,fun m=>Iff.rfl,by simpa using hN,?_,?_⟩
 · rintro m ⟨c,hc,rfl⟩
   exact mk_nt (h.nar.ax hc)
 · obtain ⟨c,hc,rfl⟩:=List.mem_map.1 g
   obtain ⟨n,hn⟩:=(h.mem c).1 hc
   exact ⟨n,kn_cl h.nar hn⟩
 · rintro s i m hi ⟨c',hc',e⟩
   obtain ⟨c,h1,h2,h3⟩:=h.place hi
   have:=zbA h3 (h.nar.ax hc') (h2.trans e.symm)
   subst this
   exact ⟨c,h1,.inl hc'⟩
 · intro s i a b ma mb m k hi ha hb sa sb hr
   obtain ⟨c,h1,rfl,h3⟩:=h.place hi
   obtain ⟨x,x1,rfl,x3⟩:=h.place ha
   obtain ⟨y,y1,rfl,y3⟩:=h.place hb
   obtain ⟨v,v1,v2,⟨v3,v4⟩|⟨v3,v4⟩⟩:=rsl_res x3 y3 hr
   · have e:=zbA ⟨zaY x3.c y3.c v3,x3.le⟩ h3 v4
     exact ⟨c,h1,.inr ⟨a,b,v,⟨x,y,c,x1,y1,h1,v1,v2,Prod.ext e v3⟩,sa,sb⟩⟩
   · have e:=zbA ⟨zaY y3.c x3.c v3,x3.le⟩ h3 v4
     exact ⟨c,h1,.inr ⟨b,a,v,⟨y,x,c,y1,x1,h1,v1,v2,Prod.ext e v3⟩,sb,sa⟩⟩
end Go.PF
namespace Go.PF
open Go.Pu
def nrO (L:List Int) (v:Nat):Option Nat:=match L[v]? with
 | some t=>if t < 0 then none else some t.toNat
 | none=>none
theorem nrO_none {L:List Int} {v:Nat} {t:Int} (h:L[v]?=some t):t < 0→nrO L v=none:=by unfold nrO;rw [h];intro g;simp [g]
theorem nrO_some {L:List Int} {v:Nat} {t:Int} (h:L[v]?=some t):0≤t→nrO L v=some t.toNat:=by unfold nrO;rw [h];intro g;simp;omega
theorem nrO_of {L:List Int} {v k:Nat} (h:nrO L v=some k):L[v]?=some (k:Int):=by
 unfold nrO at h
 split at h
 · rename_i t e
   split at h
   · cases h
   · cases h;rw [e];congr 1;omega
 · cases h
theorem nrO_set {L:List Int} {v k:Nat} (h:v < L.length) (x:Nat):nrO (L.set v (k:Int)) x=if x=v then some k else nrO L x:=by
 by_cases e:x=v
 · subst e
   rw [if_pos rfl,nrO_some (zbC h) (by omega)];simp
 · rw [if_neg e]
   unfold nrO
   rw [set_ne (fun g=>e g.symm)]
section
variable {E:Nat→Nat→Prop} {src:Nat→Prop} {M:Nat} {ln:List Nat} {near:List Int} {n:Nat} {D D':Nat→Prop}
structure SB (E:Nat→Nat→Prop) (src:Nat→Prop) (M:Nat) (ln:List Nat) (near:List Int) (n:Nat) (D:Nat→Prop):Prop where
 bf:Bf E src ln n (nrO near) D
 len:near.length=M
 lt:∀ u∈ln,u < M
 lo:∀ t∈near,-1≤t∧t≤ln.length
theorem Bf.anti {nr:Nat→Option Nat} (h:Bf E src ln n nr D) (hD:∀ x,D' x→D x):Bf E src ln n nr D' :=
 ⟨h.snd,h.mem,h.nd,h.top,h.ord,h.don,fun u v k e1 e2 g e3=>h.cur u v k e1 e2 (hD v g) e3,h.sr⟩
theorem SB.anti (h:SB E src M ln near n D) (hD:∀ x,D' x→D x):SB E src M ln near n D':=⟨h.bf.anti hD,h.len,h.lt,h.lo⟩
theorem SB.few (h:SB E src M ln near n D):ln.length≤M:=by
 have:=PF.zbR (m:=List.range M) h.bf.nd fun x hx=>List.mem_range.2 (h.lt x hx)
 simpa using this
theorem SB.skip (h:SB E src M ln near n D) {u v:Nat} {t:Int} (hu:ln[n]?=some u) (hv:near[v]?=some t) (h0:0≤t):SB E src M ln near n fun x=>D x∨x=v :=
 ⟨h.bf.skip hu (nrO_some hv h0),h.len,h.lt,h.lo⟩
theorem SB.no (h:SB E src M ln near n D) {u v:Nat} (hu:ln[n]?=some u) (hv:¬ E u v):SB E src M ln near n fun x=>D x∨x=v :=
 ⟨h.bf.no hu hv,h.len,h.lt,h.lo⟩
theorem SB.put (h:SB E src M ln near n D) {u v:Nat} {t:Int} (hu:ln[n]?=some u) (hE:E u v) (hv:near[v]?=some t) (h0:t < 0) :
 ∃ k:Nat,near[u]?=some (k:Int)∧k≤M∧v < M∧SB E src M (ln++[v]) (near.set v (((k + 1:Nat)):Int)) n fun x=>D x∨x=v:=by
 obtain ⟨k,hk⟩:=(h.bf.mem u).1 (List.mem_of_getElem? hu)
 have hn:=nrO_of hk
 have hlo:=(h.lo _ (List.mem_of_getElem? hn)).2
 have hvl:=(List.getElem?_eq_some_iff.1 hv).1
 have hf:=h.few
 refine ⟨k,hn,by omega,by rw [← h.len];exact hvl,h.bf.put hu hk hE (nrO_none hv h0) (nrO_set hvl),by simp [h.len],fun x hx=>?_,fun x hx=>?_⟩
 · rcases List.mem_append.1 hx with hx|hx
   · exact h.lt x hx
   · rw [List.mem_singleton.1 hx,← h.len];exact hvl
 · rw [List.length_append,List.length_singleton]
   rcases List.mem_or_eq_of_mem_set hx with hx|rfl
   · have:=h.lo x hx;omega
   · omega
theorem SB.next (h:SB E src M ln near n D) {u:Nat} (hu:ln[n]?=some u) (hD:∀ v,E u v→D v):SB E src M ln near (n + 1) fun _=>False:=⟨h.bf.next hu hD,h.len,h.lt,h.lo⟩
theorem SB.fin (h:SB E src M ln near ln.length D) {v:Nat} {t:Int} (hv:near[v]?=some t):(t < 0∧∀ k,¬ Way E src k v)∨∃ k:Nat,t=(k:Int)∧Dis E src k v:=by
 obtain ⟨h1,h2⟩:=h.bf.done v
 by_cases g:t < 0
 · exact .inl ⟨g,h2.1 (nrO_none hv g)⟩
 · refine .inr ⟨t.toNat,by omega,(h1 _).1 (nrO_some hv (by omega))⟩
end
theorem xor_inj {u i j:Nat} (h:u ^^^ 2 ^ i=u ^^^ 2 ^ j):i=j:=by
 have:=congrArg (fun x=>u ^^^ x) h
 simp only [← Nat.xor_assoc,Nat.xor_self,Nat.zero_xor] at this
 exact zaw.1 (show Has (2 ^ i) j by rw [this];exact zaw.2 rfl)
theorem pow14 {n:Nat} (h:n≤14):2 ^ n≤16384:=by
 have:=Nat.pow_le_pow_right (n:=2) (by omega) h
 simpa using this
end Go.PF
namespace Go.PF
open Go.Pu
theorem iter_g {G S X B:Type} {body:S→Option (Lp S X)} {s0:S} {k:S→Option B} {lx:X→Option B} {R:B→Prop} (I:G→S→Prop) (m:G→Nat) {g0:G} (h0:I g0 s0)
 (h:∀ g s,I g s→(∃ s',body s=some (.nx s')∧∃ g',I g' s'∧m g' < m g)∨(∃ s',body s=some (.bk s')∧∃ r,k s'=some r∧R r)):∃ r,bdR (iter body s0) k lx=some r∧R r:=by
 have key:∀ (n:Nat) (g:G) (s:S),m g≤n→I g s→∃ r,bdR (iter body s) k lx=some r∧R r:=by
  intro n
  induction n with
  | zero =>
   intro g s hm hI
   rcases h g s hI with ⟨s',_,g',_,h3⟩|⟨s',h1,h2⟩
   · omega
   · rw [zaP h1,za3];exact h2
  | succ n ih =>
   intro g s hm hI
   rcases h g s hI with ⟨s',h1,g',h2,h3⟩|⟨s',h1,h2⟩
   · rw [zbq h1];exact ih g' s' (by omega) h2
   · rw [zaP h1,za3];exact h2
 exact key _ g0 s0 (Nat.le_refl _) h0
theorem nx_of {σ T X:Type} {f:σ→T} {x:Option (Lp T X)} {I:σ→Prop} (h:∃ q,x=some q∧∃ s',q=.nx (f s')∧I s'):∃ s',x=some (.nx (f s'))∧I s':=by
 obtain ⟨q,e,s',rfl,i⟩:=h
 exact ⟨s',e,i⟩
def Eb (F:Cnf) (all:List (List Int)) (sp:Nat) (u v:Nat):Prop:=cnt v≤sp∧v < 2 ^ all.length∧Stp all.length (Gn F all) sp v u
def srcB (all:List (List Int)) (sp:Nat) (s:Nat):Prop:=s < 2 ^ all.length∧s.testBit 0=true∧cnt s≤sp∧all[0]?=some []
structure BK (M:Nat) (R:Nat→Nat→Prop) (k:Nat) (back:List (List Int)):Prop where
 len:back.length=M
 at_:∀ (u:Nat) L,back[u]?=some L→L.length≤k∧∀ m:Int,m∈L↔∃ v:Nat,m=(v:Int)∧R u v
theorem BK.congr {M k k':Nat} {R R':Nat→Nat→Prop} {back:List (List Int)} (h:BK M R k back) (hR:∀ u v,R u v↔R' u v) (hk:k≤k'):BK M R' k' back:=by
 refine ⟨h.len,fun u L hL=>⟨by have:=(h.at_ u L hL).1;omega,fun m=>((h.at_ u L hL).2 m).trans ?_⟩⟩
 exact ⟨fun ⟨v,e,g⟩=>⟨v,e,(hR u v).1 g⟩,fun ⟨v,e,g⟩=>⟨v,e,(hR u v).2 g⟩⟩
theorem BK.add {M k:Nat} {R:Nat→Nat→Prop} {back:List (List Int)} (h:BK M R k back) {u v:Nat} {L:List Int} (hL:back[u]?=some L) :
 BK M (fun u' v'=>R u' v'∨(u'=u∧v'=v)) (k + 1) (back.set u (L++[(v:Int)])):=by
 have hlt:=(List.getElem?_eq_some_iff.1 hL).1
 refine ⟨by simp [h.len],fun u' L' hL'=>?_⟩
 by_cases e:u=u'
 · subst e
   rw [zbC hlt] at hL'
   cases hL'
   obtain ⟨h1,h2⟩:=h.at_ u L hL
   refine ⟨by simp;omega,fun m=>?_⟩
   rw [List.mem_append,List.mem_singleton,h2]
   constructor
   · rintro (⟨w,e,g⟩|e)
     · exact ⟨w,e,.inl g⟩
     · exact ⟨v,e,.inr ⟨rfl,rfl⟩⟩
   · rintro ⟨w,e,g|⟨_,rfl⟩⟩
     · exact .inl ⟨w,e,g⟩
     · exact .inr e
 · rw [set_ne e] at hL'
   obtain ⟨h1,h2⟩:=h.at_ u' L' hL'
   refine ⟨by omega,fun m=>(h2 m).trans ?_⟩
   constructor
   · rintro ⟨w,e,g⟩;exact ⟨w,e,.inl g⟩
   · rintro ⟨w,e',g|⟨g,_⟩⟩
     · exact ⟨w,e',g⟩
     · exact absurd g.symm e
structure LI (F:Cnf) (all:List (List Int)) (sp i:Nat) (s:List (List Int)×List Int×List Int):Prop where
 bk:BK (2 ^ all.length) (fun u v=>v < i∧Eb F all sp u v) (14 * i) s.1
 ol:s.2.1.length=2 ^ all.length
 on:∀ j,j < i→(srcB all sp j→s.2.1[j]?=some 0)∧(¬ srcB all sp j→s.2.1[j]?=some (-1))
 td:∃ ln:List Nat,s.2.2=ln.map (fun (k:Nat)=>(k:Int))∧ln.Nodup∧∀ v,v∈ln↔v < i∧srcB all sp v
theorem odd_bit {i:Nat} (h:i < 16384):(andK false 64 (i:Int) 1 == 1)=i.testBit 0:=by
 rw [show (1:Int)=((1:Nat):Int) from rfl,and64 (by omega) (by omega),Nat.testBit_zero,Nat.and_one_is_mod]
 have:=Nat.mod_two_eq_zero_or_one i
 rcases this with e|e <;> rw [e] <;> rfl
theorem and_bit0 {i j:Nat} (hi:i < 16384) (hj:j < 14):(andK false 64 (i:Int) ((2 ^ j:Nat):Int) == 0) = !i.testBit j:=by
 have hp:2 ^ j < 2 ^ 14:=Nat.pow_lt_pow_right (by omega) hj
 rw [and64 (by omega) (by omega)]
 cases hb:i.testBit j with
 | true =>
  have:i &&& 2 ^ j≠0:=fun e=>by
   have:=congrArg (·.testBit j) e
   simp [hb] at this
  simp only [Bool.not_true,beq_eq_false_iff_ne,ne_eq]
  omega
 | false =>
  have:i &&& 2 ^ j=0:=by
   apply Nat.eq_of_testBit_eq
   intro k
   rw [Nat.testBit_and,Nat.testBit_two_pow,Nat.zero_testBit]
   by_cases e:j=k
   · subst e;simp [hb]
   · simp [e]
  rw [this];rfl
theorem minus_one {i j:Nat} (h:i.testBit j=true):minusN i (2 ^ j)=i ^^^ 2 ^ j:=by
 apply Nat.eq_of_testBit_eq
 intro k
 rw [minus_bit,Nat.testBit_xor,Nat.testBit_two_pow]
 by_cases e:j=k
 · subst e;simp [h]
 · simp [e]
theorem stp_bit {F:Cnf} {all:List (List Int)} (hN:all.length≤14) {sp i j:Nat} (hj:j < all.length) (hc:cnt i≤sp):Stp all.length (Gn F all) sp i (i ^^^ 2 ^ j)↔i.testBit j=true∨(cnt i < sp∧Gn F all i j):=by
 have hct:=cnt_tog (s:=i) (i:=j) (by omega)
 constructor
 · rintro ⟨j',h1,h2,h3,h4⟩
   obtain rfl:=xor_inj h2
   cases hb:i.testBit j with
   | true=>exact .inl rfl
   | false =>
    rw [hb,cond_false,cond_false] at hct
    exact .inr ⟨by omega,h3 hb⟩
 · intro h
   refine ⟨j,hj,rfl,fun e=>?_,?_⟩
   · rcases h with h|h
     · rw [h] at e;cases e
     · exact h.2
   · cases hb:i.testBit j with
     | true=>rw [hb,cond_true,cond_true] at hct;omega
     | false =>
      rw [hb,cond_false,cond_false] at hct
      rcases h with h|h
      · rw [h] at hb;cases hb
      · omega
theorem left_eq {F:Cnf} {all:List (List Int)} (h:DA F all) (hN:all.length≤14) {P:List (List Int)} {kP:Nat} (hP:PI F all (fun _ _ _=>True) (fun i=>∃ c∈F.clauses,all[i]?=some c) kP P) (sp:Nat) :
 ∃ out,zcf ⟨⟨F.vars,F.clauses⟩,all,P⟩ (sp:Int)=some out∧out.length=2 ^ all.length∧∀ (v:Nat) t,out[v]?=some t→(t < 0∧∀ k,¬ Way (Eb F all sp) (srcB all sp) k v)∨∃ k:Nat,t=(k:Int)∧Dis (Eb F all sp) (srcB all sp) k v:=by
 classical
 unfold zcf
 dsimp only
 have hM:=pow14 hN
 have hpos:0 < 2 ^ all.length:=Nat.two_pow_pos _
 rw [zah,zbs,zaa,zcq (by omega),mk2_n (by omega),zaa,mk2_n (by omega),zaa,wrk64 (by omega)]
 refine cnt_m (σ:=List (List Int)×List Int×List Int) (fun s i=>(s.1,s.2.1,s.2.2,i)) (n:=2 ^ all.length) (a:=0) (s0:=(List.replicate (2 ^ all.length) [],List.replicate (2 ^ all.length) 0,[])) (fun i s=>LI F all sp i s) rfl (by omega) ?_ ?_ ?_ ?_
 · refine ⟨⟨by simp,fun u L hL=>?_⟩,by simp,fun j hj=>by omega,[],rfl,List.nodup_nil,by simp⟩
   have:=List.eq_of_mem_replicate (List.mem_of_getElem? hL)
   subst this
   exact ⟨Nat.le_refl _,by simp⟩
 · rintro i ⟨back,out,todo⟩ - hi hI
   left
   obtain ⟨hb,ol,on,ln,et,nd,mem⟩:=hI
   dsimp only at hb ol on et
   subst et
   dsimp only
   have hio:i < out.length:=by omega
   have hi14:i < 16384:=by omega
   have hlnl:ln.length≤16384:=by
    have:=PF.zbR (m:=List.range 16384) nd fun x hx=>List.mem_range.2 (by have:=((mem x).1 hx).1;omega)
    simpa using this
   rw [cT (show ((i:Nat):Int) < ((2 ^ all.length:Nat):Int) by omega),zai (List.getElem?_eq_getElem hio),zaa,zbk hio,zaa,ones_eq hi14,
    show wrk false 64 ((i:Int) + 1)=((i + 1:Nat):Int) by rw [show ((i:Int) + 1)=((i + 1:Nat):Int) by omega];exact wrk64 (by omega)]
   have os:(out.set i (-1))[i]?=some (-1):=zbC hio
   have on1:∀ j,j < i→(srcB all sp j→(out.set i (-1))[j]?=some 0)∧(¬ srcB all sp j→(out.set i (-1))[j]?=some (-1)):=fun j hj=>by rw [set_ne (by omega)];exact on j hj
   by_cases hc:(sp:Int) < ((cnt i:Nat):Int)
   · rw [cT hc]
     refine ⟨(back,out.set i (-1),ln.map (fun (k:Nat)=>(k:Int))),rfl,?_⟩
     have ns:¬ srcB all sp i:=fun g=>by have:=g.2.2.1;omega
     refine ⟨hb.congr (fun u v=>?_) (by omega),by simp [ol],fun j hj=>?_,ln,rfl,nd,fun v=>?_⟩
     · constructor
       · rintro ⟨g1,g2⟩;exact ⟨by omega,g2⟩
       · rintro ⟨g1,g2⟩
         have:v≠i:=fun e=>by subst e;have:=g2.1;omega
         exact ⟨by omega,g2⟩
     · by_cases e:j=i
       · subst e;exact ⟨fun g=>absurd g ns,fun _=>os⟩
       · exact on1 j (by omega)
     · rw [mem]
       constructor
       · rintro ⟨g1,g2⟩;exact ⟨by omega,g2⟩
       · rintro ⟨g1,g2⟩
         have:v≠i:=fun e=>by subst e;exact ns g2
         exact ⟨by omega,g2⟩
   · rw [cF hc]
     have hci:cnt i≤sp:=by omega
     refine nx_of (f:=fun (s:List (List Int)×List Int×List Int)=>(s.1,s.2.1,s.2.2,((i + 1:Nat):Int))) ?_
     refine bd_ex (Q:=fun back'=>BK (2 ^ all.length) (fun u v=>v < i + 1∧Eb F all sp u v) (14 * (i + 1)) back') ?_ ?_
     · refine zaA (fun j bk=>BK (2 ^ all.length) (fun u v=>(v < i∧Eb F all sp u v)∨(v=i∧∃ b,b < j∧u=i ^^^ 2 ^ b∧Stp all.length (Gn F all) sp i (i ^^^ 2 ^ b))) (14 * i + j) bk) ?_ ?_ ?_
       · exact hb.congr (fun u v=>by simp) (by omega)
       · intro j c bk hj hbk
         left
         have hjl:j < all.length:=(List.getElem?_eq_some_iff.1 hj).1
         have hp:2 ^ j < 2 ^ all.length:=Nat.pow_lt_pow_right (by omega) hjl
         have hx:i ^^^ 2 ^ j < 2 ^ all.length:=Nat.xor_lt_two_pow hi hp
         have hxl:i ^^^ 2 ^ j < bk.length:=by rw [hbk.len];exact hx
         have hL:bk[i ^^^ 2 ^ j]?=some bk[i ^^^ 2 ^ j]:=List.getElem?_eq_getElem hxl
         have hLl:=(hbk.at_ _ _ hL).1
         have hsb:=stp_bit (F:=F) hN hjl hci
         rw [zbs,zaa,shl64 (by omega),and_bit0 hi14 (by omega)]
         have yes:Stp all.length (Gn F all) sp i (i ^^^ 2 ^ j)→BK (2 ^ all.length) (fun u v=>(v < i∧Eb F all sp u v)∨(v=i∧∃ b,b < j + 1∧u=i ^^^ 2 ^ b∧Stp all.length (Gn F all) sp i (i ^^^ 2 ^ b))) (14 * i + (j + 1)) (bk.set (i ^^^ 2 ^ j) (bk[i ^^^ 2 ^ j]++[(i:Int)])):=fun g =>
          (hbk.add (v:=i) hL).congr (fun u v=>by
           constructor
           · rintro ((g1|⟨g1,b,g2,g3,g4⟩)|⟨g1,g2⟩)
             · exact .inl g1
             · exact .inr ⟨g1,b,by omega,g3,g4⟩
             · exact .inr ⟨g2,j,by omega,g1,g⟩
           · rintro (g1|⟨g1,b,g2,g3,g4⟩)
             · exact .inl (.inl g1)
             · by_cases e:b=j
               · subst e;exact .inr ⟨g3,g1⟩
               · exact .inl (.inr ⟨g1,b,by omega,g3,g4⟩)) (by omega)
         have no:¬ Stp all.length (Gn F all) sp i (i ^^^ 2 ^ j)→BK (2 ^ all.length) (fun u v=>(v < i∧Eb F all sp u v)∨(v=i∧∃ b,b < j + 1∧u=i ^^^ 2 ^ b∧Stp all.length (Gn F all) sp i (i ^^^ 2 ^ b))) (14 * i + (j + 1)) bk:=fun g =>
          hbk.congr (fun u v=>by
           constructor
           · rintro (g1|⟨g1,b,g2,g3,g4⟩)
             · exact .inl g1
             · exact .inr ⟨g1,b,by omega,g3,g4⟩
           · rintro (g1|⟨g1,b,g2,g3,g4⟩)
             · exact .inl g1
             · by_cases e:b=j
               · subst e;exact absurd g4 g
               · exact .inr ⟨g1,b,by omega,g3,g4⟩) (by omega)
         cases hbit:i.testBit j with
         | true =>
          rw [Bool.not_true,Bool.not_false,cond_true,an64 (by omega) (by omega),minus_one hbit,zai hL,zaa,za6 (by simp;omega),zaa,zaa,zbk hxl,zaa,zaa]
          exact ⟨_,rfl,yes (hsb.2 (.inl hbit))⟩
         | false =>
          rw [Bool.not_false,Bool.not_true,cond_false]
          have hor:orK false 64 (i:Int) ((2 ^ j:Nat):Int)=((i ^^^ 2 ^ j:Nat):Int):=by rw [or64 (by omega) (by omega),or_xor hbit]
          by_cases hcs:((cnt i:Nat):Int) < (sp:Int)
          · rw [cT hcs]
            obtain ⟨Q,g,e1,e2,e3⟩:=gain_i hN hP hi14 hjl
            rw [zai e1,zaa,e2,zaa,zaa]
            cases g with
            | true =>
             rw [cond_true,hor,zai hL,zaa,za6 (by simp;omega),zaa,zaa,zbk hxl,zaa,zaa]
             exact ⟨_,rfl,yes (hsb.2 (.inr ⟨by omega,e3.1 rfl⟩))⟩
            | false =>
             rw [cond_false]
             refine ⟨_,rfl,no fun g=>?_⟩
             rcases hsb.1 g with g|⟨_,g⟩
             · rw [hbit] at g;cases g
             · have:=e3.2 g;cases this
          · rw [cF hcs,zaa,cond_false]
            refine ⟨_,rfl,no fun g=>?_⟩
            rcases hsb.1 g with g|⟨g,_⟩
            · rw [hbit] at g;cases g
            · omega
       · intro bk hbk
         refine ⟨_,rfl,hbk.congr (fun u v=>?_) (by omega)⟩
         constructor
         · rintro (⟨g1,g2⟩|⟨rfl,b,g2,rfl,g3⟩)
           · exact ⟨by omega,g2⟩
           · exact ⟨by omega,hci,hi,g3⟩
         · rintro ⟨g1,g2⟩
           by_cases e:v=i
           · subst e
             obtain ⟨b,b1,b2,b3⟩:=g2.2.2
             exact .inr ⟨rfl,b,b1,b2,b2 ▸ ⟨b,b1,b2,b3⟩⟩
           · exact .inl ⟨by omega,g2⟩
     · intro back' hb'
       have ex0:∃ t,(bif decide (0 < ((all.length:Nat):Int)) then bd (ix all 0) (fun x781520=>some ((len x781520) == 0)) else some false)=some t∧(t=true↔all[0]?=some []):=by
        cases all with
        | nil=>exact ⟨false,rfl,by simp⟩
        | cons c l =>
         rw [cT (by simp only [List.length_cons];omega),show ix (c::l) 0=some c from rfl,zaa]
         refine ⟨_,rfl,?_⟩
         cases c with
         | nil=>simp [zah]
         | cons x c=>simp [zah];omega
       obtain ⟨t,et,ht⟩:=ex0
       rw [et,zaa,odd_bit hi14]
       have hsrc:srcB all sp i↔(t=true∧i.testBit 0=true):=by
        unfold srcB
        rw [ht]
        exact ⟨fun g=>⟨g.2.2.2,g.2.1⟩,fun g=>⟨hi,g.2,hci,g.1⟩⟩
       have hsc:(bif t then i.testBit 0 else false)=decide (srcB all sp i):=by
        rw [Bool.eq_iff_iff,decide_eq_true_iff,hsrc]
        cases t <;> simp
       rw [hsc]
       by_cases hs:srcB all sp i
       · rw [decide_eq_true hs,cond_true,zai os,zaa,zbk (by simpa using hio),zaa,za6 (by simp;omega),zaa]
         refine ⟨_,rfl,(back',(out.set i (-1)).set i 0,(ln++[i]).map (fun (k:Nat)=>(k:Int))),by simp,hb',by simp [ol],fun j hj=>?_,ln++[i],rfl,?_,fun v=>?_⟩
         · by_cases e:j=i
           · subst e;exact ⟨fun _=>zbC (by simpa using hio),fun g=>absurd hs g⟩
           · have:=on1 j (by omega)
             rw [← set_ne (xs:=out.set i (-1)) (i:=i) (x:=(0:Int)) (show i≠j by omega)] at this
             exact this
         · rw [List.nodup_append]
           refine ⟨nd,by simp,fun a ha b hb e=>?_⟩
           rw [List.mem_singleton] at hb
           subst hb e
           have:=((mem a).1 ha).1
           omega
         · rw [List.mem_append,List.mem_singleton,mem]
           constructor
           · rintro (⟨g1,g2⟩|rfl)
             · exact ⟨by omega,g2⟩
             · exact ⟨by omega,hs⟩
           · rintro ⟨g1,g2⟩
             by_cases e:v=i
             · exact .inr e
             · exact .inl ⟨by omega,g2⟩
       · rw [decide_eq_false hs,cond_false]
         refine ⟨_,rfl,(back',out.set i (-1),ln.map (fun (k:Nat)=>(k:Int))),rfl,hb',by simp [ol],fun j hj=>?_,ln,rfl,nd,fun v=>?_⟩
         · by_cases e:j=i
           · subst e;exact ⟨fun g=>absurd g hs,fun _=>os⟩
           · exact on1 j (by omega)
         · rw [mem]
           constructor
           · rintro ⟨g1,g2⟩;exact ⟨by omega,g2⟩
           · rintro ⟨g1,g2⟩
             have:v≠i:=fun e=>by subst e;exact hs g2
             exact ⟨by omega,g2⟩
 · rintro ⟨back,out,todo⟩ hI
   dsimp only
   rw [cF (show ¬ ((2 ^ all.length:Nat):Int) < ((2 ^ all.length:Nat):Int) by omega)]
 · rintro ⟨back,out,todo⟩ ⟨hb,ol,on,ln,et,nd,mem⟩
   dsimp only at hb ol on et ⊢
   subst et
   have hb2:=hb
   clear hb
   refine iter_g (G:=Nat) (fun n s=>∃ ln:List Nat,s.2=(ln.drop n).map (fun (k:Nat)=>(k:Int))∧n≤ln.length∧SB (Eb F all sp) (srcB all sp) (2 ^ all.length) ln s.1 n fun _=>False) (fun n=>2 ^ all.length - n) (g0:=0) ⟨ln,by simp,by omega,⟨?_,ol,fun u hu=>((mem u).1 hu).1,?_⟩⟩ ?_
   · refine Bf.start nd (fun s=>(mem s).trans ⟨fun g=>g.2,fun g=>⟨g.1,g⟩⟩) fun v=>?_
     show nrO out v=_
     by_cases hv:v < 2 ^ all.length
     · obtain ⟨o1,o2⟩:=on v hv
       by_cases hs:srcB all sp v
       · rw [if_pos ((mem v).2 ⟨hv,hs⟩),nrO_some (o1 hs) (by omega)];rfl
       · rw [if_neg (fun g=>hs ((mem v).1 g).2),nrO_none (o2 hs) (by omega)]
     · rw [if_neg (fun g=>hv ((mem v).1 g).1)]
       unfold nrO
       rw [List.getElem?_eq_none (by omega)]
   · intro t ht
     replace ht:t∈out:=ht
     obtain ⟨v,hv⟩:=List.getElem?_of_mem ht
     have hvl:=(List.getElem?_eq_some_iff.1 hv).1
     obtain ⟨o1,o2⟩:=on v (by omega)
     by_cases hs:srcB all sp v
     · rw [o1 hs] at hv;cases hv;omega
     · rw [o2 hs] at hv;cases hv;omega
   · rintro n ⟨out,todo⟩ ⟨ln,e,hn,hS⟩
     dsimp only at e hS ⊢
     subst e
     have hf:=hS.few
     rw [zah,List.length_map,List.length_drop]
     by_cases hlt:n < ln.length
     · left
       rw [cT (by omega)]
       have hu:ln[n]?=some ln[n]:=List.getElem?_eq_getElem hlt
       have hum:=hS.lt _ (List.mem_of_getElem? hu)
       generalize ln[n]=u at hu hum
       have hu0:ix ((ln.drop n).map (fun (k:Nat)=>(k:Int))) 0=some (u:Int):=by
        rw [show (0:Int)=((0:Nat):Int) from rfl]
        exact zai (by rw [List.getElem?_map,List.getElem?_drop,Nat.add_zero,hu];rfl)
       have hcut:cut ((ln.drop n).map (fun (k:Nat)=>(k:Int))) 1 (((ln.length - n:Nat)):Int)=some ((ln.drop (n + 1)).map (fun (k:Nat)=>(k:Int))):=by
        unfold cut
        rw [if_pos (by simp;omega)]
        congr 1
        rw [show (((ln.length - n:Nat)):Int).toNat=ln.length - n by omega,List.take_of_length_le (by simp),← List.map_drop,List.drop_drop]
        rfl
       have hbl:u < back.length:=by rw [hb2.len];exact hum
       have hL:back[u]?=some back[u]:=List.getElem?_eq_getElem hbl
       obtain ⟨hLl,hLm⟩:=hb2.at_ _ _ hL
       rw [hu0,zaa,hcut,zaa,zai hL,zaa]
       refine nx_of (f:=fun (s:List Int×List Int)=>s) ?_
       refine zaA (fun q s=>∃ ln':List Nat,s.2=(ln'.drop (n + 1)).map (fun (k:Nat)=>(k:Int))∧ln'[n]?=some u∧SB (Eb F all sp) (srcB all sp) (2 ^ all.length) ln' s.1 n fun x=>∃ q',q' < q∧back[u][q']?=some (x:Int)) ⟨ln,rfl,hu,hS.anti (by rintro x ⟨q,hq,_⟩;omega)⟩ ?_ ?_
       · rintro q m ⟨out,todo⟩ hq ⟨ln,e,hu,hS⟩
         left
         dsimp only at e hS ⊢
         subst e
         obtain ⟨v,rfl,hv⟩:=(hLm m).1 (List.mem_of_getElem? hq)
         obtain ⟨_,hE⟩:=hv
         have hvm:=hE.2.1
         have hvl:v < out.length:=by rw [hS.len];exact hvm
         have ho:out[v]?=some out[v]:=List.getElem?_eq_getElem hvl
         generalize out[v]=t at ho
         have hfew:=hS.few
         have hnl:=(List.getElem?_eq_some_iff.1 hu).1
         have up:∀ {ln':List Nat} {near':List Int},SB (Eb F all sp) (srcB all sp) (2 ^ all.length) ln' near' n (fun x=>(∃ q',q' < q∧back[u][q']?=some (x:Int))∨x=v) →
          SB (Eb F all sp) (srcB all sp) (2 ^ all.length) ln' near' n fun x=>∃ q',q' < q + 1∧back[u][q']?=some (x:Int):=fun g=>g.anti (by
          rintro x ⟨q',h1,h2⟩
          by_cases e:q'=q
          · subst e
            rw [hq] at h2
            have:=Int.ofNat.inj (Option.some.inj h2)
            exact .inr this.symm
          · exact .inl ⟨q',by omega,h2⟩)
         rw [zai ho,zaa]
         by_cases h0:t < 0
         · obtain ⟨k,k1,k2,k3,k4⟩:=hS.put hu hE ho h0
           rw [cT h0,zai k1,zaa,zaa,wr_s (by omega) (by omega),show (k:Int) + 1=((k + 1:Nat):Int) by omega,zbk hvl,zaa,za6 (by simp;omega),zaa]
           refine ⟨_,rfl,ln++[v],?_,?_,up k4⟩
           · rw [List.drop_append_of_le_length (by omega)];simp
           · rw [List.getElem?_append_left hnl];exact hu
         · rw [cF h0]
           exact ⟨_,rfl,ln,rfl,hu,up (hS.skip hu ho (by omega))⟩
       · rintro ⟨out,todo⟩ ⟨ln,e,hu,hS⟩
         dsimp only at e hS ⊢
         have hnl:=(List.getElem?_eq_some_iff.1 hu).1
         have hfew:=hS.few
         refine ⟨_,rfl,(out,todo),rfl,n + 1,⟨ln,e,by omega,hS.next hu fun v hv=>?_⟩,by omega⟩
         obtain ⟨q,hq⟩:=List.getElem?_of_mem ((hLm (v:Int)).2 ⟨v,rfl,hv.2.1,hv⟩)
         exact ⟨q,(List.getElem?_eq_some_iff.1 hq).1,hq⟩
     · right
       rw [cF (by omega)]
       refine ⟨_,rfl,_,rfl,hS.len,fun v t hv=>?_⟩
       have e:n=ln.length:=by omega
       subst e
       exact hS.fin hv
end Go.PF
namespace Go.PF
open Go.Pu
theorem empty_eq (all:List (List Int)):∃ b,zc9 all=some b∧(b=true↔all[0]?=some []):=by
 unfold zc9
 cases all with
 | nil=>exact ⟨false,rfl,by simp⟩
 | cons c l =>
  rw [cT (by rw [zah,List.length_cons];omega),show ix (c::l) 0=some c from rfl,zaa]
  refine ⟨_,rfl,?_⟩
  cases c with
  | nil=>simp [zah]
  | cons x c=>simp [zah];omega
section
variable {F:Cnf} {all:List (List Int)} {sp:Nat}
theorem Pth.cons {N:Nat} {Gn:Nat→Nat→Prop} {sp k s t u:Nat} (h:Stp N Gn sp s t) (p:Pth N Gn sp k t u):Pth N Gn sp (k + 1) s u:=by
 have:=(Pth.more (.nil s) h).tr p
 rwa [show 0 + 1 + k=k + 1 by omega] at this
theorem stp_lt {N:Nat} {Gn:Nat→Nat→Prop} {sp s t:Nat} (h:Stp N Gn sp s t) (hs:s < 2 ^ N):t < 2 ^ N∧cnt t≤sp:=by
 obtain ⟨i,hi,rfl,_,hc⟩:=h
 exact ⟨Nat.xor_lt_two_pow hs (Nat.pow_lt_pow_right (by omega) hi),hc⟩
theorem wayB {k v:Nat} (h:Way (Eb F all sp) (srcB all sp) k v):∃ t,srcB all sp t∧Pth all.length (Gn F all) sp k v t:=by
 induction h with
 | nil h=>exact ⟨_,h,.nil _⟩
 | more _ e ih =>
  obtain ⟨t,h1,h2⟩:=ih
  exact ⟨t,h1,.cons e.2.2 h2⟩
theorem pthB {k v t:Nat} (h:Pth all.length (Gn F all) sp k v t) (hv:v < 2 ^ all.length) (hc:cnt v≤sp) (ht:t.testBit 0=true) (h0:all[0]?=some []):Way (Eb F all sp) (srcB all sp) k v:=by
 have key:∀ {k s t:Nat},Pth all.length (Gn F all) sp k s t→s < 2 ^ all.length→cnt s≤sp→(t < 2 ^ all.length∧cnt t≤sp)∧∀ m,Way (Eb F all sp) (srcB all sp) m t→Way (Eb F all sp) (srcB all sp) (m + k) s:=by
  intro k s t h
  induction h with
  | nil s=>intro h1 h2;exact ⟨⟨h1,h2⟩,fun m g=>g⟩
  | @more k s t u _ e ih =>
   intro h1 h2
   obtain ⟨⟨i1,i2⟩,i3⟩:=ih h1 h2
   refine ⟨stp_lt e i1,fun m g=>?_⟩
   have:=i3 (m + 1) (.more g ⟨i2,i1,e⟩)
   rwa [show m + 1 + k=m + (k + 1) by omega] at this
 obtain ⟨⟨h1,h2⟩,h3⟩:=key h hv hc
 have:=h3 0 (.nil ⟨h1,ht,h2,h0⟩)
 rwa [Nat.zero_add] at this
def Short (F:Cnf) (all:List (List Int)) (sp k:Nat):Prop:=all[0]?=some []∧∃ t,t.testBit 0=true∧Pth all.length (Gn F all) sp k 0 t
def Lst (F:Cnf) (all:List (List Int)) (sp k:Nat):Prop:=Short F all sp k∧∀ k',Short F all sp k'→k≤k'
theorem zb6 {k:Nat}:Way (Eb F all sp) (srcB all sp) k 0↔Short F all sp k:=by
 constructor
 · intro h
   obtain ⟨t,h1,h2⟩:=wayB h
   exact ⟨h1.2.2.2,t,h1.2.1,h2⟩
 · rintro ⟨h0,t,h1,h2⟩
   exact pthB h2 (Nat.two_pow_pos _) (by rw [zct];omega) h1 h0
theorem Lst.uniq {k m:Nat} (h:Lst F all sp k) (h':Lst F all sp m):k=m:=Nat.le_antisymm (h.2 _ h'.1) (h'.2 _ h.1)
theorem Lst.le (h:DA F all) (hN:all.length≤14) {k:Nat} (hk:Lst F all sp k):k≤300:=by
 obtain ⟨⟨h0,t,h1,h2⟩,hmin⟩:=hk
 by_cases hs:sp≤3
 · exact Pth.three hN hs h2 fun k' g=>hmin k' ⟨h0,t,h1,g⟩
 · have hS:=h.sys hN
   obtain ⟨t',e,e1,e2,_,m,m1,m2⟩:=hS.four (sp:=sp) (by omega) (List.mem_map.2 ⟨[],List.mem_of_getElem? h0,rfl⟩)
   obtain ⟨c,c1,c2,c3⟩:=h.place e1
   have hn:IsS F.vars []:=h.sm (List.mem_of_getElem? h0)
   have:c=[]:=zbA c3 hn (c2.trans rfl)
   subst this
   have:=h.at_uniq c1 h0
   subst this
   rw [List.length_map] at m2
   have:=hmin m ⟨h0,t',e2,m2⟩
   omega
theorem left0_eq (h:DA F all) (hN:all.length≤14) {P:List (List Int)} {kP:Nat} (hP:PI F all (fun _ _ _=>True) (fun i=>∃ c∈F.clauses,all[i]?=some c) kP P) (sp:Nat) :
 ∃ out t,zcf ⟨⟨F.vars,F.clauses⟩,all,P⟩ (sp:Int)=some out∧ix out 0=some t∧((t < 0∧∀ k,¬ Short F all sp k)∨∃ k:Nat,t=(k:Int)∧Lst F all sp k):=by
 obtain ⟨out,e,ol,ov⟩:=left_eq h hN hP sp
 have hpos:0 < out.length:=by rw [ol];exact Nat.two_pow_pos _
 have h0:out[0]?=some out[0]:=List.getElem?_eq_getElem hpos
 refine ⟨out,out[0],e,zai h0,?_⟩
 rcases ov 0 _ h0 with ⟨g1,g2⟩|⟨k,g1,g2,g3⟩
 · exact .inl ⟨g1,fun k g=>g2 k (zb6.2 g)⟩
 · exact .inr ⟨k,g1,zb6.1 g2,fun k' g=>g3 k' (zb6.2 g)⟩
end
end Go.PF
namespace Go.PF
open Go.Pu
theorem nx_of' {T X:Type} {x:Option (Lp T X)} {I:T→Prop} (h:∃ q,x=some q∧∃ s',q=.nx s'∧I s'):∃ s',x=some (.nx s')∧I s':=by
 obtain ⟨q,e,s',rfl,i⟩:=h
 exact ⟨s',e,i⟩
theorem eb_cnt {F:Cnf} {all:List (List Int)} {sp k u:Nat} (h:Way (Eb F all sp) (srcB all sp) k u):cnt u≤sp:=by
 cases h with
 | nil g=>exact g.2.2.1
 | more _ g=>exact g.1
theorem bit0_64 {i:Nat} (h:i < 16384):(andK true 64 (i:Int) 1 == 1)=i.testBit 0:=by
 have:=bit_nat (n:=i) (k:=0) (by omega) (by omega)
 rw [show shrK 64 (i:Int) ((0:Nat):Int)=((i >>> 0:Nat):Int) from zb4 (by omega),Nat.shiftRight_zero] at this
 exact this
theorem bitj_64 {u i:Nat} (hu:u < 16384) (hi:i≤63):((andK true 64 (shrK 64 (u:Int) (i:Int)) 1) == 0) = !u.testBit i:=by
 rw [← bit_nat (by omega) hi,zb4 hi]
 have hb:=zb3 (a:=u >>> i) (b:=1) (Nat.lt_of_le_of_lt (Nat.shiftRight_le u i) (by omega)) (by omega)
 rw [show (1:Int)=((1:Nat):Int) from rfl,hb]
 have:u >>> i &&& 1≤1:=Nat.and_le_right
 have hcs:u >>> i &&& 1=0∨u >>> i &&& 1=1:=by omega
 rcases hcs with e|e <;> rw [e] <;> rfl
theorem far_eq {F:Cnf} {all:List (List Int)} (h:DA F all) (hN:all.length≤14) (hz:all[0]?=some []) (sp:Nat) :
 ∃ out,zdc F all (sp:Int)=some out∧out.length=2 ^ all.length∧∀ (v:Nat) t,out[v]?=some t→(t < 0∧∀ k,¬ Way (Eb F all sp) (srcB all sp) k v)∨∃ k:Nat,t=(k:Int)∧Dis (Eb F all sp) (srcB all sp) k v:=by
 classical
 unfold zdc
 have hM:=pow14 hN
 obtain ⟨W,eW,w1,w2,w3⟩:=l15Of_eq h hN
 rw [zah,zbs,zaa,zcq (by omega),mk2_n (by omega),zaa,eW,zaa]
 have hpos:0 < 2 ^ all.length:=Nat.two_pow_pos _
 refine cnt_m (σ:=List Int×List Int) (fun s i=>(s.1,s.2,i)) (n:=2 ^ all.length) (a:=0) (s0:=([],List.replicate (2 ^ all.length) 0))
  (fun i s=>s.2.length=2 ^ all.length∧(∀ j,j < i→(srcB all sp j→s.2[j]?=some 0)∧(¬ srcB all sp j→s.2[j]?=some (-1)))∧∃ ln:List Nat,s.1=ln.map (fun (k:Nat)=>(k:Int))∧ln.Nodup∧∀ v,v∈ln↔v < i∧srcB all sp v) rfl (by omega)
  ⟨by simp,fun j hj=>by omega,[],rfl,List.nodup_nil,by simp⟩ ?_ ?_ ?_
 · rintro i ⟨line,out⟩ - hi ⟨ol,on,ln,et,nd,mem⟩
   left
   dsimp only at ol on et
   subst et
   dsimp only
   have hio:i < out.length:=by omega
   have hlnl:ln.length≤16384:=by
    have:=PF.zbR (m:=List.range 16384) nd fun x hx=>List.mem_range.2 (by have:=((mem x).1 hx).1;omega)
    simpa using this
   have os:(out.set i (-1))[i]?=some (-1):=zbC hio
   have on1:∀ j,j < i→(srcB all sp j→(out.set i (-1))[j]?=some 0)∧(¬ srcB all sp j→(out.set i (-1))[j]?=some (-1)):=fun j hj=>by rw [set_ne (by omega)];exact on j hj
   rw [cT (by rw [zah];omega),zai (List.getElem?_eq_getElem hio),zaa,zbk hio,zaa,bit0_64 (by omega),wr_s (by omega) (by omega)]
   have hc:(bif i.testBit 0 then bd (zb9 (i:Int)) (fun r36279=>some (decide (r36279≤(sp:Int)))) else some false)=some (decide (srcB all sp i)):=by
    rw [count_eq (by omega),zaa]
    cases hb:i.testBit 0 with
    | false=>rw [cond_false,decide_eq_false (fun g=>by have:=g.2.1;rw [hb] at this;cases this)]
    | true =>
     rw [cond_true]
     congr 1
     by_cases g:cnt i≤sp
     · rw [decide_eq_true (by omega),decide_eq_true ⟨hi,hb,g,hz⟩]
     · rw [decide_eq_false (by omega),decide_eq_false (fun e=>g e.2.2.1)]
   rw [hc,zaa]
   by_cases hs:srcB all sp i
   · rw [decide_eq_true hs,cond_true,zai os,zaa,zbk (by simpa using hio),zaa,za6 (by simp;omega),zaa]
     refine ⟨((ln++[i]).map (fun (k:Nat)=>(k:Int)),(out.set i (-1)).set i 0),by simp,by simp [ol],fun j hj=>?_,ln++[i],rfl,?_,fun v=>?_⟩
     · by_cases e:j=i
       · subst e;exact ⟨fun _=>zbC (by simpa using hio),fun g=>absurd hs g⟩
       · have:=on1 j (by omega)
         rw [← set_ne (xs:=out.set i (-1)) (i:=i) (x:=(0:Int)) (show i≠j by omega)] at this
         exact this
     · rw [List.nodup_append]
       refine ⟨nd,by simp,fun a ha b hb e=>?_⟩
       rw [List.mem_singleton] at hb
       subst hb e
       have:=((mem a).1 ha).1
       omega
     · rw [List.mem_append,List.mem_singleton,mem]
       constructor
       · rintro (⟨g1,g2⟩|rfl)
         · exact ⟨by omega,g2⟩
         · exact ⟨by omega,hs⟩
       · rintro ⟨g1,g2⟩
         by_cases e:v=i
         · exact .inr e
         · exact .inl ⟨by omega,g2⟩
   · rw [decide_eq_false hs,cond_false]
     refine ⟨(ln.map (fun (k:Nat)=>(k:Int)),out.set i (-1)),rfl,by simp [ol],fun j hj=>?_,ln,rfl,nd,fun v=>?_⟩
     · by_cases e:j=i
       · subst e;exact ⟨fun g=>absurd g hs,fun _=>os⟩
       · exact on1 j (by omega)
     · rw [mem]
       constructor
       · rintro ⟨g1,g2⟩;exact ⟨by omega,g2⟩
       · rintro ⟨g1,g2⟩
         have:v≠i:=fun e=>by subst e;exact hs g2
         exact ⟨by omega,g2⟩
 · rintro ⟨line,out⟩ ⟨ol,_⟩
   dsimp only at ol ⊢
   rw [cF (by rw [zah];omega)]
 · rintro ⟨line,out⟩ ⟨ol,on,ln,et,nd,mem⟩
   dsimp only at ol on et ⊢
   subst et
   refine iter_m (fun s=>∃ (ln:List Nat) (n:Nat),s.1=ln.map (fun (k:Nat)=>(k:Int))∧s.2.2=(n:Int)∧n≤ln.length∧SB (Eb F all sp) (srcB all sp) (2 ^ all.length) ln s.2.1 n fun _=>False)
    (fun s=>2 ^ all.length - s.2.2.toNat) ⟨ln,0,rfl,rfl,by omega,⟨?_,ol,fun u hu=>((mem u).1 hu).1,?_⟩⟩ ?_
   · refine Bf.start nd (fun s=>(mem s).trans ⟨fun g=>g.2,fun g=>⟨g.1,g⟩⟩) fun v=>?_
     show nrO out v=_
     by_cases hv:v < 2 ^ all.length
     · obtain ⟨o1,o2⟩:=on v hv
       by_cases hs:srcB all sp v
       · rw [if_pos ((mem v).2 ⟨hv,hs⟩),nrO_some (o1 hs) (by omega)];rfl
       · rw [if_neg (fun g=>hs ((mem v).1 g).2),nrO_none (o2 hs) (by omega)]
     · rw [if_neg (fun g=>hv ((mem v).1 g).1)]
       unfold nrO
       rw [List.getElem?_eq_none (by omega)]
   · intro t ht
     replace ht:t∈out:=ht
     obtain ⟨v,hv⟩:=List.getElem?_of_mem ht
     have hvl:=(List.getElem?_eq_some_iff.1 hv).1
     obtain ⟨o1,o2⟩:=on v (by omega)
     by_cases hs:srcB all sp v
     · rw [o1 hs] at hv;cases hv;omega
     · rw [o2 hs] at hv;cases hv;omega
   · rintro ⟨line,near,q⟩ ⟨ln,n,rfl,rfl,hn,hS⟩
     dsimp only at hS ⊢
     have hf:=hS.few
     rw [zah,List.length_map]
     by_cases hlt:n < ln.length
     · left
       rw [cT (show ((n:Nat):Int) < (ln.length:Int) by omega)]
       have hu:ln[n]?=some ln[n]:=List.getElem?_eq_getElem hlt
       have hum:=hS.lt _ (List.mem_of_getElem? hu)
       generalize ln[n]=u at hu hum
       refine nx_of' ?_
       refine zaA (fun i s=>∃ ln':List Nat,s.1=ln'.map (fun (k:Nat)=>(k:Int))∧ln'[n]?=some u∧SB (Eb F all sp) (srcB all sp) (2 ^ all.length) ln' s.2 n fun x=>∃ j,j < i∧x=u ^^^ 2 ^ j) ⟨ln,rfl,hu,hS.anti (by rintro x ⟨j,hj,_⟩;omega)⟩ ?_ ?_
       · rintro i c ⟨line,near⟩ hc ⟨ln,rfl,hu,hS⟩
         left
         dsimp only at hS ⊢
         have hi:i < all.length:=(List.getElem?_eq_some_iff.1 hc).1
         have hum:=hS.lt _ (List.mem_of_getElem? hu)
         have hil:2 ^ i < 2 ^ all.length:=Nat.pow_lt_pow_right (by omega) hi
         obtain ⟨ex,exl⟩:=xorK_nat hum hil (by omega)
         have hul:(ln.map (fun (k:Nat)=>(k:Int)))[n]?=some (u:Int):=by rw [List.getElem?_map,hu];rfl
         have hlf:=hS.few
         have hnv:u ^^^ 2 ^ i < near.length:=by rw [hS.len];exact exl
         have hv:near[u ^^^ 2 ^ i]?=some near[u ^^^ 2 ^ i]:=List.getElem?_eq_getElem hnv
         generalize near[u ^^^ 2 ^ i]=t at hv
         have hcu:cnt u≤sp:=by
          obtain ⟨k,hk⟩:=(hS.bf.mem u).1 (List.mem_of_getElem? hu)
          exact eb_cnt (hS.bf.snd u k hk)
         have eback:(u ^^^ 2 ^ i) ^^^ 2 ^ i=u:=by rw [Nat.xor_assoc,Nat.xor_self,Nat.xor_zero]
         rw [zai hul,zaa,zbs,zaa,zcq (by omega),ex,zai hv,zaa]
         have up:∀ {ln':List Nat} {near':List Int},SB (Eb F all sp) (srcB all sp) (2 ^ all.length) ln' near' n (fun x=>(∃ j,j < i∧x=u ^^^ 2 ^ j)∨x=u ^^^ 2 ^ i) →
          SB (Eb F all sp) (srcB all sp) (2 ^ all.length) ln' near' n fun x=>∃ j,j < i + 1∧x=u ^^^ 2 ^ j:=fun g=>g.anti (by
          rintro x ⟨j,hj,rfl⟩
          by_cases e:j=i
          · subst e;exact .inr rfl
          · exact .inl ⟨j,by omega,rfl⟩)
         by_cases h0:0≤t
         · rw [cT h0,zaa,cond_true,zaa,cond_true]
           exact ⟨_,rfl,ln,rfl,hu,up (hS.skip hu hv h0)⟩
         · rw [cF h0,count_eq (by omega),zaa,zaa]
           have noE:(sp < cnt (u ^^^ 2 ^ i)∨((u ^^^ 2 ^ i).testBit i=false∧¬ Gn F all (u ^^^ 2 ^ i) i))→¬ Eb F all sp u (u ^^^ 2 ^ i):=by
            rintro g ⟨g0,_,j,_,e,g1,g2⟩
            have:j=i:=xor_inj (u:=u ^^^ 2 ^ i) (by rw [← e,eback])
            subst this
            rcases g with g|⟨g3,g4⟩
            · omega
            · exact g4 (g1 g3)
           by_cases hc1:(sp:Int) < ((cnt (u ^^^ 2 ^ i):Nat):Int)
           · rw [decide_eq_true hc1,cond_true,zaa,cond_true]
             exact ⟨_,rfl,ln,rfl,hu,up (hS.no hu (noE (.inl (by omega))))⟩
           · rw [decide_eq_false hc1,cond_false,zaa,bitj_64 (by omega) (by omega)]
             obtain ⟨g,eg,hg⟩:=gain_s hN w1 w2 w3 (s:=u ^^^ 2 ^ i) (by omega) hi
             have last:((u ^^^ 2 ^ i).testBit i=false→Gn F all (u ^^^ 2 ^ i) i)→∃ s',(bd (some (u:Int)) (fun x37782=>bd (ix near x37782) (fun x37790=>bd (some t) (fun x37798=>bd (put near ((u ^^^ 2 ^ i:Nat):Int) (wr (x37790 + 1))) (fun xs37803=>bd (app (ln.map (fun (k:Nat)=>(k:Int))) [((u ^^^ 2 ^ i:Nat):Int)]) (fun xs37813=>some (Lp.nx (X:=Empty) (xs37813,xs37803))))))))=some (Lp.nx s') ∧
              ∃ ln':List Nat,s'.1=ln'.map (fun (k:Nat)=>(k:Int))∧ln'[n]?=some u∧SB (Eb F all sp) (srcB all sp) (2 ^ all.length) ln' s'.2 n fun x=>∃ j,j < i + 1∧x=u ^^^ 2 ^ j:=by
              intro hgn
              obtain ⟨k,k1,k2,k3,k4⟩:=hS.put hu ⟨by omega,exl,i,hi,eback.symm,hgn,hcu⟩ hv (by omega)
              rw [zaa,zai k1,zaa,zaa,wr_s (by omega) (by omega),show (k:Int) + 1=((k + 1:Nat):Int) by omega,zbk hnv,zaa,za6 (by simp;omega),zaa]
              refine ⟨_,rfl,ln++[u ^^^ 2 ^ i],by simp,?_,up k4⟩
              rw [List.getElem?_append_left (List.getElem?_eq_some_iff.1 hu).1];exact hu
             cases hb:(u ^^^ 2 ^ i).testBit i with
             | true =>
              rw [Bool.not_true,cond_false,zaa,zaa,cond_false]
              exact last (fun e=>by rw [hb] at e;cases e)
             | false =>
              rw [Bool.not_false,cond_true,eg,zaa,zaa,zaa]
              cases g with
              | true =>
               rw [Bool.not_true,cond_false]
               exact last (fun _=>hg.1 rfl)
              | false =>
               rw [Bool.not_false,cond_true]
               exact ⟨_,rfl,ln,rfl,hu,up (hS.no hu (noE (.inr ⟨hb,fun e=>by have:=hg.2 e;cases this⟩)))⟩
       · rintro ⟨line,near⟩ ⟨ln,rfl,hu,hS⟩
         dsimp only at hS ⊢
         have hf2:=hS.few
         have hn2:=(List.getElem?_eq_some_iff.1 hu).1
         rw [wr_s (by omega) (by omega)]
         refine ⟨_,rfl,_,rfl,⟨ln,n + 1,rfl,rfl,by omega,hS.next hu ?_⟩,by dsimp only;omega⟩
         rintro v ⟨_,_,j,hj,e,_,_⟩
         exact ⟨j,hj,by rw [e,Nat.xor_assoc,Nat.xor_self,Nat.xor_zero]⟩
     · right;left
       rw [cF (show ¬ ((n:Nat):Int) < (ln.length:Int) by omega)]
       refine ⟨_,rfl,_,rfl,hS.len,fun v t hv=>?_⟩
       have e:n=ln.length:=by omega
       subst e
       exact hS.fin hv
end Go.PF
namespace Go.PF
open Go.Pu
structure CA (all now:List (List Int)):Prop where
 srt:SrtC now
 sub:∀ c∈now,c∈all
theorem CA.nil {all:List (List Int)}:CA all []:=⟨.nil,nofun⟩
theorem CA.cfg {F:Cnf} {all now:List (List Int)} (h:DA F all) (hc:CA all now):Cfg F.vars all.length now:=by
 refine ⟨hc.srt,?_,fun c g=>(h.sm (hc.sub c g)).c⟩
 exact PF.zbR (hc.srt.imp fun {a b} hab e=>by subst e;exact za5 a hab) hc.sub
theorem nxt_CA {F:Cnf} {all now:List (List Int)} (h:DA F all) (hc:CA all now) {s:zab} (hs:(nxt F now s).2=true):CA all (nxt F now s).1:=by
 unfold nxt at hs ⊢
 cases h1:s.kind == 3 with
 | true =>
  rw [h1] at hs
  simp only [cond_true] at hs ⊢
  cases h2:gone now s with
  | false=>rw [h2] at hs;cases hs
  | true=>exact ⟨hc.srt.sublist (List.eraseIdx_sublist _ _),fun c g=>hc.sub c ((List.eraseIdx_sublist _ _).subset g)⟩
 | false =>
  rw [h1] at hs
  simp only [cond_false] at hs ⊢
  cases h2:(puts F now s).2 && !now.contains (puts F now s).1 with
  | false=>rw [h2] at hs;cases hs
  | true =>
   rw [Bool.and_eq_true] at h2
   have hp:(puts F now s).1∈all:=by
    have hp:=h2.1
    unfold puts at hp ⊢
    cases k1:s.kind == 1 with
    | true =>
     rw [k1] at hp
     simp only [cond_true] at hp ⊢
     cases k2:inB s.a 0 ((F.clauses.length:Int) - 1) && (s.b == 0 && s.pivot == 0) with
     | false=>rw [k2] at hp;cases hp
     | true =>
      simp only [cond_true]
      rw [Bool.and_eq_true] at k2
      have:=zaR.1 k2.1
      obtain ⟨c,_,k4⟩:=ix_of (xs:=F.clauses) (i:=s.a) (by omega) (by omega)
      rw [k4]
      exact h.ax (List.mem_of_getElem? k4)
    | false =>
     rw [k1] at hp
     simp only [cond_false] at hp ⊢
     cases k2:s.kind == 2 with
     | false=>rw [k2] at hp;cases hp
     | true =>
      rw [k2] at hp
      simp only [cond_true] at hp ⊢
      cases k3:inB s.a 0 ((now.length:Int) - 1) && (inB s.b 0 ((now.length:Int) - 1) && inB s.pivot 1 F.vars) with
      | false=>rw [k3] at hp;cases hp
      | true =>
       rw [k3] at hp
       simp only [cond_true] at hp ⊢
       rw [Bool.and_eq_true,Bool.and_eq_true] at k3
       have b1:=zaR.1 k3.1
       have b2:=zaR.1 k3.2.1
       have b3:=zaR.1 k3.2.2
       obtain ⟨x,_,hx⟩:=ix_of (xs:=now) (i:=s.a) (by omega) (by omega)
       obtain ⟨y,_,hy⟩:=ix_of (xs:=now) (i:=s.b) (by omega) (by omega)
       rw [hx,hy] at hp ⊢
       have e:s.pivot=((s.pivot.toNat:Nat):Int):=by omega
       rw [e] at hp ⊢
       exact h.res (hc.sub x (List.mem_of_getElem? hx)) (hc.sub y (List.mem_of_getElem? hy)) (by omega) (by omega) hp
   simp only [cond_true]
   exact ⟨putC_srt hc.srt,fun c g=>by
    rcases putC_mem.1 g with rfl|g
    · exact hp
    · exact hc.sub c g⟩
def mskN (all now:List (List Int)):Nat:=now.foldl (fun s c=>s ||| 2 ^ plc all c) 0
theorem plc_at {F:Cnf} {all:List (List Int)} (h:DA F all) {c:List Int} (hc:c∈all):all[plc all c]?=some c:=(plc_mem h.srt).1 hc
theorem spec_mask_eq {F:Cnf} {all now:List (List Int)} (h:DA F all) (hN:all.length≤14) (hm:∀ c∈now,c∈all):zbV all now=some ((mskN all now:Nat):Int)∧mskN all now < 2 ^ all.length:=by
 have main:∃ r,zbV all now=some r∧(r=((mskN all now:Nat):Int)∧mskN all now < 2 ^ all.length):=by
  unfold zbV
  refine zaA (fun i s=>s=(((now.take i).foldl (fun s c=>s ||| 2 ^ plc all c) 0:Nat):Int)∧(now.take i).foldl (fun s c=>s ||| 2 ^ plc all c) 0 < 2 ^ all.length) ⟨rfl,Nat.two_pow_pos _⟩ ?_ ?_
  · rintro i c s hc ⟨rfl,hb⟩
    left
    have hca:=hm c (List.mem_of_getElem? hc)
    obtain ⟨p,e1,e2⟩:=h.l2At hca
    have hp:=h.at_uniq e2 (plc_at h hca)
    subst hp
    have hl:plc all c < all.length:=(List.getElem?_eq_some_iff.1 e2).1
    have hpl:2 ^ plc all c < 2 ^ all.length:=Nat.pow_lt_pow_right (by omega) hl
    obtain ⟨o1,o2⟩:=orK_natK hb hpl (by omega)
    rw [e1,zaa,zbs,zaa,zcq (by omega),o1]
    refine ⟨_,rfl,?_⟩
    rw [List.take_add_one,hc,Option.toList_some,List.foldl_append]
    exact ⟨rfl,o2⟩
  · rintro s ⟨rfl,hb⟩
    rw [List.take_length] at hb ⊢
    exact ⟨_,rfl,rfl,hb⟩
 obtain ⟨r,e,rfl,h2⟩:=main
 exact ⟨e,h2⟩
theorem impl_set_eq {F:Cnf} {all now:List (List Int)} (h:DA F all) (hN:all.length≤14) (hm:∀ c∈now,c∈all) {f:Cnf} {P:List (List Int)}:zaN ⟨f,all,P⟩ now=some ((mskN all now:Nat):Int):=by
 have main:∃ r,zaN ⟨f,all,P⟩ now=some r∧r=((mskN all now:Nat):Int):=by
  unfold zaN
  refine zaA (fun i s=>s=(((now.take i).foldl (fun s c=>s ||| 2 ^ plc all c) 0:Nat):Int)∧(now.take i).foldl (fun s c=>s ||| 2 ^ plc all c) 0 < 2 ^ all.length) ⟨rfl,Nat.two_pow_pos _⟩ ?_ ?_
  · rintro i c s hc ⟨rfl,hb⟩
    left
    have hca:=hm c (List.mem_of_getElem? hc)
    obtain ⟨p,e1,e2⟩:=h.indexOf hca
    have hp:=h.at_uniq e2 (plc_at h hca)
    subst hp
    have hl:plc all c < all.length:=(List.getElem?_eq_some_iff.1 e2).1
    have hpl:2 ^ plc all c < 2 ^ all.length:=Nat.pow_lt_pow_right (by omega) hl
    have h14:=pow14 hN
    dsimp only
    rw [e1,zaa,zbs,zaa,shl64 (by omega),or64 (by omega) (by omega)]
    refine ⟨_,rfl,?_⟩
    rw [List.take_add_one,hc,Option.toList_some,List.foldl_append]
    exact ⟨rfl,Nat.or_lt_two_pow hb hpl⟩
  · rintro s ⟨rfl,hb⟩
    rw [List.take_length]
    exact ⟨_,rfl,rfl⟩
 obtain ⟨r,e,rfl⟩:=main
 exact e
structure Num (F:Cnf) (all:List (List Int)) (sp:Nat) (L:List Int):Prop where
 len:L.length=2 ^ all.length
 ch:∀ (v:Nat) t,L[v]?=some t→(t < 0∧∀ k,¬ Way (Eb F all sp) (srcB all sp) k v)∨∃ k:Nat,t=(k:Int)∧Dis (Eb F all sp) (srcB all sp) k v
open Classical in
theorem Num.at {F:Cnf} {all:List (List Int)} {sp:Nat} {L:List Int} (h:Num F all sp L) {v:Nat} (hv:v < 2 ^ all.length) (k:Nat):∃ t,ix L (v:Int)=some t∧(t == (k:Int))=decide (Dis (Eb F all sp) (srcB all sp) k v):=by
 have hl:v < L.length:=by rw [h.len];exact hv
 have ht:L[v]?=some L[v]:=List.getElem?_eq_getElem hl
 refine ⟨L[v],zai ht,?_⟩
 rw [Bool.eq_iff_iff,beq_iff_eq,decide_eq_true_iff]
 rcases h.ch v _ ht with ⟨g1,g2⟩|⟨m,g1,g2⟩
 · exact ⟨fun e=>by omega,fun e=>absurd e.1 (g2 k)⟩
 · constructor
   · intro e
     have:m=k:=by omega
     rw [← this];exact g2
   · intro e
     rw [g1,g2.uniq e]
open Classical in
noncomputable def qB (F:Cnf) (all:List (List Int)) (sp:Nat) (now:List (List Int)) (k:Nat) (s:zab):Bool:=(nxt F now s).2 && decide (Dis (Eb F all sp) (srcB all sp) k (mskN all (nxt F now s).1))
def optA (F:Cnf):List zab:=(List.range F.clauses.length).map fun (a:Nat)=>⟨1,(a:Int),0,0⟩
def optV (F:Cnf) (a b:Nat):List zab:=(List.range F.vars.toNat).map fun (v:Nat)=>⟨2,(a:Int),(b:Int),((v + 1:Nat):Int)⟩
def optR (F:Cnf) (n:Nat):List zab:=(List.range n).flatMap fun a=>(List.range n).flatMap fun b=>optV F a b
def optF (n:Nat):List zab:=(List.range n).map fun (a:Nat)=>⟨3,(a:Int),0,0⟩
def optL (F:Cnf) (n:Nat):List zab:=optA F++(optR F n++optF n)
noncomputable def stepR (F:Cnf) (all:List (List Int)) (sp k:Nat) (st:List zab×List (List Int)):List zab×List (List Int) :=
 match (optL F st.2.length).find? (qB F all sp st.2 k) with
 | some s=>(st.1++[s],(nxt F st.2 s).1)
 | none=>st
noncomputable def runR (F:Cnf) (all:List (List Int)) (sp:Nat):Nat→List zab×List (List Int)→List zab×List (List Int)
 | 0,st=>st
 | k + 1,st=>runR F all sp k (stepR F all sp k st)
theorem stepR_CA {F:Cnf} {all:List (List Int)} (h:DA F all) {sp k:Nat} {st:List zab×List (List Int)} (hc:CA all st.2):CA all (stepR F all sp k st).2∧(stepR F all sp k st).1.length≤st.1.length + 1:=by
 unfold stepR
 split
 · rename_i s e
   have:=List.find?_some e
   unfold qB at this
   rw [Bool.and_eq_true] at this
   exact ⟨nxt_CA h hc this.1,by simp⟩
 · exact ⟨hc,by omega⟩
theorem zdD {α:Type} {f:Nat→List α} {n:Nat}:(List.range (n + 1)).flatMap f=(List.range n).flatMap f++f n:=by rw [List.range_succ,List.flatMap_append];simp
theorem zdE {α:Type} {f:Nat→α} {n:Nat}:(List.range (n + 1)).map f=(List.range n).map f++[f n]:=by rw [List.range_succ,List.map_append];rfl
theorem optA_len {F:Cnf}:(optA F).length=F.clauses.length:=by simp [optA]
theorem optV_len {F:Cnf} {a b:Nat}:(optV F a b).length=F.vars.toNat:=by simp [optV]
theorem flat_len {α:Type} {f:Nat→List α} {m:Nat} (hf:∀ i,(f i).length≤m):∀ n,((List.range n).flatMap f).length≤n * m
 | 0=>by simp
 | n + 1=>by
  rw [zdD,List.length_append,Nat.succ_mul]
  have:=flat_len hf n
  have:=hf n
  omega
theorem options_eq {F:Cnf} {all now:List (List Int)} (h:DA F all) (hN:all.length≤14) (hc:CA all now):zca F now=some (optL F now.length):=by
 have hFl:=h.nar.len
 have hv0:=h.nar.v0
 have hv6:=h.nar.le
 have hn:now.length≤14:=by have:=(hc.cfg h).len;omega
 have lA:=optA_len (F:=F)
 have lB:∀ a n,n≤14→((List.range n).flatMap fun b=>optV F a b).length≤84:=fun a n hn=>by
  have:=flat_len (f:=fun b=>optV F a b) (m:=6) (fun b=>by rw [optV_len];omega) n
  omega
 have lR:∀ m n,m≤14→n≤14→((List.range m).flatMap fun a=>(List.range n).flatMap fun b=>optV F a b).length≤1176:=fun m n hm hn=>by
  have:=flat_len (f:=fun a=>(List.range n).flatMap fun b=>optV F a b) (m:=84) (fun a=>lB a n hn) m
  omega
 have main:∃ r,zca F now=some r∧r=optL F now.length:=by
  unfold zca
  refine cnt_m (σ:=List zab) (fun s i=>(s,i)) (n:=F.clauses.length) (a:=0) (s0:=[]) (fun i s=>s=(List.range i).map fun (a:Nat)=>(⟨1,(a:Int),0,0⟩:zab)) rfl (by omega) rfl ?_ ?_ ?_
  · rintro i s - hi rfl
    left
    dsimp only
    rw [cT (by rw [zah];omega),za6 (by simp;omega),zaa,wr_s (by omega) (by omega)]
    exact ⟨_,rfl,zdE.symm⟩
  · rintro s rfl
    dsimp only
    rw [cF (by rw [zah];omega)]
  · rintro s rfl
    dsimp only
    refine zaA (fun a s=>s=optA F++(List.range a).flatMap fun a=>(List.range now.length).flatMap fun b=>optV F a b) (by simp [optA]) ?_ ?_
    · rintro a x s hx rfl
      left
      have ha:=(List.getElem?_eq_some_iff.1 hx).1
      refine nx_of' ?_
      refine zaA (fun b s=>s=optA F++((List.range a).flatMap fun a=>(List.range now.length).flatMap fun b=>optV F a b)++(List.range b).flatMap fun b=>optV F a b) (by simp) ?_ ?_
      · rintro b y s hy rfl
        left
        have hb:=(List.getElem?_eq_some_iff.1 hy).1
        refine nx_of' ?_
        refine cnt_m (σ:=List zab) (fun s i=>(s,i)) (n:=F.vars.toNat + 1) (a:=1) (fun v s=>s=optA F++((List.range a).flatMap fun a=>(List.range now.length).flatMap fun b=>optV F a b)++((List.range b).flatMap fun b=>optV F a b)++(List.range (v - 1)).map fun (v:Nat)=>(⟨2,(a:Int),(b:Int),((v + 1:Nat):Int)⟩:zab)) rfl (by omega) (by simp) ?_ ?_ ?_
        · rintro v s v1 v2 rfl
          left
          dsimp only
          have q1:=lR a now.length (by omega) hn
          have q2:=lB a b (by omega)
          rw [cT (by omega),za6 (by simp only [List.length_append,List.length_map,List.length_range,List.length_singleton];omega),zaa,wr_s (by omega) (by omega)]
          refine ⟨_,rfl,?_⟩
          obtain ⟨u,rfl⟩:∃ u,v=u + 1:=⟨v - 1,by omega⟩
          rw [Nat.add_sub_cancel,Nat.add_sub_cancel,zdE,List.append_assoc]
        · rintro s rfl
          dsimp only
          rw [cF (by omega)]
        · rintro s rfl
          refine ⟨_,rfl,_,rfl,?_⟩
          dsimp only
          rw [zdD,← List.append_assoc];rfl
      · rintro s rfl
        refine ⟨_,rfl,_,rfl,?_⟩
        rw [zdD,List.append_assoc]
    · rintro s rfl
      refine zaA (fun i s=>s=optA F++optR F now.length++(List.range i).map fun (a:Nat)=>(⟨3,(a:Int),0,0⟩:zab)) (by simp [optR]) ?_ ?_
      · rintro i x s hx rfl
        left
        have hi:=(List.getElem?_eq_some_iff.1 hx).1
        have q1:=lR now.length now.length hn hn
        rw [za6 (by simp only [List.length_append,List.length_map,List.length_range,List.length_singleton,optR];omega),zaa]
        exact ⟨_,rfl,by rw [zdE,List.append_assoc]⟩
      · rintro s rfl
        exact ⟨_,rfl,by unfold optL optF;rw [List.append_assoc]⟩
 obtain ⟨r,e,rfl⟩:=main
 exact e
theorem optL_ok {F:Cnf} {n:Nat} (hF:F.clauses.length≤60) (hv:F.vars≤6) (hn:n≤14):∀ s∈optL F n,zd9 s:=by
 intro s hs
 unfold optL at hs
 rw [List.mem_append,List.mem_append] at hs
 unfold zd9 okI
 rcases hs with hs|hs|hs
 · obtain ⟨a,ha,rfl⟩:=List.mem_map.1 hs
   have:=List.mem_range.1 ha
   dsimp only;omega
 · obtain ⟨a,ha,hs⟩:=List.mem_flatMap.1 hs
   obtain ⟨b,hb,hs⟩:=List.mem_flatMap.1 hs
   obtain ⟨v,hv',rfl⟩:=List.mem_map.1 hs
   have:=List.mem_range.1 ha
   have:=List.mem_range.1 hb
   have:=List.mem_range.1 hv'
   dsimp only;omega
 · obtain ⟨a,ha,rfl⟩:=List.mem_map.1 hs
   have:=List.mem_range.1 ha
   dsimp only;omega
theorem optL_len {F:Cnf} {n:Nat} (hF:F.clauses.length≤60) (hv:F.vars≤6) (hn:n≤14):(optL F n).length≤2000:=by
 have l1:∀ a,((List.range n).flatMap fun b=>optV F a b).length≤84:=fun a=>by
  have:=flat_len (f:=fun b=>optV F a b) (m:=6) (fun b=>by rw [optV_len];omega) n
  omega
 have:=flat_len (f:=fun a=>(List.range n).flatMap fun b=>optV F a b) (m:=84) l1 n
 unfold optL optR optF
 rw [List.length_append,List.length_append,optA_len,List.length_map,List.length_range]
 omega
end Go.PF
namespace Go.PF
open Go.Pu
theorem find_hit {α:Type} {L:List α} {q:α→Bool} {i:Nat} {x:α} (h:(L.take i).find? q=none) (hx:L[i]?=some x) (hq:q x=true):L.find? q=some x:=by
 conv=>lhs;rw [← List.take_append_drop i L]
 rw [List.find?_append,h,List.drop_eq_getElem_cons (List.getElem?_eq_some_iff.1 hx).1,(List.getElem?_eq_some_iff.1 hx).2,List.find?_cons,hq];rfl
theorem find_nxt {α:Type} {L:List α} {q:α→Bool} {i:Nat} {x:α} (h:(L.take i).find? q=none) (hx:L[i]?=some x) (hq:q x=false):(L.take (i + 1)).find? q=none:=by
 rw [List.take_add_one,hx,Option.toList_some,List.find?_append,h,List.find?_cons,hq];rfl
theorem zdF {F:Cnf} {all:List (List Int)} {sp k:Nat} {st:List zab×List (List Int)} {s:zab} (h:(optL F st.2.length).find? (qB F all sp st.2 k)=some s):stepR F all sp k st=(st.1++[s],(nxt F st.2 s).1):=by unfold stepR;rw [h]
theorem stepR_none {F:Cnf} {all:List (List Int)} {sp k:Nat} {st:List zab×List (List Int)} (h:(optL F st.2.length).find? (qB F all sp st.2 k)=none):stepR F all sp k st=st:=by unfold stepR;rw [h]
theorem ref_run {F:Cnf} {all:List (List Int)} (h:DA F all) (hN:all.length≤14) {sp:Nat} {far:List Int} (hL:Num F all sp far) (k0:Nat) (hk0:k0≤1000) :
 ∃ r,bdR (iter (S:=((List zab)×(List (List Int))×Int)) (X:=Empty) (fun s121=>(bif (decide (0 < s121.2.2)) then bd (PF.zca F s121.2.1) (fun r48292=>bdR (iter (S:=((List zab)×(List (List Int))×Int)) (X:=Empty) (fun s48302=>(bif (decide (s48302.2.2 < (len r48292))) then bd (ix r48292 s48302.2.2) (fun x111428=>bd (PF.zcy F s48302.2.1 x111428) (fun r117422=>bd (bif r117422.2.2 then bd (PF.zbV all r117422.1) (fun r144460=>bd (ix far r144460) (fun x144471=>some (x144471 == (wr (s121.2.2 - 1))))) else some false) (fun t144453=>(bif t144453 then bd (ix r48292 s48302.2.2) (fun x144490=>bd (app s48302.1 [x144490]) (fun xs144497=>some (Lp.bk (xs144497,r117422.1,s48302.2.2)))) else some (Lp.nx (s48302.1,s48302.2.1,(wr (s48302.2.2 + 1)))))))) else some (Lp.bk (s48302.1,s48302.2.1,s48302.2.2)))) (s121.1,s121.2.1,0)) (fun s48302=>some (Lp.nx (s48302.1,s48302.2.1,(wr (s121.2.2 - 1))))) (fun x48302=>nomatch x48302)) else some (Lp.bk (s121.1,s121.2.1,s121.2.2)))) ([],[],((k0:Nat):Int))) (fun s121=>some (s121.1,true)) (fun x121=>nomatch x121)=some r∧r=((runR F all sp k0 ([],[])).1,true):=by
 have hFl:=h.nar.len
 have hv6:=h.nar.le
 refine iter_g (G:=Nat) (fun k s=>∃ o c,s=(o,c,((k:Nat):Int))∧CA all c∧o.length + k≤1000∧runR F all sp k (o,c)=runR F all sp k0 ([],[])) (fun k=>k) (g0:=k0) ⟨[],[],rfl,.nil,by simpa using hk0,rfl⟩ ?_
 rintro k s ⟨o,c,rfl,hc,hl,hr⟩
 dsimp only
 cases k with
 | zero =>
  right
  rw [cF (by omega)]
  refine ⟨_,rfl,_,rfl,?_⟩
  rw [← hr];rfl
 | succ k =>
  left
  have hn:c.length≤14:=by have:=(hc.cfg h).len;omega
  have hol:=optL_len (F:=F) hFl hv6 hn
  rw [cT (by omega),options_eq h hN hc,zaa,wr_s (by omega) (by omega)]
  have hkk:((k + 1:Nat):Int) - 1=(k:Int):=by omega
  rw [hkk]
  refine nx_of' ?_
  have fin:∀ (st:List zab×List (List Int)),st=stepR F all sp k (o,c)→∃ s',(Lp.nx (X:=Empty) (st.1,st.2,(k:Int)))=Lp.nx s'∧∃ g',(∃ o c,s'=(o,c,((g':Nat):Int))∧CA all c∧o.length + g'≤1000∧runR F all sp g' (o,c)=runR F all sp k0 ([],[]))∧g' < k + 1:=by
   rintro st rfl
   obtain ⟨c1,c2⟩:=stepR_CA h (sp:=sp) (k:=k) (st:=(o,c)) hc
   exact ⟨_,rfl,k,⟨_,_,rfl,c1,by dsimp only at c2;omega,hr⟩,by omega⟩
  refine iter_g (G:=Nat) (fun i s=>s=(o,c,((i:Nat):Int))∧i≤(optL F c.length).length∧((optL F c.length).take i).find? (qB F all sp c k)=none) (fun i=>(optL F c.length).length - i) (g0:=0) ⟨rfl,by omega,by simp⟩ ?_
  rintro i s ⟨rfl,hi,hf⟩
  dsimp only
  by_cases hlt:i < (optL F c.length).length
  · have hx:(optL F c.length)[i]?=some (optL F c.length)[i]:=List.getElem?_eq_getElem hlt
    have hok:=optL_ok hFl hv6 hn _ (List.mem_of_getElem? hx)
    generalize (optL F c.length)[i]=x at hx hok
    obtain ⟨r,e1,e2,e3⟩:=spec_l15Step_eq h.nar.cnf (hc.cfg h) (by omega) hok
    rw [cT (by rw [zah];omega),zai hx,zaa,e1,zaa,e2]
    have hq:∃ t,(bif (nxt F c x).2 then bd (PF.zbV all r.1) (fun r144460=>bd (ix far r144460) (fun x144471=>some (x144471 == (k:Int)))) else some false)=some t∧t=qB F all sp c k x:=by
     cases hnx:(nxt F c x).2 with
     | false=>exact ⟨false,rfl,by unfold qB;rw [hnx];rfl⟩
     | true =>
      rw [cond_true,(e3 hnx).1]
      obtain ⟨m1,m2⟩:=spec_mask_eq h hN (nxt_CA h hc hnx).sub
      obtain ⟨t,t1,t2⟩:=hL.at m2 k
      rw [m1,zaa,t1,zaa]
      exact ⟨_,rfl,by unfold qB;rw [hnx,t2];rfl⟩
    obtain ⟨t,t1,t2⟩:=hq
    rw [t1,zaa]
    cases t with
    | false =>
     left
     rw [cond_false,wr_s (by omega) (by omega)]
     exact ⟨_,rfl,i + 1,⟨rfl,by omega,find_nxt hf hx t2.symm⟩,by omega⟩
    | true =>
     right
     have hnx:(nxt F c x).2=true:=by unfold qB at t2;rw [eq_comm,Bool.and_eq_true] at t2;exact t2.1
     rw [cond_true,zaa,za6 (by simp;omega),zaa,(e3 hnx).1]
     refine ⟨_,rfl,_,rfl,fin (o++[x],(nxt F c x).1) ?_⟩
     exact (zdF (st:=(o,c)) (find_hit hf hx t2.symm)).symm
  · right
    rw [cF (by rw [zah];omega)]
    refine ⟨_,rfl,_,rfl,fin (o,c) ?_⟩
    rw [List.take_of_length_le (by omega)] at hf
    exact (stepR_none (st:=(o,c)) hf).symm
theorem fr_next {α:Type} {f:Nat→α} {q:α→Bool} {i:Nat} (h:((List.range i).map f).find? q=none) (hq:q (f i)=false):((List.range (i + 1)).map f).find? q=none:=by
 rw [zdE,List.find?_append,h,List.find?_cons,hq];rfl
theorem fr_hit {α:Type} {f:Nat→α} {q:α→Bool} {i m:Nat} (h:((List.range i).map f).find? q=none) (hq:q (f i)=true) (hi:i < m):((List.range m).map f).find? q=some (f i):=by
 refine find_hit (i:=i) ?_ (by rw [List.getElem?_map,List.getElem?_range hi];rfl) hq
 rw [← List.map_take,List.take_range,Nat.min_eq_left (by omega)];exact h
theorem ff_next {α:Type} {f:Nat→List α} {q:α→Bool} {i:Nat} (h:((List.range i).flatMap f).find? q=none) (hq:(f i).find? q=none):((List.range (i + 1)).flatMap f).find? q=none:=by
 rw [zdD,List.find?_append,h,hq];rfl
theorem ff_hit {α:Type} {f:Nat→List α} {q:α→Bool} {i m:Nat} {y:α} (h:((List.range i).flatMap f).find? q=none) (hq:(f i).find? q=some y) (hi:i < m):((List.range m).flatMap f).find? q=some y:=by
 refine find_some (i:=i) (x:=i) (List.getElem?_range hi) ?_ hq
 rw [List.take_range,Nat.min_eq_left (by omega)];exact h
theorem try_eq {F:Cnf} {all:List (List Int)} (h:DA F all) (hN:all.length≤14) {sp:Nat} {left:List Int} (hL:Num F all sp left) {P:List (List Int)} {k:Nat} {o:List zab} {c:List (List Int)} (hc:CA all c) (ho:o.length≤1000) (s:zab) :
 bd (PF.zaV c F s) (fun r1759513=>bd (bif (!r1759513.2) then some true else bd (PF.zaN ⟨⟨F.vars,F.clauses⟩,all,P⟩ r1759513.1) (fun r1780528=>bd (ix left r1780528) (fun x1783529=>some (!(x1783529 == (k:Int)))))) (fun t1759522_12=>(bif t1759522_12 then some (o,c,true) else bd (app o [s]) (fun xs1804540=>some (xs1804540,r1759513.1,false))))) =
  some (bif qB F all sp c k s then (o++[s],(nxt F c s).1,false) else (o,c,true)):=by
 rw [zeS h.nar.cnf (hc.cfg h) (by omega),zaa]
 unfold qB
 cases hnx:(nxt F c s).2 with
 | false=>rfl
 | true =>
  obtain ⟨m1,m2⟩:=spec_mask_eq h hN (nxt_CA h hc hnx).sub
  obtain ⟨t,t1,t2⟩:=hL.at m2 k
  rw [Bool.not_true,cond_false,impl_set_eq h hN (nxt_CA h hc hnx).sub,zaa,t1,zaa,zaa,← t2,Bool.true_and]
  cases t == (k:Int) with
  | true=>rw [Bool.not_true,cond_false,za6 (by simp;omega),zaa];rfl
  | false=>rfl
end Go.PF
namespace Go.PF
open Go.Pu
theorem rest_find {F:Cnf} {n:Nat} {q:zab→Bool} (hA:(optA F).find? q=none):(optL F n).find? q=(optR F n++optF n).find? q:=by unfold optL;rw [List.find?_append,hA];rfl
theorem rest_find2 {F:Cnf} {n:Nat} {q:zab→Bool} (hA:(optA F).find? q=none) (hR:(optR F n).find? q=none):(optL F n).find? q=(optF n).find? q:=by rw [rest_find hA,List.find?_append,hR];rfl
theorem all_steps {F:Cnf} {all:List (List Int)} (h:DA F all) (hN:all.length≤14) {sp:Nat} {left:List Int} (hL:Num F all sp left) {P:List (List Int)} {k:Nat} {o:List zab} {c:List (List Int)} (hc:CA all c) (ho:o.length≤1000) :
 ∃ r,bdR (forL (S:=((List zab)×(List (List Int)))) (X:=((List zab)×(List (List Int)))) F.clauses (fun i1624267 y1624266 s1624267=>bd (β:=_) (bd (PF.zaV s1624267.2 F (zab.mk 1 ((i1624267:Nat):Int) 0 0)) (fun r1759513=>bd (bif (!r1759513.2) then some true else bd (PF.zaN ⟨⟨F.vars,F.clauses⟩,all,P⟩ r1759513.1) (fun r1780528=>bd (ix left r1780528) (fun x1783529=>some (!(x1783529 == (k:Int)))))) (fun t1759522_12=>(bif t1759522_12 then some (s1624267.1,s1624267.2,true) else bd (app s1624267.1 [(zab.mk 1 ((i1624267:Nat):Int) 0 0)]) (fun xs1804540=>some (xs1804540,r1759513.1,false))))):Option ((List zab)×(List (List Int))×Bool)) (fun s1759498=>(bif (!s1759498.2.2) then some (Lp.rt (s1759498.1,s1759498.2.1)) else some (Lp.nx (s1759498.1,s1759498.2.1))))) (o,c)) (fun s1624267=>bdR (forL (S:=((List zab)×(List (List Int)))) (X:=((List zab)×(List (List Int)))) c (fun i1804578 y1804577 s1804578=>bdR (forL (S:=((List zab)×(List (List Int)))) (X:=(Lp ((List zab)×(List (List Int))) ((List zab)×(List (List Int))))) c (fun i2165550 y2165549 s2165550=>bdR (iter (S:=((List zab)×(List (List Int))×Int)) (X:=(Lp ((List zab)×(List (List Int))) (Lp ((List zab)×(List (List Int))) ((List zab)×(List (List Int)))))) (fun s2346006=>(bif (decide (s2346006.2.2≤F.vars)) then bd (β:=_) (bd (PF.zaV s2346006.2.1 F (zab.mk 2 ((i1804578:Nat):Int) ((i2165550:Nat):Int) s2346006.2.2)) (fun r2481270=>bd (bif (!r2481270.2) then some true else bd (PF.zaN ⟨⟨F.vars,F.clauses⟩,all,P⟩ r2481270.1) (fun r2502285=>bd (ix left r2502285) (fun x2505286=>some (!(x2505286 == (k:Int)))))) (fun t2481279_12=>(bif t2481279_12 then some (s2346006.1,s2346006.2.1,true) else bd (app s2346006.1 [(zab.mk 2 ((i1804578:Nat):Int) ((i2165550:Nat):Int) s2346006.2.2)]) (fun xs2526297=>some (xs2526297,r2481270.1,false))))):Option ((List zab)×(List (List Int))×Bool)) (fun s2481255=>(bif (!s2481255.2.2) then some (Lp.rt (Lp.rt (Lp.rt (s2481255.1,s2481255.2.1)))) else some (Lp.nx (s2481255.1,s2481255.2.1,(wr (s2346006.2.2 + 1)))))) else some (Lp.bk (s2346006.1,s2346006.2.1,s2346006.2.2)))) (s2165550.1,s2165550.2,1)) (fun s2346006=>some (Lp.nx (s2346006.1,s2346006.2.1))) (fun x2346006=>some x2346006)) (s1804578.1,s1804578.2)) (fun s2165550=>some (Lp.nx (s2165550.1,s2165550.2))) (fun x2165550=>some x2165550)) (s1624267.1,s1624267.2)) (fun s1804578=>bdR (forL (S:=((List zab)×(List (List Int)))) (X:=((List zab)×(List (List Int)))) c (fun i2526372 y2526371 s2526372=>bd (β:=_) (bd (PF.zaV s2526372.2 F (zab.mk 3 ((i2526372:Nat):Int) 0 0)) (fun r2661612=>bd (bif (!r2661612.2) then some true else bd (PF.zaN ⟨⟨F.vars,F.clauses⟩,all,P⟩ r2661612.1) (fun r2682627=>bd (ix left r2682627) (fun x2685628=>some (!(x2685628 == (k:Int)))))) (fun t2661621_12=>(bif t2661621_12 then some (s2526372.1,s2526372.2,true) else bd (app s2526372.1 [(zab.mk 3 ((i2526372:Nat):Int) 0 0)]) (fun xs2706639=>some (xs2706639,r2661612.1,false))))):Option ((List zab)×(List (List Int))×Bool)) (fun s2661597=>(bif (!s2661597.2.2) then some (Lp.rt (s2661597.1,s2661597.2.1)) else some (Lp.nx (s2661597.1,s2661597.2.1))))) (s1804578.1,s1804578.2)) (fun s2526372=>some (s2526372.1,s2526372.2)) (fun x2526372=>some x2526372)) (fun x1804578=>some x1804578)) (fun x1624267=>some x1624267)=some r∧r=stepR F all sp k (o,c):=by
 have hv0:=h.nar.v0
 have hv6:=h.nar.le
 have tr:=fun s=>try_eq h hN hL (P:=P) (k:=k) hc ho s
 refine zaA (fun i s=>s=(o,c)∧((List.range i).map fun (a:Nat)=>(⟨1,(a:Int),0,0⟩:zab)).find? (qB F all sp c k)=none) ⟨rfl,rfl⟩ ?_ ?_
 · rintro i x s hx ⟨rfl,hf⟩
   have hi:=(List.getElem?_eq_some_iff.1 hx).1
   dsimp only
   rw [tr,zaa]
   cases hq:qB F all sp c k ⟨1,(i:Int),0,0⟩ with
   | false=>left;exact ⟨_,rfl,rfl,fr_next hf hq⟩
   | true =>
    right
    refine ⟨_,rfl,_,rfl,?_⟩
    refine (zdF (st:=(o,c)) (s:=⟨1,(i:Int),0,0⟩) ?_).symm
    unfold optL optA
    rw [List.find?_append,fr_hit hf hq hi];rfl
 · rintro s ⟨rfl,hA⟩
   dsimp only
   refine zaA (fun a s=>s=(o,c)∧((List.range a).flatMap fun a=>(List.range c.length).flatMap fun b=>optV F a b).find? (qB F all sp c k)=none) ⟨rfl,rfl⟩ ?_ ?_
   · rintro a x s hx ⟨rfl,hfa⟩
     have ha:=(List.getElem?_eq_some_iff.1 hx).1
     dsimp only
     have one:∃ r,bdR (forL (S:=((List zab)×(List (List Int)))) (X:=(Lp ((List zab)×(List (List Int))) ((List zab)×(List (List Int))))) c (fun i2165550 y2165549 s2165550=>bdR (iter (S:=((List zab)×(List (List Int))×Int)) (X:=(Lp ((List zab)×(List (List Int))) (Lp ((List zab)×(List (List Int))) ((List zab)×(List (List Int)))))) (fun s2346006=>(bif (decide (s2346006.2.2≤F.vars)) then bd (β:=_) (bd (PF.zaV s2346006.2.1 F (zab.mk 2 ((a:Nat):Int) ((i2165550:Nat):Int) s2346006.2.2)) (fun r2481270=>bd (bif (!r2481270.2) then some true else bd (PF.zaN ⟨⟨F.vars,F.clauses⟩,all,P⟩ r2481270.1) (fun r2502285=>bd (ix left r2502285) (fun x2505286=>some (!(x2505286 == (k:Int)))))) (fun t2481279_12=>(bif t2481279_12 then some (s2346006.1,s2346006.2.1,true) else bd (app s2346006.1 [(zab.mk 2 ((a:Nat):Int) ((i2165550:Nat):Int) s2346006.2.2)]) (fun xs2526297=>some (xs2526297,r2481270.1,false))))):Option ((List zab)×(List (List Int))×Bool)) (fun s2481255=>(bif (!s2481255.2.2) then some (Lp.rt (Lp.rt (Lp.rt (s2481255.1,s2481255.2.1)))) else some (Lp.nx (s2481255.1,s2481255.2.1,(wr (s2346006.2.2 + 1)))))) else some (Lp.bk (s2346006.1,s2346006.2.1,s2346006.2.2)))) (s2165550.1,s2165550.2,1)) (fun s2346006=>some (Lp.nx (s2346006.1,s2346006.2.1))) (fun x2346006=>some x2346006)) (o,c)) (fun s2165550=>some (Lp.nx (s2165550.1,s2165550.2))) (fun x2165550=>some x2165550)=some r ∧
      ((r=Lp.nx (o,c)∧((List.range c.length).flatMap fun b=>optV F a b).find? (qB F all sp c k)=none)∨∃ y,r=Lp.rt (o++[y],(nxt F c y).1)∧((List.range c.length).flatMap fun b=>optV F a b).find? (qB F all sp c k)=some y):=by
      refine zaA (fun b s=>s=(o,c)∧((List.range b).flatMap fun b=>optV F a b).find? (qB F all sp c k)=none) ⟨rfl,rfl⟩ ?_ ?_
      · rintro b x s hx ⟨rfl,hfb⟩
        have hb:=(List.getElem?_eq_some_iff.1 hx).1
        dsimp only
        have two:∃ r,bdR (iter (S:=((List zab)×(List (List Int))×Int)) (X:=(Lp ((List zab)×(List (List Int))) (Lp ((List zab)×(List (List Int))) ((List zab)×(List (List Int)))))) (fun s2346006=>(bif (decide (s2346006.2.2≤F.vars)) then bd (β:=_) (bd (PF.zaV s2346006.2.1 F (zab.mk 2 ((a:Nat):Int) ((b:Nat):Int) s2346006.2.2)) (fun r2481270=>bd (bif (!r2481270.2) then some true else bd (PF.zaN ⟨⟨F.vars,F.clauses⟩,all,P⟩ r2481270.1) (fun r2502285=>bd (ix left r2502285) (fun x2505286=>some (!(x2505286 == (k:Int)))))) (fun t2481279_12=>(bif t2481279_12 then some (s2346006.1,s2346006.2.1,true) else bd (app s2346006.1 [(zab.mk 2 ((a:Nat):Int) ((b:Nat):Int) s2346006.2.2)]) (fun xs2526297=>some (xs2526297,r2481270.1,false))))):Option ((List zab)×(List (List Int))×Bool)) (fun s2481255=>(bif (!s2481255.2.2) then some (Lp.rt (Lp.rt (Lp.rt (s2481255.1,s2481255.2.1)))) else some (Lp.nx (s2481255.1,s2481255.2.1,(wr (s2346006.2.2 + 1)))))) else some (Lp.bk (s2346006.1,s2346006.2.1,s2346006.2.2)))) (o,c,1)) (fun s2346006=>some (Lp.nx (s2346006.1,s2346006.2.1))) (fun x2346006=>some x2346006)=some r ∧
         ((r=Lp.nx (o,c)∧(optV F a b).find? (qB F all sp c k)=none)∨∃ y,r=Lp.rt (Lp.rt (o++[y],(nxt F c y).1))∧(optV F a b).find? (qB F all sp c k)=some y):=by
         refine cnt_m (σ:=List zab×List (List Int)) (fun s v=>(s.1,s.2,v)) (n:=F.vars.toNat + 1) (a:=1) (s0:=(o,c)) (fun v s=>s=(o,c)∧((List.range (v - 1)).map fun (v:Nat)=>(⟨2,(a:Int),(b:Int),((v + 1:Nat):Int)⟩:zab)).find? (qB F all sp c k)=none) rfl (by omega) ⟨rfl,rfl⟩ ?_ ?_ ?_
         · rintro v s v1 v2 ⟨rfl,hf⟩
           dsimp only
           obtain ⟨u,rfl⟩:∃ u,v=u + 1:=⟨v - 1,by omega⟩
           rw [Nat.add_sub_cancel] at hf
           rw [cT (by omega),tr,zaa,wr_s (by omega) (by omega)]
           cases hq:qB F all sp c k ⟨2,(a:Int),(b:Int),((u + 1:Nat):Int)⟩ with
           | false =>
            left
            refine ⟨(o,c),rfl,rfl,?_⟩
            rw [Nat.add_sub_cancel]
            exact fr_next hf hq
           | true =>
            right
            exact ⟨_,rfl,_,rfl,.inr ⟨_,rfl,fr_hit hf hq (by omega)⟩⟩
         · rintro s ⟨rfl,hf⟩
           dsimp only
           rw [cF (by omega)]
         · rintro s ⟨rfl,hf⟩
           exact ⟨_,rfl,.inl ⟨rfl,hf⟩⟩
        obtain ⟨r,er,hr⟩:=two
        rcases hr with ⟨rfl,hr⟩|⟨y,rfl,hr⟩
        · left;exact ⟨_,er,rfl,ff_next hfb hr⟩
        · right;exact ⟨_,er,_,rfl,.inr ⟨y,rfl,ff_hit hfb hr hb⟩⟩
      · rintro s ⟨rfl,hf⟩
        exact ⟨_,rfl,.inl ⟨rfl,hf⟩⟩
     obtain ⟨r,er,hr⟩:=one
     rcases hr with ⟨rfl,hr⟩|⟨y,rfl,hr⟩
     · left;exact ⟨_,er,rfl,ff_next hfa hr⟩
     · right
       refine ⟨_,er,_,rfl,(zdF (st:=(o,c)) (s:=y) ?_).symm⟩
       rw [rest_find hA]
       unfold optR
       rw [List.find?_append,ff_hit hfa hr ha];rfl
   · rintro s ⟨rfl,hR⟩
     dsimp only
     refine zaA (fun i s=>s=(o,c)∧((List.range i).map fun (a:Nat)=>(⟨3,(a:Int),0,0⟩:zab)).find? (qB F all sp c k)=none) ⟨rfl,rfl⟩ ?_ ?_
     · rintro i x s hx ⟨rfl,hf⟩
       have hi:=(List.getElem?_eq_some_iff.1 hx).1
       dsimp only
       rw [tr,zaa]
       cases hq:qB F all sp c k ⟨3,(i:Int),0,0⟩ with
       | false=>left;exact ⟨_,rfl,rfl,fr_next hf hq⟩
       | true =>
        right
        refine ⟨_,rfl,_,rfl,?_⟩
        refine (zdF (st:=(o,c)) (s:=⟨3,(i:Int),0,0⟩) ?_).symm
        rw [rest_find2 hA hR]
        exact fr_hit hf hq hi
     · rintro s ⟨rfl,hF⟩
       refine ⟨_,rfl,(stepR_none (st:=(o,c)) ?_).symm⟩
       rw [rest_find2 hA hR];exact hF
theorem impl_time {F:Cnf} (hF:okCnf F) (s:Int):(∃ all sp k,DA F all∧all.length≤14∧s=((sp:Nat):Int)∧Lst F all sp k∧1≤sp∧sp≤14∧zcg F s=some (((k:Nat):Int),true)) ∨
 (zcg F s=some (0,false)∧((zbJ F=some ([],false))∨∃ all,DA F all∧zbJ F=some (all,decide (len all≤14))∧(len all≤14→inB s 1 14=true→∀ sp:Nat,s=(sp:Int)→∀ k,¬ Short F all sp k))):=by
 unfold zcg
 rcases der_eq hF with ⟨e1,e2⟩|⟨all,hD,e1,e2⟩
 · rw [e2,zaa]
   exact .inr ⟨rfl,.inl e1⟩
 · rw [e2,zaa,zbP]
   dsimp only
   by_cases hN:len all≤14
   · rw [decide_eq_true hN,Bool.not_true,cond_false]
     have hN':all.length≤14:=by rw [zah] at hN;omega
     cases hs:inB s 1 14
     · rw [Bool.not_false,cond_true]
       exact .inr ⟨rfl,.inr ⟨all,hD,by rw [e1,decide_eq_true hN],fun _ g=>by cases g⟩⟩
     · rw [Bool.not_true,cond_false]
       have hs':=zaR.1 hs
       obtain ⟨sp,rfl⟩:∃ sp:Nat,s=(sp:Int):=⟨s.toNat,by omega⟩
       obtain ⟨P,g1,g2⟩:=spacesOf_eq hD hN'
       obtain ⟨out,t,g3,g4,g5⟩:=left0_eq hD hN' g2 sp
       rw [g1,zaa,zaa,g3,zaa,g4,zaa,zbP]
       rcases g5 with ⟨t1,t2⟩|⟨m,rfl,t1⟩
       · rw [show inB t 0 300=false by rw [Bool.eq_false_iff];intro e;have:=zaR.1 e;omega,Bool.not_false,cond_true]
         refine .inr ⟨rfl,.inr ⟨all,hD,by rw [e1,decide_eq_true hN],fun _ _ sp' e=>?_⟩⟩
         obtain rfl:sp=sp':=by omega
         exact t2
       · have:=t1.le hD hN'
         rw [show inB (m:Int) 0 300=true from zaR.2 ⟨by omega,by omega⟩,Bool.not_true,cond_false]
         exact .inl ⟨all,sp,m,hD,hN',rfl,t1,by omega,by omega,rfl⟩
   · rw [decide_eq_false hN,Bool.not_false,cond_true,cond_true]
     exact .inr ⟨rfl,.inr ⟨all,hD,by rw [e1,decide_eq_false hN],fun g=>absurd g hN⟩⟩
theorem DA.uniq {F:Cnf} {a b:List (List Int)} (h:DA F a) (h':DA F b):a=b:=srt_ext h.srt h'.srt fun x=>(h.mem x).trans (h'.mem x).symm
theorem short_run_eq {F:Cnf} (hF:okCnf F) (s:Int):∃ q,zdd F s=some q∧zcL F s=some q∧q.1.length≤1000:=by
 unfold zdd zcL
 rcases impl_time hF s with ⟨all,sp,k,hD,hN,rfl,hk,s1,s2,e⟩|⟨e,hsp⟩
 · rw [e,zaa]
   dsimp only
   rw [Bool.not_true,cond_false]
   obtain ⟨e1,e2⟩:zbJ F=some (all,true)∧zbY F=some (all,true):=by
    rcases der_eq hF with ⟨_,d2⟩|⟨all',hD',d1,d2⟩
    · exfalso
      unfold zcg at e
      rw [d2,zaa] at e
      cases e
    · obtain rfl:=hD.uniq hD'
      rw [decide_eq_true (show len all≤14 by rw [zah];omega)] at d1 d2
      exact ⟨d1,d2⟩
   have h0:=hk.1.1
   obtain ⟨b,eb,hb⟩:=empty_eq all
   have:=hb.2 h0
   subst this
   obtain ⟨far,f1,f2,f3⟩:=far_eq hD hN h0 sp
   have hFar:Num F all sp far:=⟨f2,f3⟩
   obtain ⟨P,g1,g2⟩:=spacesOf_eq hD hN
   obtain ⟨left,l1,l2,l3⟩:=left_eq hD hN g2 sp
   have hLeft:Num F all sp left:=⟨l2,l3⟩
   have hk3:=hk.le hD hN
   have f0:ix far 0=some ((k:Nat):Int):=by
    have hpos:0 < far.length:=by rw [f2];exact Nat.two_pow_pos _
    have ht:far[0]?=some far[0]:=List.getElem?_eq_getElem hpos
    have:far[0]=(k:Int):=by
     rcases f3 0 _ ht with ⟨_,g⟩|⟨m,g,d⟩
     · exact absurd (zb6.2 hk.1) (g k)
     · have:Lst F all sp m:=⟨zb6.1 d.1,fun k' g=>d.2 k' (zb6.2 g)⟩
       rw [g,this.uniq hk]
    have h1:=zai ht
    rw [this] at h1
    exact h1
   rw [e1,e2,zaa,zaa,zcT,zaR.2 ⟨by omega,by omega⟩]
   simp only [Bool.not_true,cond_false]
   rw [eb,zaa,Bool.not_true,zaa,cond_false,f1,zaa,f0,zaa,cF (by omega),zaa,g1,zaa,zaa,l1,zaa]
   obtain ⟨r1,er1,hr1⟩:=ref_run hD hN hFar k (by omega)
   have himp:∃ r,bdR (iter (S:=((List zab)×Int×(List (List Int)))) (X:=Empty) (fun s129=>(bif (decide (0 < s129.2.1)) then bd (β:=_) (bdR (forL (S:=((List zab)×(List (List Int)))) (X:=((List zab)×(List (List Int)))) F.clauses (fun i1624267 y1624266 s1624267=>bd (β:=_) (bd (PF.zaV s1624267.2 F (zab.mk 1 ((i1624267:Nat):Int) 0 0)) (fun r1759513=>bd (bif (!r1759513.2) then some true else bd (PF.zaN ⟨⟨F.vars,F.clauses⟩,all,P⟩ r1759513.1) (fun r1780528=>bd (ix left r1780528) (fun x1783529=>some (!(x1783529 == (wr (s129.2.1 - 1))))))) (fun t1759522_12=>(bif t1759522_12 then some (s1624267.1,s1624267.2,true) else bd (app s1624267.1 [(zab.mk 1 ((i1624267:Nat):Int) 0 0)]) (fun xs1804540=>some (xs1804540,r1759513.1,false))))):Option ((List zab)×(List (List Int))×Bool)) (fun s1759498=>(bif (!s1759498.2.2) then some (Lp.rt (s1759498.1,s1759498.2.1)) else some (Lp.nx (s1759498.1,s1759498.2.1))))) (s129.1,s129.2.2)) (fun s1624267=>bdR (forL (S:=((List zab)×(List (List Int)))) (X:=((List zab)×(List (List Int)))) s129.2.2 (fun i1804578 y1804577 s1804578=>bdR (forL (S:=((List zab)×(List (List Int)))) (X:=(Lp ((List zab)×(List (List Int))) ((List zab)×(List (List Int))))) s129.2.2 (fun i2165550 y2165549 s2165550=>bdR (iter (S:=((List zab)×(List (List Int))×Int)) (X:=(Lp ((List zab)×(List (List Int))) (Lp ((List zab)×(List (List Int))) ((List zab)×(List (List Int)))))) (fun s2346006=>(bif (decide (s2346006.2.2≤F.vars)) then bd (β:=_) (bd (PF.zaV s2346006.2.1 F (zab.mk 2 ((i1804578:Nat):Int) ((i2165550:Nat):Int) s2346006.2.2)) (fun r2481270=>bd (bif (!r2481270.2) then some true else bd (PF.zaN ⟨⟨F.vars,F.clauses⟩,all,P⟩ r2481270.1) (fun r2502285=>bd (ix left r2502285) (fun x2505286=>some (!(x2505286 == (wr (s129.2.1 - 1))))))) (fun t2481279_12=>(bif t2481279_12 then some (s2346006.1,s2346006.2.1,true) else bd (app s2346006.1 [(zab.mk 2 ((i1804578:Nat):Int) ((i2165550:Nat):Int) s2346006.2.2)]) (fun xs2526297=>some (xs2526297,r2481270.1,false))))):Option ((List zab)×(List (List Int))×Bool)) (fun s2481255=>(bif (!s2481255.2.2) then some (Lp.rt (Lp.rt (Lp.rt (s2481255.1,s2481255.2.1)))) else some (Lp.nx (s2481255.1,s2481255.2.1,(wr (s2346006.2.2 + 1)))))) else some (Lp.bk (s2346006.1,s2346006.2.1,s2346006.2.2)))) (s2165550.1,s2165550.2,1)) (fun s2346006=>some (Lp.nx (s2346006.1,s2346006.2.1))) (fun x2346006=>some x2346006)) (s1804578.1,s1804578.2)) (fun s2165550=>some (Lp.nx (s2165550.1,s2165550.2))) (fun x2165550=>some x2165550)) (s1624267.1,s1624267.2)) (fun s1804578=>bdR (forL (S:=((List zab)×(List (List Int)))) (X:=((List zab)×(List (List Int)))) s129.2.2 (fun i2526372 y2526371 s2526372=>bd (β:=_) (bd (PF.zaV s2526372.2 F (zab.mk 3 ((i2526372:Nat):Int) 0 0)) (fun r2661612=>bd (bif (!r2661612.2) then some true else bd (PF.zaN ⟨⟨F.vars,F.clauses⟩,all,P⟩ r2661612.1) (fun r2682627=>bd (ix left r2682627) (fun x2685628=>some (!(x2685628 == (wr (s129.2.1 - 1))))))) (fun t2661621_12=>(bif t2661621_12 then some (s2526372.1,s2526372.2,true) else bd (app s2526372.1 [(zab.mk 3 ((i2526372:Nat):Int) 0 0)]) (fun xs2706639=>some (xs2706639,r2661612.1,false))))):Option ((List zab)×(List (List Int))×Bool)) (fun s2661597=>(bif (!s2661597.2.2) then some (Lp.rt (s2661597.1,s2661597.2.1)) else some (Lp.nx (s2661597.1,s2661597.2.1))))) (s1804578.1,s1804578.2)) (fun s2526372=>some (s2526372.1,s2526372.2)) (fun x2526372=>some x2526372)) (fun x1804578=>some x1804578)) (fun x1624267=>some x1624267):Option ((List zab)×(List (List Int)))) (fun s1624251=>some (Lp.nx (s1624251.1,(wr (s129.2.1 - 1)),s1624251.2))) else some (Lp.bk (s129.1,s129.2.1,s129.2.2)))) ([],((k:Nat):Int),[])) (fun s129=>some (s129.1,true)) (fun x129=>nomatch x129)=some r∧(r=((runR F all sp k ([],[])).1,true)∧r.1.length≤1000):=by
    refine iter_g (G:=Nat) (fun g s=>∃ o c,s=(o,((g:Nat):Int),c)∧CA all c∧o.length + g≤1000∧runR F all sp g (o,c)=runR F all sp k ([],[])) (fun g=>g) (g0:=k) ⟨[],[],rfl,.nil,by simp;omega,rfl⟩ ?_
    rintro g s ⟨o,c,rfl,hc,hl,hr⟩
    dsimp only
    cases g with
    | zero =>
     right
     rw [cF (by omega)]
     refine ⟨_,rfl,_,rfl,?_,by dsimp only;omega⟩
     rw [← hr];rfl
    | succ g =>
     left
     rw [cT (by omega),wr_s (by omega) (by omega),show ((g + 1:Nat):Int) - 1=(g:Int) by omega]
     obtain ⟨st,est,hst⟩:=all_steps hD hN hLeft (P:=P) (k:=g) (o:=o) (c:=c) hc (by omega)
     refine nx_of' (bd_ex (Q:=fun st=>st=stepR F all sp g (o,c)) ⟨st,est,hst⟩ ?_)
     rintro _ rfl
     obtain ⟨c1,c2⟩:=stepR_CA hD (sp:=sp) (k:=g) (st:=(o,c)) hc
     exact ⟨_,rfl,_,rfl,g,⟨_,_,rfl,c1,by dsimp only at c2;omega,hr⟩,by omega⟩
   obtain ⟨r2,er2,hr2,hl2⟩:=himp
   refine ⟨r2,?_,er2,hl2⟩
   rw [hr2,← hr1]
   exact er1
 · rw [e,zaa]
   dsimp only
   rw [Bool.not_false,cond_true]
   refine ⟨([],false),?_,rfl,by simp⟩
   rcases hsp with e1|⟨all,hD,e1,hno⟩
   · rw [e1,zaa];rfl
   · rw [e1,zaa,zcT]
     dsimp only
     by_cases hN:len all≤14
     · rw [decide_eq_true hN,Bool.not_true,cond_false]
       cases hs:inB s 1 14
       · simp only [Bool.not_false,cond_true,zaa]
       · rw [Bool.not_true,cond_false]
         have hs':=zaR.1 hs
         have hN':all.length≤14:=by rw [zah] at hN;omega
         obtain ⟨sp,rfl⟩:∃ sp:Nat,s=(sp:Int):=⟨s.toNat,by omega⟩
         obtain ⟨b,eb,hb⟩:=empty_eq all
         rw [eb,zaa]
         cases b with
         | false=>rw [Bool.not_false,zaa,cond_true]
         | true =>
          obtain ⟨far,f1,f2,f3⟩:=far_eq hD hN' (hb.1 rfl) sp
          have hpos:0 < far.length:=by rw [f2];exact Nat.two_pow_pos _
          have ht:far[0]?=some far[0]:=List.getElem?_eq_getElem hpos
          rw [Bool.not_true,zaa,cond_false,f1,zaa,show (0:Int)=((0:Nat):Int) from rfl,zai ht,zaa]
          rcases f3 0 _ ht with ⟨g,_⟩|⟨m,g,d⟩
          · rw [cT (by omega)]
          · exact absurd (zb6.1 d.1) (hno hN hs sp rfl m)
     · simp only [decide_eq_false hN,Bool.not_false,cond_true,zaa]
theorem held_SpaceStepS {a:List zab} {k:Int} (h0:0≤k) (h1:k + 4 * a.length≤9223372036854775807):zcO (zaW a k).1 k=some (zaW a k).2:=by
 unfold zcO forL zaW
 rw [held_list (wt:=fun _=>4) (fun y _ k h0 h1=>?_) h0 (by rw [tot_four];omega)]
 · rfl
 · have a1:wr (k + 1)=k + 1:=wr_of _ (by omega) (by omega)
   have a2:wr (k + 1 + 1)=k + 2:=by rw [wr_of _ (by omega) (by omega)];omega
   have a3:wr (k + 2 + 1)=k + 3:=by rw [wr_of _ (by omega) (by omega)];omega
   have a4:wr (k + 3 + 1)=k + 4:=by rw [wr_of _ (by omega) (by omega)];omega
   refine ⟨by simp only [a1,a2,a3,a4];rfl,fun i=>?_⟩
   simp only [a1,a2,a3,a4,BEq.rfl,Bool.not_true,cond_false]
theorem plain_ShortestRun (a0:Cnf) (a1:Int) (o0:okCnf a0) (o1:okI a1):zdS a0 a1=some true:=by
 unfold zdS
 obtain ⟨r0,q0,z0⟩:=sz_Cnf o0 (s:=1048576) (by omega) (by omega)
 rw [q0,zaa]
 by_cases n0:r0 < 0
 · simp [n0]
 simp only [n0,decide_false,cond_false]
 have t0:=to_Cnf (a:=a0) (by unfold lim;omega)
 obtain ⟨g,hs,hi,hm⟩:=short_run_eq o0 a1
 have w0:tot wIntS a0.clauses≤1048576:=by unfold wCnf wIntSS at z0;omega
 have m0:=mark_Cnf (a:=a0) (k:=1) (by omega) (by unfold big;omega)
 have mg:=mark_SpaceStepS (a:=g.1) (k:=1) (by omega) (by omega)
 have hg:=held_SpaceStepS (a:=g.1) (k:=1) (by omega) (by omega)
 have d1:decide ((zci a0 1).2 < 0)=false:=by rw [decide_eq_false_iff_not];omega
 have d2:decide ((zaW g.1 1).2 < 0)=false:=by rw [decide_eq_false_iff_not];omega
 simp only [t0,hs,hi,hg,d1,d2,zaa,eq_SpaceStepS,eq_Cnf,BEq.rfl,Bool.not_true,cond_false]
end Go.PF
