/- Helpers of the walks and plain laws. -/
import Derived.Test.YtcnboephmehppaaGreatPcPA
import Derived.Test.YtcnboephmehppaaGreatPcLB
set_option linter.unusedVariables false
namespace Go.PF
open Go.Pu
def Mk (F:Cnf) (w:Int) (a b:List Int) (v:Int) (c:List Int):Prop:=1≤v∧v≤F.vars∧(res a b v).2=true∧(res a b v).1=c∧len c≤w
def Kn (F:Cnf) (w:Int):Nat→List Int→Prop
 | 0,_=>False
 | n + 1,c=>(c∈F.clauses∧len c≤w)∨Kn F w n c∨∃ a b v,Kn F w n a∧Kn F w n b∧Mk F w a b v c
def Rk (F:Cnf) (w:Int) (n:Nat) (c:List Int):Prop:=Kn F w (n + 1) c∧¬ Kn F w n c
structure Nar (F:Cnf):Prop where
 cnf:cnfB F=true
 le:F.vars≤6
theorem Nar.ax {F:Cnf} (h:Nar F) {c:List Int} (hc:c∈F.clauses):IsS F.vars c:=by
 have:=h.cnf
 unfold cnfB at this
 simp only [Bool.and_eq_true] at this
 exact ⟨zb4.1 (List.all_eq_true.1 this.2 c hc),h.le⟩
theorem Nar.kn {F:Cnf} (h:Nar F) {w:Int}:∀ {n:Nat} {c:List Int},Kn F w n c→IsS F.vars c
 | 0,_,h'=>h'.elim
 | n + 1,c,h'=>by
  rcases h' with ⟨h1,_⟩|h1|⟨a,b,v,h1,h2,h3,h4,h5,h6,_⟩
  · exact h.ax h1
  · exact h.kn h1
  · exact ⟨h6 ▸ zbe (h.kn h1).c (h.kn h2).c h5,h.le⟩
theorem Kn.up {F:Cnf} {w:Int} {n m:Nat} (h:n≤m) {c:List Int} (hc:Kn F w n c):Kn F w m c:=by
  induction m with
  | zero => have:n=0:=by omega
            subst this;exact hc
  | succ m ih =>
    by_cases e:n=m + 1
    · subst e;exact hc
    · exact .inr (.inl (ih (by omega)))
theorem Kn.rk {F:Cnf} {w:Int}:∀ {n:Nat} {c:List Int},Kn F w n c→∃ q,q < n∧Rk F w q c
 | 0,_,h=>h.elim
 | n + 1,c,h=>by
  by_cases h':Kn F w n c
  · obtain ⟨q,h1,h2⟩:=h'.rk
    exact ⟨q,by omega,h2⟩
  · exact ⟨n,by omega,h,h'⟩
theorem Kn.stop {F:Cnf} {w:Int} {r:Nat} (h:∀ c,Kn F w (r + 1) c→Kn F w r c):∀ {n:Nat} {c:List Int},Kn F w n c→Kn F w r c
 | 0,_,h'=>h'.elim
 | n + 1,c,h'=>by
  apply h
  rcases h' with h2|h2|⟨a,b,v,h2,h3,h4⟩
  · exact .inl h2
  · exact .inr (.inl (Kn.stop h h2))
  · exact .inr (.inr ⟨a,b,v,Kn.stop h h2,Kn.stop h h3,h4⟩)
theorem Mk.ne {F:Cnf} {w:Int} (hF:Nar F) {a b:List Int} {v:Int} {c:List Int} (ha:IsS F.vars a) (hb:IsS F.vars b) (h:Mk F w a b v c):a≠b:=by
 intro e
 subst e
 obtain ⟨h1,h2,h3,h4,h5⟩:=h
 obtain ⟨m1,m2,_⟩:=(res_iff ha.c hb.c h1 h2).1.1 h3
 have:=zbu ha.c m1 m2 (by omega)
 omega
theorem Mk.hit {F:Cnf} {w:Int} {a b:List Int} {v:Int} {c:List Int} (ha:IsS F.vars a) (hb:IsS F.vars b) (h:Mk F w a b v c∨Mk F w b a v c) :
 hitM (mkN a) (mkN b)=true∧rsvM (mkN a) (mkN b)=(mkN c:Int):=by
 rcases h with ⟨h1,h2,h3,h4,h5⟩|⟨h1,h2,h3,h4,h5⟩
 · have:=rsv_left ha hb h1 h2 h3
   rw [h4] at this
   exact ⟨this.1,this.2.1⟩
 · have:=rsv_right ha hb h1 h2 h3
   rw [h4] at this
   exact this
theorem hit_mk {F:Cnf} {w:Int} (hF:Nar F) {a b:List Int} (ha:IsS F.vars a) (hb:IsS F.vars b) (h:hitM (mkN a) (mkN b)=true) :
 ∃ c,IsS F.vars c∧rsvM (mkN a) (mkN b)=(mkN c:Int)∧(len c≤w→∃ v,Mk F w a b v c∨Mk F w b a v c):=by
 obtain ⟨v,h1,h2,h3|h3⟩:=(hit_iff ha hb).1 h
 · exact ⟨_,⟨zbe ha.c hb.c h3,hF.le⟩,(rsv_left ha hb h1 h2 h3).2.1,fun hl=>⟨v,.inl ⟨h1,h2,h3,rfl,hl⟩⟩⟩
 · exact ⟨_,⟨zbe hb.c ha.c h3,hF.le⟩,(rsv_right ha hb h1 h2 h3).2,fun hl=>⟨v,.inr ⟨h1,h2,h3,rfl,hl⟩⟩⟩
theorem few {V:Int} {cl:List (List Int)} (hn:cl.Nodup) (hc:∀ c∈cl,IsS V c):cl.length≤4096:=by
 let xs:List Int:=(cl.map fun c=>((mkN c:Nat):Int)).mergeSort fun a b=>decide (a≤b)
 have hp:xs.Perm (cl.map fun c=>((mkN c:Nat):Int)):=List.mergeSort_perm _ _
 have hnd:(cl.map fun c=>((mkN c:Nat):Int)).Nodup:=by
  rw [List.nodup_iff_pairwise_ne,List.pairwise_map]
  have:=List.Pairwise.and_mem.1 (List.nodup_iff_pairwise_ne.1 hn)
  refine this.imp ?_
  rintro a b ⟨ha,hb,hne⟩ e
  exact hne (mkN_inj (hc a ha) (hc b hb) (by omega))
 have hx:xs.Nodup:=hp.nodup_iff.2 hnd
 have hs:xs.Pairwise fun a b=>a≤b:=by
  have:=List.pairwise_mergeSort (le:=fun a b:Int=>decide (a≤b)) (by intro a b c;simp;omega) (by intro a b;simp;omega) (cl.map fun c=>((mkN c:Nat):Int))
  exact this.imp (fun h=>by simpa using h)
 have hasc:Asc xs:=(hs.and (List.nodup_iff_pairwise_ne.1 hx)).imp (fun ⟨h1,h2⟩=>by omega)
 have hl:=asc_len (lo:=-1) (hi:=4095) hasc (by
  intro x hx
  have:x∈cl.map fun c=>((mkN c:Nat):Int):=hp.mem_iff.1 hx
  obtain ⟨c,hcl,e⟩:=List.mem_map.1 this
  have:=zaG (hc c hcl)
  omega)
 have:xs.length=cl.length:=by rw [hp.length_eq,List.length_map]
 omega
theorem zcy {V:Type} (p:Int×V) (m:List (Int×V)) (j:Int):mget (p::m) j=if j=p.1 then some p.2 else mget m j:=by
 simp only [mget]
 by_cases h:j=p.1
 · rw [if_pos h,beq_iff_eq.2 h,cond_true]
 · rw [if_neg h,beq_eq_false_iff_ne.2 h,cond_false]
theorem mget_mput {V:Type}:∀ (m:List (Int×V)) (k:Int) (v:V) (j:Int),mget (mput m k v) j=if j=k then some v else mget m j
 | [],k,v,j=>by simp only [mput];rw [zcy]
 | p::m,k,v,j=>by
  simp only [mput]
  by_cases hk:k=p.1
  · rw [beq_iff_eq.2 hk,cond_true,zcy,zcy,← hk]
    by_cases h:j=k
    · rw [if_pos h,if_pos h]
    · rw [if_neg h,if_neg h,if_neg h]
  · rw [beq_eq_false_iff_ne.2 hk,cond_false,zcy,zcy,mget_mput m k v j]
    by_cases h:j=k
    · subst h
      rw [if_neg hk,if_pos rfl,if_pos rfl]
    · rw [if_neg h,if_neg h]
end Go.PF
namespace Go.PF
open Go.Pu
structure CI (F:Cnf) (w:Int) (cl:List (List Int)) (s:List Int×Int×List (Int×Int)):Prop where
 masks:s.1=cl.map fun c=>((mkN c:Nat):Int)
 nd:cl.Nodup
 sm:∀ c∈cl,IsS F.vars c
 map:∀ c,IsS F.vars c→((mget s.2.2 (mkN c)).isSome=true↔c∈cl)
 rk:∀ c∈cl,∃ n:Nat,mget s.2.2 (mkN c)=some (n:Int)∧Rk F w n c∧n≤5000
theorem CI.add {F:Cnf} {w:Int} {cl:List (List Int)} {s:List Int×Int×List (Int×Int)} (h:CI F w cl s) {c:List Int} (hc:IsS F.vars c) {n:Nat} (hn5:n≤5000) (hr:c ∉ cl→Rk F w n c) :
 ∃ s' cl',((bif (!((mget s.2.2 (mkN c)).isSome)) then bd (app s.1 [((mkN c:Nat):Int)]) (fun xs=>some (xs,(n:Int),(mput s.2.2 (mkN c) (n:Int)))) else some (s.1,s.2.1,s.2.2)):Option (List Int×Int×List (Int×Int)))=some s'
  ∧ CI F w cl' s'∧c∈cl'∧∃ e,cl'=cl++e∧∀ x∈e,x=c:=by
 by_cases hm:c∈cl
 · refine ⟨s,cl,?_,h,hm,[],by simp,nofun⟩
   rw [(h.map c hc).2 hm];rfl
 · have hl:s.1.length≤4096:=by rw [h.masks,List.length_map];exact few h.nd h.sm
   refine ⟨(s.1++[((mkN c:Nat):Int)],(n:Int),mput s.2.2 (mkN c) (n:Int)),cl++[c],?_,?_,by simp,[c],rfl,by simp⟩
   · have:(mget s.2.2 (mkN c)).isSome=false:=by rw [Bool.eq_false_iff];exact fun g=>hm ((h.map c hc).1 g)
     rw [this,Bool.not_false,cond_true]
     unfold app
     rw [if_pos (by simp [lim];omega),zab]
   · refine ⟨by simp [h.masks],?_,?_,?_,?_⟩
     · rw [List.nodup_append]
       exact ⟨h.nd,by simp,fun a ha b hb e=>by
        have:b=c:=by simpa using hb
        exact hm (this ▸ e ▸ ha)⟩
     · intro x hx
       rcases List.mem_append.1 hx with g|g
       · exact h.sm x g
       · have:x=c:=by simpa using g
         exact this ▸ hc
     · intro x hx
       show (mget (mput s.2.2 (mkN c) (n:Int)) (mkN x)).isSome=true↔_
       rw [mget_mput]
       by_cases e:x=c
       · subst e;simp
       · rw [if_neg (fun g=>e (mkN_inj hx hc (by omega))),h.map x hx]
         simp [e]
     · intro x hx
       show ∃ m:Nat,mget (mput s.2.2 (mkN c) (n:Int)) (mkN x)=some (m:Int)∧_
       rw [mget_mput]
       by_cases e:x=c
       · subst e;exact ⟨n,by simp,hr hm,hn5⟩
       · have hx2:x∈cl:=by
          rcases List.mem_append.1 hx with g|g
          · exact g
          · exact absurd (by simpa using g) e
         rw [if_neg (fun g=>e (mkN_inj (h.sm x hx2) hc (by omega)))]
         exact h.rk x hx2
structure Clos (F:Cnf) (w:Int) (cl:List (List Int)) (C:zbm):Prop where
 ci:CI F w cl (C.masks,C.last,C.rounds)
 all:∀ c,c∈cl↔∃ n,Kn F w n c
def From (F:Cnf) (w:Int) (cl:List (List Int)) (i j:Nat) (c:List Int):Prop:=∃ a b v,cl[i]?=some a∧cl[j]?=some b∧(Mk F w a b v c∨Mk F w b a v c)
structure CR (F:Cnf) (w:Int) (r:Nat) (cl:List (List Int)) (D:Nat→Nat→Prop) (s:List Int×Int×List (Int×Int)):Prop where
 ex:∃ e,CI F w (cl++e) s∧(∀ c∈e,Kn F w (r + 1) c)∧∀ i j c,D i j→From F w cl i j c→c∈cl++e
theorem impl_closureOf_eq {F:Cnf} {w:Int} (hF:Nar F):∃ o,zc0 F w=some o∧∃ C cl,o=some C∧Clos F w cl C:=by
 unfold zc0
 refine list_m (I:=fun i s=>∃ cl,CI F w cl s∧∀ c,c∈cl↔c∈F.clauses.take i∧len c≤w) ?_ ?_ ?_
 · exact ⟨[],⟨rfl,List.nodup_nil,nofun,fun c _=>by simp [mget],nofun⟩,by simp⟩
 · rintro i y s hy ⟨cl,h,hm⟩
   have hmem:=List.mem_of_getElem? hy
   have hys:=hF.ax hmem
   have htk:∀ c,c∈F.clauses.take (i + 1)↔c∈F.clauses.take i∨c=y:=by
    intro c;rw [List.take_add_one,hy];simp
   left
   by_cases hl:len y≤w
   · obtain ⟨s',cl',e1,e2,e3,e,e4,e5⟩:=h.add hys (n:=0) (by omega) (fun _=>⟨.inl ⟨hmem,hl⟩,fun g=>g⟩)
     refine ⟨s',?_,cl',e2,?_⟩
     · simp only [maskOf_eq hys,zab]
       rw [decide_eq_true hl,cond_true]
       rw [show (0:Int)=((0:Nat):Int) from rfl]
       simp only [e1,zab]
     · intro c
       rw [htk]
       constructor
       · intro hc
         rw [e4] at hc
         rcases List.mem_append.1 hc with g|g
         · exact ⟨.inl ((hm c).1 g).1,((hm c).1 g).2⟩
         · rw [e5 c g];exact ⟨.inr rfl,hl⟩
       · rintro ⟨g|g,g2⟩
         · rw [e4];exact List.mem_append_left _ ((hm c).2 ⟨g,g2⟩)
         · rw [g];exact e3
   · refine ⟨s,by rw [decide_eq_false hl,cond_false],cl,h,?_⟩
     intro c
     rw [htk,hm]
     constructor
     · rintro ⟨g,g2⟩;exact ⟨.inl g,g2⟩
     · rintro ⟨g|g,g2⟩
       · exact ⟨g,g2⟩
       · rw [g] at g2;exact absurd g2 hl
 · rintro s ⟨cl,h,hm⟩
   rw [List.take_length] at hm
   refine iter_m (I:=fun s=>∃ (r f:Nat) (cl:List (List Int)),1≤r∧r≤f + 1∧s.2.2.2.2=(r:Int)∧s.2.2.2.1=(f:Int)∧f≤cl.length∧CI F w cl (s.1,s.2.1,s.2.2.1)∧(∀ c,c∈cl↔Kn F w r c)∧∀ c,c∈cl.take f↔Kn F w (r - 1) c)
    (m:=fun s=>5000 - s.2.2.2.1.toNat) ?_ ?_
   · refine ⟨1,0,cl,by omega,by omega,rfl,rfl,by omega,h,?_,?_⟩
     · intro c
       rw [hm]
       constructor
       · intro g;exact .inl g
       · rintro (g|g|⟨a,b,v,g,_⟩)
         · exact g
         · exact g.elim
         · exact g.elim
     · intro c
       simp [Kn]
   · rintro ⟨ms,lst,mp,fr,rd⟩ ⟨r,f,cl,h1,h2,h3,h4,h5,hci,hall,hold⟩
     simp only at h3 h4 hci ⊢
     subst h3 h4
     have hfew:=few hci.nd hci.sm
     have hlen:len ms=(cl.length:Int):=by have:=hci.masks;simp only at this;rw [this];simp [len]
     by_cases hf:f < cl.length
     · left
       rw [hlen,decide_eq_true (by omega),cond_true]
       have fin:∀ q:List Int×Int×List (Int×Int),CR F w r cl (fun i j=>f≤i∧i < cl.length∧j < i) q→∃ s':List Int×Int×List (Int×Int)×Int×Int,(Lp.nx (q.1,q.2.1,q.2.2,((cl.length:Nat):Int),wr ((r:Int) + 1)):Lp _ Empty)=Lp.nx s'∧(∃ (r f:Nat) (cl:List (List Int)),1≤r∧r≤f + 1∧s'.2.2.2.2=(r:Int)∧s'.2.2.2.1=(f:Int)∧f≤cl.length∧CI F w cl (s'.1,s'.2.1,s'.2.2.1)∧(∀ c,c∈cl↔Kn F w r c)∧∀ c,c∈cl.take f↔Kn F w (r - 1) c)∧5000 - s'.2.2.2.1.toNat < 5000 - ((f:Nat):Int).toNat:=by
        rintro q ⟨ex,hex,hex2,hex3⟩
        refine ⟨_,rfl,⟨r + 1,cl.length,cl++ex,by omega,by omega,?_,rfl,by simp,?_,?_,?_⟩,?_⟩
        · simp only []
          rw [wr_s (by omega) (by omega)];omega
        · exact hex
        · intro c
          constructor
          · intro hc
            rcases List.mem_append.1 hc with g|g
            · exact .inr (.inl ((hall c).1 g))
            · exact hex2 c g
          · rintro (g|g|⟨a,b,v,g1,g2,g3⟩)
            · exact List.mem_append_left _ ((hall c).2 (Kn.up (n:=1) h1 (.inl g)))
            · exact List.mem_append_left _ ((hall c).2 g)
            · have hne:=g3.ne hF (hF.kn g1) (hF.kn g2)
              obtain ⟨i,hi⟩:=List.getElem?_of_mem ((hall a).2 g1)
              obtain ⟨j,hj⟩:=List.getElem?_of_mem ((hall b).2 g2)
              have hij:i≠j:=by rintro rfl;rw [hi] at hj;exact hne (by simpa using hj)
              have hil:=zao hi
              have hjl:=zao hj
              by_cases hold2:i < f∧j < f
              · have ga:=(hold a).1 (List.mem_of_getElem? (i:=i) (by rw [List.getElem?_take,if_pos hold2.1,hi]))
                have gb:=(hold b).1 (List.mem_of_getElem? (i:=j) (by rw [List.getElem?_take,if_pos hold2.2,hj]))
                have:Kn F w (r - 1 + 1) c:=.inr (.inr ⟨a,b,v,ga,gb,g3⟩)
                rw [show r - 1 + 1=r by omega] at this
                exact List.mem_append_left _ ((hall c).2 this)
              · by_cases hlt:j < i
                · exact hex3 i j c ⟨by omega,hil,hlt⟩ ⟨a,b,v,hi,hj,.inl g3⟩
                · exact hex3 j i c ⟨by omega,hjl,by omega⟩ ⟨b,a,v,hj,hi,.inr g3⟩
        · intro c
          rw [List.take_append_of_le_length (Nat.le_refl _),List.take_length,hall]
          rfl
        · simp only [Int.toNat_natCast]
          omega
       refine cnt_m (R:=fun z=>∃ q,z=Lp.nx (q.1,q.2.1,q.2.2,((cl.length:Nat):Int),wr ((r:Int) + 1))∧CR F w r cl (fun i j=>f≤i∧i < cl.length∧j < i) q) (σ:=List Int×Int×List (Int×Int)) (fun s i=>(s.1,s.2.1,s.2.2,i)) (n:=cl.length) (a:=f) (s0:=(ms,lst,mp)) (I:=fun k s=>CR F w r cl (fun i j=>f≤i∧i < k∧j < i) s) rfl (by omega) ?_ ?_ ?_ ?_ |> fun ⟨z,h1,q,h2,h3⟩=>(fin q h3).elim fun s' g=>⟨s',h1.trans (congrArg some (h2.trans g.1)),g.2⟩
       · exact ⟨[],by simpa using hci,nofun,fun i j c hd=>by omega⟩
       · rintro k s hk1 hk2 ⟨e,he,hk,hd⟩
         left
         simp only []
         rw [decide_eq_true (by omega),cond_true]
         have hfewe:=few he.nd he.sm
         have hms:s.1.length=(cl++e).length:=by rw [he.masks];simp
         have hcut:cut s.1 0 (k:Int)=some ((cl.take k).map fun c=>((mkN c:Nat):Int)):=by
          unfold cut
          rw [if_pos (by rw [hms,List.length_append];omega)]
          rw [he.masks,show ((k:Nat):Int).toNat=k by simp,← List.map_take,List.take_append_of_le_length (by omega)]
          rfl
         rw [hcut,zab]
         obtain ⟨x,hx⟩:∃ x,cl[k]?=some x:=⟨cl[k],List.getElem?_eq_getElem hk2⟩
         have hxs:=hci.sm x (List.mem_of_getElem? hx)
         have hxk:=(hall x).1 (List.mem_of_getElem? hx)
         refine list_m (σ:=List Int×Int×List (Int×Int)) (R:=fun z=>∃ s',z=Lp.nx (s'.1,s'.2.1,s'.2.2,((k + 1:Nat):Int))∧CR F w r cl (fun i j=>f≤i∧i < k + 1∧j < i) s') (I:=fun q s=>CR F w r cl (fun i j=>(f≤i∧i < k∧j < i)∨(i=k∧j < q)) s) ?_ ?_ ?_ |> fun ⟨z,h1,s',h2,h3⟩=>⟨s',h1.trans (congrArg some h2),h3⟩
         · exact ⟨e,he,hk,fun i j c hh hfm=>hd i j c (by omega) hfm⟩
         · rintro q y s hy ⟨e,he,hk,hd⟩
           left
           obtain ⟨b,hb,rfl⟩:∃ b,cl[q]?=some b∧y=((mkN b:Nat):Int):=by
            rw [List.getElem?_map,Option.map_eq_some_iff] at hy
            obtain ⟨b,hb,hy⟩:=hy
            rw [List.getElem?_take] at hb
            split at hb
            · exact ⟨b,hb,hy.symm⟩
            · cases hb
           have hbs:=hci.sm b (List.mem_of_getElem? hb)
           have hbk:=(hall b).1 (List.mem_of_getElem? hb)
           have hix:ix s.1 (k:Int)=some ((mkN x:Nat):Int):=by
            rw [zaI,he.masks,List.getElem?_map,List.getElem?_append_left hk2,hx];rfl
           rw [hix,zab]
           change ∃ s',(bif (!hitM (mkN x) (mkN b)) then some (Lp.nx (s.1,s.2.1,s.2.2)) else bd (PF.zbC (rsvM (mkN x) (mkN b))) (fun r1931=>(bif (decide (r1931≤w)) then bd (β:=_) ((bif (!((mget s.2.2 (rsvM (mkN x) (mkN b))).isSome)) then bd (app s.1 [(rsvM (mkN x) (mkN b))]) (fun xs1987=>some (xs1987,(r:Int),(mput s.2.2 (rsvM (mkN x) (mkN b)) (r:Int)))) else some (s.1,s.2.1,s.2.2)):Option ((List Int)×Int×(List (Int×Int)))) (fun s1967=>some (Lp.nx (s1967.1,s1967.2.1,s1967.2.2))) else some (Lp.nx (s.1,s.2.1,s.2.2)))))=some (Lp.nx s')∧_
           have hdone:∀ {e':List (List Int)},(∀ c∈cl++e,c∈cl++e')→(∀ c v,Mk F w x b v c∨Mk F w b x v c→c∈cl++e')→∀ i j c,((f≤i∧i < k∧j < i)∨(i=k∧j < q + 1))→From F w cl i j c→c∈cl++e':=by
            intro e' h1 h2 i j c hij hfm
            by_cases hh:i=k∧j=q
            · obtain ⟨a,b',v,g1,g2,g3⟩:=hfm
              rw [hh.1,hx] at g1
              rw [hh.2,hb] at g2
              cases g1;cases g2
              exact h2 c v g3
            · exact h1 c (hd i j c (by omega) hfm)
           by_cases hh:hitM (mkN x) (mkN b)=true
           · obtain ⟨c,hc1,hc2,hc3⟩:=hit_mk (w:=w) hF hxs hbs hh
             rw [hh,hc2,count_mk hc1,zab,Bool.not_true,cond_false]
             by_cases hl:len c≤w
             · obtain ⟨v,hv⟩:=hc3 hl
               have hck:Kn F w (r + 1) c:=by
                rcases hv with hv|hv
                · exact .inr (.inr ⟨x,b,v,hxk,hbk,hv⟩)
                · exact .inr (.inr ⟨b,x,v,hbk,hxk,hv⟩)
               obtain ⟨s',cl',e1,e2,e3,e',e4,e5⟩:=he.add hc1 (n:=r) (by omega) (fun hn=>⟨hck,fun g=>hn (List.mem_append_left _ ((hall c).2 g))⟩)
               refine ⟨s',?_,e++e',?_,?_,?_⟩
               · rw [decide_eq_true hl,cond_true,e1,zab]
               · rw [← List.append_assoc,← e4];exact e2
               · intro z hz
                 rcases List.mem_append.1 hz with g|g
                 · exact hk z g
                 · rw [e5 z g];exact hck
               · refine hdone (fun z hz=>?_) (fun z v' hz=>?_)
                 · rw [← List.append_assoc];exact List.mem_append_left _ hz
                 · have:=(Mk.hit hxs hbs hz).2
                   have hzs:IsS F.vars z:=by
                    rcases hz with ⟨g1,g2,g3,g4,_⟩|⟨g1,g2,g3,g4,_⟩
                    · exact ⟨g4 ▸ zbe hxs.c hbs.c g3,hF.le⟩
                    · exact ⟨g4 ▸ zbe hbs.c hxs.c g3,hF.le⟩
                   have:z=c:=mkN_inj hzs hc1 (by rw [hc2] at this;omega)
                   rw [this,← List.append_assoc,← e4]
                   exact e3
             · refine ⟨s,by rw [decide_eq_false hl,cond_false],e,he,hk,hdone (fun z hz=>hz) (fun z v' hz=>?_)⟩
               exfalso
               have hzl:len z≤w:=by rcases hz with ⟨_,_,_,_,g⟩|⟨_,_,_,_,g⟩ <;> exact g
               have:=(Mk.hit hxs hbs hz).2
               have hzs:IsS F.vars z:=by
                rcases hz with ⟨g1,g2,g3,g4,_⟩|⟨g1,g2,g3,g4,_⟩
                · exact ⟨g4 ▸ zbe hxs.c hbs.c g3,hF.le⟩
                · exact ⟨g4 ▸ zbe hbs.c hxs.c g3,hF.le⟩
               have:z=c:=mkN_inj hzs hc1 (by rw [hc2] at this;omega)
               exact hl (this ▸ hzl)
           · rw [Bool.not_eq_true] at hh
             rw [hh,Bool.not_false,cond_true]
             refine ⟨s,rfl,e,he,hk,hdone (fun z hz=>hz) (fun z v' hz=>?_)⟩
             have:=(Mk.hit hxs hbs hz).1
             rw [hh] at this;cases this
         · rintro s ⟨e,he,hk,hd⟩
           refine ⟨_,rfl,s,?_,e,he,hk,fun i j c hij hfm=>hd i j c ?_ hfm⟩
           · simp only [Lp.nx.injEq,Prod.mk.injEq,true_and]
             rw [wr_s (by omega) (by omega)];omega
           · rw [List.length_map,List.length_take]
             omega
       · intro s hs
         simp
       · intro s hs
         exact ⟨_,rfl,s,rfl,hs⟩
     · right;left
       rw [hlen,decide_eq_false (by omega),cond_false]
       refine ⟨_,rfl,_,rfl,_,cl,rfl,hci,fun c=>?_⟩
       have hf':f=cl.length:=by omega
       subst hf'
       rw [List.take_length] at hold
       constructor
       · intro hc;exact ⟨r,(hall c).1 hc⟩
       · rintro ⟨n,hn⟩
         refine (hold c).2 (Kn.stop (fun z hz=>?_) hn)
         rw [show r - 1 + 1=r by omega] at hz
         exact (hold z).1 ((hall z).2 hz)
end Go.PF
namespace Go.PF
open Go.Pu
def atC (cl:List (List Int)) (k:Int):List Int:=(cl[k.toNat]?).getD []
theorem atC_ix {cl:List (List Int)} {k:Int} (h0:0≤k) (h1:k < cl.length):ix cl k=some (atC cl k)∧cl[k.toNat]?=some (atC cl k):=by
 obtain ⟨x,e1,e2⟩:=ix_of (xs:=cl) h0 h1
 unfold atC
 rw [e1,e2];exact ⟨rfl,rfl⟩
theorem atC_app {cl e:List (List Int)} {k:Int} (h0:0≤k) (h1:k < cl.length):atC (cl++e) k=atC cl k:=by
 unfold atC
 rw [List.getElem?_append_left (by omega)]
structure Ord (cl:List (List Int)) (m:Nat) (o:List Int):Prop where
 srt:SrtC (o.map (atC cl))
 mem:∀ c,c∈o.map (atC cl)↔c∈cl.take m
 inr:∀ k∈o,0≤k∧k < m
 len:o.length=m
theorem spec_l10Order_eq {W:zaH} {V:Int} (hn:W.list.Nodup) (hc:∀ c∈W.list,IsS V c):∃ o,zc6 W=some o∧Ord W.list W.list.length o:=by
 unfold zc6
 have hfew:=few hn hc
 refine cnt_m (σ:=List Int) (fun s i=>(s,i)) (n:=W.list.length) (a:=0) (I:=fun i s=>Ord W.list i s) rfl (by omega) ⟨by simp,by simp,nofun,rfl⟩ ?_ ?_ ?_
 · intro i s _ hi ho
   left
   simp only []
   rw [zaj,decide_eq_true (by omega),cond_true]
   obtain ⟨c,hx⟩:∃ c,W.list[i]?=some c:=⟨W.list[i],List.getElem?_eq_getElem hi⟩
   have hcs:=hc c (List.mem_of_getElem? hx)
   have hsl:=ho.len
   have hP:plc (s.map (atC W.list)) c≤s.length:=by have:=plc_le (s.map (atC W.list)) c;simpa using this
   rw [zaj,bsearch (n:=s.length) (P:=plc (s.map (atC W.list)) c) hP (fun a b hab hb=>?_) (fun a ha=>?_)]
   · rw [zaX]
     simp only []
     have hcut:cut s 0 ((plc (s.map (atC W.list)) c:Nat):Int)=some (s.take (plc (s.map (atC W.list)) c)):=by
      unfold cut
      rw [if_pos (by omega)];simp
     have hcut2:cut s ((plc (s.map (atC W.list)) c:Nat):Int) (s.length:Int)=some (s.drop (plc (s.map (atC W.list)) c)):=by
      unfold cut
      rw [if_pos (by omega)];simp
     rw [hcut,zab,zb5 (by simp [lim];omega),zab]
     have happ:app (s.take (plc (s.map (atC W.list)) c)) [(i:Int)]=some (s.take (plc (s.map (atC W.list)) c)++[(i:Int)]):=by
      unfold app;rw [if_pos (by simp [lim];omega)]
     rw [happ,zab,hcut2,zab]
     have happ2:app (s.take (plc (s.map (atC W.list)) c)++[(i:Int)]) (s.drop (plc (s.map (atC W.list)) c))=some (s.take (plc (s.map (atC W.list)) c)++[(i:Int)]++s.drop (plc (s.map (atC W.list)) c)):=by
      unfold app;rw [if_pos (by simp [lim];omega)]
     rw [happ2,zab]
     refine ⟨_,by rw [wr_s (by omega) (by omega)];rfl,?_⟩
     have hat:atC W.list (i:Int)=c:=by unfold atC;rw [show ((i:Nat):Int).toNat=i by simp,hx];rfl
     have hmap:(s.take (plc (s.map (atC W.list)) c)++[(i:Int)]++s.drop (plc (s.map (atC W.list)) c)).map (atC W.list)=insC (s.map (atC W.list)) c:=by
      unfold insC
      rw [List.map_append,List.map_append,List.map_take,List.map_drop,List.map_cons,List.map_nil,hat]
      simp
     have hnew:c ∉ s.map (atC W.list):=by
      rw [ho.mem]
      intro g
      obtain ⟨j,hj⟩:=List.getElem?_of_mem g
      rw [List.getElem?_take] at hj
      split at hj
      · rename_i hlt
        have hij:i=j:=by
         have e1:W.list[i]?=W.list[j]?:=by rw [hx,hj]
         exact (List.getElem?_inj hi hn).1 e1
        omega
      · cases hj
     refine ⟨?_,?_,?_,?_⟩
     · rw [hmap];exact insC_srt ho.srt hnew
     · intro x
       rw [hmap,insC_mem,ho.mem,List.take_add_one,hx]
       simp [or_comm]
     · intro k hk
       have:k=(i:Int)∨k∈s:=by
        rw [List.mem_append,List.mem_append] at hk
        rcases hk with (hk|hk)|hk
        · exact .inr (List.mem_of_mem_take hk)
        · exact .inl (by simpa using hk)
        · exact .inr (List.mem_of_mem_drop hk)
       rcases this with h|h
       · omega
       · have:=ho.inr k h;omega
     · simp;omega
   · have w1:wr ((a:Int) + b)=((a + b:Nat):Int):=by rw [wr_of _ (by omega) (by omega)];omega
     have w2:wr (((a + b:Nat):Int).tdiv 2)=(((a + b) / 2:Nat):Int):=by
      rw [Int.tdiv_eq_ediv_of_nonneg (by omega)]
      rw [wr_of _ (by omega) (by omega)];omega
     have w3:wr ((((a + b) / 2:Nat):Int) + 1)=(((a + b) / 2 + 1:Nat):Int):=by rw [wr_of _ (by omega) (by omega)];omega
     obtain ⟨k,hk⟩:∃ k,s[(a + b) / 2]?=some k:=⟨_,List.getElem?_eq_getElem (by omega)⟩
     have hkr:=ho.inr k (List.mem_of_getElem? hk)
     have hkm:(s.map (atC W.list))[(a + b) / 2]?=some (atC W.list k):=by rw [List.getElem?_map,hk];rfl
     have hp:=plc_lt ho.srt (c:=c) hkm
     obtain ⟨i1,i2⟩:=atC_ix (cl:=W.list) hkr.1 (by omega)
     simp only [show decide ((a:Int) < (b:Int))=true by rw [decide_eq_true_eq];omega,cond_true,w1,w2,w3,zaI,hk,i1,hx,zab]
     rw [zd9 (hc _ (List.mem_of_getElem? i2)).c.small hcs.c.small,zab]
     by_cases hlt:(a + b) / 2 < plc (s.map (atC W.list)) c
     · rw [if_pos hlt,show decide (cmpC (atC W.list k) c < 0)=true by rw [decide_eq_true_eq];exact hp.2 hlt];rfl
     · rw [if_neg hlt,show decide (cmpC (atC W.list k) c < 0)=false by rw [decide_eq_false_iff_not];exact fun h=>hlt (hp.1 h)];rfl
   · simp only [show decide ((a:Int) < (a:Int))=false by rw [decide_eq_false_iff_not];omega,cond_false]
 · intro s hs
   simp [zaj]
 · intro s hs
   exact ⟨s,rfl,hs⟩
abbrev Tri:=List Int×List Int×Int
def vsN (V:Int):List Int:=(List.range' 1 V.toNat).map fun (k:Nat)=>(k:Int)
def tris (V:Int) (kn:List (List Int)):List Tri:=kn.flatMap fun a=>kn.flatMap fun b=>(vsN V).map fun v=>(a,b,v)
def prodB (w:Int) (c:List Int) (t:Tri):Bool:=(res t.1 t.2.1 t.2.2).2 && ((res t.1 t.2.1 t.2.2).1 == c) && decide (len c≤w)
def Src (F:Cnf) (w:Int) (n:Nat) (c:List Int) (t:Tri):Prop:=∃ kn,SrtC kn∧(∀ x,x∈kn↔Kn F w n x)∧(tris F.vars kn).find? (prodB w c)=some t
theorem vsN_mem {V v:Int}:v∈vsN V↔1≤v∧v≤V:=by
 unfold vsN
 rw [List.mem_map]
 constructor
 · rintro ⟨k,hk,rfl⟩
   rw [List.mem_range'_1] at hk
   omega
 · rintro ⟨h1,h2⟩
   exact ⟨v.toNat,by rw [List.mem_range'_1];omega,by omega⟩
theorem tris_mem {V:Int} {kn:List (List Int)} {t:Tri}:t∈tris V kn↔t.1∈kn∧t.2.1∈kn∧1≤t.2.2∧t.2.2≤V:=by
 unfold tris
 simp only [List.mem_flatMap,List.mem_map,vsN_mem]
 constructor
 · rintro ⟨a,ha,b,hb,v,hv,rfl⟩
   exact ⟨ha,hb,hv⟩
 · rintro ⟨ha,hb,hv⟩
   exact ⟨t.1,ha,t.2.1,hb,t.2.2,hv,rfl⟩
theorem zbl {w:Int} {c:List Int} {t:Tri}:prodB w c t=true↔(res t.1 t.2.1 t.2.2).2=true∧(res t.1 t.2.1 t.2.2).1=c∧len c≤w:=by
 unfold prodB
 rw [Bool.and_eq_true,Bool.and_eq_true,beq_iff_eq,decide_eq_true_iff]
 exact and_assoc
theorem Src.mk {F:Cnf} {w:Int} {n:Nat} {c:List Int} {t:Tri} (h:Src F w n c t):Kn F w n t.1∧Kn F w n t.2.1∧Mk F w t.1 t.2.1 t.2.2 c:=by
 obtain ⟨k,h1,h2,h3⟩:=h
 have hm:=tris_mem.1 (List.mem_of_find?_eq_some h3)
 have hp:=zbl.1 (List.find?_some h3)
 exact ⟨(h2 _).1 hm.1,(h2 _).1 hm.2.1,hm.2.2.1,hm.2.2.2,hp.1,hp.2.1,hp.2.2⟩
structure Ent where
 a:Int
 b:Int
 v:Int
 c:List Int
structure New (F:Cnf) (w:Int) (old cl:List (List Int)) (D:List Tri) (E:List Ent):Prop where
 srt:SrtC (E.map (·.c))
 one:∀ e∈E,D.find? (prodB w e.c)=some (atC cl e.a,atC cl e.b,e.v)∧e.c ∉ old∧0≤e.a∧e.a < cl.length∧0≤e.b∧e.b < cl.length∧IsS F.vars e.c
 all:∀ t∈D,∀ c,prodB w c t=true→c∈old∨c∈E.map (·.c)
theorem New.few {F:Cnf} {w:Int} {old cl:List (List Int)} {D:List Tri} {E:List Ent} (h:New F w old cl D E):E.length≤4096:=by
 have:=PF.few (V:=F.vars) (cl:=E.map (·.c)) (by
  rw [List.nodup_iff_pairwise_ne]
  refine h.srt.imp ?_
  intro a b hab e
  exact zaZ a (e ▸ hab)) (by
  intro c hc
  obtain ⟨e,he,rfl⟩:=List.mem_map.1 hc
  exact (h.one e he).2.2.2.2.2.2)
 simpa using this
theorem New.cfg {F:Cnf} {w:Int} {old cl:List (List Int)} {D:List Tri} {E:List Ent} (h:New F w old cl D E):Cfg F.vars 4096 (E.map (·.c)) :=
 ⟨h.srt,by have:=h.few;simpa using this,by
  intro c hc
  obtain ⟨e,he,rfl⟩:=List.mem_map.1 hc
  exact (h.one e he).2.2.2.2.2.2.c⟩
theorem New.skip {F:Cnf} {w:Int} {old cl:List (List Int)} {D D':List Tri} {E:List Ent} (h:New F w old cl D E) (hD:∀ t∈D',∀ c,prodB w c t=true→c∈old∨c∈E.map (·.c)):New F w old cl (D++D') E :=
 ⟨h.srt,fun e he=>by
  obtain ⟨h1,h2⟩:=h.one e he
  refine ⟨?_,h2⟩
  rw [List.find?_append,h1];rfl,fun t ht c hc=>by
  rcases List.mem_append.1 ht with g|g
  · exact h.all t g c hc
  · exact hD t g c hc⟩
def putE (E:List Ent) (e:Ent):List Ent:=E.take (plc (E.map (·.c)) e.c)++e::E.drop (plc (E.map (·.c)) e.c)
theorem putE_map {α:Type} (E:List Ent) (e:Ent) (f:Ent→α):(putE E e).map f=(E.map f).take (plc (E.map (·.c)) e.c)++f e::(E.map f).drop (plc (E.map (·.c)) e.c):=by
 unfold putE
 rw [List.map_append,List.map_cons,List.map_take,List.map_drop]
theorem putE_c (E:List Ent) (e:Ent):(putE E e).map (·.c)=insC (E.map (·.c)) e.c:=by rw [putE_map];rfl
theorem New.put {F:Cnf} {w:Int} {old cl:List (List Int)} {D:List Tri} {E:List Ent} (h:New F w old cl D E) {e:Ent} (h1:prodB w e.c (atC cl e.a,atC cl e.b,e.v)=true) (h2:e.c ∉ old) (h3:e.c ∉ E.map (·.c))
 (h4:0≤e.a∧e.a < cl.length∧0≤e.b∧e.b < cl.length∧IsS F.vars e.c):New F w old cl (D++[(atC cl e.a,atC cl e.b,e.v)]) (putE E e):=by
 have hm:∀ x,x∈putE E e↔x=e∨x∈E:=by
  intro x
  unfold putE
  rw [List.mem_append,List.mem_cons]
  constructor
  · rintro (g|g|g)
    · exact .inr (List.mem_of_mem_take g)
    · exact .inl g
    · exact .inr (List.mem_of_mem_drop g)
  · rintro (g|g)
    · exact .inr (.inl g)
    · rw [← List.take_append_drop (plc (E.map (·.c)) e.c) E,List.mem_append] at g
      rcases g with g|g
      · exact .inl g
      · exact .inr (.inr g)
 refine ⟨?_,?_,?_⟩
 · rw [putE_c];exact insC_srt h.srt h3
 · intro x hx
   rcases (hm x).1 hx with rfl|g
   · refine ⟨?_,h2,h4⟩
     rw [List.find?_append]
     have:D.find? (prodB w x.c)=none:=by
      rw [List.find?_eq_none]
      intro t ht hp
      rcases h.all t ht _ hp with g|g
      · exact h2 g
      · exact h3 g
     rw [this,Option.none_or,List.find?_singleton,if_pos h1]
   · obtain ⟨g1,g2⟩:=h.one x g
     exact ⟨by rw [List.find?_append,g1];rfl,g2⟩
 · intro t ht c hc
   rw [putE_c,insC_mem]
   rcases List.mem_append.1 ht with g|g
   · rcases h.all t g c hc with g2|g2
     · exact .inl g2
     · exact .inr (.inr g2)
   · have e1:t=(atC cl e.a,atC cl e.b,e.v):=by simpa using g
     subst e1
     refine .inr (.inl ?_)
     rw [← (zbl.1 hc).2.1,(zbl.1 h1).2.1]
end Go.PF
namespace Go.PF
open Go.Pu
def LtR (F:Cnf) (w:Int) (a b:List Int):Prop:=∃ n m,Rk F w n a∧Rk F w m b∧(n < m∨(n=m∧cmpC a b < 0))
structure WI (F:Cnf) (w:Int) (r:Nat) (W:zaH):Prop where
 srt:SrtC W.sorted
 sm:∀ c,c∈W.sorted↔Kn F w r c
 lm:∀ c,c∈W.list↔Kn F w r c
 nd:W.list.Nodup
 l1:W.rounds.length=W.list.length
 l2:W.left.length=W.list.length
 l3:W.right.length=W.list.length
 l4:W.pivots.length=W.list.length
 at_:∀ (i:Nat) c,W.list[i]?=some c→∃ n:Nat,W.rounds[i]?=some (n:Int)∧Rk F w n c∧(1≤n→∃ a b v:Int,W.left[i]?=some a∧W.right[i]?=some b∧W.pivots[i]?=some v∧0≤a∧a < i∧0≤b∧b < i∧Src F w n c (atC W.list a,atC W.list b,v))
 ord:W.list.Pairwise (LtR F w)
theorem ins_chain {B:Type} {L:List Int} {p:Nat} {x:Int} (hp:p≤L.length) (hl:L.length≤100000) (k:List Int→Option B) :
 bd (cut L 0 (p:Int)) (fun xs=>bd (za1 xs) fun r=>bd (app r [x]) fun ys=>bd (cut L (p:Int) (len L)) fun zs=>bd (app ys zs) k)=k (L.take p++x::L.drop p):=by
 have hcut:cut L 0 (p:Int)=some (L.take p):=by
  unfold cut
  rw [if_pos (by omega)];simp
 have hcut2:cut L (p:Int) (len L)=some (L.drop p):=by
  unfold cut
  rw [zaj,if_pos (by omega)];simp
 rw [hcut,zab,zb5 (by simp [lim];omega),zab]
 have happ:app (L.take p) [x]=some (L.take p++[x]):=by
  unfold app;rw [if_pos (by simp [lim];omega)]
 rw [happ,zab,hcut2,zab]
 have happ2:app (L.take p++[x]) (L.drop p)=some (L.take p++[x]++L.drop p):=by
  unfold app;rw [if_pos (by simp [lim];omega)]
 rw [happ2,zab]
 simp
theorem cT {B:Type} {p:Prop} {i:Decidable p} (h:p) {a b:B}:(bif @decide p i then a else b)=a:=by rw [decide_eq_true h];rfl
theorem cF {B:Type} {p:Prop} {i:Decidable p} (h:¬ p) {a b:B}:(bif @decide p i then a else b)=b:=by rw [decide_eq_false h];rfl
theorem k11 {k:Nat} (h:1≤k):k + 1 - 1=k - 1 + 1:=by omega
abbrev rowsE (E:List Ent):List Int×List Int×List Int×List (List Int):=(E.map (·.a),E.map (·.b),E.map (·.v),E.map (·.c))
theorem vsN_at {V:Int} {i:Nat} (h1:1≤i) (h2:(i:Int)≤V):(vsN V)[i - 1]?=some (i:Int):=by
 unfold vsN
 rw [List.getElem?_map,List.getElem?_range' (by omega)]
 simp;omega
theorem vsN_len (V:Int):(vsN V).length=V.toNat:=by unfold vsN;simp
theorem take_flat {α β:Type} {l:List α} {f:α→List β} {i:Nat} {x:α} (h:l[i]?=some x):(l.take (i + 1)).flatMap f=(l.take i).flatMap f++f x:=by
 rw [List.take_add_one,h];simp
theorem take_map1 {α β:Type} {l:List α} {f:α→β} {i:Nat} {x:α} (h:l[i]?=some x):(l.take (i + 1)).map f=(l.take i).map f++[f x]:=by
 rw [List.take_add_one,h];simp
theorem spec_l10Round_eq {F:Cnf} {w:Int} (hF:Nar F) {W:zaH} {r:Nat} (h:WI F w r W) (hr:1≤r) (hrb:r≤10000) :
 ∃ q,zc9 F.vars W w (r:Int)=some q∧WI F w (r + 1) q.1∧(q.2=true→W.list.length < q.1.list.length)∧(q.2=false→∀ c,Kn F w (r + 1) c→Kn F w r c):=by
 unfold zc9
 have hsm:∀ c∈W.list,IsS F.vars c:=fun c hc=>hF.kn ((h.lm c).1 hc)
 have hfew:=few h.nd hsm
 have hV:0≤F.vars:=by
  have:=hF.cnf
  unfold cnfB at this
  simp only [Bool.and_eq_true] at this
  exact (zcv.1 this.1.1).1
 have hV6:=hF.le
 obtain ⟨o,eo,ho⟩:=spec_l10Order_eq h.nd hsm
 rw [eo,zab]
 have hol:=ho.len
 have hcs:Cfg F.vars 4096 W.sorted:=⟨h.srt,by
  have:=few (V:=F.vars) (cl:=W.sorted) (by
   rw [List.nodup_iff_pairwise_ne]
   refine h.srt.imp ?_
   intro a b hab e
   exact zaZ a (e ▸ hab)) (fun c hc=>hF.kn ((h.sm c).1 hc))
  exact this,fun c hc=>(hF.kn ((h.sm c).1 hc)).c⟩
 have hkn:∀ x,x∈o.map (atC W.list)↔Kn F w r x:=fun x=>by rw [ho.mem,List.take_length,h.lm]
 refine cnt_m (σ:=List Int×List Int×List Int×List (List Int)) (fun s i=>(s.1,s.2.1,s.2.2.1,s.2.2.2,i)) (n:=o.length) (a:=0) (s0:=rowsE [])
  (I:=fun i s=>∃ E,s=rowsE E∧New F w W.sorted W.list (((o.map (atC W.list)).take i).flatMap fun a=>(o.map (atC W.list)).flatMap fun b=>(vsN F.vars).map fun v=>(a,b,v)) E) rfl (by omega) ?_ ?_ ?_ ?_
 · exact ⟨[],rfl,.nil,nofun,by simp⟩
 · rintro i s _ hi ⟨E,rfl,hE⟩
   left
   simp only []
   rw [zaj,decide_eq_true (by omega),cond_true]
   obtain ⟨ai,hai⟩:∃ k,o[i]?=some k:=⟨_,List.getElem?_eq_getElem hi⟩
   have hair:=ho.inr ai (List.mem_of_getElem? hai)
   obtain ⟨a1,a2⟩:=atC_ix (cl:=W.list) hair.1 (by omega)
   have has:=hsm _ (List.mem_of_getElem? a2)
   have hka:(o.map (atC W.list))[i]?=some (atC W.list ai):=by rw [List.getElem?_map,hai];rfl
   obtain ⟨na,hra,hrka,_⟩:=h.at_ ai.toNat _ a2
   have hra':ix W.rounds ai=some (na:Int):=by
    have:=zap hra;rwa [show ((ai.toNat:Nat):Int)=ai by omega] at this
   simp only [zaI,hai,zab,hra',a1]
   rw [take_flat hka]
   generalize hD:((o.map (atC W.list)).take i).flatMap (fun a=>(o.map (atC W.list)).flatMap fun b=>(vsN F.vars).map fun v=>(a,b,v))=D at hE
   refine cnt_m (R:=fun z=>∃ E',z=Lp.nx ((rowsE E').1,(rowsE E').2.1,(rowsE E').2.2.1,(rowsE E').2.2.2,((i + 1:Nat):Int))∧New F w W.sorted W.list (D++(o.map (atC W.list)).flatMap fun b=>(vsN F.vars).map fun v=>(atC W.list ai,b,v)) E')
    (σ:=List Int×List Int×List Int×List (List Int)) (fun s i=>(s.1,s.2.1,s.2.2.1,s.2.2.2,i)) (n:=o.length) (a:=0) (s0:=rowsE E)
    (I:=fun j s=>∃ E,s=rowsE E∧New F w W.sorted W.list (D++((o.map (atC W.list)).take j).flatMap fun b=>(vsN F.vars).map fun v=>(atC W.list ai,b,v)) E) rfl (by omega) ?_ ?_ ?_ ?_ |> fun ⟨z,h1,E',h2,h3⟩=>⟨rowsE E',h1.trans (congrArg some h2),E',rfl,h3⟩
   · exact ⟨E,rfl,by simpa using hE⟩
   · rintro j s _ hj ⟨E,rfl,hE⟩
     left
     simp only []
     rw [decide_eq_true (by omega),cond_true]
     obtain ⟨bi,hbi⟩:∃ k,o[j]?=some k:=⟨_,List.getElem?_eq_getElem hj⟩
     have hbir:=ho.inr bi (List.mem_of_getElem? hbi)
     obtain ⟨b1,b2⟩:=atC_ix (cl:=W.list) hbir.1 (by omega)
     have hbs:=hsm _ (List.mem_of_getElem? b2)
     have hkb:(o.map (atC W.list))[j]?=some (atC W.list bi):=by rw [List.getElem?_map,hbi];rfl
     obtain ⟨nb,hrb',hrkb,_⟩:=h.at_ bi.toNat _ b2
     have hrb'':ix W.rounds bi=some (nb:Int):=by
      have:=zap hrb';rwa [show ((bi.toNat:Nat):Int)=bi by omega] at this
     simp only [zaI,hbi,zab,hrb'',b1]
     rw [take_flat hkb,← List.append_assoc]
     generalize hD2:D++((o.map (atC W.list)).take j).flatMap (fun b=>(vsN F.vars).map fun v=>(atC W.list ai,b,v))=D2 at hE
     have wr1:wr ((r:Int) - 1)=((r - 1:Nat):Int):=by rw [wr_s (by omega) (by omega)];omega
     have wj:wr ((j:Int) + 1)=((j + 1:Nat):Int):=by rw [wr_s (by omega) (by omega)];omega
     have htest:(bif decide (((na:Nat):Int) < ((r - 1:Nat):Int)) then some (decide (((nb:Nat):Int) < ((r - 1:Nat):Int))) else some false)=some (decide (na < r - 1) && decide (nb < r - 1)):=by
      by_cases g:na < r - 1
      · rw [decide_eq_true (by omega),decide_eq_true g,cond_true,Bool.true_and]
        exact congrArg some (decide_eq_decide.2 (by omega))
      · rw [decide_eq_false (by omega),decide_eq_false g];rfl
     rw [wr1,htest,zab]
     by_cases hsk:na < r - 1∧nb < r - 1
     · rw [decide_eq_true hsk.1,decide_eq_true hsk.2,Bool.and_true,cond_true]
       refine ⟨rowsE E,by rw [wj],E,rfl,hE.skip ?_⟩
       intro t ht c hc
       obtain ⟨v,hv,rfl⟩:=List.mem_map.1 ht
       have hv:=vsN_mem.1 hv
       obtain ⟨p1,p2,p3⟩:=zbl.1 hc
       left
       rw [h.sm]
       have:Kn F w (r - 1 + 1) c:=.inr (.inr ⟨_,_,v,hrka.1.up (by omega),hrkb.1.up (by omega),hv.1,hv.2,p1,p2,p3⟩)
       rwa [show r - 1 + 1=r by omega] at this
     · have:(decide (na < r - 1) && decide (nb < r - 1))=false:=by
        rw [Bool.eq_false_iff]
        intro g
        rw [Bool.and_eq_true,decide_eq_true_iff,decide_eq_true_iff] at g
        exact hsk g
       rw [this,cond_false]
       refine cnt_m (R:=fun z=>∃ E',z=Lp.nx ((rowsE E').1,(rowsE E').2.1,(rowsE E').2.2.1,(rowsE E').2.2.2,((j + 1:Nat):Int))∧New F w W.sorted W.list (D2++(vsN F.vars).map fun v=>(atC W.list ai,atC W.list bi,v)) E')
        (σ:=List Int×List Int×List Int×List (List Int)) (fun s i=>(s.1,s.2.1,s.2.2.1,s.2.2.2,i)) (n:=F.vars.toNat + 1) (a:=1) (s0:=rowsE E)
        (I:=fun k s=>∃ E,s=rowsE E∧New F w W.sorted W.list (D2++((vsN F.vars).take (k - 1)).map fun v=>(atC W.list ai,atC W.list bi,v)) E) rfl (by omega) ?_ ?_ ?_ ?_ |> fun ⟨z,h1,E',h2,h3⟩=>⟨rowsE E',h1.trans (congrArg some h2),E',rfl,h3⟩
       · exact ⟨E,rfl,by simpa using hE⟩
       · rintro k s hk1 hk2 ⟨E,rfl,hE⟩
         left
         simp only []
         rw [decide_eq_true (by omega),cond_true]
         have hkV:(k:Int)≤F.vars:=by omega
         have wk:wr ((k:Int) + 1)=((k + 1:Nat):Int):=by rw [wr_s (by omega) (by omega)];omega
         have hvk:=vsN_at (V:=F.vars) (i:=k) hk1 hkV
         have htk:((vsN F.vars).take (k + 1 - 1)).map (fun v=>(atC W.list ai,atC W.list bi,v))=((vsN F.vars).take (k - 1)).map (fun v=>(atC W.list ai,atC W.list bi,v))++[(atC W.list ai,atC W.list bi,(k:Int))]:=by
          rw [k11 hk1,take_map1 hvk]
         rw [htk,← List.append_assoc]
         generalize hD3:D2++((vsN F.vars).take (k - 1)).map (fun v=>(atC W.list ai,atC W.list bi,v))=D3 at hE
         have hla:=has.c.len
         have hlb:=hbs.c.len
         rw [spec_l2Resolve_eq (by simp only [lim];omega),zab]
         have hfewE:=hE.few
         have hcE:=hE.cfg
         have skip1:(∀ c,prodB w c (atC W.list ai,atC W.list bi,(k:Int))=true→c∈W.sorted∨c∈E.map (·.c))→∃ s',(some (Lp.nx ((rowsE E).1,(rowsE E).2.1,(rowsE E).2.2.1,(rowsE E).2.2.2,wr ((k:Int) + 1))):Option (Lp (List Int×List Int×List Int×List (List Int)×Int) Empty))=some (Lp.nx (s'.1,s'.2.1,s'.2.2.1,s'.2.2.2,((k + 1:Nat):Int)))∧∃ E,s'=rowsE E∧New F w W.sorted W.list (D3++[(atC W.list ai,atC W.list bi,(k:Int))]) E:=by
          intro g
          refine ⟨rowsE E,by rw [wk],E,rfl,hE.skip ?_⟩
          intro t ht c hc
          have:t=(atC W.list ai,atC W.list bi,(k:Int)):=by simpa using ht
          subst this
          exact g c hc
         by_cases hok:(res (atC W.list ai) (atC W.list bi) (k:Int)).2=true∧len (res (atC W.list ai) (atC W.list bi) (k:Int)).1≤w
         · obtain ⟨hok1,hok2⟩:=hok
           generalize hc0:(res (atC W.list ai) (atC W.list bi) (k:Int)).1=c at hok2
           have hcS:IsS F.vars c:=⟨hc0 ▸ zbe has.c hbs.c hok1,hF.le⟩
           rw [hok1,Bool.not_true,cond_false,decide_eq_false (by omega),cond_false,spec_l2At_eq hcs (by omega) hcS.c.small,zab,zab]
           rw [at_ge]
           by_cases hin:W.sorted.contains c=true
           · rw [hin,cond_true,zab,cond_true]
             refine skip1 fun c' hc'=>.inl ?_
             rw [← (zbl.1 hc').2.1]
             simp only []
             rw [hc0]
             exact List.contains_iff_mem.1 hin
           · rw [Bool.not_eq_true] at hin
             rw [hin,cond_false,spec_l2At_eq hcE (by omega) hcS.c.small,zab,zab,at_ge]
             by_cases hin2:(E.map (·.c)).contains c=true
             · rw [hin2,cond_true]
               refine skip1 fun c' hc'=>.inr ?_
               rw [← (zbl.1 hc').2.1]
               simp only []
               rw [hc0]
               exact List.contains_iff_mem.1 hin2
             · rw [Bool.not_eq_true] at hin2
               rw [hin2,cond_false,zdN hcE (by omega) hcS.c.small,zab,zdr hcE (by omega) hcS.c.small,zab]
               have hnot:c ∉ E.map (·.c):=fun g=>by rw [List.contains_iff_mem.2 g] at hin2;cases hin2
               have hnot2:c ∉ W.sorted:=fun g=>by rw [List.contains_iff_mem.2 g] at hin;cases hin
               have hple:plc (E.map (·.c)) c≤E.length:=by have:=plc_le (E.map (·.c)) c;simpa using this
               rw [ins_chain (L:=(rowsE E).1) (p:=plc (E.map (·.c)) c) (by simp [];omega) (by simp [];omega),ins_chain (L:=(rowsE E).2.1) (p:=plc (E.map (·.c)) c) (by simp [];omega) (by simp [];omega),ins_chain (L:=(rowsE E).2.2.1) (p:=plc (E.map (·.c)) c) (by simp [];omega) (by simp [];omega),putC_new hin2]
               have hnew:=hE.put (e:=⟨ai,bi,(k:Int),c⟩) (zbl.2 ⟨hok1,hc0,hok2⟩) hnot2 hnot ⟨hair.1,hair.2,hbir.1,hbir.2,hcS⟩
               refine ⟨rowsE (putE E ⟨ai,bi,(k:Int),c⟩),?_,_,rfl,hnew⟩
               rw [wk]
               have e1:=putE_map E ⟨ai,bi,(k:Int),c⟩ (·.a)
               have e2:=putE_map E ⟨ai,bi,(k:Int),c⟩ (·.b)
               have e3:=putE_map E ⟨ai,bi,(k:Int),c⟩ (·.v)
               have e4:=putE_c E ⟨ai,bi,(k:Int),c⟩
               simp only []
               rw [e1,e2,e3,e4]
         · have hf:(bif (!(res (atC W.list ai) (atC W.list bi) (k:Int)).2) then true else (decide (w < (len (res (atC W.list ai) (atC W.list bi) (k:Int)).1))))=true:=by
            cases hb:(res (atC W.list ai) (atC W.list bi) (k:Int)).2
            · rfl
            · rw [Bool.not_true,cond_false,decide_eq_true_iff]
              have:¬ len (res (atC W.list ai) (atC W.list bi) (k:Int)).1≤w:=fun g=>hok ⟨hb,g⟩
              omega
           rw [hf,cond_true,zab,cond_true,zab,cond_true]
           refine skip1 fun c' hc'=>?_
           obtain ⟨p1,p2,p3⟩:=zbl.1 hc'
           exact absurd ⟨p1,by rw [p2];exact p3⟩ hok
       · intro s hs
         simp only []
         rw [decide_eq_false (by omega),cond_false]
       · rintro s ⟨E,rfl,hE⟩
         refine ⟨_,rfl,E,by rw [wj],?_⟩
         rw [show F.vars.toNat + 1 - 1=F.vars.toNat by omega,← vsN_len,List.take_length] at hE
         exact hE
   · intro s hs
     simp only []
     rw [decide_eq_false (by omega),cond_false]
   · rintro s ⟨E,rfl,hE⟩
     have wi:wr ((i:Int) + 1)=((i + 1:Nat):Int):=by rw [wr_s (by omega) (by omega)];omega
     refine ⟨_,rfl,E,by rw [wi],?_⟩
     rw [show o.length=(o.map (atC W.list)).length by simp,List.take_length] at hE
     exact hE
 · intro s hs
   simp only []
   rw [zaj,decide_eq_false (by omega),cond_false]
 · rintro s ⟨E,rfl,hE⟩
   rw [show o.length=(o.map (atC W.list)).length by simp,List.take_length] at hE
   change New F w W.sorted W.list (tris F.vars (o.map (atC W.list))) E at hE
   have hfewE:=hE.few
   have hcE:=hE.cfg
   have hmk:∀ e∈E,Src F w r e.c (atC W.list e.a,atC W.list e.b,e.v):=fun e he=>⟨_,ho.srt,hkn,(hE.one e he).1⟩
   have hrk:∀ e∈E,Rk F w r e.c:=fun e he=>by
    obtain ⟨m1,m2,m3⟩:=(hmk e he).mk
    exact ⟨.inr (.inr ⟨_,_,_,m1,m2,m3⟩),fun g=>(hE.one e he).2.1 ((h.sm _).2 g)⟩
   have hall:∀ c,Kn F w (r + 1) c→Kn F w r c∨c∈E.map (·.c):=by
    rintro c (g|g|⟨a,b,v,g1,g2,g3,g4,g5,g6,g7⟩)
    · exact .inl (Kn.up (n:=1) hr (.inl g))
    · exact .inl g
    · rcases hE.all (a,b,v) (tris_mem.2 ⟨(hkn a).2 g1,(hkn b).2 g2,g3,g4⟩) c (zbl.2 ⟨g5,g6,g7⟩) with g|g
      · exact .inl ((h.sm c).1 g)
      · exact .inr g
   dsimp only [rowsE]
   refine cnt_m (σ:=List (List Int)×List Int×List (List Int)) (fun s i=>(s.1,s.2.1,s.2.2,i)) (n:=(E.map (·.c)).length) (a:=0) (s0:=(W.list,W.rounds,W.sorted))
    (I:=fun i s=>s.1=W.list++(E.map (·.c)).take i∧s.2.1=W.rounds++List.replicate i (r:Int)∧Cfg F.vars (4096 + i) s.2.2∧∀ c,c∈s.2.2↔c∈W.sorted∨c∈(E.map (·.c)).take i) rfl (by omega) ?_ ?_ ?_ ?_
   · exact ⟨by simp,by simp,hcs,by simp⟩
   · rintro i s _ hi ⟨g1,g2,g3,g4⟩
     left
     simp only []
     rw [cT (p:=(i:Int) < len (E.map (·.c))) (by rw [zaj];omega)]
     obtain ⟨c,hc⟩:∃ c,(E.map (·.c))[i]?=some c:=⟨_,List.getElem?_eq_getElem hi⟩
     have hcI:=hcE.cl c (List.mem_of_getElem? hc)
     simp only [List.length_map] at hi
     simp only [zaI,hc,zab]
     have ha1:app s.1 [c]=some (W.list++(E.map (·.c)).take (i + 1)):=by
      unfold app
      rw [if_pos (by rw [g1];simp [lim];omega),g1,List.take_add_one,hc];simp
     have ha2:app s.2.1 [(r:Int)]=some (W.rounds++List.replicate (i + 1) (r:Int)):=by
      unfold app
      rw [if_pos (by rw [g2];have:=h.l1;simp [lim];omega),g2,List.replicate_succ'];simp
     rw [ha1,zab,ha2,zab,zdr g3 (by omega) hcI.small,zab]
     refine ⟨(W.list++(E.map (·.c)).take (i + 1),W.rounds++List.replicate (i + 1) (r:Int),putC s.2.2 c),by rw [wr_s (by omega) (by omega)];rfl,rfl,rfl,g3.put hcI,fun x=>?_⟩
     show x∈putC s.2.2 c↔_
     rw [putC_mem,g4,List.take_add_one,hc]
     simp only [List.mem_append,Option.toList_some,List.mem_singleton]
     constructor
     · rintro (g|g|g)
       · exact .inr (.inr g)
       · exact .inl g
       · exact .inr (.inl g)
     · rintro (g|g|g)
       · exact .inr (.inl g)
       · exact .inr (.inr g)
       · exact .inl g
   · intro s hs
     simp only []
     rw [cF (p:=((E.map (·.c)).length:Int) < len (E.map (·.c))) (by rw [zaj];omega)]
   · rintro s ⟨g1,g2,g3,g4⟩
     simp only []
     rw [List.take_length] at g1 g4
     have hp1:app W.left (E.map (·.a))=some (W.left++E.map (·.a)):=by unfold app;rw [if_pos (by have:=h.l2;simp [lim];omega)]
     have hp2:app W.right (E.map (·.b))=some (W.right++E.map (·.b)):=by unfold app;rw [if_pos (by have:=h.l3;simp [lim];omega)]
     have hp3:app W.pivots (E.map (·.v))=some (W.pivots++E.map (·.v)):=by unfold app;rw [if_pos (by have:=h.l4;simp [lim];omega)]
     rw [hp1,zab,hp2,zab,hp3,zab]
     have hup:∀ c,c∈E.map (·.c)→Kn F w (r + 1) c:=fun c hc=>by
      obtain ⟨e,he,rfl⟩:=List.mem_map.1 hc
      exact (hrk e he).1
     refine ⟨_,rfl,⟨g3.srt,?_,?_,?_,?_,?_,?_,?_,?_,?_⟩,?_,?_⟩
     · intro c
       rw [g4,h.sm]
       constructor
       · rintro (g|g)
         · exact .inr (.inl g)
         · exact hup c g
       · exact hall c
     · intro c
       rw [g1,List.mem_append,h.lm]
       constructor
       · rintro (g|g)
         · exact .inr (.inl g)
         · exact hup c g
       · exact hall c
     · rw [g1,List.nodup_append]
       refine ⟨h.nd,?_,?_⟩
       · rw [List.nodup_iff_pairwise_ne]
         refine hE.srt.imp ?_
         intro a b hab e
         exact zaZ a (e ▸ hab)
       · intro a ha b hb e
         obtain ⟨x,hx,rfl⟩:=List.mem_map.1 hb
         exact (hrk x hx).2 (e ▸ (h.lm a).1 ha)
     · simp only [g1,g2,List.length_append,List.length_map,List.length_replicate];have:=h.l1;omega
     · simp only [g1,List.length_append,List.length_map];have:=h.l2;omega
     · simp only [g1,List.length_append,List.length_map];have:=h.l3;omega
     · simp only [g1,List.length_append,List.length_map];have:=h.l4;omega
     · intro i c hc
       simp only [g1,g2] at hc ⊢
       have i1:=h.l1
       have i2:=h.l2
       have i3:=h.l3
       have i4:=h.l4
       by_cases hi:i < W.list.length
       · rw [List.getElem?_append_left hi] at hc
         obtain ⟨n,q1,q2,q3⟩:=h.at_ i c hc
         refine ⟨n,by rw [List.getElem?_append_left (by omega)];exact q1,q2,fun hn=>?_⟩
         obtain ⟨a,b,v,p1,p2,p3,p4,p5,p6,p7,p8⟩:=q3 hn
         refine ⟨a,b,v,by rw [List.getElem?_append_left (by omega)];exact p1,by rw [List.getElem?_append_left (by omega)];exact p2,by rw [List.getElem?_append_left (by omega)];exact p3,p4,p5,p6,p7,?_⟩
         rw [atC_app p4 (by omega),atC_app p6 (by omega)]
         exact p8
       · rw [List.getElem?_append_right (by omega),List.getElem?_map,Option.map_eq_some_iff] at hc
         obtain ⟨e,he,rfl⟩:=hc
         have hem:=List.mem_of_getElem? he
         have hel:=zao he
         obtain ⟨_,_,o1,o2,o3,o4,_⟩:=hE.one e hem
         refine ⟨r,?_,hrk e hem,fun _=>⟨e.a,e.b,e.v,?_,?_,?_,o1,by omega,o3,by omega,?_⟩⟩
         · rw [List.getElem?_append_right (by omega),List.getElem?_replicate,if_pos (by simp only [List.length_map];omega)]
         · rw [List.getElem?_append_right (by omega),i2,List.getElem?_map,he];rfl
         · rw [List.getElem?_append_right (by omega),i3,List.getElem?_map,he];rfl
         · rw [List.getElem?_append_right (by omega),i4,List.getElem?_map,he];rfl
         · rw [atC_app o1 o2,atC_app o3 o4]
           exact hmk e hem
     · rw [g1,List.pairwise_append]
       refine ⟨h.ord,?_,?_⟩
       · have:=List.Pairwise.and_mem.1 hE.srt
         refine this.imp ?_
         rintro a b ⟨ha,hb,hab⟩
         obtain ⟨x,hx,rfl⟩:=List.mem_map.1 ha
         obtain ⟨y,hy,rfl⟩:=List.mem_map.1 hb
         exact ⟨r,r,hrk x hx,hrk y hy,.inr ⟨rfl,hab⟩⟩
       · intro a ha b hb
         obtain ⟨y,hy,rfl⟩:=List.mem_map.1 hb
         obtain ⟨q,q1,q2⟩:=((h.lm a).1 ha).rk
         exact ⟨q,r,q2,hrk y hy,.inl q1⟩
     · intro g
       simp only [decide_eq_true_iff,zaj,List.length_map] at g
       simp only [g1,List.length_append,List.length_map]
       omega
     · intro g c hc
       simp only [decide_eq_false_iff_not,zaj,List.length_map] at g
       have:E=[]:=List.eq_nil_of_length_eq_zero (by omega)
       subst this
       rcases hall c hc with g|g
       · exact g
       · exact absurd g (by simp)
end Go.PF
namespace Go.PF
open Go.Pu
structure WOk (F:Cnf) (w:Int) (W:zaH):Prop where
 ex:∃ r,WI F w r W∧∀ n c,Kn F w n c→Kn F w r c
theorem WI.few {F:Cnf} {w:Int} (hF:Nar F) {r:Nat} {W:zaH} (h:WI F w r W):W.list.length≤4096 :=
 PF.few h.nd fun c hc=>hF.kn ((h.lm c).1 hc)
theorem Nar.len {F:Cnf} (h:Nar F):F.clauses.length≤60:=by
 have:=h.cnf
 unfold cnfB at this
 simp only [Bool.and_eq_true,zaj] at this
 have:=of_decide_eq_true this.1.2
 omega
theorem spec_l10Closure_eq {F:Cnf} {w:Int} (hF:Nar F):∃ W,zda F w=some W∧WOk F w W:=by
 unfold zda
 have hFl:=hF.len
 refine cnt_m (σ:=List (List Int)) (fun s i=>(s,i)) (n:=F.clauses.length) (a:=0) (s0:=[])
  (I:=fun i s=>Cfg F.vars i s∧∀ c,c∈s↔c∈F.clauses.take i∧len c≤w) rfl (by omega) ⟨⟨.nil,by simp,nofun⟩,by simp⟩ ?_ ?_ ?_
 · rintro i s _ hi ⟨g1,g2⟩
   left
   dsimp only []
   rw [cT (by rw [zaj];omega)]
   obtain ⟨c,hc⟩:∃ c,F.clauses[i]?=some c:=⟨_,List.getElem?_eq_getElem hi⟩
   have hcs:=hF.ax (List.mem_of_getElem? hc)
   have hcl:=hcs.c.len
   have wi:wr ((i:Int) + 1)=((i + 1:Nat):Int):=by rw [wr_s (by omega) (by omega)];omega
   simp only [zaI,hc,zab,wi]
   have htk:∀ x,x∈F.clauses.take (i + 1)↔x∈F.clauses.take i∨x=c:=by
    intro x;rw [List.take_add_one,hc];simp
   by_cases hl:len c≤w
   · rw [cT hl,zb5 (by simp only [lim];omega),zab,zdr g1 (by omega) hcs.c.small,zab]
     refine ⟨putC s c,rfl,g1.put hcs.c,fun x=>?_⟩
     rw [putC_mem,g2,htk]
     constructor
     · rintro (g|⟨g,g3⟩)
       · rw [g];exact ⟨.inr rfl,hl⟩
       · exact ⟨.inl g,g3⟩
     · rintro ⟨g|g,g3⟩
       · exact .inr ⟨g,g3⟩
       · exact .inl g
   · rw [cF hl]
     refine ⟨s,rfl,⟨g1.srt,by have:=g1.len;omega,g1.cl⟩,fun x=>?_⟩
     rw [g2,htk]
     constructor
     · rintro ⟨g,g3⟩;exact ⟨.inl g,g3⟩
     · rintro ⟨g|g,g3⟩
       · exact ⟨g,g3⟩
       · rw [g] at g3;exact absurd g3 hl
 · intro s hs
   dsimp only []
   rw [cF (by rw [zaj];omega)]
 · rintro s ⟨g1,g2⟩
   rw [List.take_length] at g2
   have hsl:=g1.len
   dsimp only []
   refine list_m (I:=fun i t=>t=(List.replicate i (0:Int),List.replicate i (-1:Int),List.replicate i (-1:Int),List.replicate i (0:Int),s.take i,([]:List (List Int)))) rfl ?_ ?_
   · intro i y t hy ht
     left
     subst ht
     have hil:=zao hy
     have e1:app (s.take i) [y]=some (s.take (i + 1)):=by
      unfold app
      rw [if_pos (by simp [lim];omega),List.take_add_one,hy];rfl
     have e2:∀ x:Int,app (List.replicate i x) [x]=some (List.replicate (i + 1) x):=by
      intro x
      unfold app
      rw [if_pos (by simp [lim];omega),List.replicate_succ']
     exact ⟨_,by simp only [e1,e2,zab],rfl⟩
   · intro t ht
     rw [List.take_length] at ht
     subst ht
     have hk1:∀ c,c∈s↔Kn F w 1 c:=by
      intro c
      rw [g2]
      constructor
      · intro g;exact .inl g
      · rintro (g|g|⟨a,b,v,g,_⟩)
        · exact g
        · exact g.elim
        · exact g.elim
     have hr0:∀ c∈s,Rk F w 0 c:=fun c hc=>⟨(hk1 c).1 hc,fun g=>g⟩
     refine iter_m (I:=fun t=>∃ r:Nat,1≤r∧t.2.2.2.2.2.2.1=(r:Int)∧WI F w r (zaH.mk t.2.2.2.2.1 t.2.2.2.1 t.2.2.1 t.2.1 t.1 t.2.2.2.2.2.1)∧(t.2.2.2.2.2.2.2=true→r≤t.2.2.2.2.1.length + 1)∧(t.2.2.2.2.2.2.2=false→∀ c,Kn F w r c→Kn F w (r - 1) c))
      (m:=fun t=>bif t.2.2.2.2.2.2.2 then 5000 - t.2.2.2.2.1.length else 0) ?_ ?_
     · refine ⟨1,by omega,rfl,⟨g1.srt,hk1,hk1,?_,?_,?_,?_,?_,?_,?_⟩,fun _=>by dsimp only [];omega,fun g=>by cases g⟩
       · rw [List.nodup_iff_pairwise_ne]
         exact g1.srt.imp fun {a b} hab (e:a=b)=>zaZ a (by rw [← e] at hab;exact hab)
       · simp
       · simp
       · simp
       · simp
       · intro i c hc
         have hil:=zao hc
         refine ⟨0,?_,hr0 c (List.mem_of_getElem? hc),fun h=>by omega⟩
         show (List.replicate s.length (0:Int))[i]?=_
         rw [List.getElem?_replicate,if_pos hil];rfl
       · have:=List.Pairwise.and_mem.1 g1.srt
         exact this.imp fun {a b} ⟨ha,hb,hab⟩=>⟨0,0,hr0 a ha,hr0 b hb,.inr ⟨rfl,hab⟩⟩
     · rintro ⟨pv,rt,lf,rd,ls,sd,n,more⟩ ⟨r,h1,h2,h3,h4,h5⟩
       dsimp only [] at h2 h3 h4 h5 ⊢
       subst h2
       cases more
       · right;left
         refine ⟨_,rfl,_,rfl,⟨r,h3,fun n c hn=>?_⟩⟩
         refine (Kn.stop (r:=r - 1) (fun z hz=>h5 rfl z ?_) hn).up (by omega)
         rwa [show r - 1 + 1=r by omega] at hz
       · left
         have hfew:ls.length≤4096:=h3.few hF
         have h4':=h4 rfl
         obtain ⟨q,e,q1,q2,q3⟩:=spec_l10Round_eq hF h3 h1 (by omega)
         rw [cond_true,e,zab]
         refine ⟨_,rfl,⟨r + 1,by omega,?_,q1,?_,?_⟩,?_⟩
         · dsimp only []
           rw [wr_s (by omega) (by omega)];omega
         · intro g
           have:=q2 g
           dsimp only [] at this ⊢
           omega
         · intro g
           exact q3 g
         · dsimp only []
           cases hq:q.2
           · show (bif false then _ else 0) < 5000 - ls.length
             rw [cond_false];omega
           · have:=q2 hq
             dsimp only [] at this
             show (bif true then _ else 0) < 5000 - ls.length
             rw [cond_true];omega
theorem sort_LL {xs:List (List Int)} (hn:xs.Nodup) (hl:xs.length < lim):∃ r,zcQ xs (fun x0 x1=>PF.zaW x0 x1)=some r∧SrtC r∧∀ x,x∈r↔x∈xs:=by
 refine ⟨xs.mergeSort (leF fun x0 x1=>PF.zaW x0 x1),?_,?_,fun x=>(List.mergeSort_perm _ _).mem_iff⟩
 · unfold zcQ sortF
   rw [if_pos]
   exact ⟨cmpC,hl,fun x _ y _=>zd8 x y,fun x _=>zaZ x,fun x _ y _ z _ h1 h2=>zbI h1 h2,fun x _ y _ z _ h1 h2=>cmpC_ntrans h1 h2,fun x _ y _ h1 h2=>zdp h1 h2⟩
 · have nd2:(xs.mergeSort (leF fun x0 x1=>PF.zaW x0 x1)).Nodup:=(List.mergeSort_perm xs _).nodup_iff.2 hn
   refine ((sorted_config xs).and nd2).imp fun {a b} ⟨h1,h2⟩=>?_
   by_cases h3:cmpC a b < 0
   · exact h3
   · exact absurd (zdp h3 h1) h2
theorem closure_clauses_eq {F:Cnf} {w:Int} (hF:Nar F) {cl:List (List Int)} {C:zbm} (h:Clos F w cl C):∃ r,zc1 C=some r∧SrtC r∧∀ x,x∈r↔x∈cl:=by
 unfold zc1
 have hfew:=few h.ci.nd h.ci.sm
 have hm:C.masks=cl.map fun c=>((mkN c:Nat):Int):=h.ci.masks
 rw [hm]
 refine list_m (I:=fun i s=>s=cl.take i) rfl ?_ ?_
 · rintro i y s hy hs
   subst hs
   left
   rw [List.getElem?_map,Option.map_eq_some_iff] at hy
   obtain ⟨c,hc,rfl⟩:=hy
   have hcs:=h.ci.sm c (List.mem_of_getElem? hc)
   rw [clause_mk hcs,zab]
   have:app (cl.take i) [c]=some (cl.take (i + 1)):=by
    unfold app
    rw [if_pos (by simp [lim];omega),List.take_add_one,hc];rfl
   rw [this,zab]
   exact ⟨_,rfl,rfl⟩
 · intro s hs
   rw [List.length_map,List.take_length] at hs
   subst hs
   refine bd_ex (sort_LL h.ci.nd (by simp only [lim];omega)) fun r hr=>⟨r,rfl,hr⟩
theorem indexLL {c:List (List Int)} {f:List Int→Option Bool} {g:List Int→Bool} (h:∀ y∈c,f y=some (g y)) :
 ∃ r,zbz c f=some r∧((r=-1∧∀ y∈c,g y=false)∨∃ (i:Nat) (x:List Int),r=(i:Int)∧c[i]?=some x∧g x=true∧∀ y∈c.take i,g y=false):=by
 unfold zbz
 refine list_m (I:=fun i _=>∀ y∈c.take i,g y=false) (by simp) ?_ ?_
 · rintro i y ⟨⟩ hy hI
   rw [h y (List.mem_of_getElem? hy),zab]
   cases hg:g y
   · left
     rw [cond_false]
     refine ⟨(),rfl,?_⟩
     intro z hz
     rw [List.take_add_one,hy] at hz
     rcases List.mem_append.1 hz with q|q
     · exact hI z q
     · have:z=y:=by simpa using q
       rw [this];exact hg
   · right
     rw [cond_true]
     exact ⟨_,rfl,_,rfl,.inr ⟨i,y,rfl,hy,hg,hI⟩⟩
 · intro s hs
   rw [List.take_length] at hs
   exact ⟨_,rfl,.inl ⟨rfl,hs⟩⟩
theorem deleteLL {c:List (List Int)} {f:List Int→Option Bool} {g:List Int→Bool} (h:∀ y∈c,f y=some (g y)) (hl:c.length≤100000):zc3 c f=some (c.filter fun y => !g y):=by
 unfold zc3
 obtain ⟨r,e,hr⟩:=indexLL h
 rw [e,zab]
 rcases hr with ⟨rfl,hr⟩|⟨z,x,rfl,hx,hg,hr⟩
 · rw [show ((-1:Int) == -1)=true by rfl,cond_true,List.filter_eq_self.2]
   intro y hy;rw [hr y hy];rfl
 · have hzl:=zao hx
   have hne:(((z:Nat):Int) == -1)=false:=by simp
   rw [hne,cond_false,show wr (((z:Nat):Int) + 1)=((z + 1:Nat):Int) by rw [wr_of _ (by omega) (by omega)];simp]
   obtain ⟨s',i',q1,q2,q3,q4⟩:=del_loop (n:=c.length) (by omega) rfl h (c.length - (z + 1)) (z + 1) z c (by omega) (by omega) rfl (by
    rw [List.take_add_one,hx,List.filter_append,List.filter_eq_self.2 (fun y hy=>by rw [hr y hy];rfl)]
    simp [hg]) rfl
   rw [q1,zaX]
   simp only
   rw [show len s'=((s'.length:Nat):Int) from rfl,cut_ok (by omega) (Nat.le_refl _),zab]
   have hcl:clearL [] s' (i':Int)=s'.take i'++List.replicate (s'.length - i') []:=by unfold clearL;simp
   rw [hcl,show (0:Int)=((0:Nat):Int) from rfl,cut_ok (Nat.zero_le _) (by simp;omega),zab,List.drop_zero,List.take_left' (by simp;omega),q4]
end Go.PF
namespace Go.PF
open Go.Pu
def visN (n:Nat):List (List Int):=[]::visL n 1 []
structure InV (u n:Nat) (d:List Int):Prop where
 srt:d.Pairwise fun a b=>a.natAbs < b.natAbs
 rng:∀ l∈d,u≤l.natAbs∧l.natAbs < u + n
theorem InV.zero {u:Nat} {d:List Int} (h:InV u 0 d):d=[]:=by
 cases d with
 | nil=>rfl
 | cons a d=>have:=h.rng a (by simp);omega
theorem InV.nil {u n:Nat}:InV u n []:=⟨.nil,fun l hl=>by cases hl⟩
theorem zbJ:∀ {n u:Nat} {c x:List Int},1≤u→(x∈c::visL n u c↔∃ d,x=c++d∧InV u n d)
 | 0,u,c,x,hu=>by
  simp only [visL,List.mem_singleton]
  constructor
  · rintro rfl;exact ⟨[],by simp,InV.nil⟩
  · rintro ⟨d,rfl,hd⟩;rw [hd.zero];simp
 | n + 1,u,c,x,hu=>by
  have e:((u:Int) + 1)=((u + 1:Nat):Int):=by omega
  have i0:=zbJ (n:=n) (u:=u + 1) (c:=c) (x:=x) (by omega)
  have i1:=zbJ (n:=n) (u:=u + 1) (c:=c++[(u:Int)]) (x:=x) (by omega)
  have i2:=zbJ (n:=n) (u:=u + 1) (c:=c++[-(u:Int)]) (x:=x) (by omega)
  have hm:x∈c::visL (n + 1) u c↔x=c∨x∈(c++[(u:Int)])::visL n ((u + 1:Nat):Int) (c++[(u:Int)])∨x∈(c++[-(u:Int)])::visL n ((u + 1:Nat):Int) (c++[-(u:Int)])∨x∈visL n ((u + 1:Nat):Int) c:=by
   rw [List.mem_cons,visL,List.mem_append,List.mem_append,e]
  have hm2:(x=c∨x∈visL n ((u + 1:Nat):Int) c)↔x∈c::visL n ((u + 1:Nat):Int) c:=by rw [List.mem_cons]
  rw [hm,i1,i2]
  constructor
  · rintro (h|⟨d,rfl,hd⟩|⟨d,rfl,hd⟩|h)
    · exact ⟨[],by simp [h],InV.nil⟩
    · refine ⟨(u:Int)::d,by simp,⟨List.pairwise_cons.2 ⟨fun b hb=>by have:=hd.rng b hb;omega,hd.srt⟩,fun l hl=>?_⟩⟩
      rcases List.mem_cons.1 hl with rfl|hl
      · omega
      · have:=hd.rng l hl;omega
    · refine ⟨-(u:Int)::d,by simp,⟨List.pairwise_cons.2 ⟨fun b hb=>by have:=hd.rng b hb;omega,hd.srt⟩,fun l hl=>?_⟩⟩
      rcases List.mem_cons.1 hl with rfl|hl
      · omega
      · have:=hd.rng l hl;omega
    · obtain ⟨d,rfl,hd⟩:=i0.1 (hm2.1 (.inr h))
      exact ⟨d,rfl,hd.srt,fun l hl=>by have:=hd.rng l hl;omega⟩
  · rintro ⟨d,rfl,hd⟩
    cases d with
    | nil=>left;simp
    | cons a d =>
     have hs:=List.pairwise_cons.1 hd.srt
     have ha:=hd.rng a (by simp)
     have rest:∀ k:Nat,a.natAbs=k→InV (k + 1) (u + n - k) d:=fun k hk=>⟨hs.2,fun l hl=>by have:=hd.rng l (by simp [hl]);have:=hs.1 l hl;omega⟩
     by_cases h1:a=(u:Int)
     · right;left
       exact ⟨d,by simp [h1],by have:=rest u (by omega);rwa [show u + n - u=n by omega] at this⟩
     by_cases h2:a=-(u:Int)
     · right;right;left
       exact ⟨d,by simp [h2],by have:=rest u (by omega);rwa [show u + n - u=n by omega] at this⟩
     · have hin:InV (u + 1) n (a::d):=⟨hd.srt,fun l hl=>by
        rcases List.mem_cons.1 hl with rfl|hl
        · omega
        · have:=hd.rng l (by simp [hl]);have:=hs.1 l hl;omega⟩
       rcases hm2.2 (i0.2 ⟨a::d,rfl,hin⟩) with h|h
       · exact .inl h
       · exact .inr (.inr (.inr h))
theorem InV.len:∀ {n u:Nat} {d:List Int},InV u n d→d.length≤n
 | 0,u,d,h=>by rw [h.zero];simp
 | n + 1,u,[],h=>by simp
 | n + 1,u,a::d,h=>by
  have hs:=List.pairwise_cons.1 h.srt
  have h1:InV (u + 1) n d:=⟨hs.2,fun l hl=>by have:=h.rng l (by simp [hl]);have:=h.rng a (by simp);have:=hs.1 l hl;omega⟩
  have:=h1.len
  rw [List.length_cons];omega
theorem inV_isC {n:Nat} (hn:n≤12) {c:List Int}:InV 1 n c↔IsC (n:Int) c:=by
 constructor
 · intro h
   exact ⟨by omega,by omega,fun l hl=>by have:=h.rng l hl;omega,h.srt⟩
 · intro h
   exact ⟨h.srt,fun l hl=>by have:=h.lit l hl;omega⟩
theorem mem_vis {n:Nat} (hn:n≤12) {c:List Int}:c∈visN n↔IsC (n:Int) c:=by
 unfold visN
 have:=zbJ (n:=n) (u:=1) (c:=[]) (x:=c) (by omega)
 rw [show ((1:Nat):Int)=1 from rfl] at this
 rw [this,← inV_isC hn]
 constructor
 · rintro ⟨d,rfl,hd⟩;simpa using hd
 · intro h;exact ⟨c,by simp,h⟩
theorem nd_visL:∀ {n u:Nat} {c:List Int},1≤u→(c::visL n u c).Nodup
 | 0,u,c,hu=>by simp [visL]
 | n + 1,u,c,hu=>by
  have e:((u:Int) + 1)=((u + 1:Nat):Int):=by omega
  have i0:=nd_visL (n:=n) (u:=u + 1) (c:=c) (by omega)
  have i1:=nd_visL (n:=n) (u:=u + 1) (c:=c++[(u:Int)]) (by omega)
  have i2:=nd_visL (n:=n) (u:=u + 1) (c:=c++[-(u:Int)]) (by omega)
  have m0:∀ x,x∈c::visL n ((u + 1:Nat):Int) c→∃ d,x=c++d∧InV (u + 1) n d:=fun x h=>(zbJ (by omega)).1 h
  have m1:∀ x,x∈(c++[(u:Int)])::visL n ((u + 1:Nat):Int) (c++[(u:Int)])→∃ d,x=(c++[(u:Int)])++d∧InV (u + 1) n d:=fun x h=>(zbJ (by omega)).1 h
  have m2:∀ x,x∈(c++[-(u:Int)])::visL n ((u + 1:Nat):Int) (c++[-(u:Int)])→∃ d,x=(c++[-(u:Int)])++d∧InV (u + 1) n d:=fun x h=>(zbJ (by omega)).1 h
  have d01:∀ x,x∈(c++[(u:Int)])::visL n ((u + 1:Nat):Int) (c++[(u:Int)])→x∈c::visL n ((u + 1:Nat):Int) c→False:=by
   intro x h1 h0
   obtain ⟨d,rfl,hd⟩:=m1 x h1
   obtain ⟨d',e',hd'⟩:=m0 _ h0
   rw [List.append_assoc] at e'
   have:=List.append_cancel_left e'
   have:=hd'.rng (u:Int) (by rw [← this];simp)
   omega
  have d02:∀ x,x∈(c++[-(u:Int)])::visL n ((u + 1:Nat):Int) (c++[-(u:Int)])→x∈c::visL n ((u + 1:Nat):Int) c→False:=by
   intro x h1 h0
   obtain ⟨d,rfl,hd⟩:=m2 x h1
   obtain ⟨d',e',hd'⟩:=m0 _ h0
   rw [List.append_assoc] at e'
   have:=List.append_cancel_left e'
   have:=hd'.rng (-(u:Int)) (by rw [← this];simp)
   omega
  have d12:∀ x,x∈(c++[(u:Int)])::visL n ((u + 1:Nat):Int) (c++[(u:Int)])→x∈(c++[-(u:Int)])::visL n ((u + 1:Nat):Int) (c++[-(u:Int)])→False:=by
   intro x h1 h2
   obtain ⟨d,rfl,hd⟩:=m1 x h1
   obtain ⟨d',e',hd'⟩:=m2 _ h2
   rw [List.append_assoc,List.append_assoc] at e'
   have:=List.append_cancel_left e'
   simp at this
   omega
  have hc:=List.nodup_cons.1 i0
  rw [visL,e]
  refine List.nodup_cons.2 ⟨fun h=>?_,?_⟩
  · rcases List.mem_append.1 h with h|h
    · exact d01 c h (by simp)
    · rcases List.mem_append.1 h with h|h
      · exact d02 c h (by simp)
      · exact hc.1 h
  · refine List.nodup_append.2 ⟨i1,List.nodup_append.2 ⟨i2,hc.2,fun a ha b hb hab=>?_⟩,fun a ha b hb hab=>?_⟩
    · subst hab;exact d02 a ha (List.mem_cons_of_mem _ hb)
    · subst hab
      rcases List.mem_append.1 hb with hb|hb
      · exact d12 a ha hb
      · exact d01 a ha (List.mem_cons_of_mem _ hb)
theorem vis_nd (n:Nat):(visN n).Nodup:=nd_visL (u:=1) (by omega)
theorem len_visL:∀ {n:Nat} {u:Int} {c:List Int},(visL n u c).length + 1=3 ^ n
 | 0,u,c=>by simp [visL]
 | n + 1,u,c=>by
  have i0:=len_visL (n:=n) (u:=u + 1) (c:=c)
  have i1:=len_visL (n:=n) (u:=u + 1) (c:=c++[u])
  have i2:=len_visL (n:=n) (u:=u + 1) (c:=c++[-u])
  rw [visL,List.length_append,List.length_append,List.length_cons,List.length_cons,Nat.pow_succ];omega
theorem vis_len {n:Nat} (h:n≤5):(visN n).length≤243:=by
 unfold visN
 rw [List.length_cons,len_visL]
 calc 3 ^ n≤3 ^ 5:=Nat.pow_le_pow_right (by omega) h
  _=243:=rfl
def clN:Nat→List (List Int)
 | 0=>[[]]
 | n + 1=>clN n++(clN n).flatMap fun y=>[y++[((n + 1:Nat):Int)],y++[-((n + 1:Nat):Int)]]
theorem clN_len:∀ n:Nat,(clN n).length=3 ^ n
 | 0=>rfl
 | n + 1=>by
  have hf:∀ (l:List (List Int)) (f:List Int→List (List Int)),(∀ y,(f y).length=2)→(l.flatMap f).length=2 * l.length:=by
   intro l f hf
   induction l with
   | nil=>rfl
   | cons a l ih=>rw [List.flatMap_cons,List.length_append,hf,ih,List.length_cons];omega
  rw [clN,List.length_append,hf _ _ (fun y=>rfl),clN_len n,Nat.pow_succ];omega
theorem mem_clN:∀ {n:Nat} {c:List Int},c∈clN n↔InV 1 n c
 | 0,c=>by
  simp only [clN,List.mem_singleton]
  constructor
  · rintro rfl;exact InV.nil
  · exact fun h=>h.zero
 | n + 1,c=>by
  have ih:∀ c,c∈clN n↔InV 1 n c:=fun c=>mem_clN
  rw [clN,List.mem_append,List.mem_flatMap,ih]
  constructor
  · rintro (h|⟨y,hy,h⟩)
    · exact ⟨h.srt,fun l hl=>by have:=h.rng l hl;omega⟩
    · have hy':=(ih y).1 hy
      have key:∀ l:Int,l.natAbs=n + 1→InV 1 (n + 1) (y++[l]):=fun l hl=>⟨List.pairwise_append.2 ⟨hy'.srt,by simp,fun a ha b hb=>by
       simp at hb;subst hb;have:=hy'.rng a ha;omega⟩,fun k hk=>by
       rcases List.mem_append.1 hk with hk|hk
       · have:=hy'.rng k hk;omega
       · simp at hk;subst hk;omega⟩
      simp only [List.mem_cons,List.not_mem_nil,or_false] at h
      rcases h with rfl|rfl
      · exact key _ (by omega)
      · exact key _ (by omega)
  · intro h
    by_cases hl:∃ l∈c,l.natAbs=n + 1
    · right
      obtain ⟨l,hl,hn⟩:=hl
      obtain ⟨s,t,rfl⟩:=List.append_of_mem hl
      have hp:=List.pairwise_append.1 h.srt
      have ht:t=[]:=by
       cases t with
       | nil=>rfl
       | cons b t =>
        have h1:=(List.pairwise_cons.1 hp.2.1).1 b (by simp)
        have h2:=h.rng b (by simp)
        omega
      subst ht
      refine ⟨s,(ih s).2 ⟨hp.1,fun k hk=>?_⟩,?_⟩
      · have h1:=hp.2.2 k hk l (by simp)
        have h2:=h.rng k (by simp [hk])
        omega
      · simp only [List.mem_cons,List.not_mem_nil,or_false]
        rcases Int.natAbs_eq l with e|e
        · left;rw [e,hn]
        · right;rw [e,hn]
    · left
      refine ⟨h.srt,fun k hk=>?_⟩
      have h1:=h.rng k hk
      have h2:k.natAbs≠n + 1:=fun e=>hl ⟨k,hk,e⟩
      omega
theorem putL_end {y:List Int} {l:Int} (hy:∀ x∈y,x.natAbs < l.natAbs) (hl:-12≤l∧l≤12):putL y l=y++[l]:=by
 have hv:∀ x∈y,decide (vr x < vr l)=true:=fun x hx=>by
  have:=hy x hx
  rw [decide_eq_true_eq,zaY (by omega) (by omega),zaY hl.1 hl.2];omega
 unfold putL
 have h1:y.takeWhile (fun y=>decide (vr y < vr l))=y:=by
  clear hy
  induction y with
  | nil=>rfl
  | cons a y ih=>rw [List.takeWhile_cons,if_pos (hv a (by simp)),ih fun x hx=>hv x (by simp [hx])]
 have h2:y.dropWhile (fun y=>decide (vr y < vr l))=[]:=by
  clear hy h1
  induction y with
  | nil=>rfl
  | cons a y ih=>rw [List.dropWhile_cons,if_pos (hv a (by simp)),ih fun x hx=>hv x (by simp [hx])]
 rw [h1,h2]
theorem pow3 {n:Nat} (h:n≤5):3 ^ n≤243:=by
 calc 3 ^ n≤3 ^ 5:=Nat.pow_le_pow_right (by omega) h
  _=243:=rfl
theorem spec_l5Clauses_eq {V:Nat} (hV:V≤5):∃ r,zcS (V:Int)=some r∧Cfg (V:Int) 243 r∧∀ c,c∈r↔IsC (V:Int) c:=by
 unfold zcS
 refine cnt_m (σ:=List (List Int)) (fun s i=>(s,i)) (n:=V + 1) (a:=1) (s0:=[[]]) (fun i s=>s=clN (i - 1)) rfl (by omega) rfl ?_ ?_ ?_
 · rintro i s h1 h2 rfl
   left
   have h5:3 ^ (i - 1)≤243:=pow3 (by omega)
   have hlen:=clN_len (i - 1)
   dsimp only
   rw [decide_eq_true (show (i:Int)≤(V:Int) by omega),cond_true]
   obtain ⟨s',e1,e2⟩:=forL_inv (X:=Empty) (l:=clN (i - 1)) (s:=clN (i - 1)) (body:=fun i114155 y114154 s114155=>bd (PF.zaV y114154 (i:Int)) (fun r249232=>bd (PF.zaV y114154 (wr (-(i:Int)))) (fun r270232=>bd (app s114155 [r249232,r270232]) (fun xs276232=>some (Lp.nx xs276232)))))
    (fun k s=>s=clN (i - 1)++((clN (i - 1)).take k).flatMap (fun y=>[y++[(i:Int)],y++[-(i:Int)]])∧s.length≤243 + 2 * k) ⟨by simp,by omega⟩ (fun k y s hk hs=>by
     obtain ⟨rfl,hl⟩:=hs
     have hy:=mem_clN.1 (List.mem_of_getElem? hk)
     have hkl:=zao hk
     have hyl:y.length≤5:=by
      have:=hy.len
      omega
     have h12:y.length + 1≤lim:=by unfold lim;omega
     rw [zbG h12,zab,wr_of (-(i:Int)) (by omega) (by omega),zbG h12,zab,putL_end (fun x hx=>by have:=hy.rng x hx;omega) (by omega),putL_end (fun x hx=>by have:=hy.rng x hx;omega) (by omega),zaC (by simp only [List.length_cons,List.length_nil];unfold lim;omega),zab]
     refine ⟨_,rfl,?_,?_⟩
     · rw [List.take_add_one,hk,List.flatMap_append,List.append_assoc];simp
     · simp only [List.length_append,List.length_cons,List.length_nil] at hl ⊢;omega)
   rw [e1,zaX,wr_of ((i:Int) + 1) (by omega) (by omega)]
   refine ⟨_,rfl,?_⟩
   rw [e2.1,List.take_length]
   have:i + 1 - 1=(i - 1) + 1:=by omega
   rw [this,clN]
   rw [show (((i - 1) + 1:Nat):Int)=(i:Int) by omega]
 · rintro s rfl
   dsimp only
   rw [decide_eq_false (show ¬ ((V + 1:Nat):Int)≤(V:Int) by omega),cond_false]
 · rintro s rfl
   dsimp only
   rw [Nat.add_sub_cancel]
   have h5:3 ^ V≤243:=pow3 hV
   have hlen:=clN_len V
   refine cnt_m (σ:=List (List Int)) (fun s i=>(s,i)) (n:=(clN V).length) (a:=0) (s0:=[]) (fun i s=>Cfg (V:Int) i s∧∀ c,c∈s↔c∈(clN V).take i) rfl (by omega) ⟨Cfg.nil,by simp⟩ ?_ ?_ ?_
   · rintro i s _ h2 ⟨g1,g2⟩
     left
     have hx:(clN V)[i]?=some (clN V)[i]:=List.getElem?_eq_getElem h2
     have hI:IsC (V:Int) (clN V)[i]:=(inV_isC (by omega)).1 (mem_clN.1 (List.getElem_mem h2))
     dsimp only
     rw [zaj,decide_eq_true (show (i:Int) < ((clN V).length:Int) by omega),cond_true,zap hx,zab,zdr g1 (by omega) hI.small,zab,wr_of ((i:Int) + 1) (by omega) (by omega)]
     refine ⟨_,rfl,g1.put hI,fun c=>?_⟩
     rw [putC_mem,List.take_add_one,hx,List.mem_append,g2]
     simp only [Option.toList_some,List.mem_singleton]
     constructor
     · rintro (h|h)
       · exact .inr h
       · exact .inl h
     · rintro (h|h)
       · exact .inr h
       · exact .inl h
   · rintro s _
     dsimp only
     rw [zaj,decide_eq_false (by omega),cond_false]
   · rintro s ⟨g1,g2⟩
     refine ⟨s,rfl,⟨g1.srt,by have:=g1.len;omega,g1.cl⟩,fun c=>?_⟩
     rw [g2,List.take_length,mem_clN,inV_isC (by omega)]
end Go.PF
namespace Go.PF
open Go.Pu
def impB (V:Nat) (K:List (List Int)) (c:List Int):Bool:=(List.range (2 ^ V)).all fun n => !modB K n || tc (bt' n) c
theorem zbK {V:Nat} {K:List (List Int)} {c:List Int}:impB V K c=true↔∀ n,n < 2 ^ V→modB K n=true→tc (bt' n) c=true:=by
 unfold impB
 rw [List.all_eq_true]
 constructor
 · intro h n hn hm
   have:=h n (List.mem_range.2 hn)
   rw [hm] at this;simpa using this
 · intro h n hn
   cases hm:modB K n with
   | false=>rfl
   | true=>rw [h n (List.mem_range.1 hn) hm];rfl
theorem impB_false {V:Nat} {K:List (List Int)} {c:List Int}:impB V K c=false↔∃ n,n < 2 ^ V∧modB K n=true∧tc (bt' n) c=false:=by
 rw [← Bool.not_eq_true,zbK]
 constructor
 · intro h
   apply Classical.byContradiction
   intro hn
   refine h fun n h1 h2=>?_
   cases h3:tc (bt' n) c with
   | true=>rfl
   | false=>exact absurd ⟨n,h1,h2,h3⟩ hn
 · rintro ⟨n,h1,h2,h3⟩ h
   rw [h n h1 h2] at h3;cases h3
theorem impB_mono {V:Nat} {K:List (List Int)} {c d:List Int} (h:impB V K c=true) (hs:∀ l∈c,l∈d):impB V K d=true:=by
 rw [zbK] at h ⊢
 intro n hn hm
 obtain ⟨l,hl,ht⟩:=tc_iff.1 (h n hn hm)
 exact tc_iff.2 ⟨l,hs l hl,ht⟩
theorem two_pow {V:Nat} (h:V≤12):2 ^ V≤4096:=by
 calc 2 ^ V≤2 ^ 12:=Nat.pow_le_pow_right (by omega) h
  _=4096:=rfl
theorem zea {V:Int} {c:List Int} (hc:IsC V c) {n:Nat} (hn:n < 9223372036854775808):zbW c (n:Int)=some (tc (bt' n) c):=by
 unfold zbW
 rw [zbb (p:=fun _ l=>tl (bt' n) l) (v:=true) (fun i y hy=>by
  have hl:=hc.lit y (List.mem_of_getElem? hy)
  have h12:=hc.hi
  have hv:zaN y=(y.natAbs:Int):=by rw [zdk];exact zaY (by omega) (by omega)
  have hw:wr (zaN y - 1)=((y.natAbs - 1:Nat):Int):=by rw [hv,wr_of _ (by omega) (by omega)];omega
  have hnn:nn ((y.natAbs - 1:Nat):Int)=some ():=by unfold nn;rw [if_neg (by omega)]
  rw [hw,hnn,zab,bit_nat hn (by omega)]
  rfl),za4]
 unfold tc
 cases c.any (tl (bt' n)) <;> rfl
theorem spec_l5All_eq {V:Int} {K:List (List Int)} (hK:∀ c∈K,IsC V c) {n:Nat} (hn:n < 9223372036854775808):zcm K (n:Int)=some (modB K n):=by
 unfold zcm
 rw [zbb (p:=fun _ c => !tc (bt' n) c) (v:=false) (fun i y hy=>by
  rw [zea (hK y (List.mem_of_getElem? hy)) hn,zab]),za4,show (K.any fun c => !tc (bt' n) c) = !modB K n by unfold modB;rw [List.all_eq_not_any_not,Bool.not_not]]
 cases modB K n <;> rfl
theorem spec_l5Implies_eq {F:Cnf} {V:Nat} (hV:F.vars=(V:Int)) (h12:V≤12) (hK:∀ c∈F.clauses,IsC F.vars c) {c:List Int} (hc:IsC F.vars c):zcT F c=some (impB V F.clauses c):=by
 unfold zcT
 have hp:=two_pow h12
 have hnn:nn F.vars=some ():=by unfold nn;rw [hV,if_neg (by omega)]
 have hsh:shlK true 64 1 F.vars=((2 ^ V:Nat):Int):=by rw [hV,shlK_nat (by omega)]
 obtain ⟨r,h1,h2⟩:=cnt_m (σ:=Unit) (X:=Bool) (fun _ i=>i) (n:=2 ^ V) (a:=0) (t0:=(0:Int)) (s0:=()) (k:=fun _=>some true) (lx:=fun x=>some x) (R:=fun r=>r=impB V F.clauses c) (body:=fun s29=>bd (nn F.vars) (fun u77=>(bif (decide (s29 < (shlK true 64 1 F.vars))) then bd (PF.zbW c s29) (fun r79=>bd (bif (!r79) then bd (PF.zcm F.clauses s29) (fun r96=>some r96) else some false) (fun t89=>(bif t89 then some (Lp.rt false) else some (Lp.nx (wr (s29 + 1)))))) else some (Lp.bk s29))))
  (fun i _=>∀ n,n < i→modB F.clauses n=true→tc (bt' n) c=true) rfl (Nat.zero_le _) (fun n hn=>absurd hn (Nat.not_lt_zero _))
  (fun i s _ hi hI=>by
   rw [hnn,zab,hsh,decide_eq_true (show ((i:Nat):Int) < ((2 ^ V:Nat):Int) by omega),cond_true,zea hc (by omega),zab,spec_l5All_eq hK (by omega),zab]
   have hw:wr (((i:Nat):Int) + 1)=((i + 1:Nat):Int):=by rw [wr_of _ (by omega) (by omega)];omega
   cases ht:tc (bt' i) c with
   | true =>
    left
    rw [Bool.not_true,cond_false,zab,cond_false,hw]
    refine ⟨(),rfl,fun n hn hm=>?_⟩
    by_cases e:n=i
    · subst e;exact ht
    · exact hI n (by omega) hm
   | false =>
    rw [Bool.not_false,cond_true,zab]
    cases hm:modB F.clauses i with
    | false =>
     left
     rw [cond_false,hw]
     refine ⟨(),rfl,fun n hn hm'=>?_⟩
     by_cases e:n=i
     · subst e;rw [hm] at hm';cases hm'
     · exact hI n (by omega) hm'
    | true =>
     right
     rw [cond_true]
     exact ⟨_,rfl,_,rfl,(impB_false.2 ⟨i,hi,hm,ht⟩).symm⟩)
  (fun s _=>by
   rw [hnn,zab,hsh,decide_eq_false (show ¬ (((2 ^ V:Nat):Int) < ((2 ^ V:Nat):Int)) by omega),cond_false])
  (fun s hI=>⟨_,rfl,(zbK.2 hI).symm⟩)
 rw [h1,h2]
theorem any_cg {A:Type} {p q:A→Bool}:∀ {l:List A},(∀ a∈l,p a=q a)→l.any p=l.any q
 | [],_=>rfl
 | a::l,h=>by rw [List.any_cons,List.any_cons,h a (by simp),any_cg fun b hb=>h b (by simp [hb])]
theorem tc_one (b:Nat→Bool) (l:Int):tc b [l]=tl b l:=by unfold tc;simp
theorem sat_eq {V:Nat} (h12:V≤12) {K:List (List Int)} (hK:∀ c∈K,IsC (V:Int) c):zcO (V:Int) K=some ((List.range (2 ^ V)).any fun n=>modB K n):=by
 unfold zcO
 have hp:=two_pow h12
 have hnn:nn (V:Int)=some ():=by unfold nn;rw [if_neg (by omega)]
 have hch:chk ((2 ^ V:Nat):Int)=some (2 ^ V):=by unfold chk;rw [if_pos (by omega)];rfl
 rw [hnn,zab,shlK_nat (by omega),hch,zab]
 have key:∃ r,bdR (forR (S:=Bool) (X:=Bool) 0 (2 ^ V) (fun i156 s156=>bd (PF.zbi K ((i156:Nat):Int)) (fun r256=>bd (bif r256 then bd (β:=_) (some (true,false):Option (Bool×Bool)) (fun s278=>some (s278.1,(!s278.2))) else some (s156,false)) (fun t273=>(bif t273.2 then some (Lp.rt t273.1) else some (Lp.nx t273.1))))) false) (fun s156=>some s156) (fun x156=>some x156)=some r∧r=(List.range (2 ^ V)).any fun n=>modB K n:=by
  refine rng_m (fun i s=>s=false∧∀ n,n < i→modB K n=false) ⟨rfl,fun n hn=>by omega⟩ (fun i s hi hI=>?_) (fun s hI=>⟨_,rfl,?_⟩)
  · obtain ⟨rfl,hI⟩:=hI
    rw [zdO hK (by omega),zab]
    cases hm:modB K i with
    | true =>
     right
     refine ⟨_,rfl,_,rfl,?_⟩
     exact (List.any_eq_true.2 ⟨i,List.mem_range.2 hi,hm⟩).symm
    | false =>
     left
     refine ⟨_,rfl,rfl,fun n hn=>?_⟩
     by_cases e:n=i
     · subst e;exact hm
     · exact hI n (by omega)
  · obtain ⟨rfl,hI⟩:=hI
    symm
    rw [List.any_eq_false]
    intro n hn
    rw [hI n (List.mem_range.1 hn)];simp
 obtain ⟨r,h1,h2⟩:=key
 exact (congrArg (fun x:Option Bool=>bd x (fun s144=>some s144)) h1).trans (by rw [zab,h2])
theorem impl_implies_eq {V:Nat} (h12:V≤12) {K:List (List Int)} (hK:∀ c∈K,IsC (V:Int) c) (hl:K.length≤1000) {c:List Int} (hc:IsC (V:Int) c):zbR (V:Int) K c=some (impB V K c):=by
 unfold zbR zcf
 have hcl:=hc.len
 rw [zaC (by simp;unfold lim;omega),zab,zab,List.nil_append]
 obtain ⟨s',e1,e2⟩:=forL_inv (X:=Empty) (l:=c) (s:=K) (body:=fun i32 y31 s32=>bd (app s32 [[(wr (-y31))]]) (fun xs112=>some (Lp.nx xs112))) (fun i s=>s=K++(c.take i).map (fun l=>[-l])∧s.length≤1000 + i) ⟨by simp,by omega⟩ (fun i y s hy hs=>by
  obtain ⟨rfl,h1⟩:=hs
  have hlit:=hc.lit y (List.mem_of_getElem? hy)
  have hil:=zao hy
  rw [wr_of (-y) (by omega) (by omega),zaC (by simp only [List.length_singleton];unfold lim;omega),zab]
  refine ⟨_,rfl,?_,?_⟩
  · rw [List.take_add_one,hy,List.map_append,List.append_assoc];simp
  · rw [List.length_append,List.length_singleton];omega)
 have h2:∀ x∈s',IsC (V:Int) x:=by
  intro x hx
  rw [e2.1,List.take_length] at hx
  rcases List.mem_append.1 hx with hx|hx
  · exact hK x hx
  · obtain ⟨l,hl,rfl⟩:=List.mem_map.1 hx
    have:=hc.lit l hl
    exact ⟨hc.lo,hc.hi,fun k hk=>by simp at hk;subst hk;omega,by simp⟩
 rw [e1,zaX,sat_eq h12 h2,zab]
 congr 1
 rw [e2.1,List.take_length]
 have hmod:∀ n,modB (K++c.map fun l=>[-l]) n=(modB K n && !tc (bt' n) c):=by
  intro n
  unfold modB tc
  rw [List.all_append,List.all_map]
  congr 1
  rw [List.all_eq_not_any_not]
  congr 1
  refine any_cg ?_
  intro l hl
  show (!tc (bt' n) [-l])=_
  rw [tc_one,tl_neg (by have:=hc.lit l hl;omega),Bool.not_not]
 unfold impB
 rw [List.all_eq_not_any_not]
 congr 1
 refine any_cg ?_
 intro n hn
 rw [hmod]
 cases modB K n <;> cases tc (bt' n) c <;> rfl
structure Pr (V:Nat) (K:List (List Int)) (c:List Int):Prop where
 cl:IsC (V:Int) c
 i:impB V K c=true
 m:∀ x,IsC (V:Int) x→impB V K x=true→(∀ l∈x,l∈c)→x=c
theorem srt_sub:∀ {c x:List Int},(c.Pairwise fun a b=>a.natAbs < b.natAbs)→(x.Pairwise fun a b=>a.natAbs < b.natAbs)→(∀ l∈x,l∈c)→x.Sublist c
 | [],[],_,_,_=>.slnil
 | [],a::x,_,_,h=>absurd (h a (by simp)) (by simp)
 | b::c,[],_,_,_=>List.nil_sublist _
 | b::c,a::x,hc,hx,h=>by
  have hc':=List.pairwise_cons.1 hc
  have hx':=List.pairwise_cons.1 hx
  by_cases e:a=b
  · subst e
    refine .cons_cons _ (srt_sub hc'.2 hx'.2 fun l hl=>?_)
    rcases List.mem_cons.1 (h l (by simp [hl])) with e|e
    · subst e;have:=hx'.1 l hl;omega
    · exact e
  · have ha:a∈c:=by
     rcases List.mem_cons.1 (h a (by simp)) with e'|e'
     · exact absurd e' e
     · exact e'
    have hb:=hc'.1 a ha
    refine .cons _ (srt_sub hc'.2 hx fun l hl=>?_)
    rcases List.mem_cons.1 (h l hl) with e'|e'
    · subst e'
      rcases List.mem_cons.1 hl with e2|e2
      · exact absurd e2.symm e
      · have:=hx'.1 l e2;omega
    · exact e'
theorem sub_len {V:Int} {x c:List Int} (hx:IsC V x) (hc:IsC V c) (h:∀ l∈x,l∈c):x.length≤c.length:=(srt_sub hc.srt hx.srt h).length_le
theorem sub_eq {V:Int} {x c:List Int} (hx:IsC V x) (hc:IsC V c) (h:∀ l∈x,l∈c) (hl:c.length≤x.length):x=c:=(srt_sub hc.srt hx.srt h).eq_of_length_le hl
theorem erase_isC {V:Int} {c:List Int} (h:IsC V c) (k:Nat):IsC V (c.eraseIdx k) :=
 ⟨h.lo,h.hi,fun l hl=>h.lit l (List.mem_of_mem_eraseIdx hl),h.srt.sublist (List.eraseIdx_sublist c k)⟩
def prB2 (V:Nat) (K:List (List Int)) (c:List Int):Bool:=impB V K c && (List.range c.length).all fun k => !impB V K (c.eraseIdx k)
theorem prB2_iff {V:Nat} {K:List (List Int)} {c:List Int} (hc:IsC (V:Int) c):prB2 V K c=true↔Pr V K c:=by
 unfold prB2
 rw [Bool.and_eq_true,List.all_eq_true]
 constructor
 · rintro ⟨h1,h2⟩
   refine ⟨hc,h1,fun x hx hi hs=>?_⟩
   apply Classical.byContradiction
   intro hne
   -- a literal of c that x has not
   have:∃ l∈c,l ∉ x:=by
    apply Classical.byContradiction
    intro hn
    refine hne (sub_eq hx hc hs (sub_len hc hx fun l hl=>?_))
    apply Classical.byContradiction
    exact fun h=>hn ⟨l,hl,h⟩
   obtain ⟨l,hl,hlx⟩:=this
   obtain ⟨k,hk,e⟩:=List.getElem_of_mem hl
   have h3:=h2 k (List.mem_range.2 hk)
   have h4:impB V K (c.eraseIdx k)=true:=impB_mono hi fun y hy=>by
    have hyc:=hs y hy
    rw [List.mem_eraseIdx_iff_getElem]
    obtain ⟨j,hj,ej⟩:=List.getElem_of_mem hyc
    refine ⟨j,hj,fun e2=>?_,ej⟩
    subst e2
    rw [e] at ej;subst ej;exact hlx hy
   rw [h4] at h3;cases h3
 · intro h
   refine ⟨h.i,fun k hk=>?_⟩
   have hk':=List.mem_range.1 hk
   cases hi:impB V K (c.eraseIdx k) with
   | false=>rfl
   | true =>
    have e:=h.m _ (erase_isC hc k) hi fun l hl=>List.mem_of_mem_eraseIdx hl
    have:=congrArg List.length e
    rw [List.length_eraseIdx_of_lt hk'] at this
    omega
end Go.PF
namespace Go.PF
open Go.Pu
def Good (P:List Int→Bool) (L:List (List Int)) (y:List Int):Prop:=P y=true∧∀ x∈L,P x=true→(∀ l∈x,l∈y)→x=y
theorem zca {a b:List Int}:partB a b=true↔∀ l∈a,l∈b:=by
 unfold partB
 rw [List.all_eq_true]
 exact ⟨fun h l hl=>List.contains_iff_mem.1 (h l hl),fun h l hl=>List.contains_iff_mem.2 (h l hl)⟩
theorem srt_nd {L:List (List Int)} (h:SrtC L):L.Nodup:=h.imp fun {a b} hab e=>by subst e;exact zaZ a hab
theorem srt_lt {L:List (List Int)} (hs:SrtC L) {i j:Nat} {x y:List Int} (hx:L[i]?=some x) (hy:L[j]?=some y) (h:cmpC x y < 0):i < j:=by
 apply Classical.byContradiction
 intro hn
 by_cases e:i=j
 · subst e;rw [hx] at hy;cases hy;exact zaZ x h
 · have hji:j < i:=by omega
   obtain ⟨h1,e1⟩:=List.getElem?_eq_some_iff.1 hx
   obtain ⟨h2,e2⟩:=List.getElem?_eq_some_iff.1 hy
   have:=List.pairwise_iff_getElem.1 hs j i h2 h1 hji
   rw [e1,e2] at this
   exact zaZ x (zbI h this)
theorem greedy {V:Int} {L:List (List Int)} (hs:SrtC L) (hc:∀ c∈L,IsC V c) {P:List Int→Bool} {i:Nat} {y:List Int} {out:List (List Int)} (hy:L[i]?=some y) (ho:∀ x,x∈out↔x∈L.take i∧Good P L x) :
 (out.any (fun x=>partB x y)=false∧P y=true)↔Good P L y:=by
 have hyL:=List.mem_of_getElem? hy
 constructor
 · rintro ⟨h1,h2⟩
   refine ⟨h2,fun z hz hp hsub=>?_⟩
   apply Classical.byContradiction
   have key:∀ (n:Nat) (z:List Int),z.length=n→z∈L→P z=true→(∀ l∈z,l∈y)→z≠y→False:=by
    intro n
    induction n using Nat.strongRecOn with
    | ind n ih =>
     intro z hn hz hp hsub hne
     have hlt:z.length < y.length:=by
      have h3:=sub_len (hc z hz) (hc y hyL) hsub
      have h4:¬ y.length≤z.length:=fun h=>hne (sub_eq (hc z hz) (hc y hyL) hsub h)
      omega
     by_cases hg:Good P L z
     · obtain ⟨j,hj,ej⟩:=List.getElem_of_mem hz
       have hj':L[j]?=some z:=by rw [← ej];exact List.getElem?_eq_getElem hj
       have hji:=srt_lt hs hj' hy (zb7.2 (.inl hlt))
       have hm:z∈L.take i:=List.mem_of_getElem? (i:=j) (by rw [List.getElem?_take,if_pos hji];exact hj')
       rw [List.any_eq_false] at h1
       exact h1 z ((ho z).2 ⟨hm,hg⟩) (zca.2 hsub)
     · have:∃ x∈L,P x=true∧(∀ l∈x,l∈z)∧x≠z:=by
        apply Classical.byContradiction
        intro hn
        refine hg ⟨hp,fun x hx hpx hsx=>?_⟩
        apply Classical.byContradiction
        exact fun e=>hn ⟨x,hx,hpx,hsx,e⟩
       obtain ⟨x,hx,hpx,hsx,hxe⟩:=this
       have hlx:x.length < z.length:=by
        have h3:=sub_len (hc x hx) (hc z hz) hsx
        have h4:¬ z.length≤x.length:=fun h=>hxe (sub_eq (hc x hx) (hc z hz) hsx h)
        omega
       exact ih x.length (by omega) x rfl hx hpx (fun l hl=>hsub l (hsx l hl)) (fun e=>by subst e;omega)
   exact fun hne=>key _ z rfl hz hp hsub hne
 · intro hg
   refine ⟨?_,hg.1⟩
   rw [List.any_eq_false]
   intro x hx hpart
   obtain ⟨hxt,hgx⟩:=(ho x).1 hx
   have e:=hg.2 x (List.mem_of_mem_take hxt) hgx.1 (zca.1 hpart)
   subst e
   obtain ⟨j,hj,ej⟩:=List.getElem_of_mem hxt
   rw [List.length_take] at hj
   rw [List.getElem_take] at ej
   have hj':L[j]?=some x:=by rw [← ej];exact List.getElem?_eq_getElem (by omega)
   have hnd:=srt_nd hs
   have:=(List.getElem?_inj (by omega) hnd).1 (hj'.trans hy.symm)
   omega
theorem greedy_srt {L out:List (List Int)} (hs:SrtC L) {i:Nat} {y:List Int} (hy:L[i]?=some y) (ho:SrtC out) (hm:∀ x∈out,x∈L.take i):SrtC (out++[y]):=by
 refine List.pairwise_append.2 ⟨ho,by simp,fun a ha b hb=>?_⟩
 simp at hb;subst hb
 obtain ⟨j,hj,ej⟩:=List.getElem_of_mem (hm a ha)
 rw [List.length_take] at hj
 rw [List.getElem_take] at ej
 obtain ⟨h2,e2⟩:=List.getElem?_eq_some_iff.1 hy
 have:=List.pairwise_iff_getElem.1 hs j i (by omega) h2 (by omega)
 rwa [ej,e2] at this
theorem fits_loop {out:List (List Int)} (hl:out.length≤100000) {y:List Int} {B:Type} {K:Bool×Int→Option B} {R:B→Prop} (hk:∀ p,∃ r,K (!(out.any fun x=>partB x y),p)=some r∧R r) :
 ∃ r,bdR (iter (S:=(Bool×Int)) (X:=Empty) (fun s108518=>(bif (bif (decide (s108518.2 < (len out))) then s108518.1 else false) then bd (ix out s108518.2) (fun x108606=>bd (PF.zbV x108606 y) (fun r108618=>some (Lp.nx ((!r108618),(wr (s108518.2 + 1)))))) else some (Lp.bk (s108518.1,s108518.2)))) (true,0)) K (fun x=>nomatch x)=some r∧R r:=by
 refine iter_m (fun s:Bool×Int=>0≤s.2∧s.2≤out.length∧s.1 = !((out.take s.2.toNat).any fun x=>partB x y)) (fun s=>out.length - s.2.toNat) ⟨by show (0:Int)≤0;omega,by show (0:Int)≤_;omega,by simp⟩ ?_
 rintro ⟨b,k⟩ ⟨h1,h2,h3⟩
 dsimp only at h1 h2 h3 ⊢
 rw [zaj]
 by_cases hlt:k < out.length
 · rw [decide_eq_true hlt,cond_true]
   cases b with
   | false =>
    right;left
    rw [cond_false]
    refine ⟨_,rfl,?_⟩
    have:out.any (fun x=>partB x y)=true:=by
     have h4:(out.take k.toNat).any (fun x=>partB x y)=true:=by
      cases hq:(out.take k.toNat).any (fun x=>partB x y) with
      | true=>rfl
      | false=>rw [hq] at h3;cases h3
     obtain ⟨x,hx,hp⟩:=List.any_eq_true.1 h4
     exact List.any_eq_true.2 ⟨x,List.mem_of_mem_take hx,hp⟩
    have:=hk k
    rwa [‹out.any (fun x=>partB x y)=true›] at this
   | true =>
    left
    rw [cond_true]
    obtain ⟨x,hx,hx'⟩:=ix_of (xs:=out) h1 hlt
    rw [hx,zab,spec_l2Sub_eq,zab,wr_of (k + 1) (by omega) (by omega)]
    refine ⟨_,rfl,⟨by dsimp only;omega,by dsimp only;omega,?_⟩,by dsimp only;omega⟩
    dsimp only
    rw [show (k + 1).toNat=k.toNat + 1 by omega,List.take_add_one,hx',List.any_append]
    have h4:(out.take k.toNat).any (fun x=>partB x y)=false:=by
     cases hq:(out.take k.toNat).any (fun x=>partB x y) with
     | false=>rfl
     | true=>rw [hq] at h3;cases h3
    rw [h4];simp
 · right;left
   rw [decide_eq_false hlt,cond_false,cond_false]
   refine ⟨_,rfl,?_⟩
   have:k.toNat=out.length:=by omega
   rw [this,List.take_length] at h3
   rw [h3];exact hk k
def giveL (V:Int) (L:List (List Int)):Cnf×Bool:=bif decide (60 < len L) then (Cnf.mk 0 [],false) else (Cnf.mk V L,true)
theorem zbv {F:Cnf} (hF:cnfB F=true):F.vars=(F.vars.toNat:Int)∧F.vars.toNat≤12:=by
 have:=cnfB_rng hF;omega
theorem ex_give {A L:Type} {X:Option A} {G:L→A} {Q:L→Prop} (h:∃ q,X=some q∧∃ l,q=G l∧Q l):∃ l,X=some (G l)∧Q l:=by
 obtain ⟨q,e,l,rfl,hq⟩:=h;exact ⟨l,e,hq⟩
theorem good_pr {V:Nat} {K A:List (List Int)} (hA:∀ c,c∈A↔IsC (V:Int) c) (x:List Int):(x∈A∧Good (impB V K) A x)↔Pr V K x:=by
 constructor
 · rintro ⟨h1,h2,h3⟩
   exact ⟨(hA x).1 h1,h2,fun z hz hi hs=>h3 z ((hA z).2 hz) hi hs⟩
 · intro h
   exact ⟨(hA x).2 h.cl,h.i,fun z hz hi hs=>h.m z ((hA z).1 hz) hi hs⟩
theorem spec_prime {F:Cnf} (hF:cnfB F=true) (hFo:okCnf F) (h5:F.vars≤5):∃ L,zbX F=some (giveL F.vars L)∧SrtC L∧L.length≤243∧∀ x,x∈L↔Pr F.vars.toNat F.clauses x:=by
 obtain ⟨hV,h12⟩:=zbv hF
 have hK:=cnfB_isC hF
 unfold zbX
 obtain ⟨A,a1,a2,a3⟩:=spec_l5Clauses_eq (V:=F.vars.toNat) (by omega)
 have hgp:=good_pr (K:=F.clauses) a3
 rw [zdm hFo,hF,zab,Bool.not_true,cond_false,decide_eq_false (show ¬ 5 < F.vars by omega),cond_false]
 rw [← hV] at a1 a3
 rw [a1,zab]
 have hAc:∀ c∈A,IsC F.vars c:=fun c hc=>(a3 c).1 hc
 refine ex_give (list_m (fun i out=>SrtC out∧out.length≤i∧∀ x,x∈out↔x∈A.take i∧Good (impB F.vars.toNat F.clauses) A x) ⟨.nil,by simp,by simp⟩ ?_ ?_)
 · rintro i y out hy ⟨g1,g2,g3⟩
   left
   have hyA:=List.mem_of_getElem? hy
   have hil:=zao hy
   have hAl:=a2.len
   have hg:=greedy (P:=impB F.vars.toNat F.clauses) a2.srt hAc hy g3
   refine nx_of (fits_loop (by omega) fun p=>?_)
   have himp:=spec_l5Implies_eq hV h12 hK (hAc y hyA)
   have fin:∀ t:Bool,(t=true↔Good (impB F.vars.toNat F.clauses) A y)→∃ r,(bif t then bd (app out [y]) (fun xs132673=>some (Lp.nx (X:=Empty) xs132673)) else some (Lp.nx out))=some r∧∃ s',r=Lp.nx s'∧SrtC s'∧s'.length≤i + 1∧∀ x,x∈s'↔x∈A.take (i + 1)∧Good (impB F.vars.toNat F.clauses) A x:=by
    intro t ht
    cases t with
    | true =>
     have hgy:=ht.1 rfl
     rw [cond_true,zaC (by simp only [List.length_singleton];unfold lim;omega),zab]
     refine ⟨_,rfl,_,rfl,greedy_srt a2.srt hy g1 (fun x hx=>((g3 x).1 hx).1),by rw [List.length_append,List.length_singleton];omega,fun x=>?_⟩
     rw [List.take_add_one,hy,List.mem_append,List.mem_append,g3]
     simp only [Option.toList_some,List.mem_singleton]
     constructor
     · rintro (⟨h1,h2⟩|rfl)
       · exact ⟨.inl h1,h2⟩
       · exact ⟨.inr rfl,hgy⟩
     · rintro ⟨h1|rfl,h2⟩
       · exact .inl ⟨h1,h2⟩
       · exact .inr rfl
    | false =>
     have hgy:¬ Good (impB F.vars.toNat F.clauses) A y:=fun h=>by have:=ht.2 h;cases this
     rw [cond_false]
     refine ⟨_,rfl,_,rfl,g1,by omega,fun x=>?_⟩
     rw [List.take_add_one,hy,List.mem_append,g3]
     simp only [Option.toList_some,List.mem_singleton]
     constructor
     · rintro ⟨h1,h2⟩;exact ⟨.inl h1,h2⟩
     · rintro ⟨h1|rfl,h2⟩
       · exact ⟨h1,h2⟩
       · exact absurd h2 hgy
   dsimp only
   cases ha:out.any (fun x=>partB x y) with
   | true =>
    rw [Bool.not_true,cond_false,zab]
    exact fin false ⟨fun h=>(by cases h),fun h=>by have:=(hg.2 h).1;rw [ha] at this;cases this⟩
   | false =>
    rw [Bool.not_false,cond_true,himp,zab,zab]
    exact fin _ ⟨fun h=>hg.1 ⟨ha,h⟩,fun h=>(hg.2 h).2⟩
 · rintro s ⟨g1,g2,g3⟩
   rw [List.take_length] at g3
   have hAl:=a2.len
   refine ⟨giveL F.vars s,by unfold giveL;cases decide (60 < len s) <;> rfl,s,rfl,g1,by omega,fun x=>?_⟩
   rw [g3,hgp]
theorem anyI_range {A:Type} {q:Nat→Bool}:∀ {l:List A} {k:Nat},anyI (fun i _=>q i) l k=(List.range' k l.length).any q
 | [],k=>rfl
 | a::l,k=>by
  rw [anyI,anyI_range,List.length_cons,List.range'_succ,List.any_cons]
theorem impl_without_eq {c:List Int} (hl:c.length≤100000) {i:Nat} (h:i < c.length):zcP c (i:Int)=some (c.eraseIdx i):=by
 unfold zcP zci zdR
 rw [zaC (by simp;unfold lim;omega),zab,zab,List.nil_append,wr_of ((i:Int) + 1) (by omega) (by omega)]
 unfold delL
 rw [if_pos (by omega),zab,List.eraseIdx_eq_take_drop_succ]
 have e:((i:Int) + 1).toNat=i + 1:=by omega
 rw [e,Int.toNat_natCast]
theorem prime_step {F:Cnf} (hF:cnfB F=true) {c:List Int} (hc:IsC F.vars c) {s:List (List Int)×Int} (hs:s.1.length≤100000):zbS F c s=some (bif prB2 F.vars.toNat F.clauses c then (s.1++[c],s.2) else s):=by
 obtain ⟨hV,h12⟩:=zbv hF
 have hK:=cnfB_isC hF
 have hKl:=cnfB_len hF
 unfold zbS prB2
 have hI:∀ d,IsC F.vars d→zbR F.vars F.clauses d=some (impB F.vars.toNat F.clauses d):=fun d hd=>by
  have:=impl_implies_eq h12 (K:=F.clauses) (by rw [← hV];exact hK) (by omega) (c:=d) (by rw [← hV];exact hd)
  rwa [← hV] at this
 rw [hI c hc,zab]
 cases impB F.vars.toNat F.clauses c with
 | false=>rfl
 | true =>
  rw [Bool.not_true,cond_false,Bool.true_and]
  have hcl:=hc.len
  rw [zbb (p:=fun i _=>impB F.vars.toNat F.clauses (c.eraseIdx i)) (v:=(s.1,s.2)) (fun i y hy=>by
   rw [impl_without_eq (by omega) (zao hy),zab,hI _ (erase_isC hc i),zab]),anyI_range]
  have e:((List.range' 0 c.length).any fun i=>impB F.vars.toNat F.clauses (c.eraseIdx i)) = !((List.range c.length).all fun k => !impB F.vars.toNat F.clauses (c.eraseIdx k)):=by
   rw [List.all_eq_not_any_not,Bool.not_not,List.range_eq_range']
   exact any_cg fun n _=>by rw [Bool.not_not]
  rw [e]
  cases (List.range c.length).all fun k => !impB F.vars.toNat F.clauses (c.eraseIdx k) with
  | false=>rfl
  | true =>
   rw [Bool.not_true,cond_false,zaX,zaC (by simp only [List.length_singleton];unfold lim;omega),zab]
   rfl
theorem foldP {F:Cnf} (hF:cnfB F=true):∀ {l:List (List Int)} {s:List (List Int)×Int},(∀ c∈l,IsC F.vars c)→s.1.length + l.length≤100000→foldO (zbS F) l s=some (s.1++l.filter (prB2 F.vars.toNat F.clauses),s.2)
 | [],s,_,_=>by simp [foldO]
 | c::l,s,hc,hl=>by
  rw [List.length_cons] at hl
  unfold foldO
  rw [prime_step hF (hc c (by simp)) (by omega),zab,foldP hF (fun d hd=>hc d (by simp [hd])) (by cases prB2 F.vars.toNat F.clauses c <;> simp <;> omega),List.filter_cons]
  cases prB2 F.vars.toNat F.clauses c <;> simp
theorem impl_prime {F:Cnf} (hF:cnfB F=true) (hFo:okCnf F) (h5:F.vars≤5):∃ L,zbT F=some (giveL F.vars L)∧SrtC L∧L.length≤243∧∀ x,x∈L↔Pr F.vars.toNat F.clauses x:=by
 obtain ⟨hV,h12⟩:=zbv hF
 have hvl:=vis_len (n:=F.vars.toNat) (by omega)
 have hvc:∀ c∈visN F.vars.toNat,IsC F.vars c:=fun c hc=>by rw [hV];exact (mem_vis h12).1 hc
 unfold zbT
 rw [zcw hFo,hF,zab,Bool.not_true,cond_false,decide_eq_false (show ¬ 5 < F.vars by omega),cond_false,decide_eq_false (show ¬ F.vars < 0 by omega),cond_false,decide_eq_false (show ¬ 1000 < F.vars by omega),cond_false]
 have hf:=foldP hF (l:=visN F.vars.toNat) (s:=([],F.vars)) hvc (by simp;omega)
 rw [show ([]::visL F.vars.toNat 1 [])=visN F.vars.toNat from rfl,hf,zab]
 dsimp only
 rw [List.nil_append]
 have hfl:=List.length_filter_le (prB2 F.vars.toNat F.clauses) (visN F.vars.toNat)
 obtain ⟨r,r1,r2,r3⟩:=sort_LL (xs:=(visN F.vars.toNat).filter (prB2 F.vars.toNat F.clauses)) ((vis_nd _).filter _) (by unfold lim;omega)
 have hrl:r.length≤243:=by
  have hp:r.length=((visN F.vars.toNat).filter (prB2 F.vars.toNat F.clauses)).length:=by
   have n1:=srt_nd r2
   have n2:((visN F.vars.toNat).filter (prB2 F.vars.toNat F.clauses)).Nodup:=(vis_nd _).filter _
   exact (List.perm_ext_iff_of_nodup n1 n2).2 (fun a=>r3 a) |>.length_eq
  omega
 rw [r1,zab]
 refine ⟨r,by unfold giveL;cases decide (60 < len r) <;> rfl,r2,hrl,fun x=>?_⟩
 rw [r3,List.mem_filter]
 constructor
 · rintro ⟨h1,h2⟩
   exact (prB2_iff ((mem_vis h12).1 h1)).1 h2
 · intro h
   exact ⟨(mem_vis h12).2 h.cl,(prB2_iff h.cl).2 h⟩
end Go.PF
namespace Go.PF
open Go.Pu
def InK (F:Cnf) (x:List Int):Prop:=∃ n,Kn F 6 n x
theorem kn_sound {F:Cnf} (hF:Nar F) {w:Int} {b:Nat→Bool} (hb:∀ c∈F.clauses,tc b c=true):∀ {n:Nat} {x:List Int},Kn F w n x→tc b x=true
 | 0,x,h=>h.elim
 | n + 1,x,h=>by
  rcases h with ⟨h1,_⟩|h1|⟨a,c,v,h1,h2,h3,h4,h5,h6,_⟩
  · exact hb x h1
  · exact kn_sound hF hb h1
  · have ha:=hF.kn h1
    have hc:=hF.kn h2
    refine elim_sound (K:=[a,c]) (V:=F.vars) (fun y hy=>?_) h3 h4 (fun y hy=>?_) x (.inr ⟨a,by simp,c,by simp,h5,h6.symm⟩)
    · simp only [List.mem_cons,List.not_mem_nil,or_false] at hy
      rcases hy with rfl|rfl
      · exact ha.c
      · exact hc.c
    · simp only [List.mem_cons,List.not_mem_nil,or_false] at hy
      rcases hy with rfl|rfl
      · exact kn_sound hF hb h1
      · exact kn_sound hF hb h2
theorem isC_len {V:Nat} (h:V≤12) {c:List Int} (hc:IsC (V:Int) c):c.length≤V:=((inV_isC h).2 hc).len
theorem res_false {F:Cnf} (hF:Nar F) (h0:0≤F.vars) {y z:List Int} (hy:InK F y) (hz:InK F z) {v:Int} (h1:1≤v) (h2:v≤F.vars) {b:Nat→Bool} (vy:v∈y) (vz:-v∈z)
 (fy:∀ l∈y,l.natAbs≠v.natAbs→tl b l=false) (fz:∀ l∈z,l.natAbs≠v.natAbs→tl b l=false) :
 ∃ x,InK F x∧∀ l∈x,(l∈y∨l∈z)∧l.natAbs≠v.natAbs:=by
 obtain ⟨n,hn⟩:=hy
 obtain ⟨m,hm⟩:=hz
 have cy:=hF.kn hn
 have cz:=hF.kn hm
 obtain ⟨e1,e2⟩:=res_iff cy.c cz.c h1 h2
 have hr:(res y z v).2=true:=e1.2 ⟨vy,vz,fun x hx hxz=>by
  by_cases hv:x.natAbs=v.natAbs
  · exact zbu cy.c hx vy hv
  · have t1:=fy x hx hv
    have t2:=fz (-x) hxz (by omega)
    rw [tl_neg (by have:=cy.c.lit x hx;omega),t1] at t2;cases t2⟩
 have hI:=zbe cy.c cz.c hr
 have hle:=hF.le
 have hl:(res y z v).1.length≤F.vars.toNat:=isC_len (by omega) (by rw [show (F.vars.toNat:Int)=F.vars by omega];exact hI)
 refine ⟨(res y z v).1,⟨max n m + 1,.inr (.inr ⟨y,z,v,Kn.up (by omega) hn,Kn.up (by omega) hm,h1,h2,hr,rfl,by rw [zaj];omega⟩)⟩,fun l hl=>(e2 hr l).1 hl⟩
theorem tl_dec {b b':Nat→Bool} {l:Int} (h:b l.natAbs=b' l.natAbs):tl b l=tl b' l:=by unfold tl;rw [h]
theorem bits_of (b:Nat→Bool):∀ V:Nat,∃ n,n < 2 ^ V∧∀ u,1≤u→u≤V→bt' n u=b u
 | 0=>⟨0,by decide,fun u h1 h2=>by omega⟩
 | V + 1=>by
  obtain ⟨n,hn,h⟩:=bits_of b V
  cases hb:b (V + 1) with
  | false =>
   refine ⟨n,by rw [Nat.pow_succ];omega,fun u h1 h2=>?_⟩
   by_cases e:u=V + 1
   · subst e
     unfold bt'
     rw [hb,Nat.add_sub_cancel]
     exact Nat.testBit_lt_two_pow hn
   · exact h u h1 (by omega)
  | true =>
   refine ⟨n + 2 ^ V,by rw [Nat.pow_succ];omega,fun u h1 h2=>?_⟩
   by_cases e:u=V + 1
   · subst e
     unfold bt'
     rw [hb,Nat.add_sub_cancel,Nat.add_comm,Nat.testBit_two_pow_add_eq,Nat.testBit_lt_two_pow hn];rfl
   · have:=h u h1 (by omega)
     unfold bt' at this ⊢
     rw [← this,Nat.add_comm,Nat.testBit_two_pow_add_gt (by omega)]
theorem kn_complete {F:Cnf} (hF:Nar F) {c:List Int} (hc:IsC F.vars c) (hi:impB F.vars.toNat F.clauses c=true):∃ y,InK F y∧∀ l∈y,l∈c:=by
  apply Classical.byContradiction
  intro hno
  obtain ⟨hV,h12⟩:=zbv hF.cnf
  have hle:=hF.le
  have key:∀ j,j≤F.vars.toNat→∃ b:Nat→Bool,(∀ l∈c,tl b l=false)∧∀ y,InK F y→¬ ∀ l∈y,(l.natAbs≤j∨∃ k∈c,k.natAbs=l.natAbs)∧tl b l=false:=by
    intro j
    induction j with
    | zero =>
      intro _
      have hb:∀ l∈c,tl (fun u=>decide (-(u:Int)∈c)) l=false:=by
        intro l hl
        have h3:=hc.lit l hl
        show (decide (-((l.natAbs:Nat):Int)∈c) == decide (0 < l))=false
        by_cases hp:0 < l
        · have:¬ -((l.natAbs:Nat):Int)∈c:=fun h=>by
            have:=zbu hc hl h (by omega)
            omega
          rw [decide_eq_true hp,decide_eq_false this];rfl
        · have e:-((l.natAbs:Nat):Int)=l:=by omega
          rw [decide_eq_false hp,e,decide_eq_true hl];rfl
      refine ⟨_,hb,fun y hy h=>hno ⟨y,hy,fun l hl=>?_⟩⟩
      obtain ⟨n,hn⟩:=hy
      have h4:=(hF.kn hn).c.lit l hl
      obtain ⟨h5|⟨k,hk,e⟩,h6⟩:=h l hl
      · omega
      · rcases Int.natAbs_eq_natAbs_iff.1 e with e'|e'
        · rw [← e'];exact hk
        · have:=hb k hk
          rw [e',tl_neg (by omega),h6] at this;cases this
    | succ j ih =>
      intro hj
      obtain ⟨b,hb1,hb2⟩:=ih (by omega)
      by_cases hd:∃ k∈c,k.natAbs=j + 1
      · refine ⟨b,hb1,fun y hy h=>hb2 y hy fun l hl=>⟨?_,(h l hl).2⟩⟩
        rcases (h l hl).1 with h1|h1
        · by_cases e:l.natAbs=j + 1
          · obtain ⟨k,hk,ek⟩:=hd
            exact .inr ⟨k,hk,by omega⟩
          · exact .inl (by omega)
        · exact .inr h1
      · by_cases hg1:∀ y,InK F y→¬ ∀ l∈y,(l.natAbs≤j + 1∨∃ k∈c,k.natAbs=l.natAbs)∧tl b l=false
        · exact ⟨b,hb1,hg1⟩
        by_cases hg2:∀ y,InK F y→¬ ∀ l∈y,(l.natAbs≤j + 1∨∃ k∈c,k.natAbs=l.natAbs)∧tl (flipV b (j + 1)) l=false
        · refine ⟨flipV b (j + 1),fun l hl=>?_,hg2⟩
          rw [tl_flip fun e=>hd ⟨l,hl,e⟩];exact hb1 l hl
        exfalso
        obtain ⟨y,hy⟩:=Classical.not_forall.1 hg1
        obtain ⟨hyK,hy⟩:=Classical.not_imp.1 hy
        have hy:=Classical.not_not.1 hy
        obtain ⟨z,hz⟩:=Classical.not_forall.1 hg2
        obtain ⟨hzK,hz⟩:=Classical.not_imp.1 hz
        have hz:=Classical.not_not.1 hz
        -- both have the variable
        have ey:∃ l∈y,l.natAbs=j + 1:=by
          apply Classical.byContradiction
          intro hn
          refine hb2 y hyK fun l hl=>⟨?_,(hy l hl).2⟩
          rcases (hy l hl).1 with h1|h1
          · exact .inl (by have:l.natAbs≠j + 1:=fun e=>hn ⟨l,hl,e⟩
                           omega)
          · exact .inr h1
        have ez:∃ l∈z,l.natAbs=j + 1:=by
          apply Classical.byContradiction
          intro hn
          refine hb2 z hzK fun l hl=>?_
          have hne:l.natAbs≠j + 1:=fun e=>hn ⟨l,hl,e⟩
          refine ⟨?_,by have:=(hz l hl).2;rwa [tl_flip hne] at this⟩
          rcases (hz l hl).1 with h1|h1
          · exact .inl (by omega)
          · exact .inr h1
        obtain ⟨p,hp,ep⟩:=ey
        obtain ⟨q,hq,eq⟩:=ez
        have tp:=(hy p hp).2
        have tq:=(hz q hq).2
        have tq':tl b q=true:=by
          rw [← eq,tl_flip_self] at tq
          cases h:tl b q with
          | true=>rfl
          | false=>rw [h] at tq;cases tq
        have hpq:q=-p:=by
          rcases Int.natAbs_eq_natAbs_iff.1 (eq.trans ep.symm) with e|e
          · rw [e,tp] at tq';cases tq'
          · exact e
        have fy:∀ l∈y,l.natAbs≠j + 1→tl b l=false:=fun l hl _=>(hy l hl).2
        have fz:∀ l∈z,l.natAbs≠j + 1→tl b l=false:=fun l hl hn=>by have:=(hz l hl).2;rwa [tl_flip hn] at this
        have fin:∀ x,InK F x→(∀ l∈x,(l∈y∨l∈z)∧l.natAbs≠j + 1)→False:=fun x hx hxl=>hb2 x hx fun l hl=>by
          obtain ⟨h1,h2⟩:=hxl l hl
          have hdec:l.natAbs≤j + 1∨∃ k∈c,k.natAbs=l.natAbs:=by
            rcases h1 with h1|h1
            · exact (hy l h1).1
            · exact (hz l h1).1
          refine ⟨?_,h1.elim (fun h1=>fy l h1 h2) (fun h1=>fz l h1 h2)⟩
          rcases hdec with h3|h3
          · exact .inl (by omega)
          · exact .inr h3
        by_cases hpos:0 < p
        · have e:p=((j + 1:Nat):Int):=by omega
          obtain ⟨x,hx,hxl⟩:=res_false hF (by omega) hyK hzK (v:=((j + 1:Nat):Int)) (by omega) (by omega) (b:=b) (by rw [← e];exact hp) (by rw [← e,← hpq];exact hq) (fun l hl hn=>fy l hl (by omega)) (fun l hl hn=>fz l hl (by omega))
          exact fin x hx fun l hl=>⟨(hxl l hl).1,by have:=(hxl l hl).2;omega⟩
        · have e:-p=((j + 1:Nat):Int):=by
            have:=(by obtain ⟨n,hn⟩:=hyK;exact (hF.kn hn).c.lit p hp:-F.vars≤p∧p≤F.vars∧p≠0)
            omega
          obtain ⟨x,hx,hxl⟩:=res_false hF (by omega) hzK hyK (v:=((j + 1:Nat):Int)) (by omega) (by omega) (b:=b) (by rw [← e,← hpq];exact hq) (by rw [← e,Int.neg_neg];exact hp) (fun l hl hn=>fz l hl (by omega)) (fun l hl hn=>fy l hl (by omega))
          exact fin x hx fun l hl=>⟨(hxl l hl).1.symm,by have:=(hxl l hl).2;omega⟩
  obtain ⟨b,hb1,hb2⟩:=key F.vars.toNat (Nat.le_refl _)
  obtain ⟨n,hn,hbn⟩:=bits_of b F.vars.toNat
  have hcg:∀ y,IsC F.vars y→tc (bt' n) y=tc b y:=fun y hy=>by
    unfold tc
    refine any_cg fun l hl=>tl_dec ?_
    have:=hy.lit l hl
    exact hbn _ (by omega) (by omega)
  have hmod:modB F.clauses n=true:=zb8.2 fun y hy=>by
    have hyI:=(hF.ax hy).c
    rw [hcg y hyI]
    have hyK:InK F y:=⟨1,.inl ⟨hy,by
      have:y.length≤F.vars.toNat:=isC_len h12 (by rw [← hV];exact hyI)
      rw [zaj];omega⟩⟩
    have hn2:=hb2 y hyK
    obtain ⟨l,hl⟩:=Classical.not_forall.1 hn2
    obtain ⟨h1,h2⟩:=Classical.not_imp.1 hl
    have hlit:=hyI.lit l h1
    refine tc_iff.2 ⟨l,h1,?_⟩
    cases h3:tl b l with
    | true=>rfl
    | false=>exact absurd ⟨.inl (by omega),h3⟩ h2
  have h3:=zbK.1 hi n hn hmod
  rw [hcg c hc,tc_false.2 hb1] at h3
  cases h3
theorem kn_implied {F:Cnf} (hF:Nar F) {y:List Int} (h:InK F y):impB F.vars.toNat F.clauses y=true:=by
 obtain ⟨n,hn⟩:=h
 exact zbK.2 fun m _ hm=>kn_sound hF (zb8.1 hm) hn
theorem min_pr {F:Cnf} (hF:Nar F) {R:List (List Int)} (hR:∀ x,x∈R↔InK F x) (y:List Int):(y∈R∧Good (fun _=>true) R y)↔Pr F.vars.toNat F.clauses y:=by
 obtain ⟨hV,h12⟩:=zbv hF.cnf
 have hI:∀ x,InK F x→IsC F.vars x:=fun x ⟨n,hn⟩=>(hF.kn hn).c
 constructor
 · rintro ⟨h1,h2⟩
   have hyK:=(hR y).1 h1
   refine ⟨by rw [← hV];exact hI y hyK,kn_implied hF hyK,fun x hx hi hs=>?_⟩
   rw [← hV] at hx
   obtain ⟨z,hz,hzs⟩:=kn_complete hF hx hi
   have e:=h2.2 z ((hR z).2 hz) rfl fun l hl=>hs l (hzs l hl)
   subst e
   exact sub_eq hx (hI z hz) hs (sub_len (hI z hz) hx hzs)
 · intro h
   have hc:=h.cl
   rw [← hV] at hc
   obtain ⟨z,hz,hzs⟩:=kn_complete hF hc h.i
   have e:=h.m z (by rw [← hV];exact hI z hz) (kn_implied hF hz) hzs
   subst e
   exact ⟨(hR z).2 hz,rfl,fun x hx _ hs=>h.m x (by rw [← hV];exact hI x ((hR x).1 hx)) (kn_implied hF ((hR x).1 hx)) hs⟩
theorem impl_least {F:Cnf} (hF:Nar F) (hFo:okCnf F):∃ L,zc5 F=some (L,true)∧SrtC L∧∀ x,x∈L↔Pr F.vars.toNat F.clauses x:=by
 obtain ⟨hV,h12⟩:=zbv hF.cnf
 have hle:=hF.le
 obtain ⟨o,o1,C,cl,rfl,hC⟩:=impl_closureOf_eq (w:=6) hF
 obtain ⟨r,r1,r2,r3⟩:=closure_clauses_eq hF hC
 have hrK:∀ x,x∈r↔InK F x:=fun x=>(r3 x).trans (hC.all x)
 have hrI:∀ x∈r,IsS F.vars x:=fun x hx=>hC.ci.sm x ((r3 x).1 hx)
 have hfew:=few (srt_nd r2) hrI
 have hclo:zc2 F 6=some (r,true):=by
  unfold zc2 zdu
  rw [zcw hFo,hF.cnf,zab,zab,cond_true,decide_eq_true hle,cond_true,show za6 6 0 6=true from rfl,Bool.not_true,cond_false,o1,zab,zab,r1,zab]
 have hg:∀ y∈r,zcq y r=some (r.any fun x=>decide (len x < len y) && partB x y):=fun y hy=>by
  unfold zcq
  rw [contains_LL (g:=fun x=>decide (len x < len y) && partB x y) fun x hx=>?_,zab]
  unfold zc4
  rw [impl_part_eq,zab]
  cases decide (len x < len y) <;> rfl
 unfold zc5 zdv
 rw [hclo,zab,Bool.not_true,cond_false]
 unfold zcf
 rw [zaC (by simp;unfold lim;omega),zab,zab,List.nil_append]
 dsimp only
 rw [deleteLL (g:=fun y=>r.any fun x=>decide (len x < len y) && partB x y) hg (by omega),zab,zab]
 refine ⟨_,rfl,List.Pairwise.filter _ r2,fun x=>?_⟩
 rw [List.mem_filter,← min_pr hF hrK]
 refine and_congr_right fun hx=>?_
 rw [Bool.not_eq_true',List.any_eq_false]
 constructor
 · intro h
   refine ⟨rfl,fun z hz _ hs=>?_⟩
   have hn:=h z hz
   rw [zca.2 hs,Bool.and_true,decide_eq_true_eq,zaj,zaj] at hn
   exact sub_eq (hrI z hz).c (hrI x hx).c hs (by omega)
 · intro h z hz hzx
   rw [Bool.and_eq_true,decide_eq_true_eq,zca,zaj,zaj] at hzx
   have:=h.2 z hz rfl hzx.2
   subst this;omega
theorem spec_minimal {V:Int} {A:List (List Int)} (hs:SrtC A) (hc:∀ c∈A,IsC V c) (hl:A.length≤5000):∃ L,zdb A=some L∧SrtC L∧∀ x,x∈L↔x∈A∧Good (fun _=>true) A x:=by
 unfold zdb
 refine list_m (fun i out=>SrtC out∧out.length≤i∧∀ x,x∈out↔x∈A.take i∧Good (fun _=>true) A x) ⟨.nil,by simp,by simp⟩ ?_ ?_
 · rintro i y out hy ⟨g1,g2,g3⟩
   left
   have hyA:=List.mem_of_getElem? hy
   have hil:=zao hy
   have hyl:=(hc y hyA).len
   have hg:=greedy (P:=fun _=>true) hs hc hy g3
   refine nx_of (fits_loop (by omega) fun p=>?_)
   dsimp only
   cases ha:out.any (fun x=>partB x y) with
   | true =>
    have hgy:¬ Good (fun _=>true) A y:=fun h=>by have:=(hg.2 h).1;rw [ha] at this;cases this
    rw [Bool.not_true,cond_false]
    refine ⟨_,rfl,_,rfl,g1,by omega,fun x=>?_⟩
    rw [List.take_add_one,hy,List.mem_append,g3]
    simp only [Option.toList_some,List.mem_singleton]
    constructor
    · rintro ⟨h1,h2⟩;exact ⟨.inl h1,h2⟩
    · rintro ⟨h1|rfl,h2⟩
      · exact ⟨h1,h2⟩
      · exact absurd h2 hgy
   | false =>
    have hgy:=hg.1 ⟨ha,rfl⟩
    rw [Bool.not_false,cond_true,zb5 (by unfold lim;omega),zab,zaC (by simp only [List.length_singleton];unfold lim;omega),zab]
    refine ⟨_,rfl,_,rfl,greedy_srt hs hy g1 (fun x hx=>((g3 x).1 hx).1),by rw [List.length_append,List.length_singleton];omega,fun x=>?_⟩
    rw [List.take_add_one,hy,List.mem_append,List.mem_append,g3]
    simp only [Option.toList_some,List.mem_singleton]
    constructor
    · rintro (⟨h1,h2⟩|rfl)
      · exact ⟨.inl h1,h2⟩
      · exact ⟨.inr rfl,hgy⟩
    · rintro ⟨h1|rfl,h2⟩
      · exact .inl ⟨h1,h2⟩
      · exact .inr rfl
 · rintro s ⟨g1,g2,g3⟩
   rw [List.take_length] at g3
   exact ⟨s,rfl,g1,g3⟩
theorem spec_least {F:Cnf} (hF:Nar F) (hFo:okCnf F):∃ L,zdc F=some (L,true)∧SrtC L∧∀ x,x∈L↔Pr F.vars.toNat F.clauses x:=by
 have hle:=hF.le
 obtain ⟨W,w1,r,w2,w3⟩:=spec_l10Closure_eq (w:=6) hF
 have hK:∀ x,x∈W.sorted↔InK F x:=fun x=>(w2.sm x).trans ⟨fun h=>⟨r,h⟩,fun ⟨n,hn⟩=>w3 n x hn⟩
 have hI:∀ c∈W.sorted,IsS F.vars c:=fun c hc=>hF.kn ((w2.sm c).1 hc)
 have hfew:=few (srt_nd w2.srt) hI
 obtain ⟨L,l1,l2,l3⟩:=spec_minimal w2.srt (fun c hc=>(hI c hc).c) (by omega)
 unfold zdc zdx zdw
 rw [zdm hFo,hF.cnf,zab,decide_eq_true hle,cond_true,zab,zab,Bool.not_true,cond_false,show zcr 6=true from rfl,Bool.not_true,cond_false,w1,zab,l1,zab,zab]
 exact ⟨L,rfl,l2,fun x=>(l3 x).trans (min_pr hF hK x)⟩
end Go.PF
namespace Go.PF
open Go.Pu
theorem laws_rInts_self (a:List Int) (h:a.length≤1000000):zcU a a=some true:=by
 unfold zcU
 rw [beq_self_eq_true,Bool.not_true,cond_false]
 rw [zbb (p:=fun _ _=>false) (v:=false) (fun i y hy=>by
  rw [zap hy,zab,beq_self_eq_true];rfl)]
 have:anyI (fun _ (_:Int)=>false) a 0=false:=zdj.2 fun _ _ _=>rfl
 rw [this];rfl
theorem zeb (a:List (List Int)) (h:∀ c∈a,c.length≤1000000):zbY a a=some true:=by
 unfold zbY
 rw [beq_self_eq_true,Bool.not_true,cond_false]
 rw [zbb (p:=fun _ _=>false) (v:=false) (fun i y hy=>by
  rw [zap hy,zab,laws_rInts_self y (h y (List.mem_of_getElem? hy)),zab];rfl)]
 have:anyI (fun _ (_:List Int)=>false) a 0=false:=zdj.2 fun _ _ _=>rfl
 rw [this];rfl
theorem zdQ (f:Cnf) (h:∀ c∈f.clauses,c.length≤1000000):zcV f f=some true:=by
 unfold zcV
 rw [beq_self_eq_true,cond_true,zeb _ h,zab,zab]
theorem of_ex {A:Type} {X:Option A} {r:A} (h:∃ q,X=some q∧q=r):X=some r:=by
 obtain ⟨q,e,rfl⟩:=h;exact e
theorem prime_no {F:Cnf} (hF:okCnf F) (h:cnfB F=false∨5 < F.vars):zbX F=some (Cnf.mk 0 [],false)∧zbT F=some (Cnf.mk 0 [],false):=by
 unfold zbX zbT
 rw [zdm hF,zcw hF,zab,zab]
 cases hc:cnfB F with
 | false=>exact ⟨rfl,rfl⟩
 | true =>
  have h5:5 < F.vars:=by
   rcases h with h|h
   · rw [hc] at h;cases h
   · exact h
  rw [Bool.not_true,cond_false,decide_eq_true h5]
  exact ⟨rfl,rfl⟩
theorem cnfB_of {V:Int} {L:List (List Int)} (h0:0≤V) (h12:V≤12) (hl:L.length≤60) (hc:∀ c∈L,IsC V c):cnfB ⟨V,L⟩=true:=by
 unfold cnfB
 rw [Bool.and_eq_true,Bool.and_eq_true,zcv,decide_eq_true_eq,List.all_eq_true]
 exact ⟨⟨⟨h0,h12⟩,by rw [zaj];show (L.length:Int)≤60;omega⟩,fun c h=>zb4.2 (hc c h)⟩
theorem isC_ok {V:Int} {c:List Int} (h:IsC V c):okL okI c:=⟨by have:=h.len;omega,fun x hx=>by have:=h.lit x hx;have:=h.hi;unfold okI;omega⟩
theorem equiv_eq {F:Cnf} (hF:cnfB F=true) (hFo:okCnf F) (h5:F.vars≤5) {L:List (List Int)} (hl:L.length≤60) (hL:∀ x,x∈L↔Pr F.vars.toNat F.clauses x):zcW F ⟨F.vars,L⟩=some (true,true):=by
 obtain ⟨hV,h12⟩:=zbv hF
 have hK:=cnfB_isC hF
 have hLc:∀ c∈L,IsC F.vars c:=fun c hc=>by rw [hV];exact ((hL c).1 hc).cl
 have hG:cnfB ⟨F.vars,L⟩=true:=cnfB_of (by omega) (by omega) hl hLc
 have hGo:okCnf ⟨F.vars,L⟩:=⟨by show okI F.vars;unfold okI;omega,by show L.length≤_;omega,fun c hc=>isC_ok (hLc c hc)⟩
 have hp:=two_pow h12
 have hnn:nn F.vars=some ():=by unfold nn;rw [if_neg (by omega)]
 have hch:chk ((2 ^ F.vars.toNat:Nat):Int)=some (2 ^ F.vars.toNat):=by unfold chk;rw [if_pos (by omega)];rfl
 have hsh:shlK true 64 1 F.vars=((2 ^ F.vars.toNat:Nat):Int):=by
  have:=shlK_nat (k:=F.vars.toNat) (by omega)
  rwa [← hV] at this
 unfold zcW
 rw [zcw hFo,hF,zab,Bool.not_true,cond_false,zcw hGo,hG,zab,zab]
 dsimp only
 rw [beq_self_eq_true,Bool.not_true,cond_false,cond_false,hnn,zab,hsh,hch,zab]
 have hsame:∀ n,n < 2 ^ F.vars.toNat→modB F.clauses n=modB L n:=by
  intro n hn
  cases h1:modB F.clauses n with
  | true =>
   symm
   exact zb8.2 fun c hc=>zbK.1 ((hL c).1 hc).i n hn h1
  | false =>
   symm
   cases h2:modB L n with
   | false=>rfl
   | true =>
    rw [← h1]
    symm
    refine zb8.2 fun c hc=>?_
    -- c is implied: a part of it is prime
    have hi:impB F.vars.toNat F.clauses c=true:=zbK.2 fun m _ hm=>zb8.1 hm c hc
    have key:∀ (k:Nat) (c:List Int),c.length=k→IsC F.vars c→impB F.vars.toNat F.clauses c=true→∃ x,Pr F.vars.toNat F.clauses x∧∀ l∈x,l∈c:=by
     intro k
     induction k using Nat.strongRecOn with
     | ind k ih =>
      intro c hk hcI hi
      by_cases hm:∃ x,IsC F.vars x∧impB F.vars.toNat F.clauses x=true∧(∀ l∈x,l∈c)∧x≠c
      · obtain ⟨x,hx,hxi,hxs,hxe⟩:=hm
        have hlt:x.length < c.length:=by
         have h3:=sub_len hx hcI hxs
         have h4:¬ c.length≤x.length:=fun h=>hxe (sub_eq hx hcI hxs h)
         omega
        obtain ⟨z,hz,hzs⟩:=ih x.length (by omega) x rfl hx hxi
        exact ⟨z,hz,fun l hl=>hxs l (hzs l hl)⟩
      · refine ⟨c,⟨by rw [← hV];exact hcI,hi,fun x hx hxi hxs=>?_⟩,fun l hl=>hl⟩
        apply Classical.byContradiction
        exact fun e=>hm ⟨x,by rw [hV];exact hx,hxi,hxs,e⟩
    obtain ⟨x,hx,hxs⟩:=key _ c rfl (hK c hc) hi
    obtain ⟨l,hl,ht⟩:=tc_iff.1 (zb8.1 h2 x ((hL x).2 hx))
    exact tc_iff.2 ⟨l,hxs l hl,ht⟩
 obtain ⟨r,e1,e2⟩:=rng_m (σ:=Unit) (X:=Bool×Bool) (n:=2 ^ F.vars.toNat) (s0:=()) (k:=fun _=>some (true,true)) (lx:=fun x=>some x) (R:=fun r=>r=(true,true)) (body:=fun i76 s76=>bd (PF.zbi F.clauses ((i76:Nat):Int)) (fun r105=>bd (PF.zbi L ((i76:Nat):Int)) (fun r107=>(bif (!(r105 == r107)) then some (Lp.rt (false,true)) else some (Lp.nx ())))))
  (fun _ _=>True) trivial (fun i s hi _=>by
   left
   rw [zdO hK (by omega),zab,zdO hLc (by omega),zab,hsame i hi,beq_self_eq_true]
   exact ⟨(),rfl,trivial⟩) (fun s _=>⟨_,rfl,rfl⟩)
 rw [e1,e2]
theorem plain_FnPrimeClauses (code:List Int) (hc:okL okU8 code):zdy code=some true:=by
 unfold zdy
 cases zcz code with
 | true=>rfl
 | false =>
  rw [cond_false]
  have hdraw:∃ F,zcK code=some F∧SmC 100 12 F:=by
   unfold zcK zds
   obtain ⟨F,c,e,_,h⟩:=dr_cnf (n:=10) ((okC_begin hc 0).le (by omega))
   rw [e,zab,zab]
   exact ⟨F,rfl,h⟩
  obtain ⟨F,d1,d2⟩:=hdraw
  have hFo:=d2.ok
  rw [d1,zab]
  by_cases hok:cnfB F=true∧F.vars≤5
  · obtain ⟨hF,h5⟩:=hok
    obtain ⟨hV,h12⟩:=zbv hF
    obtain ⟨L,l1,l2,l3,l4⟩:=impl_prime hF hFo h5
    obtain ⟨L',m1,m2,m3,m4⟩:=spec_prime hF hFo h5
    have e:L'=L:=srt_ext m2 l2 fun x=>(m4 x).trans (l4 x).symm
    subst e
    have hLc:∀ c∈L',IsC F.vars c:=fun c hc=>by rw [hV];exact ((l4 c).1 hc).cl
    rw [l1,zab,m1,zab]
    unfold giveL
    rw [zaj]
    by_cases h60:60 < L'.length
    · rw [decide_eq_true (show 60 < (L'.length:Int) by omega),cond_true]
      dsimp only
      rw [beq_self_eq_true,Bool.not_true,cond_false,zdQ _ (fun c hc=>by cases hc)]
      rfl
    · rw [decide_eq_false (show ¬ 60 < (L'.length:Int) by omega),cond_false]
      dsimp only
      rw [beq_self_eq_true,Bool.not_true,cond_false,zdQ _ (fun c hc=>by have:=(hLc c hc).len;omega),zab,zab,Bool.not_true,cond_false,cond_false,equiv_eq hF hFo h5 (by omega) l4,zab]
      dsimp only
      rw [Bool.not_true,cond_false,cond_false]
      have hpart:∀ (i k:Nat) x y,L'[i]?=some x→L'[k]?=some y→zco F.vars x y=some (decide (i=k),true):=by
       intro i k x y hx hy
       have hxI:=hLc x (List.mem_of_getElem? hx)
       have hyI:=hLc y (List.mem_of_getElem? hy)
       unfold zco
       rw [zdI (isC_ok hxI),zb4.2 hxI,zab,Bool.not_true,cond_false,zdI (isC_ok hyI),zb4.2 hyI,zab,zab,Bool.not_true,cond_false,impl_part_eq,zab]
       congr 2
       have hx2:=(l4 x).1 (List.mem_of_getElem? hx)
       have hy2:=(l4 y).1 (List.mem_of_getElem? hy)
       by_cases hik:i=k
       · subst hik
         rw [hx] at hy;cases hy
         rw [decide_eq_true rfl]
         exact zca.2 fun l hl=>hl
       · rw [decide_eq_false hik]
         cases hp:partB x y with
         | false=>rfl
         | true =>
          have e:=hy2.m x hx2.cl hx2.i (zca.1 hp)
          subst e
          have hnd:=srt_nd l2
          have hil:=zao hx
          exact absurd ((List.getElem?_inj hil hnd).1 (hx.trans hy.symm)) hik
      have hNar:Nar F:=⟨hF,by omega⟩
      obtain ⟨M,p1,p2,p3⟩:=impl_least hNar hFo
      obtain ⟨M',q1,q2,q3⟩:=spec_least hNar hFo
      have e1:M'=M:=srt_ext q2 p2 fun x=>(q3 x).trans (p3 x).symm
      subst e1
      have e2:M'=L':=srt_ext q2 l2 fun x=>(q3 x).trans (l4 x).symm
      subst e2
      refine of_ex (cnt_m (σ:=Unit) (fun _ i=>i) (n:=M'.length) (a:=0) (s0:=()) (R:=fun q=>q=true) (fun _ _=>True) rfl (Nat.zero_le _) trivial ?_ ?_ ?_)
      · intro i s _ hi _
        left
        have hx:M'[i]?=some M'[i]:=List.getElem?_eq_getElem hi
        rw [zaj,decide_eq_true (show (i:Int) < (M'.length:Int) by omega),cond_true]
        have hw:wr ((i:Int) + 1)=((i + 1:Nat):Int):=by rw [wr_of _ (by omega) (by omega)];omega
        obtain ⟨r,r1,r2⟩:=cnt_m (σ:=Unit) (X:=Lp Int Bool) (fun _ i=>i) (n:=M'.length) (a:=0) (t0:=(0:Int)) (s0:=()) (R:=fun q=>q=Lp.nx ((i + 1:Nat):Int))
         (body:=fun s238=>(bif (decide (s238 < (M'.length:Int))) then bd (ix M' (i:Int)) (fun x331=>bd (ix M' s238) (fun x341=>bd (PF.zco F.vars x331 x341) (fun r345=>(bif (bif (!r345.2) then true else (bif r345.1 then (!((i:Int) == s238)) else false)) then some (Lp.rt (Lp.rt false)) else some (Lp.nx (wr (s238 + 1))))))) else some (Lp.bk s238)))
         (k:=fun s238=>some (Lp.nx (wr ((i:Int) + 1)))) (lx:=fun x238=>some x238) (fun _ _=>True) rfl (Nat.zero_le _) trivial
         (fun k s _ hk _=>by
          left
          have hy:M'[k]?=some M'[k]:=List.getElem?_eq_getElem hk
          rw [decide_eq_true (show (k:Int) < (M'.length:Int) by omega),cond_true,zap hx,zab,zap hy,zab,hpart i k _ _ hx hy,zab]
          have hw2:wr ((k:Int) + 1)=((k + 1:Nat):Int):=by rw [wr_of _ (by omega) (by omega)];omega
          have ht:(bif decide (i=k) then (!((i:Int) == (k:Int))) else false)=false:=by
           by_cases e:i=k
           · subst e;rw [decide_eq_true rfl,cond_true,beq_self_eq_true];rfl
           · rw [decide_eq_false e,cond_false]
          dsimp only
          rw [Bool.not_true,cond_false,ht,cond_false,hw2]
          exact ⟨(),rfl,trivial⟩)
         (fun s _=>by rw [decide_eq_false (by omega),cond_false])
         (fun s _=>⟨_,rfl,by rw [hw]⟩)
        rw [r1,r2]
        exact ⟨(),rfl,trivial⟩
      · intro s _
        rw [zaj,decide_eq_false (by omega),cond_false]
      · intro s _
        rw [p1,zab,q1,zab]
        dsimp only
        rw [beq_self_eq_true,Bool.not_true,cond_false,zeb _ (fun c hc=>by have:=(hLc c hc).len;omega),zab,zab]
        exact ⟨_,rfl,rfl⟩
  · have hno:cnfB F=false∨5 < F.vars:=by
     cases h:cnfB F with
     | false=>exact .inl rfl
     | true=>exact .inr (by
      apply Classical.byContradiction
      exact fun hn=>hok ⟨h,by omega⟩)
    obtain ⟨n1,n2⟩:=prime_no hFo hno
    rw [n1,n2,zab,zab]
    dsimp only
    rw [beq_self_eq_true,Bool.not_true,cond_false,zdQ _ (fun c hc=>by cases hc)]
    rfl
end Go.PF
