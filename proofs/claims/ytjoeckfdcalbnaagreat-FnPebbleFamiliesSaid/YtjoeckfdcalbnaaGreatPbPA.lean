/- Helpers of the walks and plain laws. -/
import Derived.Test.YtjoeckfdcalbnaaGreatPbPf
import Derived.Test.YtjoeckfdcalbnaaGreatPbLB
set_option linter.unusedVariables false
namespace Go.PF
open Go.Pu
def vr (l:Int):Int:=bif decide (l < 0) then wr (-l) else l
theorem zdI (l:Int):zaY l=vr l:=rfl
theorem zbk {l:Int} (h1:-12≤l) (h2:l≤12):vr l=l.natAbs:=by
 unfold vr
 by_cases h:l < 0
 · simp only [h,decide_true,cond_true];rw [wr_of _ (by omega) (by omega)];omega
 · simp only [h,decide_false,cond_false];omega
theorem zd9 {l:Int} (h:okI l):zaA l=vr l:=by
 obtain ⟨h1,h2⟩:=h
 unfold zaA vr mx
 by_cases h0:l < 0
 · simp only [h0,decide_true,cond_true]
   by_cases hm:l=-9223372036854775808
   · subst hm;decide
   · rw [wr_of _ (by omega) (by omega),if_pos (by omega)]
 · simp only [h0,decide_false,cond_false]
   rw [wr_of _ (by omega) (by omega)]
   by_cases hz:l=0
   · subst hz;rfl
   · rw [if_neg (by omega)]
def inB (a b c:Int):Bool:=decide (b≤a) && decide (a≤c)
theorem inB_iff {a b c:Int}:inB a b c=true↔b≤a∧a≤c:=by simp [inB]
theorem zea (a b c:Int):zaX a b c=inB a b c:=by simp [zaX,inB]
theorem zeb (a b c:Int):zbe a b c=inB a b c:=by simp [zbe,inB]
def varsB (v:Int):Bool:=inB v 0 12
theorem varsB_iff {v:Int}:varsB v=true↔0≤v∧v≤12:=inB_iff
theorem zew (v:Int):zaK v=varsB v:=zea _ _ _
theorem zex (v:Int):zbo v=varsB v:=zeb _ _ _
def litB (v l:Int):Bool:=inB l (wr (-v)) v && !(l == 0)
theorem spec_l2Lit_eq (v l:Int):za8 v l=litB v l:=by simp [za8,litB,zea]
theorem impl_isLiteral_eq (v l:Int):zbI v l=litB v l:=by simp [zbI,litB,zeb,Bool.and_comm]
def zaJ (v:Int) (c:List Int):Bool:=varsB v && (c.all (litB v) && adj (fun a b=>decide (vr a < vr b)) c)
theorem zey {v:Int} {c:List Int} (hc:okL okI c):zbG v c=some (zaJ v c):=by
 unfold zbG zaJ
 rw [zew]
 cases hv:varsB v with
 | false=>rfl
 | true =>
  simp only [Bool.not_true,cond_false,Bool.true_and]
  rw [forL_any (p:=fun i y => !litB v y || match i with|0=>false|i + 1=>match c[i]? with|some x=>decide (vr y≤vr x)|none=>false) (v:=false) (fun i y hy=>by
   rw [spec_l2Lit_eq]
   cases hl:litB v y with
   | false=>simp
   | true =>
    cases i with
    | zero=>simp
    | succ i =>
     have hi:i + 1 < c.length:=(List.getElem?_eq_some_iff.1 hy).1
     have hp:decide ((0:Int) < ((i + 1:Nat):Int))=true:=by simp
     rw [hp,wr_pred (by omega) hi hc.1,zaU]
     simp only [Nat.add_sub_cancel]
     rw [List.getElem?_eq_getElem (show i < c.length by omega)]
     simp only [Bool.not_true,cond_false,cond_true,zaa,Bool.false_or,zdI]
     rfl)]
  rw [anyI_adj (q:=fun y => !litB v y) (r:=fun a b=>decide (vr a < vr b)) (by intro y _;simp) (by
   intro i x y hx hy
   simp only [hx]
   congr 1
   by_cases h:vr x < vr y
   · simp [h]
   · simp [h];omega)]
  simp only [Bool.not_not]
  cases (c.all fun y=>litB v y) && adj (fun a b=>decide (vr a < vr b)) c <;> rfl
theorem zdJ {v:Int} {c:List Int} (hc:okL okI c):zbZ v c=some (zaJ v c):=by
 unfold zbZ zaJ
 rw [zex]
 rw [forL_any (p:=fun i y => !litB v y || match i with|0=>false|i + 1=>match c[i]? with|some x=>decide (vr y≤vr x)|none=>false) (v:=false) (fun i y hy=>by
  rw [impl_isLiteral_eq]
  cases hl:litB v y with
  | false=>simp
  | true =>
   cases i with
   | zero=>simp
   | succ i =>
    have hi:i + 1 < c.length:=(List.getElem?_eq_some_iff.1 hy).1
    have hp:decide ((0:Int) < ((i + 1:Nat):Int))=true:=by simp
    rw [hp,wr_pred (by omega) hi hc.1,zaU]
    simp only [Nat.add_sub_cancel]
    rw [List.getElem?_eq_getElem (show i < c.length by omega)]
    simp only [Bool.not_true,cond_false,cond_true,zaa,Bool.false_or]
    rw [zd9 (hc.2 _ (List.mem_of_getElem? hy)),zd9 (hc.2 _ (List.getElem_mem _))])]
 rw [anyI_adj (q:=fun y => !litB v y) (r:=fun a b=>decide (vr a < vr b)) (by intro y _;simp) (by
  intro i x y hx hy
  simp only [hx]
  congr 1
  by_cases h:vr x < vr y
  · simp [h]
  · simp [h];omega)]
 simp only [Bool.not_not]
 cases (c.all fun y=>litB v y) && adj (fun a b=>decide (vr a < vr b)) c <;> simp
structure IsC (v:Int) (c:List Int):Prop where
 lo:0≤v
 hi:v≤12
 lit:∀ l∈c,-v≤l∧l≤v∧l≠0
 srt:c.Pairwise fun a b=>a.natAbs < b.natAbs
theorem adj_pairwise {α:Type} {r:α→α→Bool} {R:α→α→Prop} (ht:∀ a b c,R a b→R b c→R a c):∀ {l:List α},(∀ a b,a∈l→b∈l→r a b=true→R a b)→adj r l=true→l.Pairwise R:=by
 intro l
 induction l with
 | nil=>intro _ _;exact .nil
 | cons a l ih =>
  intro hr h
  cases l with
  | nil=>simp
  | cons b l =>
   simp only [adj,Bool.and_eq_true] at h
   have hp:=ih (fun x y hx hy=>hr x y (by simp [hx]) (by simp [hy])) h.2
   have hab:=hr a b (by simp) (by simp) h.1
   refine List.pairwise_cons.2 ⟨fun x hx=>?_,hp⟩
   rcases List.mem_cons.1 hx with rfl|hx
   · exact hab
   · exact ht _ _ _ hab ((List.pairwise_cons.1 hp).1 x hx)
theorem adj_of_pairwise {α:Type} {r:α→α→Bool} {l:List α} (h:l.Pairwise fun a b=>r a b=true):adj r l=true:=by
 induction l with
 | nil=>rfl
 | cons a l ih =>
  cases l with
  | nil=>rfl
  | cons b l =>
   obtain ⟨h1,h2⟩:=List.pairwise_cons.1 h
   simp only [adj,Bool.and_eq_true]
   exact ⟨h1 b (by simp),ih h2⟩
theorem litB_iff {v l:Int} (h1:0≤v) (h2:v≤12):litB v l=true↔-v≤l∧l≤v∧l≠0:=by
 unfold litB
 rw [wr_of _ (by omega) (by omega)]
 simp [inB];omega
theorem zbB {v:Int} {c:List Int}:zaJ v c=true↔IsC v c:=by
 unfold zaJ
 rw [Bool.and_eq_true,Bool.and_eq_true,varsB_iff,List.all_eq_true]
 constructor
 · rintro ⟨⟨h1,h2⟩,h3,h4⟩
   have hl:∀ l∈c,-v≤l∧l≤v∧l≠0:=fun l hl=>(litB_iff h1 h2).1 (h3 l hl)
   refine ⟨h1,h2,hl,adj_pairwise (R:=fun a b:Int=>a.natAbs < b.natAbs) (fun _ _ _=>Nat.lt_trans) (fun a b ha hb hr=>?_) h4⟩
   have:=hl a ha;have:=hl b hb
   simp only [decide_eq_true_eq] at hr
   rw [zbk (by omega) (by omega),zbk (by omega) (by omega)] at hr
   omega
 · rintro ⟨h1,h2,h3,h4⟩
   refine ⟨⟨h1,h2⟩,fun l hl=>(litB_iff h1 h2).2 (h3 l hl),adj_of_pairwise (List.Pairwise.imp_of_mem ?_ h4)⟩
   intro a b ha hb hr
   have:=h3 a ha;have:=h3 b hb
   simp only [decide_eq_true_eq]
   rw [zbk (by omega) (by omega),zbk (by omega) (by omega)]
   omega
theorem srt_len:∀ {c:List Int} {k n:Nat},c.Pairwise (fun a b=>a.natAbs < b.natAbs)→(∀ l∈c,k < l.natAbs∧l.natAbs≤n)→c.length + k≤max k n:=by
 intro c
 induction c with
 | nil=>intro k n _ _;simp;omega
 | cons a c ih =>
  intro k n h hl
  obtain ⟨h1,h2⟩:=List.pairwise_cons.1 h
  have ha:=hl a (by simp)
  have:=ih (k:=a.natAbs) (n:=n) h2 fun l hm=>⟨h1 l hm,(hl l (by simp [hm])).2⟩
  simp only [List.length_cons];omega
theorem IsC.len {v:Int} {c:List Int} (h:IsC v c):c.length≤12:=by
 have:=srt_len (k:=0) (n:=12) h.srt fun l hl=>by have:=h.lit l hl;have:=h.hi;omega
 omega
theorem IsC.ok {v:Int} {c:List Int} (h:IsC v c):okL okI c:=by
 refine ⟨by have:=h.len;omega,fun l hl=>?_⟩
 have:=h.lit l hl;have:=h.hi
 unfold okI;omega
def cnfB (f:Cnf):Bool:=varsB f.vars && decide (len f.clauses≤60) && f.clauses.all (zaJ f.vars)
theorem zez {f:Cnf} (hf:okCnf f):zcx f=some (cnfB f):=by
 unfold zcx cnfB
 rw [zew]
 cases hv:varsB f.vars with
 | false=>rfl
 | true =>
  have e:(decide (60 < len f.clauses)) = !decide (len f.clauses≤60):=by
   by_cases h:len f.clauses≤60
   · simp [h]
   · simp [h];omega
  simp only [Bool.not_true,cond_false,Bool.true_and]
  rw [e]
  cases hl:decide (len f.clauses≤60) with
  | false=>rfl
  | true =>
   have hlen:f.clauses.length≤60:=by have:=of_decide_eq_true hl;rw [zaj] at this;omega
   simp only [Bool.not_true,cond_false,Bool.true_and]
   rw [iter_any (xs:=f.clauses) (p:=fun _ c => !zaJ f.vars c) (v:=false) (fun i y hy=>by
    have hi:=(List.getElem?_eq_some_iff.1 hy).1
    have hd:decide ((i:Int) < len f.clauses)=true:=by rw [zaj];simp;omega
    rw [hd,zaU,hy]
    simp only [cond_true,zaa]
    rw [zey (hf.2.2 _ (List.mem_of_getElem? hy)),zaa]
    cases zaJ f.vars y with
    | false=>simp only [Bool.not_false,cond_true]
    | true=>rw [wr_succ hi (by omega)]) (by
    have hd:decide (((f.clauses.length:Nat):Int) < len f.clauses)=false:=by rw [zaj];simp
    rw [hd,cond_false])]
   rw [zbi,show (f.clauses.any fun y => !zaJ f.vars y) = !f.clauses.all (zaJ f.vars) by rw [List.all_eq_not_any_not,Bool.not_not]]
   cases f.clauses.all (zaJ f.vars) <;> rfl
theorem impl_IsCnf_eq {f:Cnf} (hf:okCnf f):zdg f=some (cnfB f):=by
 unfold zdg cnfB
 rw [zex]
 rw [forL_any (p:=fun _ c => !zaJ f.vars c) (v:=false) (fun i y hy=>by
  rw [zdJ (hf.2.2 _ (List.mem_of_getElem? hy)),zaa])]
 rw [zbi,show (f.clauses.any fun y => !zaJ f.vars y) = !f.clauses.all (zaJ f.vars) by rw [List.all_eq_not_any_not,Bool.not_not]]
 cases f.clauses.all (zaJ f.vars) <;> simp
theorem same_eq (a b:List Int):(bif (!((len a) == (len b))) then some false else bdR (forL (S:=Unit) (X:=Bool) a (fun i23 y22 s23=>bd (ix b ((i23:Nat):Int)) (fun x74=>(bif (!(y22 == x74)) then some (Lp.rt false) else some (Lp.nx ())))) ()) (fun s23=>some true) (fun x23=>some x23))=some (a == b):=by
 rw [zaj,zaj]
 by_cases hl:a.length=b.length
 · have:(((a.length:Nat):Int) == ((b.length:Nat):Int))=true:=by simp [hl]
   rw [this]
   simp only [Bool.not_true,cond_false]
   rw [forL_any (p:=fun i y=>match b[i]? with|some x => !(y == x)|none=>false) (v:=false) (fun i y hy=>by
    have hi:=(List.getElem?_eq_some_iff.1 hy).1
    rw [zaU,List.getElem?_eq_getElem (by omega),zaa])]
   have e:anyI (fun i y=>match b[i]? with|some x => !(y == x)|none=>false) a 0 = !(a == b):=by
    by_cases hab:a=b
    · subst hab
      rw [show (a == a)=true by simp]
      rw [anyI_false.2];rfl
      intro i y hy;rw [Nat.zero_add,hy];simp
    · rw [show (a == b)=false by simpa using hab]
      cases h:anyI (fun i y=>match b[i]? with|some x => !(y == x)|none=>false) a 0 with
      | true=>rfl
      | false =>
       exfalso;apply hab
       rw [anyI_false] at h
       apply List.ext_getElem hl
       intro i h1 h2
       have:=h i a[i] (by simp [h1])
       rw [Nat.zero_add,List.getElem?_eq_getElem h2] at this
       simpa using this
   rw [e];cases a == b <;> rfl
 · have:(((a.length:Nat):Int) == ((b.length:Nat):Int))=false:=by simp;omega
   rw [this]
   have:(a == b)=false:=by
    rw [beq_eq_false_iff_ne];intro e;subst e;exact hl rfl
   rw [this];rfl
theorem spec_l1Same_eq (a b:List Int):zcP a b=some (a == b):=same_eq a b
theorem spec_l1Has_eq (c:List Int) (l:Int):zdb c l=some (c.contains l):=by
 unfold zdb
 rw [forL_any (p:=fun _ y=>y == l) (v:=true) (fun i y _=>rfl),zbi]
 rw [show (c.any fun y=>y == l)=c.contains l by induction c with|nil=>rfl|cons x c ih=>rw [List.any_cons,List.contains_cons,ih,Bool.beq_comm]]
 cases c.contains l <;> rfl
theorem zc2 (c:List Int) (l:Int):zaZ c l=some (c.contains l):=by unfold zaZ;rw [spec_l1Has_eq];rfl
theorem contains_any (c:List Int) (l:Int):(c.any fun y=>l == y)=c.contains l:=by induction c with
 | nil=>rfl
 | cons x c ih=>rw [List.any_cons,List.contains_cons,ih]
theorem zfa (c:List Int) (l:Int):∃ r,zdh c l=some r∧decide (0≤r)=c.contains l:=by
 unfold zdh
 rw [forL_find (p:=fun _ y=>l == y) (v:=fun i _=>(i:Int)) (fun i y _=>rfl)]
 cases h:findI (fun _ y=>l == y) c 0 with
 | none =>
  refine ⟨-1,rfl,?_⟩
  have:=zdF.1 h
  rw [zbi,contains_any] at this;rw [this];rfl
 | some z =>
  obtain ⟨_,_,_,h4⟩:=zdG h
  rw [zbi,contains_any] at h4
  exact ⟨_,rfl,by rw [h4];simp⟩
theorem zeA (c:List Int) (l:Int):zbp c l=some (c.contains l):=by
 obtain ⟨r,h1,h2⟩:=zfa c l
 unfold zbp;rw [h1,zaa,h2]
theorem zfb {c:List Int} {f:Int→Option Bool} {g:Int→Bool} (h:∀ y∈c,f y=some (g y)):∃ r,zdl c f=some r∧decide (0≤r)=c.any g∧(∀ z,findI (fun _ y=>g y) c 0=some z→r=z.1)∧(findI (fun _ y=>g y) c 0=none→r=-1):=by
 unfold zdl
 rw [forL_find (p:=fun _ y=>g y) (v:=fun i _=>(i:Int)) (fun i y hy=>by rw [h y (List.mem_of_getElem? hy),zaa])]
 cases hf:findI (fun _ y=>g y) c 0 with
 | none =>
  refine ⟨-1,rfl,?_,nofun,fun _=>rfl⟩
  have:=zdF.1 hf
  rw [zbi] at this;rw [this];rfl
 | some z =>
  obtain ⟨_,_,_,h4⟩:=zdG hf
  rw [zbi] at h4
  exact ⟨_,rfl,by rw [h4];simp,fun z' hz=>(by cases hz;rfl),nofun⟩
end Go.PF
namespace Go.PF
open Go.Pu
theorem foldl_filter {α:Type} {p:α→Bool}:∀ {l s:List α},l.foldl (fun s y=>bif p y then s++[y] else s) s=s++l.filter p:=by
 intro l
 induction l with
 | nil=>intro s;simp
 | cons y l ih =>
  intro s
  rw [List.foldl_cons,ih]
  cases h:p y <;> simp [h]
theorem forL_filter {α X:Type} {f:Nat→α→List α→Option (Lp (List α) X)} {p:α→Bool} {l:List α} (hf:∀ i y s,l[i]?=some y→f i y s=bif p y then bd (app s [y]) fun xs=>some (.nx xs) else some (.nx s)) (hl:l.length≤lim) :
 forL l f []=some (.go (l.filter p)):=by
 have:=(forL_foldI (X:=X) (body:=f) (fun s y=>bif p y then s++[y] else s) (l:=l) (s:=[]) (fun i s=>s.length≤i) (by simp) (fun i x t hx ht=>by
  have hi:=(List.getElem?_eq_some_iff.1 hx).1
  rw [hf i x t hx]
  cases p x with
  | false=>exact ⟨rfl,by simp only [cond_false];omega⟩
  | true =>
   simp only [cond_true]
   rw [zaE (by simp;omega),zaa]
   exact ⟨rfl,by simp;omega⟩)).1
 rw [this,foldl_filter];rfl
def zaz (c:List Int) (v:Int):List Int:=c.filter fun y => !(vr y == v)
theorem zeB {c:List Int} {v:Int} (hl:c.length≤lim):zcy c v=some (zaz c v):=by
 unfold zcy zaz
 rw [forL_filter (p:=fun y => !(vr y == v)) (fun i y s _=>by rfl) hl];rfl
theorem filter_take {α:Type} {p:α→Bool} {c:List α} {j:Nat} {x:α} (hx:c[j]?=some x):(c.take (j + 1)).filter p=(c.take j).filter p++bif p x then [x] else []:=by
 rw [List.take_add_one,hx,Option.toList_some,List.filter_append]
 cases h:p x <;> simp [List.filter,h]
theorem del_loop {α:Type} {n:Nat} (hn:n≤9223372036854775806) {c:List α} (hc:c.length=n) {f:α→Option Bool} {g:α→Bool} (h:∀ y∈c,f y=some (g y)) :
 ∀ (m j i:Nat) (s:List α),j + m=n→i≤j→s.length=n→s.take i=(c.take j).filter (fun y => !g y)→s.drop j=c.drop j →
  ∃ s' i',iter (S:=(List α)×Int×Int) (X:=Empty) (fun s32=>(bif (decide (s32.2.2 < (len s32.1))) then bd (ix s32.1 s32.2.2) (fun x143=>bd (f x143) (fun r145=>(bif (!r145) then bd (ix s32.1 s32.2.1) (fun _=>bd (put s32.1 s32.2.1 x143) (fun xs167=>some (Lp.nx (xs167,(wr (s32.2.1 + 1)),(wr (s32.2.2 + 1)))))) else some (Lp.nx (s32.1,s32.2.1,(wr (s32.2.2 + 1))))))) else some (Lp.bk (s32.1,s32.2.1,s32.2.2)))) (s,(i:Int),(j:Int)) =
   some (.go (s',((i':Nat):Int),(n:Int)))∧i'≤n∧s'.length=n∧s'.take i'=c.filter (fun y => !g y):=by
 intro m
 induction m with
 | zero =>
  intro j i s hj hi hs ht _
  have:j=n:=by omega
  subst this
  refine ⟨s,i,zaT ?_,hi,hs,by rw [ht,List.take_of_length_le (by omega)]⟩
  have hd:decide (((j:Nat):Int) < len s)=false:=by rw [zaj,hs];simp
  simp only [hd,cond_false]
 | succ m ih =>
  intro j i s hj hi hs ht hd
  have hjn:j < n:=by omega
  have hx:s[j]?=some c[j]:=by
   have:=congrArg (·[0]?) hd
   simp only [List.getElem?_drop,Nat.add_zero] at this
   rw [this];exact List.getElem?_eq_getElem (by omega)
  have hlt:decide (((j:Nat):Int) < len s)=true:=by rw [zaj,hs];simp;omega
  have hg:=h c[j] (List.getElem_mem _)
  have e1:wr ((j:Int) + 1)=((j + 1:Nat):Int):=by rw [wr_of _ (by omega) (by omega)];simp
  have e2:wr ((i:Int) + 1)=((i + 1:Nat):Int):=by rw [wr_of _ (by omega) (by omega)];simp
  cases hgc:g c[j] with
  | true =>
   obtain ⟨s',i',q1,q2⟩:=ih (j + 1) i s (by omega) (by omega) hs (by
    rw [ht,filter_take (List.getElem?_eq_getElem (by omega)),hgc];simp) (by
    have:=congrArg (List.drop 1) hd
    rwa [List.drop_drop,List.drop_drop] at this)
   refine ⟨s',i',?_,q2⟩
   rw [← q1]
   refine zbh ?_
   simp only [hlt,cond_true,zaU,hx,zaa,hg,hgc,Bool.not_true,cond_false,e1]
  | false =>
   obtain ⟨s',i',q1,q2⟩:=ih (j + 1) (i + 1) (s.set i c[j]) (by omega) (by omega) (by simpa using hs) (by
    rw [List.take_add_one,List.getElem?_set_self (by omega),List.take_set_of_le (Nat.le_refl _),ht,filter_take (List.getElem?_eq_getElem (show j < c.length by omega)),hgc];rfl) (by
    rw [List.drop_set_of_lt (by omega)]
    have:=congrArg (List.drop 1) hd
    rwa [List.drop_drop,List.drop_drop] at this)
   refine ⟨s',i',?_,q2⟩
   rw [← q1]
   refine zbh ?_
   simp only [hlt,cond_true,zaU,hx,zaa,hg,hgc,Bool.not_false,e1,e2]
   rw [List.getElem?_eq_getElem (show i < s.length by omega),zaa,put_ok (by omega),zaa]
theorem zfc {c:List Int} {f:Int→Option Bool} {g:Int→Bool} (h:∀ y∈c,f y=some (g y)) (hl:c.length≤lim):zdm c f=some (c.filter fun y => !g y):=by
 obtain ⟨r,h1,_,h3,h4⟩:=zfb h
 unfold zdm
 rw [h1,zaa]
 unfold lim at hl
 cases hf:findI (fun _ y=>g y) c 0 with
 | none =>
  rw [h4 hf]
  have:=zdF.1 hf
  rw [zbi,List.any_eq_false] at this
  simp only [BEq.rfl,cond_true]
  rw [List.filter_eq_self.2]
  intro y hy;have:=this y hy;simp only [Bool.not_eq_true] at this;rw [this];rfl
 | some z =>
  have hz:=h3 z hf
  subst hz
  obtain ⟨_,k2,k3,_⟩:=zdG hf
  rw [Nat.sub_zero] at k2
  have hzl:=(List.getElem?_eq_some_iff.1 k2).1
  have hne:(((z.1:Nat):Int) == -1)=false:=by simp
  rw [hne,cond_false,show wr (((z.1:Nat):Int) + 1)=((z.1 + 1:Nat):Int) by rw [wr_of _ (by omega) (by omega)];simp]
  obtain ⟨s',i',q1,q2,q3,q4⟩:=del_loop (n:=c.length) (by omega) rfl h (c.length - (z.1 + 1)) (z.1 + 1) z.1 c (by omega) (by omega) rfl (by
   rw [List.take_add_one,k2]
   have hall:∀ y∈c.take z.1,g y=false:=by
    intro y hy
    obtain ⟨i,hi⟩:=List.mem_iff_getElem?.1 hy
    rw [List.getElem?_take] at hi
    split at hi
    · rename_i hlt
      -- no earlier one
      have key:∀ (l:List Int) (k:Nat) (z:Nat×Int),findI (fun _ y=>g y) l k=some z→∀ i y,l[i]?=some y→k + i < z.1→g y=false:=by
       intro l
       induction l with
       | nil=>intro k z _ i y hy;simp at hy
       | cons x l ih =>
        intro k z hz i y hy hlt
        simp only [findI] at hz
        cases hgx:g x with
        | true=>rw [hgx] at hz;simp at hz;subst hz;simp at hlt;omega
        | false =>
         rw [hgx] at hz;simp only [cond_false] at hz
         cases i with
         | zero=>simp at hy;subst hy;exact hgx
         | succ i=>exact ih (k + 1) z hz i y (by simpa using hy) (by omega)
      exact key c 0 z hf i y hi (by omega)
    · cases hi
   rw [List.filter_append,List.filter_eq_self.2 (fun y hy=>by rw [hall y hy];rfl)]
   simp [k3]) rfl
  rw [q1,zaD]
  simp only
  rw [show len s'=((s'.length:Nat):Int) from rfl,zbb (by omega) (Nat.le_refl _),zaa]
  have hcl:clearL 0 s' (i':Int)=s'.take i'++List.replicate (s'.length - i') 0:=by unfold clearL;simp
  rw [hcl,show (0:Int)=((0:Nat):Int) from rfl,zbb (Nat.zero_le _) (by simp;omega),zaa,List.drop_zero,List.take_left' (by simp;omega),q4]
theorem zfd {c:List Int} (hl:c.length≤lim):zbu c=some c:=by
 unfold zbu;rw [zaE (by simpa using hl)];rfl
def putL (c:List Int) (l:Int):List Int:=c.takeWhile (fun y=>decide (vr y < vr l))++l::c.dropWhile (fun y=>decide (vr y < vr l))
theorem spec_l1Own_eq {c:List Int} (hl:c.length≤lim):zbw c=some c:=by
 unfold zbw;rw [zaE (by simpa using hl)];rfl
theorem takeWhile_le {α:Type} {p:α→Bool} (l:List α):(l.takeWhile p).length≤l.length:=(List.takeWhile_prefix p).length_le
theorem take_takeWhile {α:Type} {p:α→Bool} (l:List α):l.take (l.takeWhile p).length=l.takeWhile p:=by
 conv=>lhs;rw [← List.takeWhile_append_dropWhile (p:=p) (l:=l)]
 rw [List.takeWhile_append_dropWhile]
 exact List.prefix_iff_eq_take.1 (List.takeWhile_prefix p) |>.symm
theorem drop_takeWhile {α:Type} {p:α→Bool} (l:List α):l.drop (l.takeWhile p).length=l.dropWhile p:=by
 have h:=List.takeWhile_append_dropWhile (p:=p) (l:=l)
 have h2:l.drop (l.takeWhile p).length=(l.takeWhile p++l.dropWhile p).drop (l.takeWhile p).length:=by rw [h]
 rw [h2,List.drop_left]
theorem zcq {c:List Int} {l:Int} (hl:c.length + 1≤lim):zbn c l=some (putL c l):=by
 unfold zbn putL
 have hl':c.length + 1≤4294967296:=hl
 rw [iter_while (xs:=c) (p:=fun y=>decide (vr y < vr l)) (fun i y hy=>by
  have hi:=(List.getElem?_eq_some_iff.1 hy).1
  have hd:decide ((i:Int) < len c)=true:=by rw [zaj];simp;omega
  rw [hd,zaU,hy]
  simp only [cond_true,zaa,zdI]
  rw [wr_succ hi (by omega)];rfl) (by
  have hd:decide (((c.length:Nat):Int) < len c)=false:=by rw [zaj];simp
  rw [hd];rfl),zaD]
 have hk:=takeWhile_le (p:=fun y=>decide (vr y < vr l)) c
 rw [show (0:Int)=((0:Nat):Int) from rfl,zbb (Nat.zero_le _) hk,zaa,List.drop_zero,take_takeWhile,spec_l1Own_eq (by omega),zaa,zaE (by simp;omega),zaa,
  zaj,zbb hk (Nat.le_refl _),zaa,List.take_length,drop_takeWhile,zaE,zaa]
 · simp
 · have:=congrArg List.length (List.takeWhile_append_dropWhile (p:=fun y=>decide (vr y < vr l)) (l:=c))
   simp only [List.length_append] at this ⊢
   simp only [List.length_singleton]
   unfold lim;omega
theorem zc3 (c:List Int) (l:Int):(putL c l).length=c.length + 1:=by
 have:=congrArg List.length (List.takeWhile_append_dropWhile (p:=fun y=>decide (vr y < vr l)) (l:=c))
 unfold putL;simp only [List.length_append,List.length_cons] at this ⊢;omega
def joinL:List Int→List Int→Option (List Int)
 | s,[]=>some s
 | s,y::b=>bif s.contains (wr (-y)) then none else joinL (bif !s.contains y then putL s y else s) b
abbrev Srt (c:List Int):Prop:=c.Pairwise fun a b=>a.natAbs < b.natAbs
def Sm (c:List Int):Prop:=∀ l∈c,-12≤l∧l≤12∧l≠0
theorem za1 {c:List Int} {l x:Int}:x∈putL c l↔x=l∨x∈c:=by
 have h:=List.takeWhile_append_dropWhile (p:=fun y=>decide (vr y < vr l)) (l:=c)
 have:x∈c↔x∈c.takeWhile (fun y=>decide (vr y < vr l))∨x∈c.dropWhile (fun y=>decide (vr y < vr l)):=by rw [← List.mem_append,h]
 unfold putL
 rw [this,List.mem_append,List.mem_cons]
 constructor
 · rintro (h|h|h)
   · exact .inr (.inl h)
   · exact .inl h
   · exact .inr (.inr h)
 · rintro (h|h|h)
   · exact .inr (.inl h)
   · exact .inl h
   · exact .inr (.inr h)
theorem putL_srt {c:List Int} {l:Int} (hc:Srt c) (hs:Sm c) (hl:-12≤l∧l≤12) (hn:∀ x∈c,x.natAbs≠l.natAbs):Srt (putL c l):=by
 have hv:∀ x∈c,(decide (vr x < vr l)=true↔x.natAbs < l.natAbs):=fun x hx=>by
  have:=hs x hx
  rw [decide_eq_true_eq,zbk (by omega) (by omega),zbk hl.1 hl.2];omega
 unfold putL
 induction c with
 | nil=>simp
 | cons y c ih =>
  obtain ⟨h1,h2⟩:=List.pairwise_cons.1 hc
  rw [List.takeWhile_cons,List.dropWhile_cons]
  by_cases hy:decide (vr y < vr l)=true
  · rw [if_pos hy,if_pos hy,List.cons_append]
    have ih:=ih h2 (fun x hx=>hs x (by simp [hx])) (fun x hx=>hn x (by simp [hx])) (fun x hx=>hv x (by simp [hx]))
    refine List.pairwise_cons.2 ⟨fun x hx=>?_,ih⟩
    rcases (za1 (c:=c) (l:=l)).1 hx with rfl|hx
    · exact (hv y (by simp)).1 hy
    · exact h1 x hx
  · rw [if_neg hy,if_neg hy,List.nil_append]
    have hly:l.natAbs < y.natAbs:=by
     have:=hn y (by simp)
     have h3:¬ y.natAbs < l.natAbs:=fun h=>hy ((hv y (by simp)).2 h)
     omega
    refine List.pairwise_cons.2 ⟨fun x hx=>?_,hc⟩
    rcases List.mem_cons.1 hx with rfl|hx
    · exact hly
    · have:=h1 x hx;omega
theorem joinL_spec:∀ {b s:List Int},Srt s→Sm s→Srt b→Sm b →
 (if ∃ y∈b,-y∈s then joinL s b=none else ∃ t,joinL s b=some t∧Srt t∧∀ x,x∈t↔x∈s∨x∈b):=by
 intro b
 induction b with
 | nil=>intro s hs _ _ _;simp only [List.not_mem_nil,false_and,exists_false,if_false,or_false];exact ⟨s,rfl,hs,fun _=>Iff.rfl⟩
 | cons y b ih =>
  intro s hs hs2 hb hb2
  obtain ⟨h1,h2⟩:=List.pairwise_cons.1 hb
  have hy:=hb2 y (by simp)
  have hw:wr (-y)=-y:=wr_of _ (by omega) (by omega)
  simp only [joinL,hw]
  by_cases hn:-y∈s
  · rw [if_pos ⟨y,by simp,hn⟩,List.contains_iff_mem.2 hn];rfl
  · have hnc:s.contains (-y)=false:=by rw [Bool.eq_false_iff];exact fun h=>hn (List.contains_iff_mem.1 h)
    rw [hnc,cond_false]
    by_cases hin:y∈s
    · rw [List.contains_iff_mem.2 hin]
      simp only [Bool.not_true,cond_false]
      have:=ih hs hs2 h2 (fun x hx=>hb2 x (by simp [hx]))
      have e1:(∃ z∈y::b,-z∈s)↔∃ z∈b,-z∈s:=by
       constructor
       · rintro ⟨z,hz,hz2⟩
         rcases List.mem_cons.1 hz with rfl|hz
         · exact absurd hz2 hn
         · exact ⟨z,hz,hz2⟩
       · rintro ⟨z,hz,hz2⟩;exact ⟨z,by simp [hz],hz2⟩
      simp only [e1]
      split at this
      · rename_i hex;rw [if_pos hex];exact this
      · rename_i hex
        rw [if_neg hex]
        obtain ⟨t,t1,t2,t3⟩:=this
        refine ⟨t,t1,t2,fun x=>?_⟩
        rw [t3,List.mem_cons]
        constructor
        · rintro (h|h)
          · exact .inl h
          · exact .inr (.inr h)
        · rintro (h|rfl|h)
          · exact .inl h
          · exact .inl hin
          · exact .inr h
    · have hic:s.contains y=false:=by rw [Bool.eq_false_iff];exact fun h=>hin (List.contains_iff_mem.1 h)
      rw [hic]
      simp only [Bool.not_false,cond_true]
      have hne:∀ x∈s,x.natAbs≠y.natAbs:=fun x hx e=>by
       have:x=y∨x=-y:=by omega
       rcases this with rfl|rfl
       · exact hin hx
       · exact hn hx
      have:=ih (putL_srt hs hs2 ⟨hy.1,hy.2.1⟩ hne) (fun x hx=>by
       rcases za1.1 hx with rfl|hx
       · exact hy
       · exact hs2 x hx) h2 (fun x hx=>hb2 x (by simp [hx]))
      have e1:(∃ z∈y::b,-z∈s)↔∃ z∈b,-z∈putL s y:=by
       constructor
       · rintro ⟨z,hz,hz2⟩
         rcases List.mem_cons.1 hz with rfl|hz
         · exact absurd hz2 hn
         · exact ⟨z,hz,za1.2 (.inr hz2)⟩
       · rintro ⟨z,hz,hz2⟩
         rcases za1.1 hz2 with e|hz2
         · have:=h1 z hz;omega
         · exact ⟨z,by simp [hz],hz2⟩
      simp only [e1]
      split at this
      · rename_i hex;rw [if_pos hex];exact this
      · rename_i hex
        rw [if_neg hex]
        obtain ⟨t,t1,t2,t3⟩:=this
        refine ⟨t,t1,t2,fun x=>?_⟩
        rw [t3,za1,List.mem_cons]
        constructor
        · rintro ((h|h)|h)
          · exact .inr (.inl h)
          · exact .inl h
          · exact .inr (.inr h)
        · rintro (h|h|h)
          · exact .inl (.inr h)
          · exact .inl (.inl h)
          · exact .inr h
end Go.PF
namespace Go.PF
open Go.Pu
theorem zdK:∀ {a b:List Int},Srt a→Srt b→(∀ x,x∈a↔x∈b)→a=b:=by
 intro a
 induction a with
 | nil =>
  intro b _ _ h
  cases b with
  | nil=>rfl
  | cons y b=>exact absurd ((h y).2 (by simp)) (by simp)
 | cons x a ih =>
  intro b ha hb h
  cases b with
  | nil=>exact absurd ((h x).1 (by simp)) (by simp)
  | cons y b =>
   obtain ⟨a1,a2⟩:=List.pairwise_cons.1 ha
   obtain ⟨b1,b2⟩:=List.pairwise_cons.1 hb
   have hxy:x=y:=by
    rcases List.mem_cons.1 ((h x).1 (by simp)) with e|e
    · exact e
    · rcases List.mem_cons.1 ((h y).2 (by simp)) with e'|e'
      · exact e'.symm
      · have:=b1 x e;have:=a1 y e';omega
   subst hxy
   rw [ih a2 b2 fun z=>?_]
   constructor
   · intro hz
     rcases List.mem_cons.1 ((h z).1 (by simp [hz])) with e|e
     · subst e;have:=a1 z hz;omega
     · exact e
   · intro hz
     rcases List.mem_cons.1 ((h z).2 (by simp [hz])) with e|e
     · subst e;have:=b1 z hz;omega
     · exact e
def cmpL (x y:Int):Int:=if zaA x < zaA y then -1 else if zaA y < zaA x then 1 else if y < x then -1 else if x < y then 1 else 0
theorem zfe (x y:Int):zbK x y=some (cmpL x y):=by
 have hc:∀ a b:Int,zaO a b=if a < b then -1 else if b < a then 1 else 0:=fun a b=>by
  unfold zaO za4
  simp only [BEq.rfl,Bool.not_true,cond_false]
  by_cases h1:a < b
  · simp [h1]
  · by_cases h2:b < a <;> simp [h1,h2]
 unfold zbK zcF cmpL
 rw [hc,hc]
 by_cases h1:zaA x < zaA y
 · simp [h1,forL,zau]
 · by_cases h2:zaA y < zaA x
   · simp [h1,h2,forL,zau]
   · by_cases h3:y < x
     · simp [h1,h2,h3,forL,zau]
     · by_cases h4:x < y <;> simp [h1,h2,h3,h4,forL,zau]
theorem cmpL_neg {x y:Int}:cmpL x y < 0↔zaA x < zaA y∨(zaA x=zaA y∧y < x):=by
 unfold cmpL
 split
 · omega
 · split
   · omega
   · split
     · omega
     · split <;> omega
def joined (a b:List Int):List Int×Bool:=match joinL a b with|some s=>(s,true)|none=>([],false)
def res (a b:List Int) (v:Int):List Int×Bool:=bif !a.contains v || !b.contains (wr (-v)) then ([],false) else joined (zaz a v) (zaz b v)
theorem IsC.sm {V:Int} {c:List Int} (h:IsC V c):Sm c:=fun l hl=>by have:=h.lit l hl;have:=h.hi;omega
end Go.PF
namespace Go.PF
open Go.Pu
abbrev Asc (c:List Int):Prop:=c.Pairwise fun a b=>a < b
theorem asc_len:∀ {c:List Int} {lo hi:Int},Asc c→(∀ x∈c,lo < x∧x≤hi)→(c.length:Int)≤max 0 (hi - lo):=by
 intro c
 induction c with
 | nil=>intro lo hi _ _;simp only [List.length_nil];omega
 | cons a c ih =>
  intro lo hi h hl
  obtain ⟨h1,h2⟩:=List.pairwise_cons.1 h
  have ha:=hl a (by simp)
  have:=ih (lo:=a) (hi:=hi) h2 fun x hx=>⟨h1 x hx,(hl x (by simp [hx])).2⟩
  simp only [List.length_cons];omega
end Go.PF
namespace Go.PF
open Go.Pu
def clv (c a:List Int):Int:=bif c.any (fun l=>a.contains l) then 1 else bif c.any (fun l => !a.contains (wr (-l))) then 0 else -1
theorem clv_loop {a:List Int} {f:Nat→Int→Int→Option (Lp Int Int)} (hf:∀ i y s,f i y s=bif a.contains y then some (.rt 1) else bif !a.contains (wr (-y)) then some (.nx 0) else some (.nx s)) :
 ∀ {c:List Int} {i:Nat} {s:Int},zau f c i s=some (bif c.any (fun l=>a.contains l) then .rt 1 else .go (bif c.any (fun l => !a.contains (wr (-l))) then 0 else s)):=by
 intro c
 induction c with
 | nil=>intro i s;rfl
 | cons y c ih =>
  intro i s
  simp only [zau,List.any_cons]
  rw [hf]
  cases h1:a.contains y with
  | true=>simp
  | false =>
   cases h2 : !a.contains (wr (-y)) with
   | true=>simp only [cond_false,cond_true,Bool.false_or,Bool.true_or];rw [ih];cases c.any (fun l=>a.contains l) <;> cases c.any (fun l => !a.contains (wr (-l))) <;> rfl
   | false=>simp only [cond_false,Bool.false_or];rw [ih]
theorem spec_l3Value_eq (c a:List Int):zdq c a=some (clv c a):=by
 unfold zdq clv
 have:=clv_loop (a:=a) (f:=(fun i22 y21 s22=>bd (PF.zaZ a y21) (fun r71=>(bif r71 then some (Lp.rt 1) else bd (PF.zaZ a (wr (-y21))) (fun r83=>(bif (!r83) then some (Lp.nx 0) else some (Lp.nx s22))))))) (fun i y s=>by simp only [zc2,zaa]) (c:=c) (i:=0) (s:=-1)
 unfold forL;rw [this]
 cases c.any (fun l=>a.contains l) <;> rfl
theorem zeC (c a:List Int):zcC c a=some (clv c a):=by
 unfold zcC clv
 have:=clv_loop (a:=a) (f:=(fun i22 y21 s22=>bd (PF.zbp a y21) (fun r67=>(bif r67 then some (Lp.rt 1) else bd (PF.zbp a (wr (-y21))) (fun r73=>(bif (!r73) then some (Lp.nx 0) else some (Lp.nx s22))))))) (fun i y s=>by simp only [zeA,zaa]) (c:=c) (i:=0) (s:=-1)
 unfold forL;rw [this]
 cases c.any (fun l=>a.contains l) <;> rfl
theorem clv_cases (c a:List Int):clv c a=1∨clv c a=0∨clv c a=-1:=by
 unfold clv;cases c.any (fun l=>a.contains l) <;> cases c.any (fun l => !a.contains (wr (-l))) <;> simp
end Go.PF
namespace Go.PF
open Go.Pu
structure Le {A:Type} (x y:Option A):Prop where
 le:∀ r,x=some r→y=some r
theorem Le.rfl' {A:Type} (x:Option A):Le x x:=⟨fun _ h=>h⟩
def iterC {S X:Type}:Nat→(S→Option (Lp S X))→S→Option (Rs S X)
 | 0,_,_=>none
 | n + 1,b,s=>match b s with
  | none=>none
  | some (.nx s')=>iterC n b s'
  | some (.bk s')=>some (.go s')
  | some (.rt x)=>some (.rt x)
theorem iterC_le {S X:Type} {f g:S→Option (Lp S X)} (h:∀ s,Le (f s) (g s)) (n:Nat) (s:S):Le (iterC n f s) (iter g s):=by
 constructor
 induction n generalizing s with
 | zero=>intro r e;cases e
 | succ n ih =>
  intro r e
  unfold iterC at e
  split at e
  · cases e
  · rename_i s' hb;rw [zbh ((h s).le _ hb)];exact ih _ _ e
  · rename_i s' hb;cases e;exact zaT ((h s).le _ hb)
  · rename_i x hb;cases e;exact zbz ((h s).le _ hb)
theorem bd_le {A B:Type} {x y:Option A} {k l:A→Option B} (h:Le x y) (hk:∀ a,Le (k a) (l a)):Le (bd x k) (bd y l):=by
 constructor
 intro r e
 obtain ⟨a,h1,h2⟩:=bnd e
 rw [h.le _ h1,zaa];exact (hk a).le _ h2
theorem bdR_le {S X B:Type} {x y:Option (Rs S X)} {k k':S→Option B} {l l':X→Option B} (h:Le x y) (hk:∀ a,Le (k a) (k' a)) (hl:∀ a,Le (l a) (l' a)):Le (bdR x k l) (bdR y k' l'):=by
 unfold bdR
 refine bd_le h fun a=>?_
 cases a with
 | go s=>exact hk s
 | rt x=>exact hl x
theorem bif_le {A:Type} {c:Bool} {x x' y y':Option A} (h:Le x x') (h':Le y y'):Le (bif c then x else y) (bif c then x' else y'):=by
 cases c
 · exact h'
 · exact h
theorem forFrom_le {S X:Type} {f g:Nat→S→Option (Lp S X)} (h:∀ i s,Le (f i s) (g i s)):∀ (n i:Nat) (s:S),Le (zaS f n i s) (zaS g n i s):=by
 intro n
 induction n with
 | zero=>intro i s;exact Le.rfl' _
 | succ n ih =>
  intro i s
  constructor
  intro r e
  unfold zaS at e ⊢
  split at e
  · cases e
  · rename_i s' hb;rw [(h i s).le _ hb];exact (ih _ _).le _ e
  · rename_i s' hb;rw [(h i s).le _ hb];exact e
  · rename_i x hb;rw [(h i s).le _ hb];exact e
theorem forR_le {S X:Type} {f g:Nat→S→Option (Lp S X)} (h:∀ i s,Le (f i s) (g i s)) (a n:Nat) (s:S):Le (forR a n f s) (forR a n g s):=forFrom_le h _ _ _
end Go.PF
namespace Go.PF
open Go.Pu
def zec (a0:Int) (a1:ByteArray):Option ((List Int)×Bool) :=
 (bif (a1.toList == (ByteArray.mk #[110,111,110,101]).toList) then some ([],(PF.zaK a0)) else bd (PF.zcu a1 32) (fun r30=>bdR (iterC 70 (S:=((List Int)×Int)) (X:=((List Int)×Bool)) (fun s40=>(bif (bif (decide (s40.2 < (len r30))) then (decide (s40.2≤12)) else false) then bd (ix r30 s40.2) (fun x134=>bd (PF.zcv x134) (fun r136=>(bif (!r136.2) then some (Lp.rt ([],false)) else bd (app s40.1 [r136.1]) (fun xs152=>some (Lp.nx (xs152,(wr (s40.2 + 1)))))))) else some (Lp.bk (s40.1,s40.2)))) ([],0)) (fun s40=>bd (bif (decide (12 < (len r30))) then some true else bd (PF.zbG a0 s40.1) (fun r195=>some (!r195))) (fun t183=>bd (bif t183 then some true else bd (PF.zcw s40.1) (fun r225=>some (!(r225.toList == a1.toList)))) (fun t213=>(bif t213 then some ([],false) else some (s40.1,true))))) (fun x40=>some x40)))
theorem c_spec_l2Parse_le:∀ (a0:Int) (a1:ByteArray),Le (zec a0 a1) (zc8 a0 a1):=by
 intro a0 a1
 unfold zec zc8
 repeat' first|with_reducible exact Le.rfl' _  | with_reducible apply iterC_le|with_reducible apply bdR_le|with_reducible apply bd_le|with_reducible apply forR_le|with_reducible apply bif_le|exact Empty.elim (by assumption)|intro _
def zed (a0:Cnf):Option ByteArray :=
 bd (PF.zbX a0.vars) (fun r29=>bdR (iterC 70 (S:=(ByteArray×Int)) (X:=Empty) (fun s34=>(bif (decide (s34.2 < (len a0.clauses))) then bd (catS s34.1 (ByteArray.mk #[59,32])) (fun z72=>bd (ix a0.clauses s34.2) (fun x80=>bd (PF.zcw x80) (fun r84=>bd (catS z72 r84) (fun z89=>some (Lp.nx (z89,(wr (s34.2 + 1)))))))) else some (Lp.bk (s34.1,s34.2)))) (r29,0)) (fun s34=>some s34.1) (fun x34=>nomatch x34))
theorem c_spec_l2TextOf_le:∀ (a0:Cnf),Le (zed a0) (zc9 a0):=by
 intro a0
 unfold zed zc9
 repeat' first|with_reducible exact Le.rfl' _  | with_reducible apply iterC_le|with_reducible apply bdR_le|with_reducible apply bd_le|with_reducible apply forR_le|with_reducible apply bif_le|exact Empty.elim (by assumption)|intro _
def zee (a0:ByteArray):Option (Cnf×Bool) :=
 bd (PF.zcu a0 59) (fun r25=>bd (ix r25 0) (fun x41=>bd (PF.zcv x41) (fun r43=>(bif (bif (bif (!r43.2) then true else (!(PF.zaK r43.1))) then true else (decide (61 < (len r25)))) then some ((Cnf.mk 0 []),false) else bdR (iterC 70 (S:=((List (List Int))×Int)) (X:=(Cnf×Bool)) (fun s94=>(bif (decide (s94.2 < (len r25))) then bd (ix r25 s94.2) (fun x447=>bd (bif (decide ((x447.size:Int) < 2)) then some true else bd (ix r25 s94.2) (fun x472=>bd (ixS x472 0) (fun z474=>some (!(z474 == 32))))) (fun t459=>(bif t459 then some (Lp.rt ((Cnf.mk 0 []),false)) else bd (ix r25 s94.2) (fun x493=>bd (cutS x493 1 (x493.size:Int)) (fun z495=>bd (PF.zec r43.1 z495) (fun r497=>(bif (!r497.2) then some (Lp.rt ((Cnf.mk 0 []),false)) else bd (app s94.1 [r497.1]) (fun xs522=>some (Lp.nx (xs522,(wr (s94.2 + 1)))))))))))) else some (Lp.bk (s94.1,s94.2)))) ([],1)) (fun s94=>bd (PF.zed (Cnf.mk r43.1 s94.1)) (fun r552=>(bif (!(r552.toList == a0.toList)) then some ((Cnf.mk 0 []),false) else some ((Cnf.mk r43.1 s94.1),true)))) (fun x94=>some x94)))))
theorem c_spec_ParseCnf_le:∀ (a0:ByteArray),Le (zee a0) (zda a0):=by
 intro a0
 have h_spec_l2Parse:=c_spec_l2Parse_le
 have h_spec_l2TextOf:=c_spec_l2TextOf_le
 unfold zee zda
 repeat' first|with_reducible exact Le.rfl' _|with_reducible exact h_spec_l2Parse _ _|with_reducible exact h_spec_l2TextOf _|with_reducible apply iterC_le|with_reducible apply bdR_le|with_reducible apply bd_le|with_reducible apply forR_le|with_reducible apply bif_le|exact Empty.elim (by assumption)|intro _
def zdL (a0:ByteArray):Option Cnf :=
 bd (PF.zee a0) (fun r25=>some r25.1)
theorem c_spec_l2Known_le:∀ (a0:ByteArray),Le (zdL a0) (zbY a0):=by
 intro a0
 have h_spec_ParseCnf:=c_spec_ParseCnf_le
 unfold zdL zbY
 repeat' first|with_reducible exact Le.rfl' _|with_reducible exact h_spec_ParseCnf _|with_reducible apply iterC_le|with_reducible apply bdR_le|with_reducible apply bd_le|with_reducible apply forR_le|with_reducible apply bif_le|exact Empty.elim (by assumption)|intro _
def knownB (t:ByteArray):Bool:=match zdL t with
 | some f=>cnfB f && decide (f.vars≤4)
 | none=>false
theorem knownB_all:(zbv.all knownB)=true:=by decide +kernel
theorem known_ok {t:ByteArray} (h:t∈zbv):∃ f,zbY t=some f∧cnfB f=true∧f.vars≤4:=by
 have h1:=List.all_eq_true.1 knownB_all t h
 unfold knownB at h1
 cases hc:zdL t with
 | none=>rw [hc] at h1;cases h1
 | some f =>
  rw [hc] at h1
  simp only [Bool.and_eq_true,decide_eq_true_eq] at h1
  exact ⟨f,(c_spec_l2Known_le t).le _ hc,h1.1,h1.2⟩
end Go.PF
namespace Go.PF
open Go.Pu
structure okC (n:Nat) (c:l1Cur):Prop where
 code:okL okU8 c.code
 lo:0≤c.at_
 hi:c.at_ + n≤4611686018427387904
theorem okC.le {n m:Nat} {c:l1Cur} (h:okC n c) (hm:m≤n:=by omega):okC m c:=⟨h.code,h.lo,by have:=h.hi;omega⟩
def Dr {A:Type} (n:Nat) (x:Option (A×l1Cur)) (Q:A→Prop):Prop:=∃ a c,x=some (a,c)∧okC n c∧Q a
theorem wrk_nn {n:Int} (h0:0≤n) (h1:n < 9223372036854775808):wrk true 64 n=n:=by
 unfold wrk
 have h2:(n % (2 ^ 64:Int))=n:=Int.emod_eq_of_lt h0 (by omega)
 rw [h2]
 simp only [Bool.true_and]
 rw [if_neg]
 simp
 omega
theorem andK_small (x:Int):0≤andK false 64 x 255∧andK false 64 x 255≤255:=by
 unfold andK
 have h:((BitVec.ofInt 64 x &&& BitVec.ofInt 64 255).toNat:Int)≤255:=by
  rw [BitVec.toNat_and]
  have:(BitVec.ofInt 64 x).toNat &&& (BitVec.ofInt 64 255).toNat≤(BitVec.ofInt 64 255).toNat:=Nat.and_le_right
  have e:(BitVec.ofInt 64 255).toNat=255:=by decide
  omega
 generalize hk:((BitVec.ofInt 64 x &&& BitVec.ofInt 64 255).toNat:Int)=k at *
 have h0:0≤k:=by rw [← hk];exact Int.natCast_nonneg _
 unfold wrk
 simp only [Bool.false_and,Bool.false_eq_true,if_false]
 rw [Int.emod_eq_of_lt h0 (by omega)]
 exact ⟨h0,h⟩
theorem dr_next {n:Nat} {c:l1Cur} (h:okC (n + 1) c):Dr n (zct c) fun b=>0≤b∧b≤255:=by
 have hl:=h.lo;have hh:=h.hi
 have hw:wr (c.at_ + 1)=c.at_ + 1:=wr_of _ (by omega) (by omega)
 have tail:∀ s:Int,0≤s→s≤255→Dr n (bif (decide ((wr (c.at_ + 1))≤(len c.code))) then some (s,(l1Cur.mk c.code (wr (c.at_ + 1)) (wrk false 64 ((wrk false 64 ((wrk false 64 (c.seed * 6364136223846793005)) + (wrk false 64 s))) + 337411)))) else some ((wrk true 64 (andK false 64 (shrK 64 (wrk false 64 ((wrk false 64 ((wrk false 64 (c.seed * 6364136223846793005)) + (wrk false 64 s))) + 337411)) 40) 255)),(l1Cur.mk c.code (wr (c.at_ + 1)) (wrk false 64 ((wrk false 64 ((wrk false 64 (c.seed * 6364136223846793005)) + (wrk false 64 s))) + 337411))))) (fun b=>0≤b∧b≤255):=by
  intro s h0 h1
  rw [hw]
  cases decide (c.at_ + 1≤len c.code)
  · have:=andK_small (shrK 64 (wrk false 64 ((wrk false 64 ((wrk false 64 (c.seed * 6364136223846793005)) + (wrk false 64 s))) + 337411)) 40)
    refine ⟨_,_,rfl,⟨h.code,by show 0≤c.at_ + 1;omega,by show c.at_ + 1 + _≤_;omega⟩,?_⟩
    show 0≤wrk true 64 _∧wrk true 64 _≤255
    rw [wrk_nn this.1 (by omega)];exact this
  · exact ⟨_,_,rfl,⟨h.code,by show 0≤c.at_ + 1;omega,by show c.at_ + 1 + _≤_;omega⟩,h0,h1⟩
 unfold zct
 cases hd:decide (c.at_ < len c.code) with
 | false=>exact tail 0 (by omega) (by omega)
 | true =>
  have h2:c.at_ < c.code.length:=of_decide_eq_true hd
  obtain ⟨x,hx,hg⟩:=ix_of h.lo h2
  have hm:=h.code.2 x (List.mem_of_getElem? hg)
  simp only [cond_true]
  rw [hx,zaa,zaD,wrk_nn hm.1 (by have:=hm.2;omega)]
  exact tail x hm.1 hm.2
theorem Dr.bind {A B:Type} {n m:Nat} {x:Option (A×l1Cur)} {Q:A→Prop} {k:A×l1Cur→Option (B×l1Cur)} {R:B→Prop} (h:Dr n x Q) (hk:∀ a c,okC n c→Q a→Dr m (k (a,c)) R):Dr m (bd x k) R:=by
 obtain ⟨a,c,rfl,hc,hq⟩:=h
 exact hk a c hc hq
theorem zaV {n:Nat} {c:l1Cur} (h:okC (n + 2) c) (k:Int):Dr n (zaF c k) fun x=>0≤x∧x≤65535∧(x=0∨x < k):=by
 unfold zaF
 cases hd:decide (k≤1) with
 | true=>exact ⟨_,_,rfl,h.le,by omega,by omega,.inl rfl⟩
 | false =>
  have hk:1 < k:=by have:=of_decide_eq_false hd;omega
  have hz:nz k=some ():=by unfold nz;rw [if_neg (by omega)]
  simp only [cond_false]
  have small:∀ x:Int,0≤x→x≤65535→0≤x.tmod k∧x.tmod k≤65535∧(x.tmod k=0∨x.tmod k < k):=fun x h0 h1=>by
   rw [Int.tmod_eq_emod_of_nonneg h0]
   have g1:=Int.emod_nonneg x (show k≠0 by omega)
   have g2:=Int.emod_lt_of_pos x (show 0 < k by omega)
   have g3:x % k≤x:=by
    have e:=Int.mul_ediv_add_emod x k
    have:=Int.mul_nonneg (show 0≤k by omega) (Int.ediv_nonneg h0 (show 0≤k by omega))
    omega
   exact ⟨g1,by omega,.inr g2⟩
  refine (dr_next (n:=n + 1) h).bind fun b c1 hc1 hb=>?_
  cases decide (200 < k) with
  | true =>
   simp only [cond_true]
   refine (dr_next (n:=n) hc1).bind fun b2 c2 hc2 hb2=>?_
   rw [hz,zaa]
   have e1:wr (b * 256)=b * 256:=wr_of _ (by omega) (by omega)
   have e2:wr (b * 256 + b2)=b * 256 + b2:=wr_of _ (by omega) (by omega)
   exact ⟨_,_,rfl,hc2,by show 0≤(wr (wr (b * 256) + b2)).tmod k∧_;rw [e1,e2];exact small _ (by omega) (by omega)⟩
  | false =>
   simp only [cond_false]
   rw [hz,zaa]
   exact ⟨_,_,rfl,hc1.le,small b hb.1 (by omega)⟩
theorem dr_one {n:Nat} {c:l1Cur} (h:okC (n + 2) c) (k:Int):Dr n (za3 c k) fun _=>True:=by
 unfold za3
 exact (zaV h k).bind fun a c1 h1 _=>⟨_,_,rfl,h1,trivial⟩
theorem dr_ix {A:Type} {l:List A} (h:l≠[]) {x:Int} (h0:0≤x) (h1:x=0∨x < len l):∃ y,ix l x=some y∧y∈l:=by
 have hl:0 < l.length:=List.length_pos_iff.2 h
 rw [zaj] at h1
 obtain ⟨y,hy,hg⟩:=ix_of (xs:=l) h0 (by omega)
 exact ⟨y,hy,List.mem_of_getElem? hg⟩
theorem zbC {n:Nat} {c:l1Cur} (h:okC (n + 2) c) {l:List Int} (hl:l≠[]):Dr n (zaN c l) fun x=>x∈l:=by
 unfold zaN
 refine (zaV h (len l)).bind fun a c1 h1 hq=>?_
 obtain ⟨y,hy,hm⟩:=dr_ix hl hq.1 hq.2.2
 show Dr n (bd (ix l a) _) _
 rw [hy]
 exact ⟨_,_,rfl,h1,hm⟩
theorem dr_of {n:Nat} {c:l1Cur} (h:okC (n + 2) c) {l:List ByteArray} (hl:l≠[]):Dr n (zc7 c l) fun x=>x∈l:=by
 unfold zc7
 refine (zaV h (len l)).bind fun a c1 h1 hq=>?_
 obtain ⟨y,hy,hm⟩:=dr_ix hl hq.1 hq.2.2
 show Dr n (bd (ix l a) _) _
 rw [hy]
 exact ⟨_,_,rfl,h1,hm⟩
theorem iter_near {T X:Type} {body:T→Option (Lp T X)} (m:T→Nat) (I:T→Prop) (P:Rs T X→Prop)
 (h:∀ s,I s→(∃ s',body s=some (.nx s')∧I s'∧m s' < m s)∨(∃ s',body s=some (.bk s')∧P (.go s'))∨∃ x,body s=some (.rt x)∧P (.rt x)):∀ s,I s→∃ q,iter body s=some q∧P q:=by
 have key:∀ k s,m s < k→I s→∃ q,iter body s=some q∧P q:=by
  intro k
  induction k with
  | zero=>intro s hk;omega
  | succ k ih =>
   intro s hk hi
   rcases h s hi with ⟨s',hb,hi',hm⟩|⟨s',hb,hp⟩|⟨x,hb,hp⟩
   · obtain ⟨q,hq,hp⟩:=ih s' (by omega) hi'
     exact ⟨q,(zbh hb).trans hq,hp⟩
   · exact ⟨_,zaT hb,hp⟩
   · exact ⟨_,zbz hb,hp⟩
 intro s hi
 exact key _ s (Nat.lt_succ_self _) hi
theorem dr_loop {T B:Type} {body:T→Option (Lp T Empty)} {s0:T} {k:T→Option (B×l1Cur)} {lx:Empty→Option (B×l1Cur)} {n:Nat} {R:B→Prop} (m:T→Nat) (I:T→Prop) (J:T→Prop)
 (h0:I s0) (h:∀ s,I s→(∃ s',body s=some (.nx s')∧I s'∧m s' < m s)∨(∃ s',body s=some (.bk s')∧J s')) (hk:∀ s,J s→Dr n (k s) R):Dr n (bdR (iter body s0) k lx) R:=by
 obtain ⟨q,hq,hp⟩:=iter_near (body:=body) m I (fun q=>match q with|.go s=>J s|.rt x=>x.elim) (fun s hs=>by
  rcases h s hs with g|g
  · exact .inl g
  · exact .inr (.inl g)) s0 h0
 rw [hq]
 cases q with
 | go s=>exact hk s hp
 | rt x=>exact x.elim
theorem loop_ex {T B:Type} {body:T→Option (Lp T Empty)} {s0:T} {k:T→Option B} {lx:Empty→Option B} {R:B→Prop} (m:T→Nat) (I:T→Prop) (J:T→Prop)
 (h0:I s0) (h:∀ s,I s→(∃ s',body s=some (.nx s')∧I s'∧m s' < m s)∨(∃ s',body s=some (.bk s')∧J s')) (hk:∀ s,J s→∃ r,k s=some r∧R r):∃ r,bdR (iter body s0) k lx=some r∧R r:=by
 obtain ⟨q,hq,hp⟩:=iter_near (body:=body) m I (fun q=>match q with|.go s=>J s|.rt x=>x.elim) (fun s hs=>by
  rcases h s hs with g|g
  · exact .inl g
  · exact .inr (.inl g)) s0 h0
 rw [hq]
 cases q with
 | go s=>exact hk s hp
 | rt x=>exact x.elim
theorem nx_of {T X:Type} {x:Option (Lp T X)} {P:T→Prop} (h:∃ r,x=some r∧∃ s',r=.nx s'∧P s'):∃ s',x=some (.nx s')∧P s':=by
 obtain ⟨r,e,s',rfl,hp⟩:=h;exact ⟨s',e,hp⟩
def okIs (c:List Int):Prop:=∀ x∈c,okI x
theorem za6 (n:Int):okI (wr n):=wr_bd n
theorem without_sub {c:List Int} {v x:Int} (h:x∈zaz c v):x∈c:=(List.mem_filter.1 h).1
theorem dr_clause {n:Nat} {c:l1Cur} (h:okC (n + 30) c) (v:Int):Dr n (zbH c v) fun x=>x.length≤4∧okIs x:=by
 unfold zbH
 refine (zbC (n:=n + 28) h (by simp)).bind fun k c1 h1 hk=>?_
 have hk4:0≤k∧k≤4:=by simp only [List.mem_cons,List.not_mem_nil,or_false] at hk;omega
 refine dr_loop (fun s=>s.2.2.2.2.toNat) (fun s=>okC (n + 4 * s.2.2.2.2.toNat) (l1Cur.mk s.1 s.2.1 s.2.2.1)∧0≤s.2.2.2.2∧s.2.2.2.1.length + s.2.2.2.2≤4∧okIs s.2.2.2.1) (fun s=>okC n (l1Cur.mk s.1 s.2.1 s.2.2.1)∧s.2.2.2.1.length≤4∧okIs s.2.2.2.1)
  ⟨h1.le (by show n + 4 * k.toNat≤_;omega),hk4.1,by show (([]:List Int).length:Int) + k≤4;simp;omega,fun x hx=>by cases hx⟩ ?_ (fun s hs=>⟨_,_,rfl,hs⟩)
 rintro ⟨cd,at_,sd,out,j⟩ ⟨g1,g2,g3,g4⟩
 simp only at g1 g2 g3 g4 ⊢
 cases hd:(bif decide (0 < j) then decide (0 < v) else false) with
 | false =>
  simp only [cond_false]
  exact .inr ⟨_,rfl,g1.le,by show out.length≤4;omega,g4⟩
 | true =>
  have hj:0 < j:=by
   cases hx:decide (0 < j) with
   | true=>exact of_decide_eq_true hx
   | false=>rw [hx] at hd;cases hd
  have hlim:lim=4294967296:=rfl
  have hw:wr (j - 1)=j - 1:=wr_of _ (by omega) (by omega)
  left
  simp only [cond_true]
  have e0:n + 4 * j.toNat=(n + 4 * (j - 1).toNat + 2) + 2:=by omega
  rw [e0] at g1
  obtain ⟨r,c2,e1,k1,k2⟩:=zaV g1 v
  rw [e1,zaa]
  have hwl:=List.length_filter_le (fun y => !(vr y == wr (1 + r))) out
  rw [zeB (by omega),zaa]
  obtain ⟨b,c3,e2,k3,_⟩:=dr_one k1 2
  simp only
  rw [e2,zaa]
  have hlen:(zaz out (wr (1 + r))).length≤out.length:=hwl
  have fin:∀ y,okI y→(putL (zaz out (wr (1 + r))) y).length + (j - 1)≤4∧okIs (putL (zaz out (wr (1 + r))) y):=fun y hy=>by
   rw [zc3]
   refine ⟨by omega,fun x hx=>?_⟩
   rcases za1.1 hx with rfl|hx
   · exact hy
   · exact g4 x (without_sub hx)
  cases b with
  | true =>
   simp only [cond_true]
   rw [zcq (by omega),zaa]
   have f:=fin (wr (-(wr (1 + r)))) (za6 _)
   exact ⟨_,rfl,⟨by rw [hw];exact k3,by dsimp only;rw [hw];omega,by rw [hw];exact f.1,f.2⟩,by dsimp only;rw [hw];omega⟩
  | false =>
   simp only [cond_false]
   rw [zcq (by omega),zaa]
   have f:=fin (wr (1 + r)) (za6 _)
   exact ⟨_,rfl,⟨by rw [hw];exact k3,by dsimp only;rw [hw];omega,by rw [hw];exact f.1,f.2⟩,by dsimp only;rw [hw];omega⟩
end Go.PF
namespace Go.PF
open Go.Pu
structure SmC (N M:Nat) (f:Cnf):Prop where
 vars:okI f.vars
 len:f.clauses.length≤N
 cl:∀ c∈f.clauses,c.length≤M∧okIs c
theorem SmC.ok {N M:Nat} {f:Cnf} (h:SmC N M f) (hN:N≤1000000:=by decide) (hM:M≤1000000:=by decide):okCnf f:=by
 refine ⟨h.vars,?_,fun c hc=>⟨?_,(h.cl c hc).2⟩⟩
 · have:=h.len;omega
 · have:=(h.cl c hc).1;omega
theorem dr_lit {n:Nat} {c:l1Cur} (h:okC (n + 8) c) (v:Int):Dr n (zcA c v) okI:=by
 unfold zcA
 have tail:∀ (t:Bool) (c1:l1Cur),okC (n + 4) c1→Dr n (bif t then bd (zaN c1 [0,(wr (v + 1)),(wr ((wr (-v)) - 1))]) (fun r=>some (r.1,r.2)) else bd (zaF c1 v) (fun r=>bd (za3 r.2 2) (fun s=>(bif s.1 then some ((wr (-(wr (1 + r.1)))),s.2) else some ((wr (1 + r.1)),s.2))))) okI:=by
  intro t c1 h1
  cases t with
  | true =>
   refine (zbC (n:=n) h1.le (by simp)).bind fun x c2 h2 hx=>⟨_,_,rfl,h2,?_⟩
   simp only [List.mem_cons,List.not_mem_nil,or_false] at hx
   show okI x
   rcases hx with rfl|rfl|rfl
   · unfold okI;omega
   · exact za6 _
   · exact za6 _
  | false =>
   refine (zaV (n:=n + 2) h1.le v).bind fun x c2 h2 hx=>?_
   refine (dr_one (n:=n) h2 2).bind fun b c3 h3 _=>?_
   cases b
   · exact ⟨_,_,rfl,h3,za6 _⟩
   · exact ⟨_,_,rfl,h3,za6 _⟩
 cases decide (v < 1) with
 | true =>
  simp only [cond_true,zaa]
  exact tail true c h.le
 | false =>
  simp only [cond_false]
  obtain ⟨b,c1,e,h1,_⟩:=dr_one (n:=n + 4) (c:=c) h.le 40
  rw [e,zaa,zaa]
  exact tail b c1 h1
theorem ix0 {A:Type} {l:List A} (h:0 < l.length):∃ x,ix l 0=some x∧x∈l:=by
 obtain ⟨x,hx,hg⟩:=ix_of (xs:=l) (i:=0) (by omega) (by omega)
 exact ⟨x,hx,List.mem_of_getElem? hg⟩
theorem put_mem {l ys:List Int} {i x:Int} (h:put l i x=some ys) (hl:okIs l) (hx:okI x):ys.length=l.length∧okIs ys:=by
 obtain ⟨_,_,rfl⟩:=put_some h
 exact ⟨List.length_set,fun y hy=>by
  rcases List.mem_or_eq_of_mem_set hy with g|rfl
  · exact hl y g
  · exact hx⟩
theorem put_is {A:Type} {l:List A} {i:Int} (x:A) (h0:0≤i) (h1:i < l.length):∃ ys,put l i x=some ys:=⟨_,by unfold put;rw [if_pos ⟨h0,h1⟩]⟩
theorem dr_anyClause {n:Nat} {c:l1Cur} (h:okC (n + 50) c) (v:Int):Dr n (zdd c v) fun x=>x.length≤5∧okIs x:=by
 unfold zdd
 refine (dr_clause (n:=n + 20) h.le v).bind fun l c1 h1 hl=>?_
 refine (zaV (n:=n + 18) h1 32).bind fun k c2 h2 _=>?_
 have hlim:lim=4294967296:=rfl
 show Dr n (bif (k == 0) then _ else _) _
 cases k == 0 with
 | true =>
  refine (dr_lit (n:=n) (c:=c2) h2.le v).bind fun x c3 h3 hx=>?_
  rw [zaE (by simp;omega)]
  exact ⟨_,_,rfl,h3,by simp;omega,fun y hy=>by
   rcases List.mem_append.1 hy with g|g
   · exact hl.2 y g
   · rw [List.mem_singleton] at g;subst g;exact hx⟩
 | false =>
 show Dr n (bif (k == 1) then _ else _) _
 cases k == 1 with
 | true =>
  simp only [cond_true]
  cases hd:decide (0 < len l) with
  | false=>exact ⟨_,_,rfl,h2.le,by show l.length≤5;omega,hl.2⟩
  | true =>
   simp only [cond_true]
   have hl0:0 < l.length:=by have:=of_decide_eq_true hd;rw [zaj] at this;omega
   refine (zbC (n:=n) (c:=c2) h2.le (by simp)).bind fun x c3 h3 hx=>?_
   obtain ⟨y,hy,_⟩:=ix0 hl0
   obtain ⟨ys,hys⟩:=put_is (l:=l) (i:=0) x (by omega) (by omega)
   rw [hy,zaa]
   show Dr n (bd (put l 0 x) _) _
   rw [hys]
   have hx':okI x:=by
    simp only [List.mem_cons,List.not_mem_nil,or_false] at hx
    rcases hx with rfl|rfl|rfl|rfl
    · unfold okI;omega
    · exact za6 _
    · exact za6 _
    · unfold okI;omega
   have:=put_mem hys hl.2 hx'
   exact ⟨_,_,rfl,h3,by show ys.length≤5;omega,this.2⟩
 | false =>
 show Dr n (bif (k == 2) then _ else _) _
 cases k == 2 with
 | false=>exact ⟨_,_,rfl,h2.le,by show l.length≤5;omega,hl.2⟩
 | true =>
  simp only [cond_true]
  cases hd:decide (1 < len l) with
  | false=>exact ⟨_,_,rfl,h2.le,by show l.length≤5;omega,hl.2⟩
  | true =>
   simp only [cond_true]
   have hl0:1 < l.length:=by have:=of_decide_eq_true hd;rw [zaj] at this;omega
   obtain ⟨x,hx,hxm⟩:=ix0 (l:=l) (by omega)
   obtain ⟨y,hy,hg⟩:=ix_of (xs:=l) (i:=1) (by omega) (by omega)
   obtain ⟨ys,hys⟩:=put_is (l:=l) (i:=0) y (by omega) (by omega)
   have p1:=put_mem hys hl.2 (hl.2 y (List.mem_of_getElem? hg))
   obtain ⟨z,hz,_⟩:=ix_of (xs:=ys) (i:=1) (by omega) (by omega)
   obtain ⟨zs,hzs⟩:=put_is (l:=ys) (i:=1) x (by omega) (by omega)
   have p2:=put_mem hzs p1.2 (hl.2 x hxm)
   rw [hx,zaa,hy,zaa,zaa,hys,zaa,hz,zaa,hzs]
   exact ⟨_,_,rfl,h2.le,by show zs.length≤5;omega,p2.2⟩
theorem rename_ok {f:Cnf} {N:Nat} (hf:cnfB f=true) (hN:f.clauses.length≤N) (hN2:N≤60) {to:List Int} (ht:okIs to) (hl:to.length≤1000):∃ r,zdc f to=some r∧SmC N 12 r.1:=by
 have hlim:lim=4294967296:=rfl
 have hv:0≤f.vars∧f.vars≤12:=by
  unfold cnfB at hf
  simp only [Bool.and_eq_true] at hf
  exact varsB_iff.1 hf.1.1
 have hc:∀ c∈f.clauses,IsC f.vars c:=fun c hc=>by
  unfold cnfB at hf
  simp only [Bool.and_eq_true] at hf
  exact zbB.1 (List.all_eq_true.1 hf.2 c hc)
 have hok:okCnf f:=⟨by unfold okI;omega,⟨by omega,fun c h=>(hc c h).ok⟩⟩
 have bad:SmC N 12 (Cnf.mk 0 []):=⟨by unfold okI;decide,by simp,fun c h=>by cases h⟩
 unfold zdc
 rw [zez hok,zaa,hf]
 simp only [Bool.not_true,cond_false]
 cases hlen:(len to == f.vars) with
 | false=>exact ⟨_,rfl,bad⟩
 | true =>
 have hlen':(to.length:Int)=f.vars:=by rw [← zaj];exact eq_of_beq hlen
 simp only [Bool.not_true,cond_false]
 -- the test of the new names: whatever it comes to
 have test:∀ {body:Nat→Int→Unit→Option (Lp Unit (Cnf×Bool))},(∀ i y u,i < to.length→∃ q,body i y u=some q∧(q=.nx ()∨q=.rt (Cnf.mk 0 [],false)))→∃ q,forL to body ()=some q∧(q=.go ()∨q=.rt (Cnf.mk 0 [],false)):=by
  intro body hb
  have key:∀ (l:List Int) (i:Nat),i + l.length≤to.length→∃ q,zau body l i ()=some q∧(q=.go ()∨q=.rt (Cnf.mk 0 [],false)):=by
   intro l
   induction l with
   | nil=>intro i _;exact ⟨_,rfl,.inl rfl⟩
   | cons y l ih =>
    intro i hi
    simp only [List.length_cons] at hi
    obtain ⟨q,hq,h⟩:=hb i y () (by omega)
    unfold zau
    rw [hq]
    rcases h with rfl|rfl
    · exact ih (i + 1) (by omega)
    · exact ⟨_,rfl,.inr rfl⟩
  exact key to 0 (by omega)
 obtain ⟨q,hq,hq2⟩:=test (body:=fun i54 y53 s54=>bd (bif (!(PF.za8 f.vars y53)) then some true else bd (cut to 0 ((i54:Nat):Int)) (fun xs190=>bd (PF.zaZ xs190 y53) (fun r201=>some r201))) (fun t183=>bd (bif t183 then some true else bd (cut to 0 ((i54:Nat):Int)) (fun xs228=>bd (PF.zaZ xs228 (wr (-y53))) (fun r239=>some r239))) (fun t221=>(bif t221 then some (Lp.rt ((Cnf.mk 0 []),false)) else some (Lp.nx ()))))) (by
  intro i y u hi
  rw [show (0:Int)=((0:Nat):Int) from rfl,zbb (Nat.zero_le _) (by omega),zaa,zc2,zaa,zaa,zc2,zaa]
  cases PF.za8 f.vars y with
  | false=>exact ⟨_,rfl,.inr rfl⟩
  | true =>
   simp only [Bool.not_true,cond_false,zaa]
   cases ((to.take i).drop 0).contains y with
   | true=>exact ⟨_,rfl,.inr rfl⟩
   | false =>
    simp only [cond_false,zaa]
    cases ((to.take i).drop 0).contains (wr (-y)) with
    | true=>exact ⟨_,rfl,.inr rfl⟩
    | false=>exact ⟨_,rfl,.inl rfl⟩)
 rw [hq]
 rcases hq2 with rfl|rfl
 rotate_left
 · exact ⟨_,rfl,bad⟩
 simp only [zaD]
 -- the clauses
 refine loop_ex
  (fun s=>f.clauses.length - s.2.toNat) (fun s=>0≤s.2∧s.2≤f.clauses.length∧s.1.length=s.2.toNat∧∀ c∈s.1,c.length≤12∧okIs c)
  (fun s=>s.1.length≤N∧∀ c∈s.1,c.length≤12∧okIs c) ⟨by show (0:Int)≤0;omega,by show (0:Int)≤_;omega,rfl,fun c h=>by cases h⟩ (by
   rintro ⟨out,k⟩ ⟨g1,g2,g3,g5⟩
   simp only at g1 g2 g3 g5 ⊢
   cases hd:decide (k < len f.clauses) with
   | false=>exact .inr ⟨_,rfl,by show out.length≤N;omega,g5⟩
   | true =>
    have hk:k < f.clauses.length:=by have:=of_decide_eq_true hd;rwa [zaj] at this
    obtain ⟨c,hcx,hcg⟩:=ix_of (xs:=f.clauses) g1 hk
    have hC:=hc c (List.mem_of_getElem? hcg)
    have hcl:=hC.len
    have hw:wr (k + 1)=k + 1:=wr_of _ (by omega) (by omega)
    simp only [cond_true,hcx,zaa]
    left
    refine nx_of (loop_ex
     (fun s=>c.length - s.2.toNat) (fun s=>0≤s.2∧s.2≤c.length∧s.1.length=s.2.toNat∧okIs s.1) (fun s=>s.1.length≤12∧okIs s.1) ⟨by show (0:Int)≤0;omega,by show (0:Int)≤_;omega,rfl,fun x h=>by cases h⟩ (by
      rintro ⟨cs,j⟩ ⟨k1,k2,k3,k4⟩
      simp only at k1 k2 k3 k4 ⊢
      cases hd2:decide (j < len c) with
      | false=>exact .inr ⟨_,rfl,by show cs.length≤12;omega,k4⟩
      | true =>
       have hj:j < c.length:=by have:=of_decide_eq_true hd2;rwa [zaj] at this
       obtain ⟨x,hx,hxg⟩:=ix_of (xs:=c) k1 hj
       have hX:=hC.lit x (List.mem_of_getElem? hxg)
       have hw2:wr (j + 1)=j + 1:=wr_of _ (by omega) (by omega)
       have hvr:zaY x=x.natAbs:=by rw [zdI];exact zbk (by omega) (by omega)
       have hw3:wr (zaY x - 1)=x.natAbs - 1:=by rw [hvr];exact wr_of _ (by omega) (by omega)
       obtain ⟨y,hy,hyg⟩:=ix_of (xs:=to) (i:=(x.natAbs:Int) - 1) (by omega) (by omega)
       have hY:=ht y (List.mem_of_getElem? hyg)
       left
       simp only [cond_true,hx,zaa,hw3,hy]
       have fin:∀ z,okI z→okIs (putL cs z):=fun z hz w hw=>by
        rcases za1.1 hw with rfl|hw
        · exact hz
        · exact k4 w hw
       cases decide (x < 0) with
       | true =>
        simp only [cond_true]
        rw [zcq (by omega),zaa]
        exact ⟨_,rfl,⟨by dsimp only;rw [hw2];omega,by dsimp only;rw [hw2];omega,by dsimp only;rw [zc3,hw2];omega,fin _ (za6 _)⟩,by dsimp only;rw [hw2];omega⟩
       | false =>
        simp only [cond_false]
        rw [zcq (by omega),zaa]
        exact ⟨_,rfl,⟨by dsimp only;rw [hw2];omega,by dsimp only;rw [hw2];omega,by dsimp only;rw [zc3,hw2];omega,fin _ hY⟩,by dsimp only;rw [hw2];omega⟩) (fun s e2=>?_))
    · have e3:s.1.length≤12∧okIs s.1:=e2
      rw [zaE (by simp;omega),zaa]
      refine ⟨_,rfl,_,rfl,⟨by dsimp only;rw [hw];omega,by dsimp only;rw [hw];omega,by dsimp only;rw [hw,List.length_append,List.length_singleton];omega,fun x hx=>?_⟩,by dsimp only;rw [hw];omega⟩
      rcases List.mem_append.1 hx with g|g
      · exact g5 x g
      · rw [List.mem_singleton] at g;subst g;exact e3) (fun s h4=>?_)
 have h4:s.1.length≤N∧∀ c∈s.1,c.length≤12∧okIs c:=h4
 exact ⟨_,rfl,by show okI f.vars;unfold okI;omega,h4.1,h4.2⟩
end Go.PF
namespace Go.PF
open Go.Pu
theorem cnfB_rng {f:Cnf} (h:cnfB f=true):0≤f.vars∧f.vars≤12:=by
 unfold cnfB at h
 simp only [Bool.and_eq_true] at h
 exact varsB_iff.1 h.1.1
theorem cnfB_len {f:Cnf} (h:cnfB f=true):f.clauses.length≤60:=by
 unfold cnfB at h
 simp only [Bool.and_eq_true] at h
 have:=of_decide_eq_true h.1.2
 rw [zaj] at this
 omega
theorem dr_hard {n:Nat} {c:l1Cur} (h:okC (n + 200) c):Dr n (zcz c) (SmC 62 12):=by
 have hlim:lim=4294967296:=rfl
 unfold zcz
 refine (dr_of (n:=n + 190) h.le (l:=zbv) (by unfold zbv;simp)).bind fun t c1 h1 ht=>?_
 obtain ⟨f,hf,hg,hv4⟩:=known_ok ht
 have hv:=cnfB_rng hg;have hN:=cnfB_len hg
 show Dr n (bd (zbY t) _) _
 rw [hf,zaa]
 refine dr_loop (fun s=>(f.vars + 1 - s.2.2.2.2).toNat) (fun s=>okC (n + 100 + 2 * (f.vars + 1 - s.2.2.2.2).toNat) (l1Cur.mk s.2.1 s.2.2.1 s.2.2.2.1)∧1≤s.2.2.2.2∧s.2.2.2.2≤f.vars + 1∧s.1.length≤s.2.2.2.2.toNat∧okIs s.1)
  (fun s=>okC (n + 100) (l1Cur.mk s.2.1 s.2.2.1 s.2.2.2.1)∧s.1.length≤10∧okIs s.1)
  ⟨h1.le (by dsimp only;omega),by dsimp only;omega,by dsimp only;omega,by simp,fun x h=>by cases h⟩ ?_ ?_
 · rintro ⟨to,cd,at_,sd,v⟩ ⟨g1,g2,g3,g4,g5⟩
   simp only at g1 g2 g3 g4 g5 ⊢
   cases hd:decide (v≤f.vars) with
   | false=>exact .inr ⟨_,rfl,g1.le,by dsimp only;omega,g5⟩
   | true =>
    have hv2:v≤f.vars:=of_decide_eq_true hd
    have hw:wr (v + 1)=v + 1:=wr_of _ (by omega) (by omega)
    left
    simp only [cond_true]
    have e0:n + 100 + 2 * (f.vars + 1 - v).toNat=(n + 100 + 2 * (f.vars + 1 - (v + 1)).toNat) + 2:=by omega
    rw [e0] at g1
    obtain ⟨b,c3,e2,k3,_⟩:=dr_one g1 4
    rw [e2,zaa]
    have fin:∀ y,okI y→okIs (to++[y]):=fun y hy x hx=>by
     rcases List.mem_append.1 hx with g|g
     · exact g5 x g
     · rw [List.mem_singleton] at g;subst g;exact hy
    cases b with
    | true =>
     simp only [cond_true]
     rw [zaE (by simp;omega),zaa]
     exact ⟨_,rfl,⟨by dsimp only;rw [hw];exact k3,by dsimp only;rw [hw];omega,by dsimp only;rw [hw];omega,by dsimp only;rw [hw,List.length_append,List.length_singleton];omega,fin _ (za6 _)⟩,by dsimp only;rw [hw];omega⟩
    | false =>
     simp only [cond_false]
     rw [zaE (by simp;omega),zaa]
     exact ⟨_,rfl,⟨by dsimp only;rw [hw];exact k3,by dsimp only;rw [hw];omega,by dsimp only;rw [hw];omega,by dsimp only;rw [hw,List.length_append,List.length_singleton];omega,fin _ (by unfold okI;omega)⟩,by dsimp only;rw [hw];omega⟩
 · rintro ⟨to,cd,at_,sd,v⟩ ⟨g1,g2,g3⟩
   simp only at g1 g2 g3 ⊢
   obtain ⟨r,hr,hs⟩:=rename_ok hg hN (by omega) g3 (by omega)
   rw [hr,zaa]
   refine (zaV (n:=n + 98) g1 3).bind fun k c2 h2 hk=>?_
   have hk3:k≤2:=by omega
   refine dr_loop (fun s=>s.2.2.2.2.toNat) (fun s=>okC (n + 30 * s.2.2.2.2.toNat) (l1Cur.mk s.2.1 s.2.2.1 s.2.2.2.1)∧0≤s.2.2.2.2∧s.1.length + s.2.2.2.2≤62∧∀ c∈s.1,c.length≤12∧okIs c)
    (fun s=>okC n (l1Cur.mk s.2.1 s.2.2.1 s.2.2.2.1)∧s.1.length≤62∧∀ c∈s.1,c.length≤12∧okIs c)
    ⟨h2.le (by dsimp only;omega),by dsimp only;omega,by dsimp only;have:=hs.len;omega,hs.cl⟩ ?_ (fun s hq=>⟨_,_,rfl,hq.1,hs.vars,hq.2.1,hq.2.2⟩)
   rintro ⟨out,cd,at_,sd,j⟩ ⟨g1,g2,g3,g5⟩
   simp only at g1 g2 g3 g5 ⊢
   cases hd:(bif decide (0 < j) then decide (0 < r.1.vars) else false) with
   | false=>exact .inr ⟨_,rfl,g1.le,by dsimp only;omega,g5⟩
   | true =>
    have hj:0 < j:=by
     cases hx:decide (0 < j) with
     | true=>exact of_decide_eq_true hx
     | false=>rw [hx] at hd;cases hd
    have hw:wr (j - 1)=j - 1:=wr_of _ (by omega) (by omega)
    left
    simp only [cond_true]
    have e0:n + 30 * j.toNat=(n + 30 * (j - 1).toNat) + 30:=by omega
    rw [e0] at g1
    obtain ⟨l,c3,e2,k3,hl⟩:=dr_clause g1 r.1.vars
    rw [e2,zaa,zaE (by simp;omega),zaa]
    refine ⟨_,rfl,⟨by dsimp only;rw [hw];exact k3,by dsimp only;rw [hw];omega,by dsimp only;rw [hw,List.length_append,List.length_singleton];omega,fun x hx=>?_⟩,by dsimp only;rw [hw];omega⟩
    rcases List.mem_append.1 hx with g|g
    · exact g5 x g
    · rw [List.mem_singleton] at g;subst g;exact ⟨by omega,hl.2⟩
theorem SmC.le {N M N2 M2:Nat} {f:Cnf} (h:SmC N M f) (h1:N≤N2) (h2:M≤M2):SmC N2 M2 f:=⟨h.vars,by have:=h.len;omega,fun c hc=>⟨by have:=(h.cl c hc).1;omega,(h.cl c hc).2⟩⟩
theorem dr_cnf {n:Nat} {c:l1Cur} (h:okC (n + 1000) c):Dr n (zde c) (SmC 100 12):=by
 have hlim:lim=4294967296:=rfl
 unfold zde
 refine (dr_one (n:=n + 990) h.le 4).bind fun b c1 h1 _=>?_
 show Dr n (bif b then _ else _) _
 cases b with
 | true=>exact (dr_hard (n:=n) h1.le).bind fun f c2 h2 hf=>⟨_,_,rfl,h2,hf.le (by omega) (by omega)⟩
 | false =>
 simp only [cond_false]
 refine (zbC (n:=n + 988) h1 (by simp)).bind fun v c2 h2 hv=>?_
 have hv':okI v:=by simp only [List.mem_cons,List.not_mem_nil,or_false] at hv;unfold okI;omega
 refine (zaV (n:=n + 986) h2 10).bind fun k c3 h3 hk=>?_
 have hk9:k≤9:=by omega
 refine dr_loop (fun s=>s.2.2.2.2.toNat) (fun s=>okC (n + 600 + 30 * s.2.2.2.2.toNat) (l1Cur.mk s.2.1 s.2.2.1 s.2.2.2.1)∧0≤s.2.2.2.2∧s.1.length + s.2.2.2.2≤9∧∀ c∈s.1,c.length≤12∧okIs c)
  (fun s=>okC (n + 600) (l1Cur.mk s.2.1 s.2.2.1 s.2.2.2.1)∧s.1.length≤9∧∀ c∈s.1,c.length≤12∧okIs c)
  ⟨h3.le (by dsimp only;omega),hk.1,by dsimp only;simp;omega,fun c hc=>by cases hc⟩ ?_ ?_
 · rintro ⟨out,cd,at_,sd,j⟩ ⟨g1,g2,g3,g5⟩
   simp only at g1 g2 g3 g5 ⊢
   cases hd:decide (0 < j) with
   | false=>exact .inr ⟨_,rfl,g1.le,by dsimp only;omega,g5⟩
   | true =>
    have hj:0 < j:=of_decide_eq_true hd
    have hw:wr (j - 1)=j - 1:=wr_of _ (by omega) (by omega)
    left
    simp only [cond_true]
    have e0:n + 600 + 30 * j.toNat=(n + 600 + 30 * (j - 1).toNat) + 30:=by omega
    rw [e0] at g1
    obtain ⟨l,c3,e2,k3,hl⟩:=dr_clause g1 v
    rw [e2,zaa,zaE (by simp;omega),zaa]
    refine ⟨_,rfl,⟨by dsimp only;rw [hw];exact k3,by dsimp only;rw [hw];omega,by dsimp only;rw [hw,List.length_append,List.length_singleton];omega,fun x hx=>?_⟩,by dsimp only;rw [hw];omega⟩
    rcases List.mem_append.1 hx with g|g
    · exact g5 x g
    · rw [List.mem_singleton] at g;subst g;exact ⟨by omega,hl.2⟩
 · rintro ⟨out,cd,at_,sd,j⟩ ⟨g1,g4,g5⟩
   simp only at g1 g4 g5 ⊢
   have cat:∀ ys:List (List Int),(∀ c∈ys,c.length≤12∧okIs c)→∀ c∈out++ys,c.length≤12∧okIs c:=fun ys hy c hc=>by
    rcases List.mem_append.1 hc with g|g
    · exact g5 c g
    · exact hy c g
   refine (zaV (n:=n + 598) g1 40).bind fun k c2 h2 _=>?_
   show Dr n (bif (k == 0) then _ else _) _
   cases k == 0 with
   | true =>
    refine (zbC (n:=n) h2.le (by simp)).bind fun x c3 h3 hx=>⟨_,_,rfl,h3,?_,by dsimp only;omega,g5⟩
    simp only [List.mem_cons,List.not_mem_nil,or_false] at hx;dsimp only;unfold okI;omega
   | false =>
   show Dr n (bif (k == 1) then _ else _) _
   cases k == 1 with
   | true =>
    refine (dr_anyClause (n:=n) h2.le v).bind fun l c3 h3 hl=>?_
    rw [zaE (by simp;omega)]
    exact ⟨_,_,rfl,h3,hv',by dsimp only;rw [List.length_append,List.length_singleton];omega,cat [l] fun c hc=>by rw [List.mem_singleton] at hc;subst hc;exact ⟨by omega,hl.2⟩⟩
   | false =>
   show Dr n (bif (k == 2) then _ else _) _
   cases k == 2 with
   | true =>
    simp only [cond_true]
    refine dr_loop (fun s=>61 - s.1.length) (fun s=>okC (n + 2 + 2 * (61 - s.1.length)) (l1Cur.mk s.2.1 s.2.2.1 s.2.2.2)∧s.1.length≤61∧∀ c∈s.1,c.length≤12∧okIs c)
     (fun s=>okC n (l1Cur.mk s.2.1 s.2.2.1 s.2.2.2)∧s.1.length≤61∧∀ c∈s.1,c.length≤12∧okIs c)
     ⟨h2.le (by dsimp only;omega),by dsimp only;omega,g5⟩ ?_ (fun s hs=>⟨_,_,rfl,hs.1,hv',by have:=hs.2.1;dsimp only;omega,hs.2.2⟩)
    rintro ⟨os,cd,at_,sd⟩ ⟨k1,k2,k4⟩
    simp only at k1 k2 k4 ⊢
    have e0:n + 2 + 2 * (61 - os.length)=(n + 2 * (61 - os.length)) + 2:=by omega
    rw [e0] at k1
    obtain ⟨b,c4,e2,m3,hb⟩:=zaV k1 2
    rw [e2,zaa]
    have hb1:b≤1:=by omega
    have hw:wr (60 + b)=60 + b:=wr_of _ (by omega) (by omega)
    simp only
    rw [hw]
    cases hd:decide (len os < 60 + b) with
    | false=>exact .inr ⟨_,rfl,m3.le,k2,k4⟩
    | true =>
     have hlt:(os.length:Int) < 60 + b:=by have:=of_decide_eq_true hd;rwa [zaj] at this
     left
     simp only [cond_true]
     rw [zaE (by simp;omega),zaa]
     refine ⟨_,rfl,⟨m3.le (by dsimp only;rw [List.length_append,List.length_singleton];omega),by dsimp only;rw [List.length_append,List.length_singleton];omega,fun x hx=>?_⟩,by dsimp only;rw [List.length_append,List.length_singleton];omega⟩
     rcases List.mem_append.1 hx with g|g
     · exact k4 x g
     · rw [List.mem_singleton] at g;subst g
       exact ⟨by simp,fun y hy=>by rw [List.mem_singleton] at hy;subst hy;unfold okI;omega⟩
   | false =>
   show Dr n (bif (k == 3) then _ else _) _
   cases k == 3 with
   | true =>
    refine (dr_clause (n:=n) h2.le v).bind fun l c3 h3 hl=>?_
    rw [zaE (by simp;omega)]
    refine ⟨_,_,rfl,h3,hv',by dsimp only;rw [List.length_append];simp;omega,cat [l,[]] fun c hc=>?_⟩
    simp only [List.mem_cons,List.not_mem_nil,or_false] at hc
    rcases hc with rfl|rfl
    · exact ⟨by omega,hl.2⟩
    · exact ⟨by simp,fun x h=>by cases h⟩
   | false=>exact ⟨_,_,rfl,h2.le,hv',by dsimp only;omega,g5⟩
theorem okC_begin {cs:List Int} (h:okL okU8 cs) (s:Int):okC 1000000000 (l1Cur.mk cs 0 s):=⟨h,by dsimp only;omega,by dsimp only;omega⟩
end Go.PF
namespace Go.PF
open Go.Pu
theorem zcr {V:Int} {c:List Int} (hc:IsC V c) {v x:Int} (h1:1≤v):x∈zaz c v↔x∈c∧x.natAbs≠v.natAbs:=by
 unfold zaz
 rw [List.mem_filter]
 refine and_congr_right fun hx=>?_
 have:=hc.lit x hx;have:=hc.hi
 rw [zbk (by omega) (by omega)]
 simp only [Bool.not_eq_true',beq_eq_false_iff_ne,ne_eq]
 omega
theorem srt_one {V:Int} {c:List Int} (hc:IsC V c) {x y:Int} (hx:x∈c) (hy:y∈c) (h:x.natAbs=y.natAbs:=by omega):x=y:=by
 have hp:=hc.srt
 obtain ⟨i,hi⟩:=List.getElem?_of_mem hx
 obtain ⟨j,hj⟩:=List.getElem?_of_mem hy
 have hij:i=j:=by
  rcases Nat.lt_trichotomy i j with g|g|g
  · have:=List.pairwise_iff_getElem.1 hp i j (List.getElem?_eq_some_iff.1 hi).1 (List.getElem?_eq_some_iff.1 hj).1 g
    rw [(List.getElem?_eq_some_iff.1 hi).2,(List.getElem?_eq_some_iff.1 hj).2] at this
    omega
  · exact g
  · have:=List.pairwise_iff_getElem.1 hp j i (List.getElem?_eq_some_iff.1 hj).1 (List.getElem?_eq_some_iff.1 hi).1 g
    rw [(List.getElem?_eq_some_iff.1 hi).2,(List.getElem?_eq_some_iff.1 hj).2] at this
    omega
 subst hij
 rw [hi] at hj
 exact Option.some.inj hj
theorem zbS {V:Int} {a b:List Int} (ha:IsC V a) (hb:IsC V b) {v:Int} (h1:1≤v) (h2:v≤V) :
 ((res a b v).2=true↔v∈a∧-v∈b∧∀ x∈a,-x∈b→x=v) ∧
 ((res a b v).2=true→∀ x,x∈(res a b v).1↔(x∈a∨x∈b)∧x.natAbs≠v.natAbs):=by
 have hV:=ha.hi
 have hw:wr (-v)=-v:=wr_of _ (by omega) (by omega)
 unfold res
 rw [hw]
 by_cases m1:v∈a
 · by_cases m2:-v∈b
   · rw [List.contains_iff_mem.2 m1,List.contains_iff_mem.2 m2]
     simp only [Bool.not_true,Bool.or_self,cond_false]
     have hs:=joinL_spec (b:=zaz b v) (s:=zaz a v) (ha.srt.filter _) (fun x hx=>ha.sm x (List.mem_filter.1 hx).1) (hb.srt.filter _) (fun x hx=>hb.sm x (List.mem_filter.1 hx).1)
     unfold joined
     by_cases hx:∃ y∈zaz b v,-y∈zaz a v
     · rw [if_pos hx] at hs
       rw [hs]
       refine ⟨⟨fun h=>(by cases h),fun h=>?_⟩,fun h=>(by cases h)⟩
       exfalso
       obtain ⟨y,hy,hy2⟩:=hx
       rw [zcr hb h1] at hy
       rw [zcr ha h1] at hy2
       have:=h.2.2 (-y) hy2.1 (by rw [Int.neg_neg];exact hy.1)
       omega
     · rw [if_neg hx] at hs
       obtain ⟨t,e,hst,hm⟩:=hs
       rw [e]
       refine ⟨⟨fun _=>⟨m1,m2,fun x hxa hxb=>?_⟩,fun _=>rfl⟩,fun _ x=>?_⟩
       · by_cases hne:x.natAbs=v.natAbs
         · rcases Int.natAbs_eq_natAbs_iff.1 hne with h|h
           · exact h
           · exfalso
             subst h
             have:=srt_one ha m1 hxa
             omega
         · exact absurd ⟨-x,(zcr hb h1).2 ⟨hxb,by omega⟩,by rw [Int.neg_neg];exact (zcr ha h1).2 ⟨hxa,hne⟩⟩ hx
       · rw [hm,zcr ha h1,zcr hb h1,← or_and_right]
   · have:b.contains (-v)=false:=by rw [Bool.eq_false_iff];exact fun h=>m2 (List.contains_iff_mem.1 h)
     rw [this]
     simp only [Bool.not_false,Bool.or_true,cond_true]
     exact ⟨⟨fun h=>(by cases h),fun h=>absurd h.2.1 m2⟩,fun h=>(by cases h)⟩
 · have:a.contains v=false:=by rw [Bool.eq_false_iff];exact fun h=>m1 (List.contains_iff_mem.1 h)
   rw [this]
   simp only [Bool.not_false,Bool.true_or,cond_true]
   exact ⟨⟨fun h=>(by cases h),fun h=>absurd h.1 m1⟩,fun h=>(by cases h)⟩
end Go.PF
namespace Go.PF
open Go.Pu
def lexC:List Int→List Int→Int
 | [],[]=>0
 | [],_::_=>-1
 | _::_,[]=>1
 | x::a,y::b=>bif !(cmpL x y == 0) then cmpL x y else lexC a b
theorem compare_loop {f:Nat→Int→Unit→Option (Lp Unit Int)} {b:List Int} {n:Int}
 (hf:∀ i y s,f i y s=bif decide (len b≤((i:Nat):Int)) then some (Lp.rt 1) else bd (ix b ((i:Nat):Int)) fun x=>bd (zbK y x) fun r=>bif !(r == 0) then some (Lp.rt r) else some (Lp.nx ())) :
 ∀ {a:List Int} {i:Nat},i≤b.length→n=(i:Int) + a.length→bdR (zau f a i ()) (fun _=>bif decide (n < len b) then some (-1) else some 0) (fun x=>some x)=some (lexC a (b.drop i)):=by
 intro a
 induction a with
 | nil =>
  intro i hi hn
  simp only [List.length_nil] at hn
  simp only [zau,zaD]
  by_cases h:i < b.length
  · rw [List.drop_eq_getElem_cons h,show decide (n < len b)=true by rw [decide_eq_true_eq,zaj];omega];rfl
  · rw [List.drop_eq_nil_of_le (by omega),show decide (n < len b)=false by rw [decide_eq_false_iff_not,zaj];omega];rfl
 | cons x a ih =>
  intro i hi hn
  simp only [List.length_cons] at hn
  by_cases h:i < b.length
  · have e:f i x ()=bif !(cmpL x b[i] == 0) then some (Lp.rt (cmpL x b[i])) else some (Lp.nx ()):=by
     rw [hf,show decide (len b≤((i:Nat):Int))=false by rw [decide_eq_false_iff_not,zaj];omega,cond_false,zaU,List.getElem?_eq_getElem h,zaa,zfe,zaa]
    rw [List.drop_eq_getElem_cons h]
    simp only [zau,e,lexC]
    cases hc:cmpL x b[i] == 0 with
    | true =>
     simp only [Bool.not_true,cond_false]
     exact ih (by omega) (by omega)
    | false=>simp only [Bool.not_false,cond_true];rfl
  · have e:f i x ()=some (Lp.rt 1):=by
     rw [hf,show decide (len b≤((i:Nat):Int))=true by rw [decide_eq_true_eq,zaj];omega];rfl
    rw [List.drop_eq_nil_of_le (by omega)]
    simp only [zau,e]
    rfl
def cmpC (a b:List Int):Int:=if a.length < b.length then -1 else if b.length < a.length then 1 else lexC a b
theorem zff (a b:List Int):zdj a b (fun x0 x1=>PF.zbK x0 x1)=some (lexC a b):=by
 unfold zdj forL
 have h:=compare_loop (b:=b) (n:=(a.length:Int)) (fun _ _ _=>rfl) (a:=a) (i:=0) (Nat.zero_le _) (by omega)
 rw [List.drop_zero] at h
 rw [← h,zaj a]
theorem zef (a b:List Int):zaQ a b=some (cmpC a b):=by
 have hc:∀ a b:Int,zaO a b=if a < b then -1 else if b < a then 1 else 0:=fun a b=>by
  unfold zaO za4
  simp only [BEq.rfl,Bool.not_true,cond_false]
  by_cases h1:a < b
  · simp [h1]
  · by_cases h2:b < a <;> simp [h1,h2]
 unfold zaQ
 rw [zff,zaa]
 unfold zcF cmpC
 rw [hc,zaj,zaj]
 by_cases h1:a.length < b.length
 · simp [h1,forL,zau]
 · by_cases h2:b.length < a.length
   · simp [h1,h2,forL,zau]
   · by_cases h3:lexC a b=0
     · simp [h1,h2,h3,forL,zau]
     · have h4:(lexC a b == 0)=false:=by rw [beq_eq_false_iff_ne];exact h3
       simp [h1,h2,h4,forL,zau]
theorem cmpL_zero {x y:Int}:cmpL x y=0↔x=y:=by
 unfold cmpL
 constructor
 · intro h
   split at h
   · omega
   · split at h
     · omega
     · split at h
       · omega
       · split at h <;> omega
 · rintro rfl;simp
theorem zc4 {x y:Int} {a b:List Int}:lexC (x::a) (y::b) < 0↔cmpL x y < 0∨(x=y∧lexC a b < 0):=by
 simp only [lexC]
 by_cases h:x=y
 · have h0:cmpL x y=0:=cmpL_zero.2 h
   rw [show (cmpL x y == 0)=true by rw [beq_iff_eq];exact h0,Bool.not_true,cond_false,h0]
   exact ⟨fun h1=>.inr ⟨h,h1⟩,fun h1=>h1.elim (fun h2=>absurd h2 (by decide)) fun h2=>h2.2⟩
 · rw [show (cmpL x y == 0)=false by rw [beq_eq_false_iff_ne];exact fun h1=>h (cmpL_zero.1 h1),Bool.not_false,cond_true]
   exact ⟨.inl,fun h1=>h1.elim id fun h2=>absurd h2.1 h⟩
theorem lexC_irrefl:∀ a:List Int,¬ lexC a a < 0
 | []=>by simp [lexC]
 | x::a=>by
  rw [zc4,cmpL_zero.2 rfl]
  rintro (h|h)
  · exact absurd h (by decide)
  · exact lexC_irrefl a h.2
theorem cmpL_trans {x y z:Int} (h1:cmpL x y < 0) (h2:cmpL y z < 0):cmpL x z < 0:=by
 rw [cmpL_neg] at *;omega
theorem lexC_trans:∀ {a b c:List Int},lexC a b < 0→lexC b c < 0→lexC a c < 0
 | [],[],_,h,_=>absurd h (by simp [lexC])
 | [],_::_,[],_,h=>absurd h (by simp [lexC])
 | [],_::_,_::_,_,_=>by simp [lexC]
 | _::_,[],_,h,_=>absurd h (by simp [lexC])
 | _::_,_::_,[],_,h=>absurd h (by simp [lexC])
 | x::a,y::b,z::c,h1,h2=>by
  rw [zc4] at *
  rcases h1 with h1|⟨rfl,h1⟩
  · rcases h2 with h2|⟨rfl,h2⟩
    · exact .inl (cmpL_trans h1 h2)
    · exact .inl h1
  · rcases h2 with h2|⟨rfl,h2⟩
    · exact .inl h2
    · exact .inr ⟨rfl,lexC_trans h1 h2⟩
theorem lexC_total:∀ {a b:List Int},¬ lexC a b < 0→¬ lexC b a < 0→a=b
 | [],[],_,_=>rfl
 | [],_::_,h,_=>absurd (by simp [lexC]) h
 | _::_,[],_,h=>absurd (by simp [lexC]) h
 | x::a,y::b,h1,h2=>by
  rw [zc4] at *
  have e:x=y:=by
   by_cases hx:cmpL x y < 0
   · exact absurd (.inl hx) h1
   · by_cases hy:cmpL y x < 0
     · exact absurd (.inl hy) h2
     · rw [cmpL_neg] at hx hy;omega
  subst e
  rw [lexC_total (fun h=>h1 (.inr ⟨rfl,h⟩)) (fun h=>h2 (.inr ⟨rfl,h⟩))]
theorem cmpC_neg {a b:List Int}:cmpC a b < 0↔a.length < b.length∨(a.length=b.length∧lexC a b < 0):=by
 unfold cmpC
 by_cases h1:a.length < b.length
 · rw [if_pos h1];exact ⟨fun _=>.inl h1,fun _=>by decide⟩
 · rw [if_neg h1]
   by_cases h2:b.length < a.length
   · rw [if_pos h2];exact ⟨fun h=>absurd h (by decide),fun h=>by omega⟩
   · rw [if_neg h2];exact ⟨fun h=>.inr ⟨by omega,h⟩,fun h=>h.elim (fun h=>absurd h h1) fun h=>h.2⟩
theorem zbt (a:List Int):¬ cmpC a a < 0:=by
 rw [cmpC_neg]
 rintro (h|h)
 · omega
 · exact lexC_irrefl a h.2
theorem zbT {a b c:List Int} (h1:cmpC a b < 0) (h2:cmpC b c < 0):cmpC a c < 0:=by
 rw [cmpC_neg] at *
 rcases h1 with h1|⟨e1,h1⟩
 · exact .inl (by omega)
 · rcases h2 with h2|⟨e2,h2⟩
   · exact .inl (by omega)
   · exact .inr ⟨by omega,lexC_trans h1 h2⟩
theorem zdM {a b:List Int} (h1:¬ cmpC a b < 0) (h2:¬ cmpC b a < 0):a=b:=by
 rw [cmpC_neg] at *
 have e:a.length=b.length:=by omega
 exact lexC_total (fun h=>h1 (.inr ⟨e,h⟩)) (fun h=>h2 (.inr ⟨e.symm,h⟩))
theorem cmpC_ntrans {a b c:List Int} (h1:¬ cmpC a b < 0) (h2:¬ cmpC b c < 0):¬ cmpC a c < 0:=by
 intro h
 by_cases h3:cmpC b a < 0
 · exact h2 (zbT h3 h)
 · have e:=zdM h1 h3
   subst e
   exact h2 h
theorem zdN {x y:List Int}:leF (fun x0 x1=>PF.zaQ x0 x1) x y=true↔¬ cmpC y x < 0:=by
 unfold leF
 simp only [zef]
 rw [Bool.not_eq_true',decide_eq_false_iff_not]
theorem sorted_config (xs:List (List Int)):(xs.mergeSort (leF fun x0 x1=>PF.zaQ x0 x1)).Pairwise fun x y=>¬ cmpC y x < 0:=by
 have:=List.pairwise_mergeSort (le:=leF fun x0 x1=>PF.zaQ x0 x1) (fun a b c h1 h2=>by
  rw [zdN] at *;exact cmpC_ntrans h2 h1) (fun a b=>by
  rw [Bool.or_eq_true,zdN,zdN]
  by_cases h:cmpC b a < 0
  · exact .inr fun h2=>zbt _ (zbT h h2)
  · exact .inl h) xs
 exact this.imp fun h=>zdN.1 h
def sm (c:List Int):Prop:=∀ x∈c,-12≤x∧x≤12∧x≠0
theorem key_lt {x y:Int} (hx:-12≤x∧x≤12∧x≠0) (hy:-12≤y∧y≤12∧y≠0):zaL x < zaL y↔cmpL x y < 0:=by
 have hk:∀ z:Int,-12≤z∧z≤12∧z≠0→zaL z=if z < 0 then -2 * z + 1 else 2 * z:=fun z hz=>by
  unfold zaL
  by_cases h:z < 0
  · have e:wr (-2 * z)=-2 * z:=wr_of _ (by omega) (by omega)
    rw [show decide (z < 0)=true from decide_eq_true h,cond_true,if_pos h,e]
    exact wr_of _ (by omega) (by omega)
  · rw [show decide (z < 0)=false from decide_eq_false h,cond_false,if_neg h]
    exact wr_of _ (by omega) (by omega)
 have ha:∀ z:Int,-12≤z∧z≤12∧z≠0→zaA z=z.natAbs:=fun z hz=>by
  rw [zd9 (by unfold okI;omega),zbk (by omega) (by omega)]
 rw [cmpL_neg,hk x hx,hk y hy,ha x hx,ha y hy]
 split <;> split <;> omega
theorem before_loop {f:Nat→Int→Unit→Option (Lp Unit Bool)} {b:List Int} (hb:sm b)
 (hf:∀ i y s,f i y s=bd (ix b ((i:Nat):Int)) fun x=>bif !(y == x) then bd (ix b ((i:Nat):Int)) fun x2=>some (Lp.rt (decide (zaL y < zaL x2))) else some (Lp.nx ())) :
 ∀ {a:List Int} {i:Nat},sm a→a.length + i=b.length→bdR (zau f a i ()) (fun _=>some false) (fun x=>some x)=some (decide (lexC a (b.drop i) < 0)):=by
 intro a
 induction a with
 | nil =>
  intro i _ hi
  simp only [List.length_nil] at hi
  rw [List.drop_eq_nil_of_le (by omega)];rfl
 | cons x a ih =>
  intro i hs hi
  simp only [List.length_cons] at hi
  have h:i < b.length:=by omega
  rw [List.drop_eq_getElem_cons h]
  have e:f i x ()=bif !(x == b[i]) then some (Lp.rt (decide (zaL x < zaL b[i]))) else some (Lp.nx ()):=by
   rw [hf,zaU,List.getElem?_eq_getElem h,zaa,zaa]
  by_cases hx:x=b[i]
  · have e2:f i x ()=some (Lp.nx ()):=by rw [e,show (x == b[i])=true by rw [beq_iff_eq];exact hx];rfl
    simp only [zau,e2]
    rw [ih (fun z hz=>hs z (by simp [hz])) (by omega)]
    congr 1
    rw [decide_eq_decide,zc4]
    exact ⟨fun h1=>.inr ⟨hx,h1⟩,fun h1=>h1.elim (fun h2=>by rw [cmpL_zero.2 hx] at h2;exact absurd h2 (by decide)) fun h2=>h2.2⟩
  · have e2:f i x ()=some (Lp.rt (decide (zaL x < zaL b[i]))):=by rw [e,show (x == b[i])=false by rw [beq_eq_false_iff_ne];exact hx];rfl
    simp only [zau,e2]
    show some (decide _)=some (decide _)
    congr 1
    rw [decide_eq_decide,zc4,key_lt (hs x (by simp)) (hb _ (List.getElem_mem h))]
    exact ⟨.inl,fun h1=>h1.elim id fun h2=>absurd h2.1 hx⟩
theorem zeD {a b:List Int} (ha:sm a) (hb:sm b):zcN a b=some (decide (cmpC a b < 0)):=by
 unfold zcN
 by_cases h:a.length=b.length
 · rw [show (len a == len b)=true by rw [beq_iff_eq,zaj,zaj];omega,Bool.not_true,cond_false]
   unfold forL
   rw [before_loop hb (fun _ _ _=>rfl) ha (by omega),List.drop_zero]
   congr 1
   rw [decide_eq_decide,cmpC_neg]
   exact ⟨fun h1=>.inr ⟨h,h1⟩,fun h1=>h1.elim (fun h2=>by omega) fun h2=>h2.2⟩
 · rw [show (len a == len b)=false by rw [beq_eq_false_iff_ne,zaj,zaj];omega,Bool.not_false,cond_true]
   congr 1
   rw [decide_eq_decide,cmpC_neg,zaj,zaj]
   exact ⟨fun h1=>.inl (by omega),fun h1=>h1.elim (fun h2=>by omega) fun h2=>absurd h2.1 h⟩
abbrev SrtC (xs:List (List Int)):Prop:=xs.Pairwise fun a b=>cmpC a b < 0
theorem srt_ext:∀ {xs ys:List (List Int)},SrtC xs→SrtC ys→(∀ x,x∈xs↔x∈ys)→xs=ys
 | [],[],_,_,_=>rfl
 | [],y::_,_,_,h=>absurd ((h y).2 (by simp)) (by simp)
 | x::_,[],_,_,h=>absurd ((h x).1 (by simp)) (by simp)
 | x::xs,y::ys,h1,h2,h=>by
  obtain ⟨a1,a2⟩:=List.pairwise_cons.1 h1
  obtain ⟨b1,b2⟩:=List.pairwise_cons.1 h2
  have e:x=y:=by
   rcases List.mem_cons.1 ((h x).1 (by simp)) with e|m1
   · exact e
   · rcases List.mem_cons.1 ((h y).2 (by simp)) with e|m2
     · exact e.symm
     · exact absurd (zbT (a1 y m2) (b1 x m1)) (zbt x)
  subst e
  rw [srt_ext a2 b2 fun z=>?_]
  constructor
  · intro hz
    rcases List.mem_cons.1 ((h z).1 (by simp [hz])) with e|m
    · subst e;exact absurd (a1 z hz) (zbt z)
    · exact m
  · intro hz
    rcases List.mem_cons.1 ((h z).2 (by simp [hz])) with e|m
    · subst e;exact absurd (b1 z hz) (zbt z)
    · exact m
end Go.PF
namespace Go.PF
open Go.Pu
theorem bsearch {X:Type} {body:Int×Int→Option (Lp (Int×Int) X)} {n P:Nat} (hP:P≤n)
 (h:∀ a b:Nat,a < b→b≤n→body ((a:Int),(b:Int))=some (.nx (if (a + b) / 2 < P then ((((a + b) / 2 + 1:Nat):Int),(b:Int)) else ((a:Int),(((a + b) / 2:Nat):Int)))))
 (he:∀ a:Nat,a≤n→body ((a:Int),(a:Int))=some (.bk ((a:Int),(a:Int)))) :
 iter body (0,(n:Int))=some (.go ((P:Int),(P:Int))):=by
 have key:∀ (m a b:Nat),b - a≤m→a≤P→P≤b→b≤n→iter body ((a:Int),(b:Int))=some (.go ((P:Int),(P:Int))):=by
  intro m
  induction m with
  | zero =>
   intro a b hm h1 h2 h3
   have e1:a=P:=by omega
   have e2:b=P:=by omega
   rw [e1,e2];exact zaT (he _ hP)
  | succ m ih =>
   intro a b hm h1 h2 h3
   by_cases hab:a < b
   · rw [zbh (h a b hab h3)]
     by_cases hc:(a + b) / 2 < P
     · rw [if_pos hc];exact ih _ _ (by omega) (by omega) h2 h3
     · rw [if_neg hc];exact ih _ _ (by omega) h1 (by omega) (by omega)
   · have e1:a=P:=by omega
     have e2:b=P:=by omega
     rw [e1,e2];exact zaT (he _ hP)
 have:=key n 0 n (by omega) (by omega) hP (Nat.le_refl _)
 simpa using this
def plc (xs:List (List Int)) (c:List Int):Nat:=(xs.takeWhile fun a=>decide (cmpC a c < 0)).length
theorem plc_le (xs:List (List Int)) (c:List Int):plc xs c≤xs.length:=(List.takeWhile_prefix _).length_le
theorem plc_lt:∀ {xs:List (List Int)} {c:List Int},SrtC xs→∀ {i:Nat} {x:List Int},xs[i]?=some x→(cmpC x c < 0↔i < plc xs c)
 | [],_,_,_,_,h=>by simp at h
 | a::xs,c,hs,i,x,h=>by
  obtain ⟨a1,a2⟩:=List.pairwise_cons.1 hs
  unfold plc
  rw [List.takeWhile_cons]
  by_cases hc:cmpC a c < 0
  · rw [if_pos (by simp [hc])]
    cases i with
    | zero=>simp at h;subst h;simp [hc]
    | succ i =>
     rw [List.getElem?_cons_succ] at h
     have:=plc_lt a2 (c:=c) h
     unfold plc at this
     rw [this,List.length_cons];omega
  · rw [if_neg (by simp [hc])]
    cases i with
    | zero=>simp at h;subst h;simp [hc]
    | succ i =>
     rw [List.getElem?_cons_succ] at h
     exact ⟨fun h1=>absurd (zbT (a1 x (List.mem_of_getElem? h)) h1) hc,fun h1=>absurd h1 (by simp)⟩
theorem plc_mem {xs:List (List Int)} {c:List Int} (hs:SrtC xs):c∈xs↔xs[plc xs c]?=some c:=by
 constructor
 · intro h
   obtain ⟨i,hi⟩:=List.mem_iff_getElem?.1 h
   have h1:¬ i < plc xs c:=fun h=>zbt c ((plc_lt hs hi).2 h)
   by_cases h2:plc xs c < i
   · have hil:i < xs.length:=(List.getElem?_eq_some_iff.1 hi).1
     obtain ⟨x,hx⟩:∃ x,xs[plc xs c]?=some x:=⟨_,List.getElem?_eq_getElem (by omega)⟩
     have h3:=List.pairwise_iff_getElem.1 hs (plc xs c) i (by omega) hil h2
     rw [List.getElem?_eq_some_iff] at hx hi
     obtain ⟨_,hx⟩:=hx
     obtain ⟨_,hi⟩:=hi
     rw [hx,hi] at h3
     exact absurd ((plc_lt hs (List.getElem?_eq_some_iff.2 ⟨_,hx⟩)).1 h3) (Nat.lt_irrefl _)
   · rw [show plc xs c=i by omega];exact hi
 · exact fun h=>List.mem_of_getElem? h
def insC (xs:List (List Int)) (c:List Int):List (List Int):=xs.take (plc xs c)++c::xs.drop (plc xs c)
theorem insC_mem {xs:List (List Int)} {c x:List Int}:x∈insC xs c↔x=c∨x∈xs:=by
 unfold insC
 have e:=List.take_append_drop (plc xs c) xs
 constructor
 · intro h
   rcases List.mem_append.1 h with h|h
   · exact .inr (List.mem_of_mem_take h)
   · rcases List.mem_cons.1 h with h|h
     · exact .inl h
     · exact .inr (List.mem_of_mem_drop h)
 · rintro (rfl|h)
   · simp
   · rw [← e] at h
     rcases List.mem_append.1 h with h|h
     · exact List.mem_append_left _ h
     · exact List.mem_append_right _ (List.mem_cons_of_mem _ h)
theorem insC_len (xs:List (List Int)) (c:List Int):(insC xs c).length=xs.length + 1:=by
 unfold insC;simp;have:=plc_le xs c;omega
theorem insC_srt {xs:List (List Int)} {c:List Int} (hs:SrtC xs) (hc:c ∉ xs):SrtC (insC xs c):=by
 have hlt:∀ x∈xs.take (plc xs c),cmpC x c < 0:=fun x hx=>by
  obtain ⟨i,hi⟩:=List.mem_iff_getElem?.1 hx
  have hl:i < plc xs c:=by
   have:=(List.getElem?_eq_some_iff.1 hi).1
   rw [List.length_take] at this;omega
  rw [List.getElem?_take_of_lt hl] at hi
  exact (plc_lt hs hi).2 hl
 have hgt:∀ x∈xs.drop (plc xs c),cmpC c x < 0:=fun x hx=>by
  obtain ⟨i,hi⟩:=List.mem_iff_getElem?.1 hx
  rw [List.getElem?_drop] at hi
  have h1:¬ cmpC x c < 0:=fun h=>absurd ((plc_lt hs hi).1 h) (by omega)
  by_cases h2:cmpC c x < 0
  · exact h2
  · exact absurd (by rw [zdM h2 h1];exact List.mem_of_getElem? hi) hc
 unfold insC SrtC
 rw [List.pairwise_append,List.pairwise_cons]
 refine ⟨hs.sublist (List.take_sublist _ _),⟨hgt,hs.sublist (List.drop_sublist _ _)⟩,fun a ha b hb=>?_⟩
 rcases List.mem_cons.1 hb with rfl|hb
 · exact hlt a ha
 · exact zbT (hlt a ha) (hgt b hb)
def putC (xs:List (List Int)) (c:List Int):List (List Int):=bif xs.contains c then xs else insC xs c
theorem putC_mem {xs:List (List Int)} {c x:List Int}:x∈putC xs c↔x=c∨x∈xs:=by
 unfold putC
 cases h:xs.contains c with
 | true =>
  simp only [cond_true]
  rw [List.contains_iff_mem] at h
  exact ⟨.inr,fun h1=>h1.elim (fun h2=>by rw [h2];exact h) id⟩
 | false=>exact insC_mem
theorem putC_srt {xs:List (List Int)} {c:List Int} (hs:SrtC xs):SrtC (putC xs c):=by
 unfold putC
 cases h:xs.contains c with
 | true=>exact hs
 | false=>exact insC_srt hs (fun h1=>by rw [← List.contains_iff_mem,h] at h1;cases h1)
theorem putC_len (xs:List (List Int)) (c:List Int):(putC xs c).length≤xs.length + 1:=by
 unfold putC
 cases h:xs.contains c with
 | true=>exact Nat.le_succ _
 | false=>exact Nat.le_of_eq (insC_len xs c)
end Go.PF
namespace Go.PF
open Go.Pu
theorem IsC.small {V:Int} {c:List Int} (h:IsC V c):PF.sm c:=fun x hx=>by have:=h.lit x hx;have:=h.hi;omega
theorem zbl {V:Int} {a b:List Int} {v:Int} (ha:IsC V a) (hb:IsC V b) (h:(res a b v).2=true):IsC V (res a b v).1:=by
 unfold res at h ⊢
 cases hc : !a.contains v || !b.contains (wr (-v)) with
 | true=>rw [hc] at h;cases h
 | false =>
  rw [hc] at h
  simp only [cond_false] at h ⊢
  unfold joined at h ⊢
  have sa:Srt (zaz a v):=ha.srt.sublist List.filter_sublist
  have sb:Srt (zaz b v):=hb.srt.sublist List.filter_sublist
  have ma:Sm (zaz a v):=fun x hx=>ha.sm x (List.mem_filter.1 hx).1
  have mb:Sm (zaz b v):=fun x hx=>hb.sm x (List.mem_filter.1 hx).1
  have hj:=joinL_spec sa ma sb mb
  split at hj
  · rw [hj] at h;cases h
  · obtain ⟨t,h1,h2,h3⟩:=hj
    rw [h1]
    refine ⟨ha.lo,ha.hi,fun l hl=>?_,h2⟩
    rcases (h3 l).1 hl with hl|hl
    · exact ha.lit l (List.mem_filter.1 hl).1
    · exact hb.lit l (List.mem_filter.1 hl).1
structure Cfg (V:Int) (n:Nat) (xs:List (List Int)):Prop where
 srt:SrtC xs
 len:xs.length≤n
 cl:∀ c∈xs,IsC V c
theorem Cfg.nil {V:Int} {n:Nat}:Cfg V n []:=⟨.nil,Nat.zero_le _,nofun⟩
theorem Cfg.put {V:Int} {n:Nat} {xs:List (List Int)} (h:Cfg V n xs) {c:List Int} (hc:IsC V c):Cfg V (n + 1) (putC xs c):=by
 refine ⟨putC_srt h.srt,?_,fun d hd=>?_⟩
 · have:=putC_len xs c;have:=h.len;omega
 · rcases putC_mem.1 hd with rfl|hd
   · exact hc
   · exact h.cl d hd
theorem zeE {V:Int} {n:Nat} {xs:List (List Int)} (h:Cfg V n xs) (hn:n≤100000) {c:List Int} (hc:sm c):zcO xs c=some (plc xs c:Int):=by
 unfold zcO
 have hl:=h.len
 rw [zaj,bsearch (n:=xs.length) (P:=plc xs c) (plc_le xs c) (fun a b hab hb=>?_) (fun a ha=>?_)]
 · rfl
 · have w1:wr ((a:Int) + b)=((a + b:Nat):Int):=by rw [wr_of _ (by omega) (by omega)];omega
   have w2:wr (((a + b:Nat):Int).tdiv 2)=(((a + b) / 2:Nat):Int):=by
    rw [Int.tdiv_eq_ediv_of_nonneg (by omega)]
    rw [wr_of _ (by omega) (by omega)];omega
   have w3:wr ((((a + b) / 2:Nat):Int) + 1)=(((a + b) / 2 + 1:Nat):Int):=by rw [wr_of _ (by omega) (by omega)];omega
   obtain ⟨x,hx⟩:∃ x,xs[(a + b) / 2]?=some x:=⟨_,List.getElem?_eq_getElem (by omega)⟩
   have hp:=plc_lt h.srt (c:=c) hx
   simp only [show decide ((a:Int) < (b:Int))=true by rw [decide_eq_true_eq];omega,cond_true,w1,w2,w3,zaU,hx,zaa]
   rw [zeD (h.cl x (List.mem_of_getElem? hx)).small hc,zaa]
   by_cases hlt:(a + b) / 2 < plc xs c
   · rw [if_pos hlt,show decide (cmpC x c < 0)=true by rw [decide_eq_true_eq];exact hp.2 hlt];rfl
   · rw [if_neg hlt,show decide (cmpC x c < 0)=false by rw [decide_eq_false_iff_not];exact fun h=>hlt (hp.1 h)];rfl
 · simp only [show decide ((a:Int) < (a:Int))=false by rw [decide_eq_false_iff_not];omega,cond_false]
theorem plc_test {V:Int} {n:Nat} {xs:List (List Int)} (h:Cfg V n xs) {c:List Int} :
 (bd (bif (decide (((plc xs c:Nat):Int) < len xs)) then bd (ix xs ((plc xs c:Nat):Int)) (fun x=>bd (zcP x c) (fun r=>some r)) else some false) fun t=>some t)=some (xs.contains c):=by
 have hm:=plc_mem h.srt (c:=c)
 by_cases hlt:plc xs c < xs.length
 · have hx:xs[plc xs c]?=some xs[plc xs c]:=List.getElem?_eq_getElem hlt
   rw [show decide (((plc xs c:Nat):Int) < len xs)=true by rw [decide_eq_true_eq,zaj];omega,cond_true,zaU,hx,zaa,spec_l1Same_eq]
   simp only [zaa]
   congr 1
   rw [Bool.eq_iff_iff,beq_iff_eq,List.contains_iff_mem,hm,hx]
   exact ⟨fun h=>by rw [h],fun h=>Option.some.inj h⟩
 · rw [show decide (((plc xs c:Nat):Int) < len xs)=false by rw [decide_eq_false_iff_not,zaj];omega,cond_false,zaa]
   congr 1
   rw [eq_comm,Bool.eq_false_iff]
   intro hc
   rw [List.contains_iff_mem,hm,List.getElem?_eq_none (by omega)] at hc
   cases hc
theorem bd_test {β:Type} {x:Option Bool} {b:Bool} {k:Bool→Option β} (h:(bd x fun t=>some t)=some b):bd x k=k b:=by
 cases x with
 | none=>cases h
 | some y=>cases h;rfl
theorem zeg {V:Int} {n:Nat} {xs:List (List Int)} (h:Cfg V n xs) (hn:n≤100000) {c:List Int} (hc:sm c):zb4 xs c=some (bif xs.contains c then (plc xs c:Int) else -1):=by
 unfold zb4
 rw [zeE h hn hc,zaa,bd_test (plc_test h)]
 cases xs.contains c <;> rfl
theorem spec_l2Insert_eq {V:Int} {n:Nat} {xs:List (List Int)} (h:Cfg V n xs) (hn:n≤100000) {c:List Int} (hc:sm c):zds xs c=some (putC xs c):=by
 unfold zds putC
 rw [zeE h hn hc,zaa,bd_test (plc_test h)]
 have hp:=plc_le xs c
 have hl:=h.len
 have hlim:lim=4294967296:=rfl
 cases xs.contains c with
 | true=>rfl
 | false =>
  simp only [cond_false]
  have c1:cut xs 0 ((plc xs c:Nat):Int)=some (xs.take (plc xs c)):=by
   have:=zbb (xs:=xs) (a:=0) (b:=plc xs c) (Nat.zero_le _) hp
   simpa using this
  have c2:cut xs ((plc xs c:Nat):Int) (len xs)=some (xs.drop (plc xs c)):=by
   have:=zbb (xs:=xs) (a:=plc xs c) (b:=xs.length) hp (Nat.le_refl _)
   rw [List.take_length] at this;exact this
  rw [c1,zaa,zaE (by simp;omega),zaa,List.nil_append,zaE (by simp;omega),zaa,c2,zaa,zaE (by simp;omega),zaa]
  unfold insC
  rw [List.append_assoc];rfl
theorem zfg {c:List (List Int)} {f:List Int→Option Bool} {g:List Int→Bool} (h:∀ y∈c,f y=some (g y)):∃ r,zbJ c f=some r∧decide (0≤r)=c.any g:=by
 unfold zbJ
 rw [forL_find (p:=fun _ y=>g y) (v:=fun i _=>(i:Int)) (fun i y hy=>by rw [h y (List.mem_of_getElem? hy),zaa])]
 cases hf:findI (fun _ y=>g y) c 0 with
 | none =>
  refine ⟨-1,rfl,?_⟩
  have:=zdF.1 hf
  rw [zbi] at this;rw [this];rfl
 | some z =>
  obtain ⟨_,_,_,h4⟩:=zdG hf
  rw [zbi] at h4
  exact ⟨_,rfl,by rw [h4];simp⟩
end Go.PF
namespace Go.PF
open Go.Pu
theorem loop_l {σ α X B:Type} {xs:List α} {body:Nat→α→σ→Option (Lp σ X)} {k:σ→Option B} {lx:X→Option B} {R:B→Prop} (I:Nat→σ→Prop) {s0:σ} (h0:I 0 s0)
 (h:∀ (i:Nat) x s,xs[i]?=some x→I i s→∃ s',body i x s=some (.nx s')∧I (i + 1) s')
 (hk:∀ s,I xs.length s→∃ r,k s=some r∧R r):∃ r,bdR (forL xs body s0) k lx=some r∧R r:=by
 have key:∀ (m:List α) (j:Nat) (s:σ),j + m.length=xs.length→(∀ i y,m[i]?=some y→xs[j + i]?=some y)→I j s→∃ s',zau body m j s=some (.go s')∧I xs.length s':=by
  intro m
  induction m with
  | nil =>
   intro j s hj _ hI
   simp only [List.length_nil,Nat.add_zero] at hj
   subst hj
   exact ⟨s,rfl,hI⟩
  | cons y m ih =>
   intro j s hj hm hI
   obtain ⟨s',h1,h2⟩:=h j y s (by have:=hm 0 y rfl;simpa using this) hI
   rw [zd8 h1]
   exact ih (j + 1) s' (by simp at hj;omega) (fun i z hz=>by have:=hm (i + 1) z (by simpa using hz);rwa [show j + (i + 1)=j + 1 + i by omega] at this) h2
 obtain ⟨s',h1,h2⟩:=key xs 0 s0 (by simp) (by simp) h0
 have h1':forL xs body s0=some (.go s'):=h1
 rw [h1',zaD]
 exact hk s' h2
end Go.PF
namespace Go.PF
open Go.Pu
theorem iter_m {S X B:Type} {body:S→Option (Lp S X)} {s0:S} {k:S→Option B} {lx:X→Option B} {R:B→Prop} (I:S→Prop) (m:S→Nat) (h0:I s0)
 (h:∀ s,I s→(∃ s',body s=some (.nx s')∧I s'∧m s' < m s)∨(∃ s',body s=some (.bk s')∧∃ r,k s'=some r∧R r)∨(∃ x,body s=some (.rt x)∧∃ r,lx x=some r∧R r)) :
 ∃ r,bdR (iter body s0) k lx=some r∧R r:=by
 have key:∀ (n:Nat) (s:S),m s≤n→I s→∃ r,bdR (iter body s) k lx=some r∧R r:=by
  intro n
  induction n with
  | zero =>
   intro s hm hI
   rcases h s hI with ⟨s',_,_,h3⟩|⟨s',h1,h2⟩|⟨x,h1,h2⟩
   · omega
   · rw [zaT h1,zaD];exact h2
   · rw [zbz h1,bdR_rt];exact h2
  | succ n ih =>
   intro s hm hI
   rcases h s hI with ⟨s',h1,h2,h3⟩|⟨s',h1,h2⟩|⟨x,h1,h2⟩
   · rw [zbh h1];exact ih s' (by omega) h2
   · rw [zaT h1,zaD];exact h2
   · rw [zbz h1,bdR_rt];exact h2
 exact key _ s0 (Nat.le_refl _) h0
theorem zaW {σ α X B:Type} {xs:List α} {body:Nat→α→σ→Option (Lp σ X)} {k:σ→Option B} {lx:X→Option B} {R:B→Prop} (I:Nat→σ→Prop) {s0:σ} (h0:I 0 s0)
 (h:∀ (i:Nat) x s,xs[i]?=some x→I i s→(∃ s',body i x s=some (.nx s')∧I (i + 1) s')∨(∃ y,body i x s=some (.rt y)∧∃ r,lx y=some r∧R r))
 (hk:∀ s,I xs.length s→∃ r,k s=some r∧R r):∃ r,bdR (forL xs body s0) k lx=some r∧R r:=by
 have key:∀ (m:List α) (j:Nat) (s:σ),j + m.length=xs.length→(∀ i y,m[i]?=some y→xs[j + i]?=some y)→I j s→∃ r,bdR (zau body m j s) k lx=some r∧R r:=by
  intro m
  induction m with
  | nil =>
   intro j s hj _ hI
   simp only [List.length_nil,Nat.add_zero] at hj
   subst hj
   rw [forLFrom_nil,zaD]
   exact hk s hI
  | cons y m ih =>
   intro j s hj hm hI
   rcases h j y s (by have:=hm 0 y rfl;simpa using this) hI with ⟨s',h1,h2⟩|⟨x,h1,h2⟩
   · rw [zd8 h1]
     exact ih (j + 1) s' (by simp at hj;omega) (fun i z hz=>by have:=hm (i + 1) z (by simpa using hz);rwa [show j + (i + 1)=j + 1 + i by omega] at this) h2
   · rw [show zau body (y::m) j s=some (.rt x) by unfold zau;rw [h1],bdR_rt]
     exact h2
 exact key xs 0 s0 (by simp) (by simp) h0
theorem cnt_m {σ T X B:Type} (mk:σ→Int→T) {n:Nat} {body:T→Option (Lp T X)} {a:Nat} {t0:T} {k:T→Option B} {lx:X→Option B} {R:B→Prop} (I:Nat→σ→Prop) {s0:σ} (ht:t0=mk s0 (a:Int)) (ha:a≤n) (h0:I a s0)
 (h:∀ (i:Nat) s,a≤i→i < n→I i s→(∃ s',body (mk s (i:Int))=some (.nx (mk s' ((i + 1:Nat):Int)))∧I (i + 1) s')∨(∃ y,body (mk s (i:Int))=some (.rt y)∧∃ r,lx y=some r∧R r))
 (he:∀ s,I n s→body (mk s (n:Int))=some (.bk (mk s (n:Int)))) (hk:∀ s,I n s→∃ r,k (mk s (n:Int))=some r∧R r):∃ r,bdR (iter body t0) k lx=some r∧R r:=by
 subst ht
 have key:∀ (d i:Nat) (s:σ),a≤i→i + d=n→I i s→∃ r,bdR (iter body (mk s (i:Int))) k lx=some r∧R r:=by
  intro d
  induction d with
  | zero =>
   intro i s hi hd hI
   have e:i=n:=by omega
   subst e
   rw [zaT (he s hI),zaD]
   exact hk s hI
  | succ d ih =>
   intro i s hi hd hI
   rcases h i s hi (by omega) hI with ⟨s',h1,h2⟩|⟨x,h1,h2⟩
   · rw [zbh h1];exact ih (i + 1) s' (by omega) (by omega) h2
   · rw [zbz h1,bdR_rt];exact h2
 exact key (n - a) a s0 (Nat.le_refl _) (by omega) h0
theorem rng_m {σ X B:Type} {n:Nat} {body:Nat→σ→Option (Lp σ X)} {k:σ→Option B} {lx:X→Option B} {R:B→Prop} (I:Nat→σ→Prop) {s0:σ} (h0:I 0 s0)
 (h:∀ (i:Nat) s,i < n→I i s→(∃ s',body i s=some (.nx s')∧I (i + 1) s')∨(∃ y,body i s=some (.rt y)∧∃ r,lx y=some r∧R r))
 (hk:∀ s,I n s→∃ r,k s=some r∧R r):∃ r,bdR (forR 0 n body s0) k lx=some r∧R r:=by
 have key:∀ (d i:Nat) (s:σ),i + d=n→I i s→∃ r,bdR (zaS body d i s) k lx=some r∧R r:=by
  intro d
  induction d with
  | zero =>
   intro i s hd hI
   have e:i=n:=by omega
   subst e
   exact hk s hI
  | succ d ih =>
   intro i s hd hI
   rcases h i s (by omega) hI with ⟨s',h1,h2⟩|⟨x,h1,h2⟩
   · rw [show zaS body (d + 1) i s=zaS body d (i + 1) s' by rw [zaS];rw [h1]]
     exact ih (i + 1) s' (by omega) h2
   · rw [show zaS body (d + 1) i s=some (.rt x) by rw [zaS];rw [h1],bdR_rt]
     exact h2
 exact key n 0 s0 (by omega) h0
theorem chk_len {A:Type} {xs:List A} (h:xs.length≤1000000):chk (len xs)=some xs.length:=by
 unfold chk len
 rw [if_pos (by omega)]
 simp
theorem bd_ex {A B:Type} {x:Option A} {k:A→Option B} {Q:A→Prop} {R:B→Prop} (h:∃ r,x=some r∧Q r) (hk:∀ r,Q r→∃ q,k r=some q∧R q):∃ q,bd x k=some q∧R q:=by
 obtain ⟨r,e,q⟩:=h
 rw [e,zaa]
 exact hk r q
theorem wr_s {n:Int} (h0:-1000000000≤n) (h1:n≤1000000000):wr n=n:=wr_of n (by omega) (by omega)
end Go.PF
namespace Go.PF
open Go.Pu
theorem wrk16 (n:Nat) (h:n < 65536):wrk false 16 (n:Int)=(n:Int):=by
 unfold wrk
 have:((n:Int) % (2 ^ 16:Int))=(n:Int):=Int.emod_eq_of_lt (by omega) (by omega)
 rw [this]
 simp
theorem ofInt16 {n:Nat}:BitVec.ofInt 16 (n:Int)=BitVec.ofNat 16 n:=by
 apply BitVec.eq_of_toNat_eq
 simp
theorem and16 {a b:Nat} (ha:a < 65536) (hb:b < 65536):andK false 16 (a:Int) (b:Int)=((a &&& b:Nat):Int):=by
 unfold andK
 rw [ofInt16,ofInt16,BitVec.toNat_and,BitVec.toNat_ofNat,BitVec.toNat_ofNat,Nat.mod_eq_of_lt (by omega),Nat.mod_eq_of_lt (by omega)]
 exact wrk16 _ (Nat.lt_of_le_of_lt Nat.and_le_left ha)
theorem or16 {a b:Nat} (ha:a < 65536) (hb:b < 65536):orK false 16 (a:Int) (b:Int)=((a ||| b:Nat):Int):=by
 unfold orK
 rw [ofInt16,ofInt16,BitVec.toNat_or,BitVec.toNat_ofNat,BitVec.toNat_ofNat,Nat.mod_eq_of_lt (by omega),Nat.mod_eq_of_lt (by omega)]
 exact wrk16 _ (Nat.or_lt_two_pow (n:=16) ha hb)
def minusN (a b:Nat):Nat:=a ^^^ (a &&& b)
theorem minus_bit (a b j:Nat):(minusN a b).testBit j=(a.testBit j && !b.testBit j):=by
 unfold minusN
 rw [Nat.testBit_xor,Nat.testBit_and]
 cases a.testBit j <;> cases b.testBit j <;> rfl
theorem an16 {a b:Nat} (ha:a < 65536) (hb:b < 65536):anK false 16 (a:Int) (b:Int)=((minusN a b:Nat):Int):=by
 unfold anK
 have e:(BitVec.ofInt 16 (a:Int) &&& ~~~BitVec.ofInt 16 (b:Int)).toNat=minusN a b:=by
  rw [ofInt16,ofInt16]
  apply Nat.eq_of_testBit_eq
  intro j
  rw [minus_bit,BitVec.testBit_toNat,BitVec.getLsbD_and,BitVec.getLsbD_not,BitVec.getLsbD_ofNat,BitVec.getLsbD_ofNat]
  by_cases hj:j < 16
  · simp [hj]
  · have:a.testBit j=false:=Nat.testBit_lt_two_pow (Nat.lt_of_lt_of_le ha (Nat.pow_le_pow_right (n:=2) (i:=16) (by omega) (by omega)))
    simp [hj,this]
 rw [e]
 exact wrk16 _ (Nat.xor_lt_two_pow (n:=16) ha (Nat.lt_of_le_of_lt Nat.and_le_left ha))
theorem shl16 {a k:Nat} (hk:k≤16) (h:a <<< k < 65536):shlK false 16 (a:Int) (k:Int)=((a <<< k:Nat):Int):=by
 unfold shlK
 have h1:min ((k:Int)).toNat 16=k:=by simp;omega
 rw [h1]
 rw [← wrk16 _ h,Nat.shiftLeft_eq]
 simp
theorem shr16 {n k:Nat} (hk:k≤16):shrK 16 (n:Int) (k:Int)=((n >>> k:Nat):Int):=by
 unfold shrK
 have h1:min ((k:Int)).toNat 16=k:=by simp;omega
 rw [h1,Nat.shiftRight_eq_div_pow]
 rw [Int.fdiv_eq_ediv_of_nonneg _ (Int.le_of_lt (Int.pow_pos (by omega)))]
 simp
theorem bit_hi {n j k:Nat} (h:n < 2 ^ k) (hj:k≤j):n.testBit j=false:=Nat.testBit_lt_two_pow (Nat.lt_of_lt_of_le h (Nat.pow_le_pow_right (by omega) hj))
def swapN (y:Nat):Nat:=((y &&& 63) <<< 6) ||| (y >>> 6)
def bothN (x y:Nat):Nat:=((x &&& swapN y) ||| ((x &&& swapN y) >>> 6)) &&& 63
theorem and63 (y:Nat):y &&& 63 < 64:=Nat.lt_of_le_of_lt Nat.and_le_right (by omega)
theorem swap_lt {y:Nat} (hy:y < 4096):swapN y < 4096:=by
 unfold swapN
 apply Nat.or_lt_two_pow (n:=12)
 · have:=and63 y
   rw [Nat.shiftLeft_eq];omega
 · exact Nat.lt_of_le_of_lt (Nat.shiftRight_le y 6) hy
theorem swapped_eq {y:Nat} (hy:y < 4096):za9 (y:Int)=(swapN y:Int):=by
 unfold za9 swapN
 have h1:=and63 y
 have h2:(y &&& 63) <<< 6 < 65536:=by rw [Nat.shiftLeft_eq];omega
 have h3:y >>> 6≤y:=Nat.shiftRight_le y 6
 rw [show (63:Int)=((63:Nat):Int) from rfl,show (6:Int)=((6:Nat):Int) from rfl,and16 (by omega) (by omega),shl16 (by omega) h2,shr16 (by omega),or16 h2 (by omega)]
theorem both_lt (x y:Nat):bothN x y < 64:=and63 _
theorem bothOf_eq {x y:Nat} (hx:x < 4096) (hy:y < 4096):zak (x:Int) (y:Int)=(bothN x y:Int):=by
 unfold zak bothN
 have h0:=swap_lt hy
 have h1:x &&& swapN y < 4096:=Nat.lt_of_le_of_lt Nat.and_le_left hx
 have h2:(x &&& swapN y) >>> 6≤x &&& swapN y:=Nat.shiftRight_le _ 6
 have h3:(x &&& swapN y) ||| ((x &&& swapN y) >>> 6) < 4096:=Nat.or_lt_two_pow (n:=12) h1 (by omega)
 rw [swapped_eq hy,and16 (by omega) (by omega),show (63:Int)=((63:Nat):Int) from rfl,show (6:Int)=((6:Nat):Int) from rfl,shr16 (by omega),or16 (by omega) (by omega),and16 (by omega) (by omega)]
theorem bit63 (j:Nat):(63:Nat).testBit j=decide (j < 6):=Nat.testBit_two_pow_sub_one 6 j
theorem swap_bit {y:Nat} (hy:y < 4096) (j:Nat):(swapN y).testBit j=(bif decide (j < 6) then y.testBit (j + 6) else y.testBit (j - 6) && decide (j < 12)):=by
 unfold swapN
 rw [Nat.testBit_or,Nat.testBit_shiftLeft,Nat.testBit_and,bit63,Nat.testBit_shiftRight,Nat.add_comm 6 j]
 by_cases h:j < 6
 · have:¬ j ≥ 6:=by omega
   simp [h,this]
 · have h1:y.testBit (j + 6)=false:=bit_hi (k:=12) hy (by omega)
   have h2:j ≥ 6:=by omega
   by_cases h3:j < 12
   · have:j - 6 < 6:=by omega
     simp [h,h1,h2,h3,this]
   · have:¬ j - 6 < 6:=by omega
     simp [h,h1,h2,h3,this]
theorem both_bit {x y:Nat} (hx:x < 4096) (hy:y < 4096) {k:Nat} (hk:k < 6):(bothN x y).testBit k=(x.testBit k && y.testBit (k + 6) || x.testBit (k + 6) && y.testBit k):=by
 unfold bothN
 rw [Nat.testBit_and,bit63,Nat.testBit_or,Nat.testBit_shiftRight,Nat.testBit_and,Nat.testBit_and,swap_bit hy,swap_bit hy,Nat.add_comm 6 k]
 have h1:¬ k + 6 < 6:=by omega
 have h2:k + 6 - 6=k:=by omega
 have h3:k + 6 < 12:=by omega
 simp [hk,h1,h2,h3]
theorem one_tab:∀ m < 64,zcb ((m:Nat):Int)=(List.range 6).any fun k=>m == 2 ^ k:=by decide +kernel
theorem one_iff {m:Nat} (hm:m < 64):zcb (m:Int)=true↔∃ k,k < 6∧m=2 ^ k:=by
 rw [one_tab m hm,List.any_eq_true]
 constructor
 · rintro ⟨k,h1,h2⟩;exact ⟨k,List.mem_range.1 h1,by simpa using h2⟩
 · rintro ⟨k,h1,h2⟩;exact ⟨k,List.mem_range.2 h1,by simpa using h2⟩
def bi (l:Int):Nat:=if 0 < l then (l - 1).toNat else (5 - l).toNat
def mkN (c:List Int):Nat:=c.foldl (fun s l=>s ||| 2 ^ bi l) 0
theorem bi_inj {l k:Int} (h1:-6≤l) (h2:l≤6) (h3:l≠0) (h4:-6≤k) (h5:k≤6) (h6:k≠0):bi l=bi k↔l=k:=by
 unfold bi
 split <;> split <;> omega
theorem bi_lt {l:Int} (h1:-6≤l) (h2:l≤6) (h3:l≠0):bi l < 12:=by
 unfold bi
 split <;> omega
theorem mkN_fold (c:List Int):∀ (s j:Nat),(c.foldl (fun s l=>s ||| 2 ^ bi l) s).testBit j=(s.testBit j || c.any fun l=>bi l == j):=by
 induction c with
 | nil=>intro s j;simp
 | cons l c ih =>
  intro s j
  rw [List.foldl_cons,ih,Nat.testBit_or,Nat.testBit_two_pow,List.any_cons,Bool.or_assoc]
  congr 1
theorem mkN_bit (c:List Int) (j:Nat):(mkN c).testBit j=c.any fun l=>bi l == j:=by
 unfold mkN
 rw [mkN_fold];simp
structure IsS (V:Int) (c:List Int):Prop where
 c:IsC V c
 le:V≤6
theorem IsS.lit {V:Int} {c:List Int} (h:IsS V c):∀ l∈c,-6≤l∧l≤6∧l≠0:=by
 intro l hl
 have:=h.c.lit l hl
 have:=h.le
 omega
theorem za2 {V:Int} {c:List Int} (h:IsS V c) {l:Int} (h1:-6≤l) (h2:l≤6) (h3:l≠0):(mkN c).testBit (bi l)=true↔l∈c:=by
 rw [mkN_bit,List.any_eq_true]
 constructor
 · rintro ⟨k,hk,e⟩
   obtain ⟨a,b,d⟩:=h.lit k hk
   have:=(bi_inj a b d h1 h2 h3).1 (by simpa using e)
   exact this ▸ hk
 · intro hl;exact ⟨l,hl,by simp⟩
theorem zaI {V:Int} {c:List Int} (h:IsS V c):mkN c < 4096:=by
 apply Nat.lt_pow_two_of_testBit (n:=12)
 intro j hj
 rw [mkN_bit,Bool.eq_false_iff]
 intro e
 rw [List.any_eq_true] at e
 obtain ⟨l,hl,e⟩:=e
 obtain ⟨a,b,d⟩:=h.lit l hl
 have:=bi_lt a b d
 have:bi l=j:=by simpa using e
 omega
theorem mkN_inj {V:Int} {a b:List Int} (ha:IsS V a) (hb:IsS V b) (h:mkN a=mkN b):a=b:=by
 apply zdK ha.c.srt hb.c.srt
 intro x
 constructor
 · intro hx
   obtain ⟨p,q,r⟩:=ha.lit x hx
   exact (za2 hb p q r).1 (h ▸ (za2 ha p q r).2 hx)
 · intro hx
   obtain ⟨p,q,r⟩:=hb.lit x hx
   exact (za2 ha p q r).1 (h ▸ (za2 hb p q r).2 hx)
theorem maskOf_eq {V:Int} {c:List Int} (h:IsS V c):zca c=some (mkN c:Int):=by
 have main:∃ r,zca c=some r∧r=(mkN c:Int):=by
  unfold zca
  refine zaW (I:=fun i s=>s=((mkN (c.take i):Nat):Int)) rfl ?_ (fun s hs=>⟨s,rfl,by rw [List.take_length] at hs;exact hs⟩)
  intro i y s hy hs
  obtain ⟨a,b,d⟩:=h.lit y (List.mem_of_getElem? hy)
  have hlt:mkN (c.take i) < 65536:=by
   have:mkN (c.take i) < 4096:=by
    apply Nat.lt_pow_two_of_testBit (n:=12)
    intro j hj
    rw [mkN_bit,Bool.eq_false_iff]
    intro e
    rw [List.any_eq_true] at e
    obtain ⟨l,hl,e⟩:=e
    obtain ⟨a,b,d⟩:=h.lit l (List.mem_of_mem_take hl)
    have:=bi_lt a b d
    have:bi l=j:=by simpa using e
    omega
   omega
  have hb:=bi_lt a b d
  have hsh:1 <<< bi y < 65536:=by
   rw [Nat.one_shiftLeft]
   exact Nat.lt_of_le_of_lt (Nat.pow_le_pow_right (n:=2) (by omega) (show bi y≤11 by omega)) (by omega)
  have hm:mkN (c.take (i + 1))=mkN (c.take i) ||| 1 <<< bi y:=by
   rw [List.take_add_one,hy,Nat.one_shiftLeft]
   unfold mkN
   rw [List.foldl_append];rfl
  refine .inl ⟨_,?_,rfl⟩
  rw [hm,hs]
  by_cases hp:0 < y
  · rw [decide_eq_true hp,cond_true,wr_s (by omega) (by omega)]
    have e:y - 1=((bi y:Nat):Int):=by unfold bi;rw [if_pos hp];omega
    rw [e]
    have:nn ((bi y:Nat):Int)=some ():=by unfold nn;rw [if_neg (by omega)]
    rw [this,zaa,show (1:Int)=((1:Nat):Int) from rfl,shl16 (by omega) hsh,or16 hlt hsh]
  · rw [decide_eq_false hp,cond_false,wr_s (n:=6 - y) (by omega) (by omega),wr_s (by omega) (by omega)]
    have e:6 - y - 1=((bi y:Nat):Int):=by unfold bi;rw [if_neg hp];omega
    rw [e]
    have:nn ((bi y:Nat):Int)=some ():=by unfold nn;rw [if_neg (by omega)]
    rw [this,zaa,show (1:Int)=((1:Nat):Int) from rfl,shl16 (by omega) hsh,or16 hlt hsh]
 obtain ⟨r,e,hr⟩:=main
 rw [e,hr]
def litsM (m:Nat):List Int:=[1,-1,2,-2,3,-3,4,-4,5,-5,6,-6].filter fun l=>m.testBit (bi l)
theorem litsM_mk {V:Int} {c:List Int} (h:IsS V c):litsM (mkN c)=c:=by
 have hm:∀ x,x∈litsM (mkN c)↔x∈c:=by
  intro x
  unfold litsM
  rw [List.mem_filter]
  constructor
  · rintro ⟨h1,h2⟩
    have:-6≤x∧x≤6∧x≠0:=by
     simp only [List.mem_cons,List.not_mem_nil,or_false] at h1
     omega
    exact (za2 h this.1 this.2.1 this.2.2).1 h2
  · intro hx
    obtain ⟨a,b,d⟩:=h.lit x hx
    refine ⟨?_,(za2 h a b d).2 hx⟩
    simp only [List.mem_cons,List.not_mem_nil,or_false]
    omega
 refine zdK ?_ h.c.srt hm
 have hd:(litsM (mkN c)).Pairwise fun a b=>a.natAbs < b.natAbs∨a=-b:=by
  unfold litsM
  apply List.Pairwise.filter
  decide
 have hs:(litsM (mkN c)).Pairwise fun a b=>a∈c∧b∈c:=by
  apply List.pairwise_of_forall_mem_list
  intro a ha b hb
  exact ⟨(hm a).1 ha,(hm b).1 hb⟩
 refine (hd.and hs).imp ?_
 rintro a b ⟨h1|h1,h2,h3⟩
 · exact h1
 · exfalso
   have:=srt_one h.c h2 h3 (by omega)
   have:=(h.lit b h3).2.2
   omega
theorem bit16 {m k:Nat} (hm:m < 65536) (hk:k≤16):(andK false 16 (shrK 16 (m:Int) (k:Int)) 1 == 1)=m.testBit k:=by
 rw [shr16 hk,show (1:Int)=((1:Nat):Int) from rfl,and16 (Nat.lt_of_le_of_lt (Nat.shiftRight_le m k) hm) (by omega)]
 unfold Nat.testBit
 rw [Nat.and_comm]
 have hb:1 &&& m >>> k=0∨1 &&& m >>> k=1:=by
  have:1 &&& m >>> k≤1:=Nat.and_le_left
  omega
 rcases hb with h|h <;> rw [h] <;> rfl
end Go.PF
namespace Go.PF
open Go.Pu
def lits0 (i:Nat):List Int:=(List.range' 1 (i - 1)).flatMap fun (k:Nat)=>[(k:Int),-(k:Int)]
theorem lits0_7:lits0 7=[1,-1,2,-2,3,-3,4,-4,5,-5,6,-6]:=by decide
theorem lits0_s {i:Nat} (h:1≤i):lits0 (i + 1)=lits0 i++[(i:Int),-(i:Int)]:=by
 unfold lits0
 rw [show i + 1 - 1=(i - 1) + 1 by omega,List.range'_1_concat,List.flatMap_append,show 1 + (i - 1)=i by omega]
 simp
theorem mask_clause_eq {m:Nat} (hm:m < 65536):zch (m:Int)=some (litsM m):=by
 have main:∃ r,zch (m:Int)=some r∧r=litsM m:=by
  unfold zch
  refine cnt_m (σ:=List Int) (fun s i=>(s,i)) (n:=7) (a:=1) (I:=fun i s=>s=(lits0 i).filter fun l=>m.testBit (bi l)) rfl (by omega) rfl ?_ ?_ ?_
  · intro i s h1 h2 hs
    have e1:wr ((i:Int) - 1)=((i - 1:Nat):Int):=by rw [wr_s (by omega) (by omega)];omega
    have e2:wr (wr (6 + (i:Int)) - 1)=((5 + i:Nat):Int):=by rw [wr_s (n:=6 + (i:Int)) (by omega) (by omega),wr_s (by omega) (by omega)];omega
    have e3:wr (-(i:Int))=-(i:Int):=wr_s (by omega) (by omega)
    have e4:wr ((i:Int) + 1)=((i + 1:Nat):Int):=by rw [wr_s (by omega) (by omega)];omega
    have n1:∀ k:Nat,nn (k:Int)=some ():=fun k=>by unfold nn;rw [if_neg (by omega)]
    have b1:bi (i:Int)=i - 1:=by unfold bi;rw [if_pos (by omega)];omega
    have b2:bi (-(i:Int))=5 + i:=by unfold bi;rw [if_neg (by omega)];omega
    have hlen:(lits0 i).length≤12:=by
     have:i=1∨i=2∨i=3∨i=4∨i=5∨i=6:=by omega
     rcases this with rfl|rfl|rfl|rfl|rfl|rfl <;> decide
    have hl:s.length≤12:=by rw [hs];exact Nat.le_trans (List.length_filter_le _ _) hlen
    have ha:∀ x:Int,app s [x]=some (s++[x]):=fun x=>by unfold app;rw [if_pos (by simp [lim];omega)]
    have ha2:∀ x y:Int,app (s++[x]) [y]=some (s++[x]++[y]):=fun x y=>by unfold app;rw [if_pos (by simp [lim];omega)]
    refine .inl ⟨(lits0 (i + 1)).filter fun l=>m.testBit (bi l),?_,rfl⟩
    rw [lits0_s h1,List.filter_append,← hs]
    simp only [e1,e2,e3,e4,n1,zaa,bit16 hm (show i - 1≤16 by omega),bit16 hm (show 5 + i≤16 by omega),ha,ha2]
    rw [decide_eq_true (by omega),cond_true]
    rw [List.filter_cons,List.filter_cons,b1,b2]
    cases m.testBit (i - 1) <;> cases m.testBit (5 + i) <;> simp
  · intro s hs
    simp
  · intro s hs
    refine ⟨s,rfl,?_⟩
    rw [hs]
    unfold litsM
    rw [lits0_7]
 obtain ⟨r,e,hr⟩:=main
 rw [e,hr]
def zeh (a0:Int):Option Int :=
 bdR (iterC (S:=(Int×Int)) (X:=Empty) 14 (fun s21=>(bif (!(s21.1 == 0)) then some (Lp.nx ((andK false 16 s21.1 (wrk false 16 (s21.1 - 1))),(wr (s21.2 + 1)))) else some (Lp.bk (s21.1,s21.2)))) (a0,0)) (fun s21=>some s21.2) (fun x21=>nomatch x21)
theorem count_le (a:Int):Le (zeh a) (zbO a):=by
 unfold zeh zbO
 exact bdR_le (iterC_le (fun s=>Le.rfl' _) _ _) (fun _=>Le.rfl' _) (fun x=>nomatch x)
theorem count_tab:(List.range 4096).all (fun m=>zeh (m:Int) == some ((litsM m).length:Int))=true:=by decide +kernel
theorem mask_count_eq {m:Nat} (hm:m < 4096):zbO (m:Int)=some ((litsM m).length:Int):=by
 have:=List.all_eq_true.1 count_tab m (List.mem_range.2 hm)
 exact (count_le _).le _ (by simpa using this)
theorem count_mk {V:Int} {c:List Int} (h:IsS V c):zbO (mkN c:Int)=some (len c):=by
 rw [mask_count_eq (zaI h),litsM_mk h];rfl
theorem clause_mk {V:Int} {c:List Int} (h:IsS V c):zch (mkN c:Int)=some c:=by
 rw [mask_clause_eq (by have:=zaI h;omega),litsM_mk h]
theorem zaP {v:Int} (h1:1≤v):bi v=(v - 1).toNat:=by unfold bi;rw [if_pos (by omega)]
theorem bi_neg {v:Int} (h1:1≤v):bi (-v)=(v - 1).toNat + 6:=by unfold bi;rw [if_neg (by omega)];omega
theorem both_mem {V:Int} {a b:List Int} (ha:IsS V a) (hb:IsS V b) {v:Int} (h1:1≤v) (h2:v≤6):(bothN (mkN a) (mkN b)).testBit (bi v)=true↔(v∈a∧-v∈b)∨(-v∈a∧v∈b):=by
 have hk:bi v < 6:=by rw [zaP h1];omega
 have e:bi v + 6=bi (-v):=by rw [zaP h1,bi_neg h1]
 rw [both_bit (zaI ha) (zaI hb) hk,e,Bool.or_eq_true,Bool.and_eq_true,Bool.and_eq_true,za2 ha (by omega) (by omega) (by omega),za2 hb (by omega) (by omega) (by omega),za2 ha (by omega) (by omega) (by omega),za2 hb (by omega) (by omega) (by omega)]
theorem both_comm {V:Int} {a b:List Int} (ha:IsS V a) (hb:IsS V b):bothN (mkN a) (mkN b)=bothN (mkN b) (mkN a):=by
 apply Nat.eq_of_testBit_eq
 intro j
 by_cases hj:j < 6
 · rw [both_bit (zaI ha) (zaI hb) hj,both_bit (zaI hb) (zaI ha) hj]
   cases (mkN a).testBit j <;> cases (mkN b).testBit j <;> cases (mkN a).testBit (j + 6) <;> cases (mkN b).testBit (j + 6) <;> rfl
 · rw [bit_hi (k:=6) (both_lt _ _) (by omega),bit_hi (k:=6) (both_lt _ _) (by omega)]
theorem zcs {V:Int} {a b:List Int} (ha:IsS V a) (hb:IsS V b) {v:Int} (h1:1≤v) (h2:v≤V):(res a b v).2=true↔v∈a∧bothN (mkN a) (mkN b)=2 ^ bi v:=by
 have hV:=ha.le
 rw [(zbS ha.c hb.c h1 h2).1]
 constructor
 · rintro ⟨m1,m2,m3⟩
   refine ⟨m1,Nat.eq_of_testBit_eq fun j=>?_⟩
   rw [Nat.testBit_two_pow]
   by_cases hj:j < 6
   · have e:j=bi ((j:Int) + 1):=by rw [zaP (by omega)];omega
     rw [Bool.eq_iff_iff,decide_eq_true_iff]
     rw [show (bothN (mkN a) (mkN b)).testBit j=(bothN (mkN a) (mkN b)).testBit (bi ((j:Int) + 1)) by rw [← e],both_mem ha hb (by omega) (by omega)]
     constructor
     · rintro (⟨p,q⟩|⟨p,q⟩)
       · have:=m3 _ p q
         rw [e,← this]
       · have:=m3 _ p (by simpa using q)
         omega
     · intro g
       have:v=(j:Int) + 1:=by rw [zaP h1] at g;omega
       rw [← this]
       exact .inl ⟨m1,m2⟩
   · rw [bit_hi (k:=6) (both_lt _ _) (by omega)]
     have:bi v < 6:=by rw [zaP h1];omega
     symm
     rw [decide_eq_false_iff_not]
     omega
 · rintro ⟨m1,m2⟩
   have key:∀ w:Int,1≤w→w≤6→((w∈a∧-w∈b)∨(-w∈a∧w∈b))→w=v:=by
    intro w hw1 hw2 hw
    have:=(both_mem ha hb hw1 hw2).2 hw
    rw [m2,Nat.testBit_two_pow,decide_eq_true_iff,zaP hw1,zaP h1] at this
    omega
   have hn:-v ∉ a:=fun h=>by have:=srt_one ha.c m1 h (by omega);omega
   refine ⟨m1,?_,?_⟩
   · have:=(both_mem ha hb h1 (by omega)).1 (by rw [m2,Nat.testBit_two_pow];simp)
     rcases this with h|h
     · exact h.2
     · exact absurd h.1 hn
   · intro x hx hx2
     obtain ⟨l1,l2,l3⟩:=ha.lit x hx
     by_cases hp:0 < x
     · exact key x (by omega) (by omega) (.inl ⟨hx,hx2⟩)
     · have:=key (-x) (by omega) (by omega) (.inr ⟨by simpa using hx,hx2⟩)
       exact absurd (by rw [← this];simpa using hx) hn
theorem res_mkN {V:Int} {a b:List Int} (ha:IsS V a) (hb:IsS V b) {v:Int} (h1:1≤v) (h2:v≤V) (h:(res a b v).2=true) :
 mkN (res a b v).1=minusN (mkN a ||| mkN b) (2 ^ bi v ||| 2 ^ bi v <<< 6):=by
 have hV:=ha.le
 have hc:IsS V (res a b v).1:=⟨zbl ha.c hb.c h,hV⟩
 have hm:=(zbS ha.c hb.c h1 h2).2 h
 have hbv:bi v < 6:=by rw [zaP h1];omega
 apply Nat.eq_of_testBit_eq
 intro j
 rw [minus_bit,Nat.testBit_or,Nat.testBit_or,Nat.testBit_shiftLeft,Nat.testBit_two_pow,Nat.testBit_two_pow]
 by_cases hj:j < 12
 · obtain ⟨l,e,l1,l2,l3⟩:∃ l,j=bi l∧-6≤l∧l≤6∧l≠0:=by
    by_cases hj6:j < 6
    · exact ⟨(j:Int) + 1,by rw [zaP (by omega)];omega,by omega,by omega,by omega⟩
    · exact ⟨5 - (j:Int),by unfold bi;rw [if_neg (by omega)];omega,by omega,by omega,by omega⟩
   subst e
   have e2:(decide (bi v=bi l) || (decide (bi l ≥ 6) && decide (bi v=bi l - 6)))=decide (l.natAbs=v.natAbs):=by
    rw [Bool.eq_iff_iff]
    simp only [Bool.or_eq_true,Bool.and_eq_true,decide_eq_true_iff]
    rw [zaP h1]
    unfold bi
    split <;> omega
   rw [e2,Bool.eq_iff_iff,Bool.and_eq_true,Bool.or_eq_true,za2 hc l1 l2 l3,za2 ha l1 l2 l3,za2 hb l1 l2 l3,hm]
   simp
 · rw [bit_hi (k:=12) (zaI hc) (by omega),bit_hi (k:=12) (zaI ha) (by omega),bit_hi (k:=12) (zaI hb) (by omega)]
   rfl
def hitM (x y:Int):Bool:=zcb (zak x y)
def rsvM (x y:Int):Int:=anK false 16 (orK false 16 x y) (orK false 16 (zak x y) (shlK false 16 (zak x y) 6))
theorem hit_iff {V:Int} {a b:List Int} (ha:IsS V a) (hb:IsS V b):hitM (mkN a) (mkN b)=true↔∃ v,1≤v∧v≤V∧((res a b v).2=true∨(res b a v).2=true):=by
 have hV:=ha.le
 unfold hitM
 rw [bothOf_eq (zaI ha) (zaI hb),one_iff (both_lt _ _)]
 constructor
 · rintro ⟨k,hk,e⟩
   have eb:k=bi ((k:Int) + 1):=by rw [zaP (by omega)];omega
   have hb1:(bothN (mkN a) (mkN b)).testBit (bi ((k:Int) + 1))=true:=by rw [← eb,e,Nat.testBit_two_pow];simp
   rw [both_mem ha hb (by omega) (by omega)] at hb1
   rcases hb1 with ⟨p,q⟩|⟨p,q⟩
   · refine ⟨(k:Int) + 1,by omega,(ha.c.lit _ p).2.1,.inl ((zcs ha hb (by omega) (ha.c.lit _ p).2.1).2 ⟨p,by rw [← eb];exact e⟩)⟩
   · refine ⟨(k:Int) + 1,by omega,(hb.c.lit _ q).2.1,.inr ((zcs hb ha (by omega) (hb.c.lit _ q).2.1).2 ⟨q,by rw [← eb,← both_comm ha hb];exact e⟩)⟩
 · rintro ⟨v,h1,h2,h|h⟩
   · exact ⟨bi v,by rw [zaP h1];omega,((zcs ha hb h1 h2).1 h).2⟩
   · exact ⟨bi v,by rw [zaP h1];omega,by rw [both_comm ha hb];exact ((zcs hb ha h1 h2).1 h).2⟩
theorem rsv_pow {x y k:Nat} (hx:x < 4096) (hy:y < 4096) (hk:k < 6) (h:bothN x y=2 ^ k):rsvM (x:Int) (y:Int)=((minusN (x ||| y) (2 ^ k ||| 2 ^ k <<< 6):Nat):Int):=by
 unfold rsvM
 have h1:2 ^ k < 64:=Nat.pow_lt_pow_right (a:=2) (n:=6) (by omega) hk
 have h2:2 ^ k <<< 6 < 4096:=by rw [Nat.shiftLeft_eq];omega
 rw [bothOf_eq hx hy,h,show (6:Int)=((6:Nat):Int) from rfl,shl16 (by omega) (by omega),or16 (by omega) (by omega),or16 (by omega) (by omega),an16 (Nat.or_lt_two_pow (n:=16) (by omega) (by omega)) (Nat.or_lt_two_pow (n:=16) (by omega) (by omega))]
theorem rsv_left {V:Int} {a b:List Int} (ha:IsS V a) (hb:IsS V b) {v:Int} (h1:1≤v) (h2:v≤V) (h:(res a b v).2=true) :
 hitM (mkN a) (mkN b)=true∧rsvM (mkN a) (mkN b)=(mkN (res a b v).1:Int)∧zak (mkN a) (mkN b)=((2 ^ bi v:Nat):Int):=by
 have hV:=ha.le
 have e:=((zcs ha hb h1 h2).1 h).2
 refine ⟨(hit_iff ha hb).2 ⟨v,h1,h2,.inl h⟩,?_,?_⟩
 · rw [rsv_pow (zaI ha) (zaI hb) (by rw [zaP h1];omega) e,res_mkN ha hb h1 h2 h]
 · rw [bothOf_eq (zaI ha) (zaI hb),e]
theorem rsv_right {V:Int} {a b:List Int} (ha:IsS V a) (hb:IsS V b) {v:Int} (h1:1≤v) (h2:v≤V) (h:(res b a v).2=true) :
 hitM (mkN a) (mkN b)=true∧rsvM (mkN a) (mkN b)=(mkN (res b a v).1:Int):=by
 have hV:=ha.le
 have e:=((zcs hb ha h1 h2).1 h).2
 refine ⟨(hit_iff ha hb).2 ⟨v,h1,h2,.inr h⟩,?_⟩
 rw [rsv_pow (k:=bi v) (zaI ha) (zaI hb) (by rw [zaP h1];omega) (by rw [both_comm ha hb];exact e),res_mkN hb ha h1 h2 h,Nat.or_comm]
end Go.PF
namespace Go.PF
open Go.Pu
def Mk (F:Cnf) (w:Int) (a b:List Int) (v:Int) (c:List Int):Prop:=1≤v∧v≤F.vars∧(res a b v).2=true∧(res a b v).1=c∧len c≤w
def Kn (F:Cnf) (w:Int):Nat→List Int→Prop
 | 0,_=>False
 | n + 1,c=>(c∈F.clauses∧len c≤w)∨Kn F w n c∨∃ a b v,Kn F w n a∧Kn F w n b∧Mk F w a b v c
def Rk (F:Cnf) (w:Int) (n:Nat) (c:List Int):Prop:=Kn F w (n + 1) c∧¬ Kn F w n c
structure Nar (F:Cnf):Prop where
 cnf:cnfB F=true
 le:F.vars≤6
theorem Nar.ax {F:Cnf} (h:Nar F) {c:List Int} (hc:c∈F.clauses):IsS F.vars c:=by
 have:=h.cnf
 unfold cnfB at this
 simp only [Bool.and_eq_true] at this
 exact ⟨zbB.1 (List.all_eq_true.1 this.2 c hc),h.le⟩
theorem Nar.kn {F:Cnf} (h:Nar F) {w:Int}:∀ {n:Nat} {c:List Int},Kn F w n c→IsS F.vars c
 | 0,_,h'=>h'.elim
 | n + 1,c,h'=>by
  rcases h' with ⟨h1,_⟩|h1|⟨a,b,v,h1,h2,h3,h4,h5,h6,_⟩
  · exact h.ax h1
  · exact h.kn h1
  · exact ⟨h6 ▸ zbl (h.kn h1).c (h.kn h2).c h5,h.le⟩
theorem Kn.up {F:Cnf} {w:Int} {n m:Nat} (h:n≤m) {c:List Int} (hc:Kn F w n c):Kn F w m c:=by
  induction m with
  | zero => have:n=0:=by omega
            subst this;exact hc
  | succ m ih =>
    by_cases e:n=m + 1
    · subst e;exact hc
    · exact .inr (.inl (ih (by omega)))
theorem Kn.stop {F:Cnf} {w:Int} {r:Nat} (h:∀ c,Kn F w (r + 1) c→Kn F w r c):∀ {n:Nat} {c:List Int},Kn F w n c→Kn F w r c
 | 0,_,h'=>h'.elim
 | n + 1,c,h'=>by
  apply h
  rcases h' with h2|h2|⟨a,b,v,h2,h3,h4⟩
  · exact .inl h2
  · exact .inr (.inl (Kn.stop h h2))
  · exact .inr (.inr ⟨a,b,v,Kn.stop h h2,Kn.stop h h3,h4⟩)
theorem Mk.ne {F:Cnf} {w:Int} (hF:Nar F) {a b:List Int} {v:Int} {c:List Int} (ha:IsS F.vars a) (hb:IsS F.vars b) (h:Mk F w a b v c):a≠b:=by
 intro e
 subst e
 obtain ⟨h1,h2,h3,h4,h5⟩:=h
 obtain ⟨m1,m2,_⟩:=(zbS ha.c hb.c h1 h2).1.1 h3
 have:=srt_one ha.c m1 m2 (by omega)
 omega
theorem Mk.hit {F:Cnf} {w:Int} {a b:List Int} {v:Int} {c:List Int} (ha:IsS F.vars a) (hb:IsS F.vars b) (h:Mk F w a b v c∨Mk F w b a v c) :
 hitM (mkN a) (mkN b)=true∧rsvM (mkN a) (mkN b)=(mkN c:Int):=by
 rcases h with ⟨h1,h2,h3,h4,h5⟩|⟨h1,h2,h3,h4,h5⟩
 · have:=rsv_left ha hb h1 h2 h3
   rw [h4] at this
   exact ⟨this.1,this.2.1⟩
 · have:=rsv_right ha hb h1 h2 h3
   rw [h4] at this
   exact this
theorem hit_mk {F:Cnf} {w:Int} (hF:Nar F) {a b:List Int} (ha:IsS F.vars a) (hb:IsS F.vars b) (h:hitM (mkN a) (mkN b)=true) :
 ∃ c,IsS F.vars c∧rsvM (mkN a) (mkN b)=(mkN c:Int)∧(len c≤w→∃ v,Mk F w a b v c∨Mk F w b a v c):=by
 obtain ⟨v,h1,h2,h3|h3⟩:=(hit_iff ha hb).1 h
 · exact ⟨_,⟨zbl ha.c hb.c h3,hF.le⟩,(rsv_left ha hb h1 h2 h3).2.1,fun hl=>⟨v,.inl ⟨h1,h2,h3,rfl,hl⟩⟩⟩
 · exact ⟨_,⟨zbl hb.c ha.c h3,hF.le⟩,(rsv_right ha hb h1 h2 h3).2,fun hl=>⟨v,.inr ⟨h1,h2,h3,rfl,hl⟩⟩⟩
theorem few {V:Int} {cl:List (List Int)} (hn:cl.Nodup) (hc:∀ c∈cl,IsS V c):cl.length≤4096:=by
 let xs:List Int:=(cl.map fun c=>((mkN c:Nat):Int)).mergeSort fun a b=>decide (a≤b)
 have hp:xs.Perm (cl.map fun c=>((mkN c:Nat):Int)):=List.mergeSort_perm _ _
 have hnd:(cl.map fun c=>((mkN c:Nat):Int)).Nodup:=by
  rw [List.nodup_iff_pairwise_ne,List.pairwise_map]
  have:=List.Pairwise.and_mem.1 (List.nodup_iff_pairwise_ne.1 hn)
  refine this.imp ?_
  rintro a b ⟨ha,hb,hne⟩ e
  exact hne (mkN_inj (hc a ha) (hc b hb) (by omega))
 have hx:xs.Nodup:=hp.nodup_iff.2 hnd
 have hs:xs.Pairwise fun a b=>a≤b:=by
  have:=List.pairwise_mergeSort (le:=fun a b:Int=>decide (a≤b)) (by intro a b c;simp;omega) (by intro a b;simp;omega) (cl.map fun c=>((mkN c:Nat):Int))
  exact this.imp (fun h=>by simpa using h)
 have hasc:Asc xs:=(hs.and (List.nodup_iff_pairwise_ne.1 hx)).imp (fun ⟨h1,h2⟩=>by omega)
 have hl:=asc_len (lo:=-1) (hi:=4095) hasc (by
  intro x hx
  have:x∈cl.map fun c=>((mkN c:Nat):Int):=hp.mem_iff.1 hx
  obtain ⟨c,hcl,e⟩:=List.mem_map.1 this
  have:=zaI (hc c hcl)
  omega)
 have:xs.length=cl.length:=by rw [hp.length_eq,List.length_map]
 omega
theorem zc5 {V:Type} (p:Int×V) (m:List (Int×V)) (j:Int):mget (p::m) j=if j=p.1 then some p.2 else mget m j:=by
 simp only [mget]
 by_cases h:j=p.1
 · rw [if_pos h,beq_iff_eq.2 h,cond_true]
 · rw [if_neg h,beq_eq_false_iff_ne.2 h,cond_false]
theorem mget_mput {V:Type}:∀ (m:List (Int×V)) (k:Int) (v:V) (j:Int),mget (mput m k v) j=if j=k then some v else mget m j
 | [],k,v,j=>by simp only [mput];rw [zc5]
 | p::m,k,v,j=>by
  simp only [mput]
  by_cases hk:k=p.1
  · rw [beq_iff_eq.2 hk,cond_true,zc5,zc5,← hk]
    by_cases h:j=k
    · rw [if_pos h,if_pos h]
    · rw [if_neg h,if_neg h,if_neg h]
  · rw [beq_eq_false_iff_ne.2 hk,cond_false,zc5,zc5,mget_mput m k v j]
    by_cases h:j=k
    · subst h
      rw [if_neg hk,if_pos rfl,if_pos rfl]
    · rw [if_neg h,if_neg h]
end Go.PF
namespace Go.PF
open Go.Pu
structure CI (F:Cnf) (w:Int) (cl:List (List Int)) (s:List Int×Int×List (Int×Int)):Prop where
 masks:s.1=cl.map fun c=>((mkN c:Nat):Int)
 nd:cl.Nodup
 sm:∀ c∈cl,IsS F.vars c
 map:∀ c,IsS F.vars c→((mget s.2.2 (mkN c)).isSome=true↔c∈cl)
 rk:∀ c∈cl,∃ n:Nat,mget s.2.2 (mkN c)=some (n:Int)∧Rk F w n c∧n≤5000
theorem CI.add {F:Cnf} {w:Int} {cl:List (List Int)} {s:List Int×Int×List (Int×Int)} (h:CI F w cl s) {c:List Int} (hc:IsS F.vars c) {n:Nat} (hn5:n≤5000) (hr:c ∉ cl→Rk F w n c) :
 ∃ s' cl',((bif (!((mget s.2.2 (mkN c)).isSome)) then bd (app s.1 [((mkN c:Nat):Int)]) (fun xs=>some (xs,(n:Int),(mput s.2.2 (mkN c) (n:Int)))) else some (s.1,s.2.1,s.2.2)):Option (List Int×Int×List (Int×Int)))=some s'
  ∧ CI F w cl' s'∧c∈cl'∧∃ e,cl'=cl++e∧∀ x∈e,x=c:=by
 by_cases hm:c∈cl
 · refine ⟨s,cl,?_,h,hm,[],by simp,nofun⟩
   rw [(h.map c hc).2 hm];rfl
 · have hl:s.1.length≤4096:=by rw [h.masks,List.length_map];exact few h.nd h.sm
   refine ⟨(s.1++[((mkN c:Nat):Int)],(n:Int),mput s.2.2 (mkN c) (n:Int)),cl++[c],?_,?_,by simp,[c],rfl,by simp⟩
   · have:(mget s.2.2 (mkN c)).isSome=false:=by rw [Bool.eq_false_iff];exact fun g=>hm ((h.map c hc).1 g)
     rw [this,Bool.not_false,cond_true]
     unfold app
     rw [if_pos (by simp [lim];omega),zaa]
   · refine ⟨by simp [h.masks],?_,?_,?_,?_⟩
     · rw [List.nodup_append]
       exact ⟨h.nd,by simp,fun a ha b hb e=>by
        have:b=c:=by simpa using hb
        exact hm (this ▸ e ▸ ha)⟩
     · intro x hx
       rcases List.mem_append.1 hx with g|g
       · exact h.sm x g
       · have:x=c:=by simpa using g
         exact this ▸ hc
     · intro x hx
       show (mget (mput s.2.2 (mkN c) (n:Int)) (mkN x)).isSome=true↔_
       rw [mget_mput]
       by_cases e:x=c
       · subst e;simp
       · rw [if_neg (fun g=>e (mkN_inj hx hc (by omega))),h.map x hx]
         simp [e]
     · intro x hx
       show ∃ m:Nat,mget (mput s.2.2 (mkN c) (n:Int)) (mkN x)=some (m:Int)∧_
       rw [mget_mput]
       by_cases e:x=c
       · subst e;exact ⟨n,by simp,hr hm,hn5⟩
       · have hx2:x∈cl:=by
          rcases List.mem_append.1 hx with g|g
          · exact g
          · exact absurd (by simpa using g) e
         rw [if_neg (fun g=>e (mkN_inj (h.sm x hx2) hc (by omega)))]
         exact h.rk x hx2
structure Clos (F:Cnf) (w:Int) (cl:List (List Int)) (C:za7):Prop where
 ci:CI F w cl (C.masks,C.last,C.rounds)
 all:∀ c,c∈cl↔∃ n,Kn F w n c
def From (F:Cnf) (w:Int) (cl:List (List Int)) (i j:Nat) (c:List Int):Prop:=∃ a b v,cl[i]?=some a∧cl[j]?=some b∧(Mk F w a b v c∨Mk F w b a v c)
structure CR (F:Cnf) (w:Int) (r:Nat) (cl:List (List Int)) (D:Nat→Nat→Prop) (s:List Int×Int×List (Int×Int)):Prop where
 ex:∃ e,CI F w (cl++e) s∧(∀ c∈e,Kn F w (r + 1) c)∧∀ i j c,D i j→From F w cl i j c→c∈cl++e
theorem zeF {F:Cnf} {w:Int} (hF:Nar F):∃ o,zcR F w=some o∧∃ C cl,o=some C∧Clos F w cl C:=by
 unfold zcR
 refine zaW (I:=fun i s=>∃ cl,CI F w cl s∧∀ c,c∈cl↔c∈F.clauses.take i∧len c≤w) ?_ ?_ ?_
 · exact ⟨[],⟨rfl,List.nodup_nil,nofun,fun c _=>by simp [mget],nofun⟩,by simp⟩
 · rintro i y s hy ⟨cl,h,hm⟩
   have hmem:=List.mem_of_getElem? hy
   have hys:=hF.ax hmem
   have htk:∀ c,c∈F.clauses.take (i + 1)↔c∈F.clauses.take i∨c=y:=by
    intro c;rw [List.take_add_one,hy];simp
   left
   by_cases hl:len y≤w
   · obtain ⟨s',cl',e1,e2,e3,e,e4,e5⟩:=h.add hys (n:=0) (by omega) (fun _=>⟨.inl ⟨hmem,hl⟩,fun g=>g⟩)
     refine ⟨s',?_,cl',e2,?_⟩
     · simp only [maskOf_eq hys,zaa]
       rw [decide_eq_true hl,cond_true]
       rw [show (0:Int)=((0:Nat):Int) from rfl]
       simp only [e1,zaa]
     · intro c
       rw [htk]
       constructor
       · intro hc
         rw [e4] at hc
         rcases List.mem_append.1 hc with g|g
         · exact ⟨.inl ((hm c).1 g).1,((hm c).1 g).2⟩
         · rw [e5 c g];exact ⟨.inr rfl,hl⟩
       · rintro ⟨g|g,g2⟩
         · rw [e4];exact List.mem_append_left _ ((hm c).2 ⟨g,g2⟩)
         · rw [g];exact e3
   · refine ⟨s,by rw [decide_eq_false hl,cond_false],cl,h,?_⟩
     intro c
     rw [htk,hm]
     constructor
     · rintro ⟨g,g2⟩;exact ⟨.inl g,g2⟩
     · rintro ⟨g|g,g2⟩
       · exact ⟨g,g2⟩
       · rw [g] at g2;exact absurd g2 hl
 · rintro s ⟨cl,h,hm⟩
   rw [List.take_length] at hm
   refine iter_m (I:=fun s=>∃ (r f:Nat) (cl:List (List Int)),1≤r∧r≤f + 1∧s.2.2.2.2=(r:Int)∧s.2.2.2.1=(f:Int)∧f≤cl.length∧CI F w cl (s.1,s.2.1,s.2.2.1)∧(∀ c,c∈cl↔Kn F w r c)∧∀ c,c∈cl.take f↔Kn F w (r - 1) c)
    (m:=fun s=>5000 - s.2.2.2.1.toNat) ?_ ?_
   · refine ⟨1,0,cl,by omega,by omega,rfl,rfl,by omega,h,?_,?_⟩
     · intro c
       rw [hm]
       constructor
       · intro g;exact .inl g
       · rintro (g|g|⟨a,b,v,g,_⟩)
         · exact g
         · exact g.elim
         · exact g.elim
     · intro c
       simp [Kn]
   · rintro ⟨ms,lst,mp,fr,rd⟩ ⟨r,f,cl,h1,h2,h3,h4,h5,hci,hall,hold⟩
     simp only at h3 h4 hci ⊢
     subst h3 h4
     have hfew:=few hci.nd hci.sm
     have hlen:len ms=(cl.length:Int):=by have:=hci.masks;simp only at this;rw [this];simp [len]
     by_cases hf:f < cl.length
     · left
       rw [hlen,decide_eq_true (by omega),cond_true]
       have fin:∀ q:List Int×Int×List (Int×Int),CR F w r cl (fun i j=>f≤i∧i < cl.length∧j < i) q→∃ s':List Int×Int×List (Int×Int)×Int×Int,(Lp.nx (q.1,q.2.1,q.2.2,((cl.length:Nat):Int),wr ((r:Int) + 1)):Lp _ Empty)=Lp.nx s'∧(∃ (r f:Nat) (cl:List (List Int)),1≤r∧r≤f + 1∧s'.2.2.2.2=(r:Int)∧s'.2.2.2.1=(f:Int)∧f≤cl.length∧CI F w cl (s'.1,s'.2.1,s'.2.2.1)∧(∀ c,c∈cl↔Kn F w r c)∧∀ c,c∈cl.take f↔Kn F w (r - 1) c)∧5000 - s'.2.2.2.1.toNat < 5000 - ((f:Nat):Int).toNat:=by
        rintro q ⟨ex,hex,hex2,hex3⟩
        refine ⟨_,rfl,⟨r + 1,cl.length,cl++ex,by omega,by omega,?_,rfl,by simp,?_,?_,?_⟩,?_⟩
        · simp only []
          rw [wr_s (by omega) (by omega)];omega
        · exact hex
        · intro c
          constructor
          · intro hc
            rcases List.mem_append.1 hc with g|g
            · exact .inr (.inl ((hall c).1 g))
            · exact hex2 c g
          · rintro (g|g|⟨a,b,v,g1,g2,g3⟩)
            · exact List.mem_append_left _ ((hall c).2 (Kn.up (n:=1) h1 (.inl g)))
            · exact List.mem_append_left _ ((hall c).2 g)
            · have hne:=g3.ne hF (hF.kn g1) (hF.kn g2)
              obtain ⟨i,hi⟩:=List.getElem?_of_mem ((hall a).2 g1)
              obtain ⟨j,hj⟩:=List.getElem?_of_mem ((hall b).2 g2)
              have hij:i≠j:=by rintro rfl;rw [hi] at hj;exact hne (by simpa using hj)
              have hil:=zaq hi
              have hjl:=zaq hj
              by_cases hold2:i < f∧j < f
              · have ga:=(hold a).1 (List.mem_of_getElem? (i:=i) (by rw [List.getElem?_take,if_pos hold2.1,hi]))
                have gb:=(hold b).1 (List.mem_of_getElem? (i:=j) (by rw [List.getElem?_take,if_pos hold2.2,hj]))
                have:Kn F w (r - 1 + 1) c:=.inr (.inr ⟨a,b,v,ga,gb,g3⟩)
                rw [show r - 1 + 1=r by omega] at this
                exact List.mem_append_left _ ((hall c).2 this)
              · by_cases hlt:j < i
                · exact hex3 i j c ⟨by omega,hil,hlt⟩ ⟨a,b,v,hi,hj,.inl g3⟩
                · exact hex3 j i c ⟨by omega,hjl,by omega⟩ ⟨b,a,v,hj,hi,.inr g3⟩
        · intro c
          rw [List.take_append_of_le_length (Nat.le_refl _),List.take_length,hall]
          rfl
        · simp only [Int.toNat_natCast]
          omega
       refine cnt_m (R:=fun z=>∃ q,z=Lp.nx (q.1,q.2.1,q.2.2,((cl.length:Nat):Int),wr ((r:Int) + 1))∧CR F w r cl (fun i j=>f≤i∧i < cl.length∧j < i) q) (σ:=List Int×Int×List (Int×Int)) (fun s i=>(s.1,s.2.1,s.2.2,i)) (n:=cl.length) (a:=f) (s0:=(ms,lst,mp)) (I:=fun k s=>CR F w r cl (fun i j=>f≤i∧i < k∧j < i) s) rfl (by omega) ?_ ?_ ?_ ?_ |> fun ⟨z,h1,q,h2,h3⟩=>(fin q h3).elim fun s' g=>⟨s',h1.trans (congrArg some (h2.trans g.1)),g.2⟩
       · exact ⟨[],by simpa using hci,nofun,fun i j c hd=>by omega⟩
       · rintro k s hk1 hk2 ⟨e,he,hk,hd⟩
         left
         simp only []
         rw [decide_eq_true (by omega),cond_true]
         have hfewe:=few he.nd he.sm
         have hms:s.1.length=(cl++e).length:=by rw [he.masks];simp
         have hcut:cut s.1 0 (k:Int)=some ((cl.take k).map fun c=>((mkN c:Nat):Int)):=by
          unfold cut
          rw [if_pos (by rw [hms,List.length_append];omega)]
          rw [he.masks,show ((k:Nat):Int).toNat=k by simp,← List.map_take,List.take_append_of_le_length (by omega)]
          rfl
         rw [hcut,zaa]
         obtain ⟨x,hx⟩:∃ x,cl[k]?=some x:=⟨cl[k],List.getElem?_eq_getElem hk2⟩
         have hxs:=hci.sm x (List.mem_of_getElem? hx)
         have hxk:=(hall x).1 (List.mem_of_getElem? hx)
         refine zaW (σ:=List Int×Int×List (Int×Int)) (R:=fun z=>∃ s',z=Lp.nx (s'.1,s'.2.1,s'.2.2,((k + 1:Nat):Int))∧CR F w r cl (fun i j=>f≤i∧i < k + 1∧j < i) s') (I:=fun q s=>CR F w r cl (fun i j=>(f≤i∧i < k∧j < i)∨(i=k∧j < q)) s) ?_ ?_ ?_ |> fun ⟨z,h1,s',h2,h3⟩=>⟨s',h1.trans (congrArg some h2),h3⟩
         · exact ⟨e,he,hk,fun i j c hh hfm=>hd i j c (by omega) hfm⟩
         · rintro q y s hy ⟨e,he,hk,hd⟩
           left
           obtain ⟨b,hb,rfl⟩:∃ b,cl[q]?=some b∧y=((mkN b:Nat):Int):=by
            rw [List.getElem?_map,Option.map_eq_some_iff] at hy
            obtain ⟨b,hb,hy⟩:=hy
            rw [List.getElem?_take] at hb
            split at hb
            · exact ⟨b,hb,hy.symm⟩
            · cases hb
           have hbs:=hci.sm b (List.mem_of_getElem? hb)
           have hbk:=(hall b).1 (List.mem_of_getElem? hb)
           have hix:ix s.1 (k:Int)=some ((mkN x:Nat):Int):=by
            rw [zaU,he.masks,List.getElem?_map,List.getElem?_append_left hk2,hx];rfl
           rw [hix,zaa]
           change ∃ s',(bif (!hitM (mkN x) (mkN b)) then some (Lp.nx (s.1,s.2.1,s.2.2)) else bd (PF.zbO (rsvM (mkN x) (mkN b))) (fun r1931=>(bif (decide (r1931≤w)) then bd (β:=_) ((bif (!((mget s.2.2 (rsvM (mkN x) (mkN b))).isSome)) then bd (app s.1 [(rsvM (mkN x) (mkN b))]) (fun xs1987=>some (xs1987,(r:Int),(mput s.2.2 (rsvM (mkN x) (mkN b)) (r:Int)))) else some (s.1,s.2.1,s.2.2)):Option ((List Int)×Int×(List (Int×Int)))) (fun s1967=>some (Lp.nx (s1967.1,s1967.2.1,s1967.2.2))) else some (Lp.nx (s.1,s.2.1,s.2.2)))))=some (Lp.nx s')∧_
           have hdone:∀ {e':List (List Int)},(∀ c∈cl++e,c∈cl++e')→(∀ c v,Mk F w x b v c∨Mk F w b x v c→c∈cl++e')→∀ i j c,((f≤i∧i < k∧j < i)∨(i=k∧j < q + 1))→From F w cl i j c→c∈cl++e':=by
            intro e' h1 h2 i j c hij hfm
            by_cases hh:i=k∧j=q
            · obtain ⟨a,b',v,g1,g2,g3⟩:=hfm
              rw [hh.1,hx] at g1
              rw [hh.2,hb] at g2
              cases g1;cases g2
              exact h2 c v g3
            · exact h1 c (hd i j c (by omega) hfm)
           by_cases hh:hitM (mkN x) (mkN b)=true
           · obtain ⟨c,hc1,hc2,hc3⟩:=hit_mk (w:=w) hF hxs hbs hh
             rw [hh,hc2,count_mk hc1,zaa,Bool.not_true,cond_false]
             by_cases hl:len c≤w
             · obtain ⟨v,hv⟩:=hc3 hl
               have hck:Kn F w (r + 1) c:=by
                rcases hv with hv|hv
                · exact .inr (.inr ⟨x,b,v,hxk,hbk,hv⟩)
                · exact .inr (.inr ⟨b,x,v,hbk,hxk,hv⟩)
               obtain ⟨s',cl',e1,e2,e3,e',e4,e5⟩:=he.add hc1 (n:=r) (by omega) (fun hn=>⟨hck,fun g=>hn (List.mem_append_left _ ((hall c).2 g))⟩)
               refine ⟨s',?_,e++e',?_,?_,?_⟩
               · rw [decide_eq_true hl,cond_true,e1,zaa]
               · rw [← List.append_assoc,← e4];exact e2
               · intro z hz
                 rcases List.mem_append.1 hz with g|g
                 · exact hk z g
                 · rw [e5 z g];exact hck
               · refine hdone (fun z hz=>?_) (fun z v' hz=>?_)
                 · rw [← List.append_assoc];exact List.mem_append_left _ hz
                 · have:=(Mk.hit hxs hbs hz).2
                   have hzs:IsS F.vars z:=by
                    rcases hz with ⟨g1,g2,g3,g4,_⟩|⟨g1,g2,g3,g4,_⟩
                    · exact ⟨g4 ▸ zbl hxs.c hbs.c g3,hF.le⟩
                    · exact ⟨g4 ▸ zbl hbs.c hxs.c g3,hF.le⟩
                   have:z=c:=mkN_inj hzs hc1 (by rw [hc2] at this;omega)
                   rw [this,← List.append_assoc,← e4]
                   exact e3
             · refine ⟨s,by rw [decide_eq_false hl,cond_false],e,he,hk,hdone (fun z hz=>hz) (fun z v' hz=>?_)⟩
               exfalso
               have hzl:len z≤w:=by rcases hz with ⟨_,_,_,_,g⟩|⟨_,_,_,_,g⟩ <;> exact g
               have:=(Mk.hit hxs hbs hz).2
               have hzs:IsS F.vars z:=by
                rcases hz with ⟨g1,g2,g3,g4,_⟩|⟨g1,g2,g3,g4,_⟩
                · exact ⟨g4 ▸ zbl hxs.c hbs.c g3,hF.le⟩
                · exact ⟨g4 ▸ zbl hbs.c hxs.c g3,hF.le⟩
               have:z=c:=mkN_inj hzs hc1 (by rw [hc2] at this;omega)
               exact hl (this ▸ hzl)
           · rw [Bool.not_eq_true] at hh
             rw [hh,Bool.not_false,cond_true]
             refine ⟨s,rfl,e,he,hk,hdone (fun z hz=>hz) (fun z v' hz=>?_)⟩
             have:=(Mk.hit hxs hbs hz).1
             rw [hh] at this;cases this
         · rintro s ⟨e,he,hk,hd⟩
           refine ⟨_,rfl,s,?_,e,he,hk,fun i j c hij hfm=>hd i j c ?_ hfm⟩
           · simp only [Lp.nx.injEq,Prod.mk.injEq,true_and]
             rw [wr_s (by omega) (by omega)];omega
           · rw [List.length_map,List.length_take]
             omega
       · intro s hs
         simp
       · intro s hs
         exact ⟨_,rfl,s,rfl,hs⟩
     · right;left
       rw [hlen,decide_eq_false (by omega),cond_false]
       refine ⟨_,rfl,_,rfl,_,cl,rfl,hci,fun c=>?_⟩
       have hf':f=cl.length:=by omega
       subst hf'
       rw [List.take_length] at hold
       constructor
       · intro hc;exact ⟨r,(hall c).1 hc⟩
       · rintro ⟨n,hn⟩
         refine (hold c).2 (Kn.stop (fun z hz=>?_) hn)
         rw [show r - 1 + 1=r by omega] at hz
         exact (hold z).1 ((hall z).2 hz)
end Go.PF
