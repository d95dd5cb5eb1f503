/- Helpers of the walks and plain laws. -/
import Derived.Test.YtkaikagbfoadpaaGreatFcLC
import Derived.Test.YtkaikagbfoadpaaGreatFcPf
set_option linter.unusedVariables false
namespace Go.PF
open Go.Pu
def vr (l:Int):Int:=bif decide (l < 0) then wr (-l) else l
theorem zdF (l:Int):zaq l=vr l:=rfl
theorem vr_abs {l:Int} (h1:-12≤l) (h2:l≤12):vr l=l.natAbs:=by
 unfold vr
 by_cases h:l < 0
 · simp only [h,decide_true,cond_true];rw [wr_of _ (by omega) (by omega)];omega
 · simp only [h,decide_false,cond_false];omega
theorem zdl {l:Int} (h:okI l):zax l=vr l:=by
 obtain ⟨h1,h2⟩:=h
 unfold zax vr mx
 by_cases h0:l < 0
 · simp only [h0,decide_true,cond_true]
   by_cases hm:l=-9223372036854775808
   · subst hm;decide
   · rw [wr_of _ (by omega) (by omega),if_pos (by omega)]
 · simp only [h0,decide_false,cond_false]
   rw [wr_of _ (by omega) (by omega)]
   by_cases hz:l=0
   · subst hz;rfl
   · rw [if_neg (by omega)]
def inB (a b c:Int):Bool:=decide (b≤a) && decide (a≤c)
theorem zbb {a b c:Int}:inB a b c=true↔b≤a∧a≤c:=by simp [inB]
theorem zb7 (a b c:Int):zaU a b c=inB a b c:=by simp [zaU,inB]
theorem zcz (a b c:Int):za3 a b c=inB a b c:=by simp [za3,inB]
def varsB (v:Int):Bool:=inB v 0 12
theorem varsB_iff {v:Int}:varsB v=true↔0≤v∧v≤12:=zbb
theorem zd5 (v:Int):zaZ v=varsB v:=zb7 _ _ _
theorem zd6 (v:Int):zbv v=varsB v:=zcz _ _ _
def litB (v l:Int):Bool:=inB l (wr (-v)) v && !(l == 0)
theorem spec_l2Lit_eq (v l:Int):zbf v l=litB v l:=by simp [zbf,litB,zb7]
theorem impl_isLiteral_eq (v l:Int):zbL v l=litB v l:=by simp [zbL,litB,zcz,Bool.and_comm]
theorem zdG (v a:Int):zbg v a=inB a 1 v:=zcz _ _ _
def zaH (v:Int) (c:List Int):Bool:=varsB v && (c.all (litB v) && adj (fun a b=>decide (vr a < vr b)) c)
theorem zdH {v:Int} {c:List Int} (hc:okL okI c):zbC v c=some (zaH v c):=by
 unfold zbC zaH
 rw [zd5]
 cases hv:varsB v with
 | false=>rfl
 | true =>
  simp only [Bool.not_true,cond_false,Bool.true_and]
  rw [zb6 (p:=fun i y => !litB v y || match i with|0=>false|i + 1=>match c[i]? with|some x=>decide (vr y≤vr x)|none=>false) (v:=false) (fun i y hy=>by
   rw [spec_l2Lit_eq]
   cases hl:litB v y with
   | false=>simp
   | true =>
    cases i with
    | zero=>simp
    | succ i =>
     have hi:i + 1 < c.length:=(List.getElem?_eq_some_iff.1 hy).1
     have hp:decide ((0:Int) < ((i + 1:Nat):Int))=true:=by simp
     rw [hp,wr_pred (by omega) hi hc.1,zaR]
     simp only [Nat.add_sub_cancel]
     rw [List.getElem?_eq_getElem (show i < c.length by omega)]
     simp only [Bool.not_true,cond_false,cond_true,zad,Bool.false_or,zdF]
     rfl)]
  rw [anyI_adj (q:=fun y => !litB v y) (r:=fun a b=>decide (vr a < vr b)) (by intro y _;simp) (by
   intro i x y hx hy
   simp only [hx]
   congr 1
   by_cases h:vr x < vr y
   · simp [h]
   · simp [h];omega)]
  simp only [Bool.not_not]
  cases (c.all fun y=>litB v y) && adj (fun a b=>decide (vr a < vr b)) c <;> rfl
theorem zcA {v:Int} {c:List Int} (hc:okL okI c):zbE v c=some (zaH v c):=by
 unfold zbE zaH
 rw [zd6]
 rw [zb6 (p:=fun i y => !litB v y || match i with|0=>false|i + 1=>match c[i]? with|some x=>decide (vr y≤vr x)|none=>false) (v:=false) (fun i y hy=>by
  rw [impl_isLiteral_eq]
  cases hl:litB v y with
  | false=>simp
  | true =>
   cases i with
   | zero=>simp
   | succ i =>
    have hi:i + 1 < c.length:=(List.getElem?_eq_some_iff.1 hy).1
    have hp:decide ((0:Int) < ((i + 1:Nat):Int))=true:=by simp
    rw [hp,wr_pred (by omega) hi hc.1,zaR]
    simp only [Nat.add_sub_cancel]
    rw [List.getElem?_eq_getElem (show i < c.length by omega)]
    simp only [Bool.not_true,cond_false,cond_true,zad,Bool.false_or]
    rw [zdl (hc.2 _ (List.mem_of_getElem? hy)),zdl (hc.2 _ (List.getElem_mem _))])]
 rw [anyI_adj (q:=fun y => !litB v y) (r:=fun a b=>decide (vr a < vr b)) (by intro y _;simp) (by
  intro i x y hx hy
  simp only [hx]
  congr 1
  by_cases h:vr x < vr y
  · simp [h]
  · simp [h];omega)]
 simp only [Bool.not_not]
 cases (c.all fun y=>litB v y) && adj (fun a b=>decide (vr a < vr b)) c <;> simp
structure IsC (v:Int) (c:List Int):Prop where
 lo:0≤v
 hi:v≤12
 lit:∀ l∈c,-v≤l∧l≤v∧l≠0
 srt:c.Pairwise fun a b=>a.natAbs < b.natAbs
theorem adj_pairwise {α:Type} {r:α→α→Bool} {R:α→α→Prop} (ht:∀ a b c,R a b→R b c→R a c):∀ {l:List α},(∀ a b,a∈l→b∈l→r a b=true→R a b)→adj r l=true→l.Pairwise R:=by
 intro l
 induction l with
 | nil=>intro _ _;exact .nil
 | cons a l ih =>
  intro hr h
  cases l with
  | nil=>simp
  | cons b l =>
   simp only [adj,Bool.and_eq_true] at h
   have hp:=ih (fun x y hx hy=>hr x y (by simp [hx]) (by simp [hy])) h.2
   have hab:=hr a b (by simp) (by simp) h.1
   refine List.pairwise_cons.2 ⟨fun x hx=>?_,hp⟩
   rcases List.mem_cons.1 hx with rfl|hx
   · exact hab
   · exact ht _ _ _ hab ((List.pairwise_cons.1 hp).1 x hx)
theorem zdI {α:Type} {r:α→α→Bool} {l:List α} (h:l.Pairwise fun a b=>r a b=true):adj r l=true:=by
 induction l with
 | nil=>rfl
 | cons a l ih =>
  cases l with
  | nil=>rfl
  | cons b l =>
   obtain ⟨h1,h2⟩:=List.pairwise_cons.1 h
   simp only [adj,Bool.and_eq_true]
   exact ⟨h1 b (by simp),ih h2⟩
theorem litB_iff {v l:Int} (h1:0≤v) (h2:v≤12):litB v l=true↔-v≤l∧l≤v∧l≠0:=by
 unfold litB
 rw [wr_of _ (by omega) (by omega)]
 simp [inB];omega
theorem zbc {v:Int} {c:List Int}:zaH v c=true↔IsC v c:=by
 unfold zaH
 rw [Bool.and_eq_true,Bool.and_eq_true,varsB_iff,List.all_eq_true]
 constructor
 · rintro ⟨⟨h1,h2⟩,h3,h4⟩
   have hl:∀ l∈c,-v≤l∧l≤v∧l≠0:=fun l hl=>(litB_iff h1 h2).1 (h3 l hl)
   refine ⟨h1,h2,hl,adj_pairwise (R:=fun a b:Int=>a.natAbs < b.natAbs) (fun _ _ _=>Nat.lt_trans) (fun a b ha hb hr=>?_) h4⟩
   have:=hl a ha;have:=hl b hb
   simp only [decide_eq_true_eq] at hr
   rw [vr_abs (by omega) (by omega),vr_abs (by omega) (by omega)] at hr
   omega
 · rintro ⟨h1,h2,h3,h4⟩
   refine ⟨⟨h1,h2⟩,fun l hl=>(litB_iff h1 h2).2 (h3 l hl),zdI (List.Pairwise.imp_of_mem ?_ h4)⟩
   intro a b ha hb hr
   have:=h3 a ha;have:=h3 b hb
   simp only [decide_eq_true_eq]
   rw [vr_abs (by omega) (by omega),vr_abs (by omega) (by omega)]
   omega
theorem srt_len:∀ {c:List Int} {k n:Nat},c.Pairwise (fun a b=>a.natAbs < b.natAbs)→(∀ l∈c,k < l.natAbs∧l.natAbs≤n)→c.length + k≤max k n:=by
 intro c
 induction c with
 | nil=>intro k n _ _;simp;omega
 | cons a c ih =>
  intro k n h hl
  obtain ⟨h1,h2⟩:=List.pairwise_cons.1 h
  have ha:=hl a (by simp)
  have:=ih (k:=a.natAbs) (n:=n) h2 fun l hm=>⟨h1 l hm,(hl l (by simp [hm])).2⟩
  simp only [List.length_cons];omega
theorem IsC.len {v:Int} {c:List Int} (h:IsC v c):c.length≤12:=by
 have:=srt_len (k:=0) (n:=12) h.srt fun l hl=>by have:=h.lit l hl;have:=h.hi;omega
 omega
theorem IsC.ok {v:Int} {c:List Int} (h:IsC v c):okL okI c:=by
 refine ⟨by have:=h.len;omega,fun l hl=>?_⟩
 have:=h.lit l hl;have:=h.hi
 unfold okI;omega
def cnfB (f:Cnf):Bool:=varsB f.vars && decide (len f.clauses≤60) && f.clauses.all (zaH f.vars)
theorem zdm {f:Cnf} (hf:okCnf f):zbJ f=some (cnfB f):=by
 unfold zbJ cnfB
 rw [zd5]
 cases hv:varsB f.vars with
 | false=>rfl
 | true =>
  have e:(decide (60 < len f.clauses)) = !decide (len f.clauses≤60):=by
   by_cases h:len f.clauses≤60
   · simp [h]
   · simp [h];omega
  simp only [Bool.not_true,cond_false,Bool.true_and]
  rw [e]
  cases hl:decide (len f.clauses≤60) with
  | false=>rfl
  | true =>
   have hlen:f.clauses.length≤60:=by have:=of_decide_eq_true hl;rw [zai] at this;omega
   simp only [Bool.not_true,cond_false,Bool.true_and]
   rw [iter_any (xs:=f.clauses) (p:=fun _ c => !zaH f.vars c) (v:=false) (fun i y hy=>by
    have hi:=(List.getElem?_eq_some_iff.1 hy).1
    have hd:decide ((i:Int) < len f.clauses)=true:=by rw [zai];simp;omega
    rw [hd,zaR,hy]
    simp only [cond_true,zad]
    rw [zdH (hf.2.2 _ (List.mem_of_getElem? hy)),zad]
    cases zaH f.vars y with
    | false=>simp only [Bool.not_false,cond_true]
    | true=>rw [wr_succ hi (by omega)]) (by
    have hd:decide (((f.clauses.length:Nat):Int) < len f.clauses)=false:=by rw [zai];simp
    rw [hd,cond_false])]
   rw [zbz,show (f.clauses.any fun y => !zaH f.vars y) = !f.clauses.all (zaH f.vars) by rw [List.all_eq_not_any_not,Bool.not_not]]
   cases f.clauses.all (zaH f.vars) <;> rfl
theorem impl_IsCnf_eq {f:Cnf} (hf:okCnf f):zcW f=some (cnfB f):=by
 unfold zcW cnfB
 rw [zd6]
 rw [zb6 (p:=fun _ c => !zaH f.vars c) (v:=false) (fun i y hy=>by
  rw [zcA (hf.2.2 _ (List.mem_of_getElem? hy)),zad])]
 rw [zbz,show (f.clauses.any fun y => !zaH f.vars y) = !f.clauses.all (zaH f.vars) by rw [List.all_eq_not_any_not,Bool.not_not]]
 cases f.clauses.all (zaH f.vars) <;> simp
theorem same_eq (a b:List Int):(bif (!((len a) == (len b))) then some false else bdR (forL (S:=Unit) (X:=Bool) a (fun i23 y22 s23=>bd (ix b ((i23:Nat):Int)) (fun x74=>(bif (!(y22 == x74)) then some (Lp.rt false) else some (Lp.nx ())))) ()) (fun s23=>some true) (fun x23=>some x23))=some (a == b):=by
 rw [zai,zai]
 by_cases hl:a.length=b.length
 · have:(((a.length:Nat):Int) == ((b.length:Nat):Int))=true:=by simp [hl]
   rw [this]
   simp only [Bool.not_true,cond_false]
   rw [zb6 (p:=fun i y=>match b[i]? with|some x => !(y == x)|none=>false) (v:=false) (fun i y hy=>by
    have hi:=(List.getElem?_eq_some_iff.1 hy).1
    rw [zaR,List.getElem?_eq_getElem (by omega),zad])]
   have e:anyI (fun i y=>match b[i]? with|some x => !(y == x)|none=>false) a 0 = !(a == b):=by
    by_cases hab:a=b
    · subst hab
      rw [show (a == a)=true by simp]
      rw [anyI_false.2];rfl
      intro i y hy;rw [Nat.zero_add,hy];simp
    · rw [show (a == b)=false by simpa using hab]
      cases h:anyI (fun i y=>match b[i]? with|some x => !(y == x)|none=>false) a 0 with
      | true=>rfl
      | false =>
       exfalso;apply hab
       rw [anyI_false] at h
       apply List.ext_getElem hl
       intro i h1 h2
       have:=h i a[i] (by simp [h1])
       rw [Nat.zero_add,List.getElem?_eq_getElem h2] at this
       simpa using this
   rw [e];cases a == b <;> rfl
 · have:(((a.length:Nat):Int) == ((b.length:Nat):Int))=false:=by simp;omega
   rw [this]
   have:(a == b)=false:=by
    rw [beq_eq_false_iff_ne];intro e;subst e;exact hl rfl
   rw [this];rfl
theorem zd7 (a b:List Int):zcS a b=some (a == b):=same_eq a b
theorem zd8 (a b:List Int):zcX a b=some (a == b):=same_eq a b
theorem spec_l1Has_eq (c:List Int) (l:Int):zcK c l=some (c.contains l):=by
 unfold zcK
 rw [zb6 (p:=fun _ y=>y == l) (v:=true) (fun i y _=>rfl),zbz]
 rw [show (c.any fun y=>y == l)=c.contains l by induction c with|nil=>rfl|cons x c ih=>rw [List.any_cons,List.contains_cons,ih,Bool.beq_comm]]
 cases c.contains l <;> rfl
theorem zbH (c:List Int) (l:Int):zaX c l=some (c.contains l):=by unfold zaX;rw [spec_l1Has_eq];rfl
theorem contains_any (c:List Int) (l:Int):(c.any fun y=>l == y)=c.contains l:=by induction c with
 | nil=>rfl
 | cons x c ih=>rw [List.any_cons,List.contains_cons,ih]
theorem zey (c:List Int) (l:Int):∃ r,zcZ c l=some r∧decide (0≤r)=c.contains l:=by
 unfold zcZ
 rw [forL_find (p:=fun _ y=>l == y) (v:=fun i _=>(i:Int)) (fun i y _=>rfl)]
 cases h:findI (fun _ y=>l == y) c 0 with
 | none =>
  refine ⟨-1,rfl,?_⟩
  have:=zcx.1 h
  rw [zbz,contains_any] at this;rw [this];rfl
 | some z =>
  obtain ⟨_,_,_,h4⟩:=zcy h
  rw [zbz,contains_any] at h4
  exact ⟨_,rfl,by rw [h4];simp⟩
theorem zdJ (c:List Int) (l:Int):zbY c l=some (c.contains l):=by
 obtain ⟨r,h1,h2⟩:=zey c l
 unfold zbY;rw [h1,zad,h2]
theorem zd9 {c:List Int} {f:Int→Option Bool} {g:Int→Bool} (h:∀ y∈c,f y=some (g y)):∃ r,zcl c f=some r∧decide (0≤r)=c.any g∧(∀ z,findI (fun _ y=>g y) c 0=some z→r=z.1)∧(findI (fun _ y=>g y) c 0=none→r=-1):=by
 unfold zcl
 rw [forL_find (p:=fun _ y=>g y) (v:=fun i _=>(i:Int)) (fun i y hy=>by rw [h y (List.mem_of_getElem? hy),zad])]
 cases hf:findI (fun _ y=>g y) c 0 with
 | none =>
  refine ⟨-1,rfl,?_,nofun,fun _=>rfl⟩
  have:=zcx.1 hf
  rw [zbz] at this;rw [this];rfl
 | some z =>
  obtain ⟨_,_,_,h4⟩:=zcy hf
  rw [zbz] at h4
  exact ⟨_,rfl,by rw [h4];simp,fun z' hz=>(by cases hz;rfl),nofun⟩
theorem zez {c:List Int} {f:Int→Option Bool} {g:Int→Bool} (h:∀ y∈c,f y=some (g y)):zcY c f=some (c.any g):=by
 obtain ⟨r,h1,h2,_⟩:=zd9 h
 unfold zcY;rw [h1,zad,h2]
def partB (a b:List Int):Bool:=a.all fun y=>b.contains y
theorem spec_l2Sub_eq (a b:List Int):za6 a b=some (partB a b):=by
 unfold za6 partB
 rw [zb6 (p:=fun _ y => !b.contains y) (v:=false) (fun i y _=>by rw [zbH,zad]),zbz,show (a.any fun y => !b.contains y) = !a.all fun y=>b.contains y by rw [List.all_eq_not_any_not,Bool.not_not]]
 cases a.all fun y=>b.contains y <;> rfl
theorem impl_part_eq (a b:List Int):zc1 a b=some (partB a b):=by
 unfold zc1 partB
 rw [zez (g:=fun y => !b.contains y) (fun y _=>by unfold zc0;rw [zdJ,zad]),zad,List.all_eq_not_any_not]
end Go.PF
namespace Go.PF
open Go.Pu
theorem foldl_filter {α:Type} {p:α→Bool}:∀ {l s:List α},l.foldl (fun s y=>bif p y then s++[y] else s) s=s++l.filter p:=by
 intro l
 induction l with
 | nil=>intro s;simp
 | cons y l ih =>
  intro s
  rw [List.foldl_cons,ih]
  cases h:p y <;> simp [h]
theorem forL_filter {α X:Type} {f:Nat→α→List α→Option (Lp (List α) X)} {p:α→Bool} {l:List α} (hf:∀ i y s,l[i]?=some y→f i y s=bif p y then bd (app s [y]) fun xs=>some (.nx xs) else some (.nx s)) (hl:l.length≤lim) :
 forL l f []=some (.go (l.filter p)):=by
 have:=(forL_foldI (X:=X) (body:=f) (fun s y=>bif p y then s++[y] else s) (l:=l) (s:=[]) (fun i s=>s.length≤i) (by simp) (fun i x t hx ht=>by
  have hi:=(List.getElem?_eq_some_iff.1 hx).1
  rw [hf i x t hx]
  cases p x with
  | false=>exact ⟨rfl,by simp only [cond_false];omega⟩
  | true =>
   simp only [cond_true]
   rw [zaD (by simp;omega),zad]
   exact ⟨rfl,by simp;omega⟩)).1
 rw [this,foldl_filter];rfl
def zaJ (c:List Int) (v:Int):List Int:=c.filter fun y => !(vr y == v)
theorem zdK {c:List Int} {v:Int} (hl:c.length≤lim):zbU c v=some (zaJ c v):=by
 unfold zbU zaJ
 rw [forL_filter (p:=fun y => !(vr y == v)) (fun i y s _=>by rfl) hl];rfl
theorem filter_take {α:Type} {p:α→Bool} {c:List α} {j:Nat} {x:α} (hx:c[j]?=some x):(c.take (j + 1)).filter p=(c.take j).filter p++bif p x then [x] else []:=by
 rw [List.take_add_one,hx,Option.toList_some,List.filter_append]
 cases h:p x <;> simp [List.filter,h]
theorem del_loop {α:Type} {n:Nat} (hn:n≤9223372036854775806) {c:List α} (hc:c.length=n) {f:α→Option Bool} {g:α→Bool} (h:∀ y∈c,f y=some (g y)) :
 ∀ (m j i:Nat) (s:List α),j + m=n→i≤j→s.length=n→s.take i=(c.take j).filter (fun y => !g y)→s.drop j=c.drop j →
  ∃ s' i',iter (S:=(List α)×Int×Int) (X:=Empty) (fun s32=>(bif (decide (s32.2.2 < (len s32.1))) then bd (ix s32.1 s32.2.2) (fun x143=>bd (f x143) (fun r145=>(bif (!r145) then bd (ix s32.1 s32.2.1) (fun _=>bd (put s32.1 s32.2.1 x143) (fun xs167=>some (Lp.nx (xs167,(wr (s32.2.1 + 1)),(wr (s32.2.2 + 1)))))) else some (Lp.nx (s32.1,s32.2.1,(wr (s32.2.2 + 1))))))) else some (Lp.bk (s32.1,s32.2.1,s32.2.2)))) (s,(i:Int),(j:Int)) =
   some (.go (s',((i':Nat):Int),(n:Int)))∧i'≤n∧s'.length=n∧s'.take i'=c.filter (fun y => !g y):=by
 intro m
 induction m with
 | zero =>
  intro j i s hj hi hs ht _
  have:j=n:=by omega
  subst this
  refine ⟨s,i,za9 ?_,hi,hs,by rw [ht,List.take_of_length_le (by omega)]⟩
  have hd:decide (((j:Nat):Int) < len s)=false:=by rw [zai,hs];simp
  simp only [hd,cond_false]
 | succ m ih =>
  intro j i s hj hi hs ht hd
  have hjn:j < n:=by omega
  have hx:s[j]?=some c[j]:=by
   have:=congrArg (·[0]?) hd
   simp only [List.getElem?_drop,Nat.add_zero] at this
   rw [this];exact List.getElem?_eq_getElem (by omega)
  have hlt:decide (((j:Nat):Int) < len s)=true:=by rw [zai,hs];simp;omega
  have hg:=h c[j] (List.getElem_mem _)
  have e1:wr ((j:Int) + 1)=((j + 1:Nat):Int):=by rw [wr_of _ (by omega) (by omega)];simp
  have e2:wr ((i:Int) + 1)=((i + 1:Nat):Int):=by rw [wr_of _ (by omega) (by omega)];simp
  cases hgc:g c[j] with
  | true =>
   obtain ⟨s',i',q1,q2⟩:=ih (j + 1) i s (by omega) (by omega) hs (by
    rw [ht,filter_take (List.getElem?_eq_getElem (by omega)),hgc];simp) (by
    have:=congrArg (List.drop 1) hd
    rwa [List.drop_drop,List.drop_drop] at this)
   refine ⟨s',i',?_,q2⟩
   rw [← q1]
   refine zbq ?_
   simp only [hlt,cond_true,zaR,hx,zad,hg,hgc,Bool.not_true,cond_false,e1]
  | false =>
   obtain ⟨s',i',q1,q2⟩:=ih (j + 1) (i + 1) (s.set i c[j]) (by omega) (by omega) (by simpa using hs) (by
    rw [List.take_add_one,List.getElem?_set_self (by omega),List.take_set_of_le (Nat.le_refl _),ht,filter_take (List.getElem?_eq_getElem (show j < c.length by omega)),hgc];rfl) (by
    rw [List.drop_set_of_lt (by omega)]
    have:=congrArg (List.drop 1) hd
    rwa [List.drop_drop,List.drop_drop] at this)
   refine ⟨s',i',?_,q2⟩
   rw [← q1]
   refine zbq ?_
   simp only [hlt,cond_true,zaR,hx,zad,hg,hgc,Bool.not_false,e1,e2]
   rw [List.getElem?_eq_getElem (show i < s.length by omega),zad,put_ok (by omega),zad]
theorem zeA {c:List Int} {f:Int→Option Bool} {g:Int→Bool} (h:∀ y∈c,f y=some (g y)) (hl:c.length≤lim):zc2 c f=some (c.filter fun y => !g y):=by
 obtain ⟨r,h1,_,h3,h4⟩:=zd9 h
 unfold zc2
 rw [h1,zad]
 unfold lim at hl
 cases hf:findI (fun _ y=>g y) c 0 with
 | none =>
  rw [h4 hf]
  have:=zcx.1 hf
  rw [zbz,List.any_eq_false] at this
  simp only [BEq.rfl,cond_true]
  rw [List.filter_eq_self.2]
  intro y hy;have:=this y hy;simp only [Bool.not_eq_true] at this;rw [this];rfl
 | some z =>
  have hz:=h3 z hf
  subst hz
  obtain ⟨_,k2,k3,_⟩:=zcy hf
  rw [Nat.sub_zero] at k2
  have hzl:=(List.getElem?_eq_some_iff.1 k2).1
  have hne:(((z.1:Nat):Int) == -1)=false:=by simp
  rw [hne,cond_false,show wr (((z.1:Nat):Int) + 1)=((z.1 + 1:Nat):Int) by rw [wr_of _ (by omega) (by omega)];simp]
  obtain ⟨s',i',q1,q2,q3,q4⟩:=del_loop (n:=c.length) (by omega) rfl h (c.length - (z.1 + 1)) (z.1 + 1) z.1 c (by omega) (by omega) rfl (by
   rw [List.take_add_one,k2]
   have hall:∀ y∈c.take z.1,g y=false:=by
    intro y hy
    obtain ⟨i,hi⟩:=List.mem_iff_getElem?.1 hy
    rw [List.getElem?_take] at hi
    split at hi
    · rename_i hlt
      -- no earlier one
      have key:∀ (l:List Int) (k:Nat) (z:Nat×Int),findI (fun _ y=>g y) l k=some z→∀ i y,l[i]?=some y→k + i < z.1→g y=false:=by
       intro l
       induction l with
       | nil=>intro k z _ i y hy;simp at hy
       | cons x l ih =>
        intro k z hz i y hy hlt
        simp only [findI] at hz
        cases hgx:g x with
        | true=>rw [hgx] at hz;simp at hz;subst hz;simp at hlt;omega
        | false =>
         rw [hgx] at hz;simp only [cond_false] at hz
         cases i with
         | zero=>simp at hy;subst hy;exact hgx
         | succ i=>exact ih (k + 1) z hz i y (by simpa using hy) (by omega)
      exact key c 0 z hf i y hi (by omega)
    · cases hi
   rw [List.filter_append,List.filter_eq_self.2 (fun y hy=>by rw [hall y hy];rfl)]
   simp [k3]) rfl
  rw [q1,zau]
  simp only
  rw [show len s'=((s'.length:Nat):Int) from rfl,cut_ok (by omega) (Nat.le_refl _),zad]
  have hcl:clearL 0 s' (i':Int)=s'.take i'++List.replicate (s'.length - i') 0:=by unfold clearL;simp
  rw [hcl,show (0:Int)=((0:Nat):Int) from rfl,cut_ok (Nat.zero_le _) (by simp;omega),zad,List.drop_zero,List.take_left' (by simp;omega),q4]
theorem zcB {c:List Int} (hl:c.length≤lim):zbw c=some c:=by
 unfold zbw;rw [zaD (by simpa using hl)];rfl
theorem zea {c:List Int} {v:Int} (hc:∀ y∈c,okI y) (hl:c.length≤lim):zcn c v=some (zaJ c v):=by
 unfold zcn zaJ
 rw [zcB hl,zad,zeA (g:=fun y=>vr y == v) (fun y hy=>by unfold zcm;rw [zdl (hc y hy)]) hl];rfl
def putL (c:List Int) (l:Int):List Int:=c.takeWhile (fun y=>decide (vr y < vr l))++l::c.dropWhile (fun y=>decide (vr y < vr l))
theorem zb8 {c:List Int} (hl:c.length≤lim):zbK c=some c:=by
 unfold zbK;rw [zaD (by simpa using hl)];rfl
theorem takeWhile_le {α:Type} {p:α→Bool} (l:List α):(l.takeWhile p).length≤l.length:=(List.takeWhile_prefix p).length_le
theorem take_takeWhile {α:Type} {p:α→Bool} (l:List α):l.take (l.takeWhile p).length=l.takeWhile p:=by
 conv=>lhs;rw [← List.takeWhile_append_dropWhile (p:=p) (l:=l)]
 rw [List.takeWhile_append_dropWhile]
 exact List.prefix_iff_eq_take.1 (List.takeWhile_prefix p) |>.symm
theorem drop_takeWhile {α:Type} {p:α→Bool} (l:List α):l.drop (l.takeWhile p).length=l.dropWhile p:=by
 have h:=List.takeWhile_append_dropWhile (p:=p) (l:=l)
 have h2:l.drop (l.takeWhile p).length=(l.takeWhile p++l.dropWhile p).drop (l.takeWhile p).length:=by rw [h]
 rw [h2,List.drop_left]
theorem zcC {c:List Int} {l:Int} (hl:c.length + 1≤lim):zbu c l=some (putL c l):=by
 unfold zbu putL
 have hl':c.length + 1≤4294967296:=hl
 rw [iter_while (xs:=c) (p:=fun y=>decide (vr y < vr l)) (fun i y hy=>by
  have hi:=(List.getElem?_eq_some_iff.1 hy).1
  have hd:decide ((i:Int) < len c)=true:=by rw [zai];simp;omega
  rw [hd,zaR,hy]
  simp only [cond_true,zad,zdF]
  rw [wr_succ hi (by omega)];rfl) (by
  have hd:decide (((c.length:Nat):Int) < len c)=false:=by rw [zai];simp
  rw [hd];rfl),zau]
 have hk:=takeWhile_le (p:=fun y=>decide (vr y < vr l)) c
 rw [show (0:Int)=((0:Nat):Int) from rfl,cut_ok (Nat.zero_le _) hk,zad,List.drop_zero,take_takeWhile,zb8 (by omega),zad,zaD (by simp;omega),zad,
  zai,cut_ok hk (Nat.le_refl _),zad,List.take_length,drop_takeWhile,zaD,zad]
 · simp
 · have:=congrArg List.length (List.takeWhile_append_dropWhile (p:=fun y=>decide (vr y < vr l)) (l:=c))
   simp only [List.length_append] at this ⊢
   simp only [List.length_singleton]
   unfold lim;omega
theorem zcD (c:List Int) (l:Int):(putL c l).length=c.length + 1:=by
 have:=congrArg List.length (List.takeWhile_append_dropWhile (p:=fun y=>decide (vr y < vr l)) (l:=c))
 unfold putL;simp only [List.length_append,List.length_cons] at this ⊢;omega
def joinL:List Int→List Int→Option (List Int)
 | s,[]=>some s
 | s,y::b=>bif s.contains (wr (-y)) then none else joinL (bif !s.contains y then putL s y else s) b
theorem zeb {a b:List Int} (hl:a.length + b.length≤lim):zch a b=some (match joinL a b with|some s=>(s,true)|none=>([],false)):=by
 unfold zch
 rw [zb8 (by omega),zad]
 have key:∀ (F:Nat→Int→List Int→Option (Lp (List Int) (List Int×Bool))),(∀ i y s,F i y s=bd (PF.zaX s (wr (-y))) (fun r200=>(bif r200 then some (Lp.rt ([],false)) else bd (PF.zaX s y) (fun r222=>(bif (!r222) then bd (PF.zbu s y) (fun r239=>some (Lp.nx r239)) else some (Lp.nx s)))))) →
  ∀ (b:List Int) (i:Nat) (s:List Int),s.length + b.length≤lim→zaL F b i s=some (match joinL s b with|some s=>.go s|none=>.rt ([],false)):=by
  intro F hF b
  induction b with
  | nil=>intro i s _;rfl
  | cons y b ih =>
   intro i s hs
   simp only [List.length_cons] at hs
   rw [zaL,hF,zbH,zad,zbH,zad,joinL]
   cases s.contains (wr (-y)) with
   | true=>rfl
   | false =>
    simp only [cond_false]
    cases s.contains y with
    | true=>simp only [Bool.not_true,cond_false];exact ih (i + 1) s (by omega)
    | false =>
     simp only [Bool.not_false,cond_true]
     rw [zcC (c:=s) (by omega),zad]
     exact ih (i + 1) _ (by rw [zcD];omega)
 unfold forL
 rw [key _ (fun _ _ _=>rfl) b 0 a hl]
 cases joinL a b <;> rfl
abbrev Srt (c:List Int):Prop:=c.Pairwise fun a b=>a.natAbs < b.natAbs
def Sm (c:List Int):Prop:=∀ l∈c,-12≤l∧l≤12∧l≠0
theorem zbI {c:List Int} {l x:Int}:x∈putL c l↔x=l∨x∈c:=by
 have h:=List.takeWhile_append_dropWhile (p:=fun y=>decide (vr y < vr l)) (l:=c)
 have:x∈c↔x∈c.takeWhile (fun y=>decide (vr y < vr l))∨x∈c.dropWhile (fun y=>decide (vr y < vr l)):=by rw [← List.mem_append,h]
 unfold putL
 rw [this,List.mem_append,List.mem_cons]
 constructor
 · rintro (h|h|h)
   · exact .inr (.inl h)
   · exact .inl h
   · exact .inr (.inr h)
 · rintro (h|h|h)
   · exact .inr (.inl h)
   · exact .inl h
   · exact .inr (.inr h)
theorem putL_srt {c:List Int} {l:Int} (hc:Srt c) (hs:Sm c) (hl:-12≤l∧l≤12) (hn:∀ x∈c,x.natAbs≠l.natAbs):Srt (putL c l):=by
 have hv:∀ x∈c,(decide (vr x < vr l)=true↔x.natAbs < l.natAbs):=fun x hx=>by
  have:=hs x hx
  rw [decide_eq_true_eq,vr_abs (by omega) (by omega),vr_abs hl.1 hl.2];omega
 unfold putL
 induction c with
 | nil=>simp
 | cons y c ih =>
  obtain ⟨h1,h2⟩:=List.pairwise_cons.1 hc
  rw [List.takeWhile_cons,List.dropWhile_cons]
  by_cases hy:decide (vr y < vr l)=true
  · rw [if_pos hy,if_pos hy,List.cons_append]
    have ih:=ih h2 (fun x hx=>hs x (by simp [hx])) (fun x hx=>hn x (by simp [hx])) (fun x hx=>hv x (by simp [hx]))
    refine List.pairwise_cons.2 ⟨fun x hx=>?_,ih⟩
    rcases (zbI (c:=c) (l:=l)).1 hx with rfl|hx
    · exact (hv y (by simp)).1 hy
    · exact h1 x hx
  · rw [if_neg hy,if_neg hy,List.nil_append]
    have hly:l.natAbs < y.natAbs:=by
     have:=hn y (by simp)
     have h3:¬ y.natAbs < l.natAbs:=fun h=>hy ((hv y (by simp)).2 h)
     omega
    refine List.pairwise_cons.2 ⟨fun x hx=>?_,hc⟩
    rcases List.mem_cons.1 hx with rfl|hx
    · exact hly
    · have:=h1 x hx;omega
theorem joinL_spec:∀ {b s:List Int},Srt s→Sm s→Srt b→Sm b →
 (if ∃ y∈b,-y∈s then joinL s b=none else ∃ t,joinL s b=some t∧Srt t∧∀ x,x∈t↔x∈s∨x∈b):=by
 intro b
 induction b with
 | nil=>intro s hs _ _ _;simp only [List.not_mem_nil,false_and,exists_false,if_false,or_false];exact ⟨s,rfl,hs,fun _=>Iff.rfl⟩
 | cons y b ih =>
  intro s hs hs2 hb hb2
  obtain ⟨h1,h2⟩:=List.pairwise_cons.1 hb
  have hy:=hb2 y (by simp)
  have hw:wr (-y)=-y:=wr_of _ (by omega) (by omega)
  simp only [joinL,hw]
  by_cases hn:-y∈s
  · rw [if_pos ⟨y,by simp,hn⟩,List.contains_iff_mem.2 hn];rfl
  · have hnc:s.contains (-y)=false:=by rw [Bool.eq_false_iff];exact fun h=>hn (List.contains_iff_mem.1 h)
    rw [hnc,cond_false]
    by_cases hin:y∈s
    · rw [List.contains_iff_mem.2 hin]
      simp only [Bool.not_true,cond_false]
      have:=ih hs hs2 h2 (fun x hx=>hb2 x (by simp [hx]))
      have e1:(∃ z∈y::b,-z∈s)↔∃ z∈b,-z∈s:=by
       constructor
       · rintro ⟨z,hz,hz2⟩
         rcases List.mem_cons.1 hz with rfl|hz
         · exact absurd hz2 hn
         · exact ⟨z,hz,hz2⟩
       · rintro ⟨z,hz,hz2⟩;exact ⟨z,by simp [hz],hz2⟩
      simp only [e1]
      split at this
      · rename_i hex;rw [if_pos hex];exact this
      · rename_i hex
        rw [if_neg hex]
        obtain ⟨t,t1,t2,t3⟩:=this
        refine ⟨t,t1,t2,fun x=>?_⟩
        rw [t3,List.mem_cons]
        constructor
        · rintro (h|h)
          · exact .inl h
          · exact .inr (.inr h)
        · rintro (h|rfl|h)
          · exact .inl h
          · exact .inl hin
          · exact .inr h
    · have hic:s.contains y=false:=by rw [Bool.eq_false_iff];exact fun h=>hin (List.contains_iff_mem.1 h)
      rw [hic]
      simp only [Bool.not_false,cond_true]
      have hne:∀ x∈s,x.natAbs≠y.natAbs:=fun x hx e=>by
       have:x=y∨x=-y:=by omega
       rcases this with rfl|rfl
       · exact hin hx
       · exact hn hx
      have:=ih (putL_srt hs hs2 ⟨hy.1,hy.2.1⟩ hne) (fun x hx=>by
       rcases zbI.1 hx with rfl|hx
       · exact hy
       · exact hs2 x hx) h2 (fun x hx=>hb2 x (by simp [hx]))
      have e1:(∃ z∈y::b,-z∈s)↔∃ z∈b,-z∈putL s y:=by
       constructor
       · rintro ⟨z,hz,hz2⟩
         rcases List.mem_cons.1 hz with rfl|hz
         · exact absurd hz2 hn
         · exact ⟨z,hz,zbI.2 (.inr hz2)⟩
       · rintro ⟨z,hz,hz2⟩
         rcases zbI.1 hz2 with e|hz2
         · have:=h1 z hz;omega
         · exact ⟨z,by simp [hz],hz2⟩
      simp only [e1]
      split at this
      · rename_i hex;rw [if_pos hex];exact this
      · rename_i hex
        rw [if_neg hex]
        obtain ⟨t,t1,t2,t3⟩:=this
        refine ⟨t,t1,t2,fun x=>?_⟩
        rw [t3,zbI,List.mem_cons]
        constructor
        · rintro ((h|h)|h)
          · exact .inr (.inl h)
          · exact .inl h
          · exact .inr (.inr h)
        · rintro (h|h|h)
          · exact .inl (.inr h)
          · exact .inl (.inl h)
          · exact .inr h
end Go.PF
namespace Go.PF
open Go.Pu
theorem srt_unique:∀ {a b:List Int},Srt a→Srt b→(∀ x,x∈a↔x∈b)→a=b:=by
 intro a
 induction a with
 | nil =>
  intro b _ _ h
  cases b with
  | nil=>rfl
  | cons y b=>exact absurd ((h y).2 (by simp)) (by simp)
 | cons x a ih =>
  intro b ha hb h
  cases b with
  | nil=>exact absurd ((h x).1 (by simp)) (by simp)
  | cons y b =>
   obtain ⟨a1,a2⟩:=List.pairwise_cons.1 ha
   obtain ⟨b1,b2⟩:=List.pairwise_cons.1 hb
   have hxy:x=y:=by
    rcases List.mem_cons.1 ((h x).1 (by simp)) with e|e
    · exact e
    · rcases List.mem_cons.1 ((h y).2 (by simp)) with e'|e'
      · exact e'.symm
      · have:=b1 x e;have:=a1 y e';omega
   subst hxy
   rw [ih a2 b2 fun z=>?_]
   constructor
   · intro hz
     rcases List.mem_cons.1 ((h z).1 (by simp [hz])) with e|e
     · subst e;have:=a1 z hz;omega
     · exact e
   · intro hz
     rcases List.mem_cons.1 ((h z).2 (by simp [hz])) with e|e
     · subst e;have:=b1 z hz;omega
     · exact e
theorem zdn {A:Type} [DecidableEq A]:∀ {l:List A} {x:A},x∈zat l↔x∈l
 | [],x=>by simp [zat]
 | [y],x=>by simp [zat]
 | y::z::r,x=>by
  rw [zat]
  split
  · rename_i h;subst h
    rw [zdn];simp
  · rw [List.mem_cons,zdn];simp
theorem zdL {A:Type} [DecidableEq A] {R:A→A→Prop} (ha:∀ a b,R a b→R b a→a=b):∀ {l:List A},l.Pairwise R→(zat l).Pairwise fun a b=>R a b∧a≠b
 | [],_=>by simp [zat]
 | [y],_=>by simp [zat]
 | y::z::r,h=>by
  obtain ⟨h1,h2⟩:=List.pairwise_cons.1 h
  rw [zat]
  split
  · exact zdL ha h2
  · rename_i hne
    refine List.pairwise_cons.2 ⟨fun x hx=>?_,zdL ha h2⟩
    have hx':=zdn.1 hx
    refine ⟨h1 x hx',fun e=>?_⟩
    subst e
    rcases List.mem_cons.1 hx' with e|e
    · exact hne e
    · exact hne (ha _ _ (h1 z (by simp)) ((List.pairwise_cons.1 h2).1 y e))
def litLe (x y:Int):Prop:=zax x < zax y∨(zax x=zax y∧y≤x)
def cmpL (x y:Int):Int:=if zax x < zax y then -1 else if zax y < zax x then 1 else if y < x then -1 else if x < y then 1 else 0
theorem zec (x y:Int):za4 x y=some (cmpL x y):=by
 have hc:∀ a b:Int,zbm a b=if a < b then -1 else if b < a then 1 else 0:=fun a b=>by
  unfold zbm zbh
  simp only [BEq.rfl,Bool.not_true,cond_false]
  by_cases h1:a < b
  · simp [h1]
  · by_cases h2:b < a <;> simp [h1,h2]
 unfold za4 zdu cmpL
 rw [hc,hc]
 by_cases h1:zax x < zax y
 · simp [h1,forL,zaL]
 · by_cases h2:zax y < zax x
   · simp [h1,h2,forL,zaL]
   · by_cases h3:y < x
     · simp [h1,h2,h3,forL,zaL]
     · by_cases h4:x < y <;> simp [h1,h2,h3,h4,forL,zaL]
theorem cmpL_neg {x y:Int}:cmpL x y < 0↔zax x < zax y∨(zax x=zax y∧y < x):=by
 unfold cmpL
 split
 · omega
 · split
   · omega
   · split
     · omega
     · split <;> omega
theorem leF_lit {x y:Int}:leF (fun x0 x1=>PF.za4 x0 x1) x y=true↔litLe x y:=by
 unfold leF litLe
 simp only [zec]
 rw [Bool.not_eq_true',decide_eq_false_iff_not,cmpL_neg]
 omega
theorem sort_lit {xs:List Int} (hl:xs.length < lim):zdt xs (fun x0 x1=>PF.za4 x0 x1)=some (xs.mergeSort (leF fun x0 x1=>PF.za4 x0 x1)):=by
 unfold zdt sortF
 rw [if_pos]
 refine ⟨cmpL,hl,fun x _ y _=>zec x y,fun x _=>?_,fun x _ y _ z _ h1 h2=>?_,fun x _ y _ z _ h1 h2=>?_,fun x _ y _ h1 h2=>?_⟩
 · rw [cmpL_neg];omega
 · rw [cmpL_neg] at *;omega
 · rw [cmpL_neg] at *;omega
 · rw [cmpL_neg] at *;omega
theorem sorted_lit (xs:List Int):(xs.mergeSort (leF fun x0 x1=>PF.za4 x0 x1)).Pairwise litLe:=by
 have:=List.pairwise_mergeSort (le:=leF fun x0 x1=>PF.za4 x0 x1) (fun a b c h1 h2=>by
  rw [leF_lit] at *;unfold litLe at *;omega) (fun a b=>by
  rw [Bool.or_eq_true,leF_lit,leF_lit];unfold litLe;omega) xs
 exact this.imp fun h=>leF_lit.1 h
def noComp (t:List Int):Bool:=adj (fun a b => !(b == wr (-a))) t
theorem impl_clause_eq {c:List Int} (hl:c.length < lim):zco c=some (let t:=zat (c.mergeSort (leF fun x0 x1=>PF.za4 x0 x1));bif noComp t then (t,true) else ([],false)):=by
 unfold zco
 rw [zcB (by omega),zad,sort_lit hl,zad]
 unfold zdT
 rw [zad]
 simp only
 generalize ht:zat (c.mergeSort (leF fun x0 x1=>PF.za4 x0 x1))=t
 have htl:t.length≤4294967296:=by
  have:∀ l:List Int,(zat l).length≤l.length:=by
   intro l
   induction l using zat.induct with
   | case1=>simp [zat]
   | case2=>simp [zat]
   | case3 y r ih=>rw [zat,if_pos rfl];simp only [List.length_cons] at ih ⊢;omega
   | case4 x y r h ih=>rw [zat,if_neg h];simp only [List.length_cons] at ih ⊢;omega
  have h1:=this (c.mergeSort (leF fun x0 x1=>PF.za4 x0 x1))
  rw [ht,List.length_mergeSort] at h1
  unfold lim at hl;omega
 cases t with
 | nil =>
  rw [za9 (s':=1) rfl];rfl
 | cons x t =>
  have key:∀ (m:List Int) (k:Nat),k + 1 + m.length=(x::t).length→(∀ i y,m[i]?=some y→(x::t)[k + 1 + i]?=some y)→iter (S:=Int) (X:=((List Int)×Bool)) (fun s49=>(bif (decide (s49 < (len (x::t)))) then bd (ix (x::t) s49) (fun x94=>bd (ix (x::t) (wr (s49 - 1))) (fun x102=>(bif (x94 == (wr (-x102))) then some (Lp.rt ([],false)) else some (Lp.nx (wr (s49 + 1)))))) else some (Lp.bk s49))) ((k + 1:Nat):Int) =
   some (bif anyI (fun i y=>match i with|0=>false|i + 1=>match (x::t)[i]? with|some z=>y == wr (-z)|none=>false) m (k + 1) then .rt ([],false) else .go (((x::t).length:Nat):Int)):=by
   intro m
   induction m with
   | nil =>
    intro k hk _
    simp only [List.length_nil,Nat.add_zero] at hk
    rw [za9 (s':=((k + 1:Nat):Int))]
    · rw [hk];rfl
    · have hd:decide (((k + 1:Nat):Int) < len (x::t))=false:=by rw [zai,← hk];simp
      rw [hd];rfl
   | cons y m ih =>
    intro k hk hm
    simp only [List.length_cons (a:=y)] at hk
    have hy:(x::t)[k + 1]?=some y:=by simpa using hm 0 y rfl
    have hd:decide (((k + 1:Nat):Int) < len (x::t))=true:=by rw [zai];simp only [decide_eq_true_eq];omega
    have hkl:k < (x::t).length:=by omega
    have hz:=List.getElem?_eq_getElem hkl
    simp only [anyI]
    cases hb:(y == wr (-(x::t)[k])) with
    | true =>
     rw [iter_rt (x:=([],false))]
     · simp [hz,hb]
     · simp only [hd,cond_true,zaR,hy,zad,wr_pred (show 0 < k + 1 by omega) (show k + 1 < (x::t).length by omega) (by omega),Nat.add_sub_cancel,hz,hb]
    | false =>
     rw [zbq (s':=((k + 1 + 1:Nat):Int))]
     · rw [ih (k + 1) (by omega) fun i z hz=>by have:=hm (i + 1) z (by simpa using hz);rwa [show k + 1 + (i + 1)=k + 1 + 1 + i by omega] at this]
       simp [hz,hb]
     · simp only [hd,cond_true,zaR,hy,zad,wr_pred (show 0 < k + 1 by omega) (show k + 1 < (x::t).length by omega) (by omega),Nat.add_sub_cancel,hz,hb,cond_false]
       rw [wr_succ (n:=(x::t).length) (by omega) (by omega)];simp
  have hk:=key t 0 (by simp;omega) (by intro i y hy;rw [show 0 + 1 + i=i + 1 by omega];simpa using hy)
  rw [show ((0 + 1:Nat):Int)=1 from rfl] at hk
  rw [hk]
  have ha:=anyI_adj (l:=x::t) (p:=fun i y=>match i with|0=>false|i + 1=>match (x::t)[i]? with|some z=>y == wr (-z)|none=>false) (q:=fun _=>false) (r:=fun a b => !(b == wr (-a))) (fun _ _=>rfl) (fun i a b h1 _=>by simp only [h1];simp)
  simp only [anyI,Bool.false_or,Nat.zero_add] at ha
  rw [show (0 + 1:Nat)=1 from rfl,ha]
  unfold noComp
  rw [show ((x::t).all fun _ => !false)=true by simp]
  cases adj (fun a b => !(b == wr (-a))) (x::t) <;> rfl
theorem slices_Concat2 {a b:List Int} (hl:a.length + b.length≤lim):zc3 [a,b]=some (a++b):=by
 have hl':a.length + b.length≤4294967296:=hl
 have e1:wr (0 + len a)=(a.length:Int):=by rw [wr_of _ (by rw [zai];omega) (by rw [zai];omega),zai];omega
 have e2:wr ((a.length:Int) + len b)=((a.length + b.length:Nat):Int):=by rw [wr_of _ (by rw [zai];omega) (by rw [zai];omega),zai];omega
 have d1:decide ((a.length:Int) < 0)=false:=by rw [decide_eq_false_iff_not];omega
 have d2:decide (((a.length + b.length:Nat):Int) < 0)=false:=by rw [decide_eq_false_iff_not];omega
 unfold zc3 forL
 rw [zdk (s':=(a.length:Int)) (by rw [e1,d1];rfl),zdk (s':=((a.length + b.length:Nat):Int)) (by rw [e2,d2];rfl),forLFrom_nil,zau]
 unfold zds
 rw [if_pos (by omega),zad]
 rw [zdk (s':=a) (by rw [zaD (by simp;omega),zad];rfl),zdk (s':=a++b) (by rw [zaD hl,zad]),forLFrom_nil,zau]
def joined (a b:List Int):List Int×Bool:=match joinL a b with|some s=>(s,true)|none=>([],false)
theorem clause_joined {a b:List Int} (ha:Srt a) (hb:Srt b) (sa:Sm a) (sb:Sm b) (hl:a.length + b.length < lim):zco (a++b)=some (joined a b):=by
 rw [impl_clause_eq (by simpa using hl)]
 simp only
 generalize ht:zat ((a++b).mergeSort (leF fun x0 x1=>PF.za4 x0 x1))=t
 have hm:∀ x,x∈t↔x∈a∨x∈b:=fun x=>by rw [← ht,zdn,List.mem_mergeSort,List.mem_append]
 have hs:Sm t:=fun x hx=>by
  rcases (hm x).1 hx with h|h
  · exact sa x h
  · exact sb x h
 have hab:∀ x∈t,zax x=x.natAbs:=fun x hx=>by
  have:=hs x hx
  rw [zdl (by unfold okI;omega),vr_abs this.1 this.2.1]
 have hlt:t.Pairwise fun x y=>litLe x y∧x≠y:=by
  rw [← ht]
  exact zdL (fun x y h1 h2=>by unfold litLe at *;omega) (sorted_lit _)
 have hw:∀ x∈t,wr (-x)=-x:=fun x hx=>by have:=hs x hx;exact wr_of _ (by omega) (by omega)
 have hspec:=joinL_spec ha sa hb sb
 unfold joined
 by_cases hex:∃ y∈b,-y∈a
 · rw [if_pos hex] at hspec
   rw [hspec]
   have hn:noComp t=false:=by
    cases hn:noComp t with
    | false=>rfl
    | true =>
     exfalso
     -- neighbours have other variables, so all have
     have hsrt:Srt t:=by
      refine adj_pairwise (r:=fun x y => !(y == wr (-x)) && decide (x.natAbs < y.natAbs∨(x.natAbs=y.natAbs∧y < x))) (R:=fun x y:Int=>x.natAbs < y.natAbs) (fun _ _ _=>Nat.lt_trans) (fun x y hx hy hr=>?_) ?_
      · have h1:=hs x hx;have h2:=hs y hy
        simp only [Bool.and_eq_true,Bool.not_eq_true',beq_eq_false_iff_ne,ne_eq,decide_eq_true_eq] at hr
        rw [hw x hx] at hr
        omega
      · have hp:t.Pairwise fun x y=>(decide (x.natAbs < y.natAbs∨(x.natAbs=y.natAbs∧y < x)))=true:=by
         refine List.Pairwise.imp_of_mem ?_ hlt
         intro x y hx hy h
         simp only [decide_eq_true_eq]
         unfold litLe at h
         rw [hab x hx,hab y hy] at h
         omega
        have h1:=zdI hp
        unfold noComp at hn
        clear hp hlt hm hspec ht hs hab hw
        revert h1 hn
        generalize t=t
        intro hn h1
        induction t with
        | nil=>rfl
        | cons x t ih =>
         cases t with
         | nil=>rfl
         | cons y t =>
          simp only [adj,Bool.and_eq_true] at hn h1 ⊢
          exact ⟨⟨hn.1,h1.1⟩,ih hn.2 h1.2⟩
     obtain ⟨y,hy,hy2⟩:=hex
     have h1:=(hm y).2 (.inr hy)
     have h2:=(hm (-y)).2 (.inl hy2)
     have h0:=sb y hy
     -- two of one variable
     obtain ⟨i,hi⟩:=List.mem_iff_getElem?.1 h1
     obtain ⟨j,hj⟩:=List.mem_iff_getElem?.1 h2
     have hlen1:=(List.getElem?_eq_some_iff.1 hi).1
     have hlen2:=(List.getElem?_eq_some_iff.1 hj).1
     rw [List.getElem?_eq_getElem hlen1] at hi
     rw [List.getElem?_eq_getElem hlen2] at hj
     simp only [Option.some.injEq] at hi hj
     have hpw:=List.pairwise_iff_getElem.1 hsrt
     rcases Nat.lt_trichotomy i j with h|h|h
     · have:=hpw i j hlen1 hlen2 h;rw [hi,hj] at this;omega
     · subst h;rw [hi] at hj;omega
     · have:=hpw j i hlen2 hlen1 h;rw [hi,hj] at this;omega
   rw [hn];rfl
 · rw [if_neg hex] at hspec
   obtain ⟨s,h1,h2,h3⟩:=hspec
   rw [h1]
   have hne:∀ x∈t,-x ∉ t:=fun x hx hx2=>by
    have h0:=hs x hx
    rcases (hm x).1 hx with ha1|hb1 <;> rcases (hm (-x)).1 hx2 with ha2|hb2
    · have hpw:=List.pairwise_iff_getElem.1 ha
      obtain ⟨i,hi1,hi⟩:=List.getElem_of_mem ha1
      obtain ⟨j,hj1,hj⟩:=List.getElem_of_mem ha2
      rcases Nat.lt_trichotomy i j with h|h|h
      · have:=hpw i j hi1 hj1 h;rw [hi,hj] at this;omega
      · subst h;rw [hi] at hj;omega
      · have:=hpw j i hj1 hi1 h;rw [hi,hj] at this;omega
    · exact hex ⟨-x,hb2,by rw [Int.neg_neg];exact ha1⟩
    · exact hex ⟨x,hb1,ha2⟩
    · have hpw:=List.pairwise_iff_getElem.1 hb
      obtain ⟨i,hi1,hi⟩:=List.getElem_of_mem hb1
      obtain ⟨j,hj1,hj⟩:=List.getElem_of_mem hb2
      rcases Nat.lt_trichotomy i j with h|h|h
      · have:=hpw i j hi1 hj1 h;rw [hi,hj] at this;omega
      · subst h;rw [hi] at hj;omega
      · have:=hpw j i hj1 hi1 h;rw [hi,hj] at this;omega
   have hn:noComp t=true:=by
    unfold noComp
    refine zdI (List.Pairwise.imp_of_mem ?_ hlt)
    intro x y hx hy _
    rw [hw x hx]
    simp only [Bool.not_eq_true',beq_eq_false_iff_ne,ne_eq]
    intro e;subst e;exact hne x hx hy
   have hsrt:Srt t:=by
    refine List.Pairwise.imp_of_mem ?_ hlt
    intro x y hx hy h
    unfold litLe at h
    rw [hab x hx,hab y hy] at h
    have:y≠-x:=fun e=>by subst e;exact hne x hx hy
    omega
   rw [hn]
   rw [srt_unique hsrt h2 fun x=>by rw [hm,h3]];rfl
def res (a b:List Int) (v:Int):List Int×Bool:=bif !a.contains v || !b.contains (wr (-v)) then ([],false) else joined (zaJ a v) (zaJ b v)
theorem zb9 (c:List Int) (v:Int):(zaJ c v).length≤c.length:=List.length_filter_le _ _
theorem zca {a b:List Int} {v:Int} (hl:a.length + b.length≤lim):zaM a b v=some (res a b v):=by
 have h1:=zb9 a v;have h2:=zb9 b v
 unfold zaM res
 rw [zbH,zad]
 cases a.contains v with
 | false=>rfl
 | true =>
  simp only [Bool.not_true,cond_false,Bool.false_or]
  rw [zbH,zad,zad]
  cases b.contains (wr (-v)) with
  | false=>rfl
  | true =>
   simp only [Bool.not_true,cond_false]
   rw [zdK (by omega),zad,zdK (by omega),zad,zeb (by omega),zad]
   unfold joined
   cases joinL (zaJ a v) (zaJ b v) <;> rfl
theorem IsC.sm {V:Int} {c:List Int} (h:IsC V c):Sm c:=fun l hl=>by have:=h.lit l hl;have:=h.hi;omega
theorem zdM {V:Int} {a b:List Int} {v:Int} (ha:IsC V a) (hb:IsC V b):zbZ a b v=some (res a b v):=by
 have h1:=zb9 a v;have h2:=zb9 b v
 have h3:=ha.len;have h4:=hb.len
 have hlim:lim=4294967296:=rfl
 unfold zbZ res
 rw [zdJ,zad]
 cases a.contains v with
 | false=>rfl
 | true =>
  simp only [Bool.not_true,cond_false,Bool.false_or]
  rw [zdJ,zad,zad]
  cases b.contains (wr (-v)) with
  | false=>rfl
  | true =>
   simp only [Bool.not_true,cond_false]
   rw [zea ha.ok.2 (by omega),zad,zea hb.ok.2 (by omega),zad,slices_Concat2 (by omega),zad,
    clause_joined (a:=zaJ a v) (b:=zaJ b v) (ha.srt.sublist List.filter_sublist) (hb.srt.sublist List.filter_sublist) (fun x hx=>ha.sm x (List.mem_filter.1 hx).1) (fun x hx=>hb.sm x (List.mem_filter.1 hx).1) (by omega),zad]
end Go.PF
namespace Go.PF
open Go.Pu
def clAt (S:List zaa) (k:Int):List Int:=match S[k.toNat]? with|some y=>y.clause|none=>[]
def zaW (F:Cnf) (S:List zaa) (i:Nat) (k:Int):Bool:=inB k 0 ((i:Int) - 1) && zaH F.vars (clAt S k)
def axB (F:Cnf) (x:zaa):Bool:=inB x.right 0 (len F.clauses - 1) && match F.clauses[x.right.toNat]? with|some c=>c == x.clause|none=>false
def stepB (F:Cnf) (S:List zaa) (i:Nat) (x:zaa):Bool :=
 zaH F.vars x.clause &&
 bif x.left == -1 then x.pivot == 0 && axB F x
 else zaW F S i x.left &&
  bif x.right == -1 then x.pivot == 0 && partB (clAt S x.left) x.clause
  else zaW F S i x.right && (inB x.pivot 1 F.vars && ((res (clAt S x.left) (clAt S x.right) x.pivot).2 && (res (clAt S x.left) (clAt S x.right) x.pivot).1 == x.clause))
theorem zdo {S:List zaa} {i:Nat} {k:Int} (hi:i < S.length) (h:inB k 0 ((i:Int) - 1)=true):∃ y,ix S k=some y∧clAt S k=y.clause∧y∈S:=by
 rw [zbb] at h
 obtain ⟨y,h1,h2⟩:=ix_of (xs:=S) (i:=k) h.1 (by omega)
 exact ⟨y,h1,by unfold clAt;rw [h2],List.mem_of_getElem? h2⟩
theorem wr_lt {i n:Nat} (h:i < n) (hn:n≤9223372036854775807):wr ((i:Int) - 1)=(i:Int) - 1:=wr_of _ (by omega) (by omega)
theorem zed {F:Cnf} {S:List zaa} {i:Nat} {k:Int} (hS:okL zaE S) (hi:i < S.length):zcj F S (i:Int) k=some (zaW F S i k):=by
 unfold zcj zaW
 rw [wr_lt hi hS.1,zb7]
 cases h:inB k 0 ((i:Int) - 1) with
 | false=>rfl
 | true =>
  obtain ⟨y,h1,h2,h3⟩:=zdo hi h
  simp only [cond_true,Bool.true_and]
  rw [h1,zad,zdH (hS.2 y h3).1,zad,zad,h2]
theorem zee {F:Cnf} {S:List zaa} {i:Nat} {k:Int} (hS:okL zaE S) (hi:i < S.length):zck F S (i:Int) k=some (bif zaW F S i k then (clAt S k,true) else ([],false)):=by
 unfold zck zaW
 rw [wr_lt hi hS.1,zcz]
 cases h:inB k 0 ((i:Int) - 1) with
 | false=>rfl
 | true =>
  obtain ⟨y,h1,h2,h3⟩:=zdo hi h
  simp only [Bool.not_true,cond_false,Bool.true_and]
  rw [h1,zad,zcA (hS.2 y h3).1,zad,zad,h2]
  cases zaH F.vars y.clause <;> rfl
theorem ax_at {F:Cnf} {x:zaa} (h:inB x.right 0 (len F.clauses - 1)=true):∃ c,ix F.clauses x.right=some c∧axB F x=(c == x.clause):=by
 have h':=zbb.1 h
 obtain ⟨c,h1,h2⟩:=ix_of (xs:=F.clauses) (i:=x.right) h'.1 (by rw [zai] at h';omega)
 exact ⟨c,h1,by unfold axB;rw [h,h2];rfl⟩
theorem wr_len {A:Type} {l:List A} (h:l.length≤9223372036854775807):wr (len l - 1)=len l - 1:=wr_of _ (by rw [zai];omega) (by rw [zai];omega)
theorem spec_l7Correct_eq {F:Cnf} {S:List zaa} {i:Nat} {x:zaa} (hF:okCnf F) (hS:okL zaE S) (hx:S[i]?=some x):zcT F S (i:Int)=some (stepB F S i x):=by
 have hi:=(List.getElem?_eq_some_iff.1 hx).1
 have hm:=List.mem_of_getElem? hx
 unfold zcT stepB
 rw [zaR,hx,zad,zdH (hS.2 x hm).1,zad]
 cases hc:zaH F.vars x.clause with
 | false=>rfl
 | true =>
  simp only [Bool.not_true,cond_false,Bool.true_and]
  cases hl:x.left == -1 with
  | true =>
   simp only [cond_true]
   cases hp:x.pivot == 0 with
   | false=>rfl
   | true =>
    simp only [cond_true,Bool.true_and,zb7,wr_len hF.2.1]
    cases hr:inB x.right 0 (len F.clauses - 1) with
    | false=>unfold axB;rw [hr];rfl
    | true =>
     obtain ⟨c,h1,h2⟩:=ax_at hr
     simp only [cond_true]
     rw [h1,zad,zd7,zad,zad,h2]
  | false =>
   simp only [cond_false]
   rw [zed hS hi,zad]
   cases he:zaW F S i x.left with
   | false=>rfl
   | true =>
    simp only [Bool.not_true,cond_false,Bool.true_and]
    have he':inB x.left 0 ((i:Int) - 1)=true∧zaH F.vars (clAt S x.left)=true:=by unfold zaW at he;simpa using he
    obtain ⟨y,y1,y2,y3⟩:=zdo hi he'.1
    cases hr:x.right == -1 with
    | true =>
     simp only [cond_true]
     cases hp:x.pivot == 0 with
     | false=>rfl
     | true =>
      simp only [cond_true,Bool.true_and]
      rw [y1,zad,spec_l2Sub_eq,zad,zad,y2]
    | false =>
     simp only [cond_false]
     rw [zed hS hi,zad]
     cases hq:zaW F S i x.right with
     | false=>rfl
     | true =>
      simp only [Bool.not_true,cond_false,Bool.true_and,zb7]
      have hq':inB x.right 0 ((i:Int) - 1)=true∧zaH F.vars (clAt S x.right)=true:=by unfold zaW at hq;simpa using hq
      obtain ⟨z,z1,z2,z3⟩:=zdo hi hq'.1
      cases hv:inB x.pivot 1 F.vars with
      | false=>rfl
      | true =>
       simp only [Bool.not_true,cond_false,Bool.true_and]
       have cy:=(zbc.1 he'.2).len;have cz:=(zbc.1 hq'.2).len
       rw [y2] at cy;rw [z2] at cz
       rw [y1,zad,z1,zad,zca (by unfold lim;omega),zad,y2,z2]
       cases (res y.clause z.clause x.pivot).2 with
       | false=>rfl
       | true =>
        simp only [cond_true,Bool.true_and]
        rw [zd7,zad,zad]
theorem impl_correct_eq {F:Cnf} {S:List zaa} {i:Nat} {x:zaa} (hF:okCnf F) (hS:okL zaE S) (hx:S[i]?=some x):zc4 F S (i:Int)=some (stepB F S i x):=by
 have hi:=(List.getElem?_eq_some_iff.1 hx).1
 have hm:=List.mem_of_getElem? hx
 unfold zc4 stepB
 rw [zaR,hx,zad,zcA (hS.2 x hm).1,zad]
 cases hc:zaH F.vars x.clause with
 | false=>rfl
 | true =>
  simp only [Bool.not_true,cond_false,Bool.true_and]
  cases hl:x.left == -1 with
  | true =>
   simp only [cond_true]
   cases hp:x.pivot == 0 with
   | false=>rfl
   | true =>
    simp only [cond_true,Bool.true_and,zcz,wr_len hF.2.1]
    cases hr:inB x.right 0 (len F.clauses - 1) with
    | false=>unfold axB;rw [hr];rfl
    | true =>
     obtain ⟨c,h1,h2⟩:=ax_at hr
     simp only [cond_true]
     rw [h1,zad,zd8,zad,zad,h2]
  | false =>
   simp only [cond_false]
   rw [zee hS hi,zad]
   cases he:zaW F S i x.left with
   | false=>rfl
   | true =>
    simp only [cond_true,Bool.not_true,cond_false,Bool.true_and]
    have he':inB x.left 0 ((i:Int) - 1)=true∧zaH F.vars (clAt S x.left)=true:=by unfold zaW at he;simpa using he
    cases hr:x.right == -1 with
    | true =>
     simp only [cond_true]
     cases hp:x.pivot == 0 with
     | false=>rfl
     | true =>
      simp only [cond_true,Bool.true_and]
      rw [impl_part_eq,zad,zad]
    | false =>
     simp only [cond_false]
     rw [zee hS hi,zad]
     cases hq:zaW F S i x.right with
     | false=>rfl
     | true =>
      simp only [cond_true,Bool.not_true,cond_false,Bool.true_and,zdG]
      have hq':inB x.right 0 ((i:Int) - 1)=true∧zaH F.vars (clAt S x.right)=true:=by unfold zaW at hq;simpa using hq
      cases hv:inB x.pivot 1 F.vars with
      | false=>rfl
      | true =>
       simp only [Bool.not_true,cond_false,Bool.true_and]
       rw [zdM (zbc.1 he'.2) (zbc.1 hq'.2),zad]
       cases (res (clAt S x.left) (clAt S x.right) x.pivot).2 with
       | false=>rfl
       | true =>
        simp only [cond_true,Bool.true_and]
        rw [zd8,zad,zad]
def derB (F:Cnf) (S:List zaa):Bool:=cnfB F && (decide (len S≤200) && !anyI (fun i x => !stepB F S i x) S 0)
theorem spec_l7Wrong_eq {F:Cnf} {S:List zaa} (hF:okCnf F) (hS:okL zaE S):∃ r,zcU F S=some r∧decide (r < 0) = !anyI (fun i x => !stepB F S i x) S 0:=by
 unfold zcU
 rw [forL_find (p:=fun i x => !stepB F S i x) (v:=fun i _=>(i:Int)) (fun i x hx=>by rw [spec_l7Correct_eq hF hS hx,zad])]
 cases h:findI (fun i x => !stepB F S i x) S 0 with
 | none=>exact ⟨-1,rfl,by rw [zcx.1 h];rfl⟩
 | some z=>obtain ⟨_,_,_,h4⟩:=zcy h;exact ⟨_,rfl,by rw [h4];simp⟩
theorem impl_firstWrong_eq {F:Cnf} {S:List zaa} (hF:okCnf F) (hS:okL zaE S):∃ r,zc5 F S=some r∧decide (r < 0) = !anyI (fun i x => !stepB F S i x) S 0:=by
 unfold zc5
 rw [forL_find (p:=fun i x => !stepB F S i x) (v:=fun i _=>(i:Int)) (fun i x hx=>by rw [impl_correct_eq hF hS hx,zad])]
 cases h:findI (fun i x => !stepB F S i x) S 0 with
 | none=>exact ⟨-1,rfl,by rw [zcx.1 h];rfl⟩
 | some z=>obtain ⟨_,_,_,h4⟩:=zcy h;exact ⟨_,rfl,by rw [h4];simp⟩
theorem zdN {F:Cnf} {S:List zaa} (hF:okCnf F) (hS:okL zaE S):zbX F S=some (derB F S):=by
 obtain ⟨r,h1,h2⟩:=spec_l7Wrong_eq hF hS
 unfold zbX zdr derB
 rw [zdm hF,h1]
 cases cnfB F <;> cases decide (len S≤200) <;> simp [h2]
theorem zdp {F:Cnf} {S:List zaa} (hF:okCnf F) (hS:okL zaE S):zbM F S=some (derB F S):=by
 obtain ⟨r,h1,h2⟩:=impl_firstWrong_eq hF hS
 unfold zbM derB
 rw [impl_IsCnf_eq hF,h1]
 cases cnfB F <;> cases decide (len S≤200) <;> simp [h2]
structure IsD (F:Cnf) (S:List zaa):Prop where
 cnf:cnfB F=true
 le:S.length≤200
 step:∀ i x,S[i]?=some x→stepB F S i x=true
theorem zbA {F:Cnf} {S:List zaa}:derB F S=true↔IsD F S:=by
 unfold derB
 rw [Bool.and_eq_true,Bool.and_eq_true,Bool.not_eq_true',anyI_false,decide_eq_true_eq,zai]
 constructor
 · rintro ⟨h1,h2,h3⟩;exact ⟨h1,by omega,fun i x hx=>by have:=h3 i x hx;simpa using this⟩
 · rintro ⟨h1,h2,h3⟩;exact ⟨h1,by omega,fun i x hx=>by simp [h3 i x hx]⟩
theorem IsD.clause {F:Cnf} {S:List zaa} (h:IsD F S) {x:zaa} (hx:x∈S):IsC F.vars x.clause:=by
 obtain ⟨i,hi⟩:=List.mem_iff_getElem?.1 hx
 have:=h.step i x hi
 unfold stepB at this
 rw [Bool.and_eq_true] at this
 exact zbc.1 this.1
theorem IsD.nums {F:Cnf} {S:List zaa} (h:IsD F S) {i:Nat} {x:zaa} (hx:S[i]?=some x) :
 (x.left=-1∧x.pivot=0∧0≤x.right∧x.right < len F.clauses)∨(0≤x.left∧x.left < i∧x.right=-1∧x.pivot=0)∨(0≤x.left∧x.left < i∧0≤x.right∧x.right < i∧1≤x.pivot∧x.pivot≤F.vars):=by
 have:=h.step i x hx
 unfold stepB at this
 rw [Bool.and_eq_true] at this
 obtain ⟨_,this⟩:=this
 cases hl:x.left == -1 with
 | true =>
  rw [hl] at this
  simp only [cond_true,Bool.and_eq_true,beq_iff_eq] at this
  unfold axB at this
  rw [Bool.and_eq_true,zbb] at this
  have:=beq_iff_eq.1 hl
  left;omega
 | false =>
  rw [hl] at this
  simp only [cond_false,Bool.and_eq_true] at this
  obtain ⟨h1,this⟩:=this
  unfold zaW at h1
  rw [Bool.and_eq_true,zbb] at h1
  cases hr:x.right == -1 with
  | true =>
   rw [hr] at this
   simp only [cond_true,Bool.and_eq_true,beq_iff_eq] at this
   have:=beq_iff_eq.1 hr
   right;left;omega
  | false =>
   rw [hr] at this
   simp only [cond_false,Bool.and_eq_true] at this
   obtain ⟨h2,h3,_⟩:=this
   unfold zaW at h2
   rw [Bool.and_eq_true,zbb] at h2
   rw [zbb] at h3
   right;right;omega
theorem IsD.before {F:Cnf} {S:List zaa} (h:IsD F S) {i:Nat} {x:zaa} (hx:S[i]?=some x) (hl:0≤x.left):x.left < i∧(0≤x.right→x.right < i):=by
 rcases h.nums hx with h|h|h <;> omega
end Go.PF
