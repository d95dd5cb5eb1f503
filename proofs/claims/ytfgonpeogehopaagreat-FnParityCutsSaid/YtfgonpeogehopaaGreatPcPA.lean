/- Helpers of the walks and plain laws. -/
import Derived.Test.YtfgonpeogehopaaGreatPcPf
import Derived.Test.YtfgonpeogehopaaGreatPcLB
set_option linter.unusedVariables false
namespace Go.PF
open Go.Pu
def vr (l:Int):Int:=bif decide (l < 0) then wr (-l) else l
theorem spec_l2Var_eq (l:Int):zbr l=vr l:=rfl
theorem vr_abs {l:Int} (h1:-12≤l) (h2:l≤12):vr l=l.natAbs:=by
 unfold vr
 by_cases h:l < 0
 · simp only [h,decide_true,cond_true];rw [wr_of _ (by omega) (by omega)];omega
 · simp only [h,decide_false,cond_false];omega
theorem zdl {l:Int} (h:okI l):zaP l=vr l:=by
 obtain ⟨h1,h2⟩:=h
 unfold zaP vr mx
 by_cases h0:l < 0
 · simp only [h0,decide_true,cond_true]
   by_cases hm:l=-9223372036854775808
   · subst hm;decide
   · rw [wr_of _ (by omega) (by omega),if_pos (by omega)]
 · simp only [h0,decide_false,cond_false]
   rw [wr_of _ (by omega) (by omega)]
   by_cases hz:l=0
   · subst hz;rfl
   · rw [if_neg (by omega)]
def inB (a b c:Int):Bool:=decide (b≤a) && decide (a≤c)
theorem zaN {a b c:Int}:inB a b c=true↔b≤a∧a≤c:=by simp [inB]
theorem za8 (a b c:Int):zau a b c=inB a b c:=by simp [zau,inB]
theorem zbH (a b c:Int):zay a b c=inB a b c:=by simp [zay,inB]
def varsB (v:Int):Bool:=inB v 0 12
theorem varsB_iff {v:Int}:varsB v=true↔0≤v∧v≤12:=zaN
theorem zdE (v:Int):za2 v=varsB v:=za8 _ _ _
theorem zdF (v:Int):zbh v=varsB v:=zbH _ _ _
def litB (v l:Int):Bool:=inB l (wr (-v)) v && !(l == 0)
theorem spec_l2Lit_eq (v l:Int):zbB v l=litB v l:=by simp [zbB,litB,za8]
theorem impl_isLiteral_eq (v l:Int):zby v l=litB v l:=by simp [zby,litB,zbH,Bool.and_comm]
def zaO (v:Int) (c:List Int):Bool:=varsB v && (c.all (litB v) && adj (fun a b=>decide (vr a < vr b)) c)
theorem spec_l2Clause_eq {v:Int} {c:List Int} (hc:okL okI c):zcU v c=some (zaO v c):=by
 unfold zcU zaO
 rw [zdE]
 cases hv:varsB v with
 | false=>rfl
 | true =>
  simp only [Bool.not_true,cond_false,Bool.true_and]
  rw [forL_any (p:=fun i y => !litB v y || match i with|0=>false|i + 1=>match c[i]? with|some x=>decide (vr y≤vr x)|none=>false) (v:=false) (fun i y hy=>by
   rw [spec_l2Lit_eq]
   cases hl:litB v y with
   | false=>simp
   | true =>
    cases i with
    | zero=>simp
    | succ i =>
     have hi:i + 1 < c.length:=(List.getElem?_eq_some_iff.1 hy).1
     have hp:decide ((0:Int) < ((i + 1:Nat):Int))=true:=by simp
     rw [hp,wr_pred (by omega) hi hc.1,zaQ]
     simp only [Nat.add_sub_cancel]
     rw [List.getElem?_eq_getElem (show i < c.length by omega)]
     simp only [Bool.not_true,cond_false,cond_true,zaa,Bool.false_or,spec_l2Var_eq]
     rfl)]
  rw [anyI_adj (q:=fun y => !litB v y) (r:=fun a b=>decide (vr a < vr b)) (by intro y _;simp) (by
   intro i x y hx hy
   simp only [hx]
   congr 1
   by_cases h:vr x < vr y
   · simp [h]
   · simp [h];omega)]
  simp only [Bool.not_not]
  cases (c.all fun y=>litB v y) && adj (fun a b=>decide (vr a < vr b)) c <;> rfl
theorem impl_IsClause_eq {v:Int} {c:List Int} (hc:okL okI c):zcO v c=some (zaO v c):=by
 unfold zcO zaO
 rw [zdF]
 rw [forL_any (p:=fun i y => !litB v y || match i with|0=>false|i + 1=>match c[i]? with|some x=>decide (vr y≤vr x)|none=>false) (v:=false) (fun i y hy=>by
  rw [impl_isLiteral_eq]
  cases hl:litB v y with
  | false=>simp
  | true =>
   cases i with
   | zero=>simp
   | succ i =>
    have hi:i + 1 < c.length:=(List.getElem?_eq_some_iff.1 hy).1
    have hp:decide ((0:Int) < ((i + 1:Nat):Int))=true:=by simp
    rw [hp,wr_pred (by omega) hi hc.1,zaQ]
    simp only [Nat.add_sub_cancel]
    rw [List.getElem?_eq_getElem (show i < c.length by omega)]
    simp only [Bool.not_true,cond_false,cond_true,zaa,Bool.false_or]
    rw [zdl (hc.2 _ (List.mem_of_getElem? hy)),zdl (hc.2 _ (List.getElem_mem _))])]
 rw [anyI_adj (q:=fun y => !litB v y) (r:=fun a b=>decide (vr a < vr b)) (by intro y _;simp) (by
  intro i x y hx hy
  simp only [hx]
  congr 1
  by_cases h:vr x < vr y
  · simp [h]
  · simp [h];omega)]
 simp only [Bool.not_not]
 cases (c.all fun y=>litB v y) && adj (fun a b=>decide (vr a < vr b)) c <;> simp
structure IsC (v:Int) (c:List Int):Prop where
 lo:0≤v
 hi:v≤12
 lit:∀ l∈c,-v≤l∧l≤v∧l≠0
 srt:c.Pairwise fun a b=>a.natAbs < b.natAbs
theorem adj_pairwise {α:Type} {r:α→α→Bool} {R:α→α→Prop} (ht:∀ a b c,R a b→R b c→R a c):∀ {l:List α},(∀ a b,a∈l→b∈l→r a b=true→R a b)→adj r l=true→l.Pairwise R:=by
 intro l
 induction l with
 | nil=>intro _ _;exact .nil
 | cons a l ih =>
  intro hr h
  cases l with
  | nil=>simp
  | cons b l =>
   simp only [adj,Bool.and_eq_true] at h
   have hp:=ih (fun x y hx hy=>hr x y (by simp [hx]) (by simp [hy])) h.2
   have hab:=hr a b (by simp) (by simp) h.1
   refine List.pairwise_cons.2 ⟨fun x hx=>?_,hp⟩
   rcases List.mem_cons.1 hx with rfl|hx
   · exact hab
   · exact ht _ _ _ hab ((List.pairwise_cons.1 hp).1 x hx)
theorem adj_of_pairwise {α:Type} {r:α→α→Bool} {l:List α} (h:l.Pairwise fun a b=>r a b=true):adj r l=true:=by
 induction l with
 | nil=>rfl
 | cons a l ih =>
  cases l with
  | nil=>rfl
  | cons b l =>
   obtain ⟨h1,h2⟩:=List.pairwise_cons.1 h
   simp only [adj,Bool.and_eq_true]
   exact ⟨h1 b (by simp),ih h2⟩
theorem litB_iff {v l:Int} (h1:0≤v) (h2:v≤12):litB v l=true↔-v≤l∧l≤v∧l≠0:=by
 unfold litB
 rw [wr_of _ (by omega) (by omega)]
 simp [inB];omega
theorem clauseB_iff {v:Int} {c:List Int}:zaO v c=true↔IsC v c:=by
 unfold zaO
 rw [Bool.and_eq_true,Bool.and_eq_true,varsB_iff,List.all_eq_true]
 constructor
 · rintro ⟨⟨h1,h2⟩,h3,h4⟩
   have hl:∀ l∈c,-v≤l∧l≤v∧l≠0:=fun l hl=>(litB_iff h1 h2).1 (h3 l hl)
   refine ⟨h1,h2,hl,adj_pairwise (R:=fun a b:Int=>a.natAbs < b.natAbs) (fun _ _ _=>Nat.lt_trans) (fun a b ha hb hr=>?_) h4⟩
   have:=hl a ha;have:=hl b hb
   simp only [decide_eq_true_eq] at hr
   rw [vr_abs (by omega) (by omega),vr_abs (by omega) (by omega)] at hr
   omega
 · rintro ⟨h1,h2,h3,h4⟩
   refine ⟨⟨h1,h2⟩,fun l hl=>(litB_iff h1 h2).2 (h3 l hl),adj_of_pairwise (List.Pairwise.imp_of_mem ?_ h4)⟩
   intro a b ha hb hr
   have:=h3 a ha;have:=h3 b hb
   simp only [decide_eq_true_eq]
   rw [vr_abs (by omega) (by omega),vr_abs (by omega) (by omega)]
   omega
theorem srt_len:∀ {c:List Int} {k n:Nat},c.Pairwise (fun a b=>a.natAbs < b.natAbs)→(∀ l∈c,k < l.natAbs∧l.natAbs≤n)→c.length + k≤max k n:=by
 intro c
 induction c with
 | nil=>intro k n _ _;simp;omega
 | cons a c ih =>
  intro k n h hl
  obtain ⟨h1,h2⟩:=List.pairwise_cons.1 h
  have ha:=hl a (by simp)
  have:=ih (k:=a.natAbs) (n:=n) h2 fun l hm=>⟨h1 l hm,(hl l (by simp [hm])).2⟩
  simp only [List.length_cons];omega
theorem IsC.len {v:Int} {c:List Int} (h:IsC v c):c.length≤12:=by
 have:=srt_len (k:=0) (n:=12) h.srt fun l hl=>by have:=h.lit l hl;have:=h.hi;omega
 omega
theorem IsC.ok {v:Int} {c:List Int} (h:IsC v c):okL okI c:=by
 refine ⟨by have:=h.len;omega,fun l hl=>?_⟩
 have:=h.lit l hl;have:=h.hi
 unfold okI;omega
def cnfB (f:Cnf):Bool:=varsB f.vars && decide (len f.clauses≤60) && f.clauses.all (zaO f.vars)
theorem spec_l2Good_eq {f:Cnf} (hf:okCnf f):zcV f=some (cnfB f):=by
 unfold zcV cnfB
 rw [zdE]
 cases hv:varsB f.vars with
 | false=>rfl
 | true =>
  have e:(decide (60 < len f.clauses)) = !decide (len f.clauses≤60):=by
   by_cases h:len f.clauses≤60
   · simp [h]
   · simp [h];omega
  simp only [Bool.not_true,cond_false,Bool.true_and]
  rw [e]
  cases hl:decide (len f.clauses≤60) with
  | false=>rfl
  | true =>
   have hlen:f.clauses.length≤60:=by have:=of_decide_eq_true hl;rw [zai] at this;omega
   simp only [Bool.not_true,cond_false,Bool.true_and]
   rw [iter_any (xs:=f.clauses) (p:=fun _ c => !zaO f.vars c) (v:=false) (fun i y hy=>by
    have hi:=(List.getElem?_eq_some_iff.1 hy).1
    have hd:decide ((i:Int) < len f.clauses)=true:=by rw [zai];simp;omega
    rw [hd,zaQ,hy]
    simp only [cond_true,zaa]
    rw [spec_l2Clause_eq (hf.2.2 _ (List.mem_of_getElem? hy)),zaa]
    cases zaO f.vars y with
    | false=>simp only [Bool.not_false,cond_true]
    | true=>rw [wr_succ hi (by omega)]) (by
    have hd:decide (((f.clauses.length:Nat):Int) < len f.clauses)=false:=by rw [zai];simp
    rw [hd,cond_false])]
   rw [anyI_any,show (f.clauses.any fun y => !zaO f.vars y) = !f.clauses.all (zaO f.vars) by rw [List.all_eq_not_any_not,Bool.not_not]]
   cases f.clauses.all (zaO f.vars) <;> rfl
theorem impl_IsCnf_eq {f:Cnf} (hf:okCnf f):zcc f=some (cnfB f):=by
 unfold zcc cnfB
 rw [zdF]
 rw [forL_any (p:=fun _ c => !zaO f.vars c) (v:=false) (fun i y hy=>by
  rw [impl_IsClause_eq (hf.2.2 _ (List.mem_of_getElem? hy)),zaa])]
 rw [anyI_any,show (f.clauses.any fun y => !zaO f.vars y) = !f.clauses.all (zaO f.vars) by rw [List.all_eq_not_any_not,Bool.not_not]]
 cases f.clauses.all (zaO f.vars) <;> simp
theorem same_eq (a b:List Int):(bif (!((len a) == (len b))) then some false else bdR (forL (S:=Unit) (X:=Bool) a (fun i23 y22 s23=>bd (ix b ((i23:Nat):Int)) (fun x74=>(bif (!(y22 == x74)) then some (Lp.rt false) else some (Lp.nx ())))) ()) (fun s23=>some true) (fun x23=>some x23))=some (a == b):=by
 rw [zai,zai]
 by_cases hl:a.length=b.length
 · have:(((a.length:Nat):Int) == ((b.length:Nat):Int))=true:=by simp [hl]
   rw [this]
   simp only [Bool.not_true,cond_false]
   rw [forL_any (p:=fun i y=>match b[i]? with|some x => !(y == x)|none=>false) (v:=false) (fun i y hy=>by
    have hi:=(List.getElem?_eq_some_iff.1 hy).1
    rw [zaQ,List.getElem?_eq_getElem (by omega),zaa])]
   have e:anyI (fun i y=>match b[i]? with|some x => !(y == x)|none=>false) a 0 = !(a == b):=by
    by_cases hab:a=b
    · subst hab
      rw [show (a == a)=true by simp]
      rw [anyI_false.2];rfl
      intro i y hy;rw [Nat.zero_add,hy];simp
    · rw [show (a == b)=false by simpa using hab]
      cases h:anyI (fun i y=>match b[i]? with|some x => !(y == x)|none=>false) a 0 with
      | true=>rfl
      | false =>
       exfalso;apply hab
       rw [anyI_false] at h
       apply List.ext_getElem hl
       intro i h1 h2
       have:=h i a[i] (by simp [h1])
       rw [Nat.zero_add,List.getElem?_eq_getElem h2] at this
       simpa using this
   rw [e];cases a == b <;> rfl
 · have:(((a.length:Nat):Int) == ((b.length:Nat):Int))=false:=by simp;omega
   rw [this]
   have:(a == b)=false:=by
    rw [beq_eq_false_iff_ne];intro e;subst e;exact hl rfl
   rw [this];rfl
theorem spec_l1Same_eq (a b:List Int):zcf a b=some (a == b):=same_eq a b
theorem zc7 (c:List Int) (l:Int):zbO c l=some (c.contains l):=by
 unfold zbO
 rw [forL_any (p:=fun _ y=>y == l) (v:=true) (fun i y _=>rfl),anyI_any]
 rw [show (c.any fun y=>y == l)=c.contains l by induction c with|nil=>rfl|cons x c ih=>rw [List.any_cons,List.contains_cons,ih,Bool.beq_comm]]
 cases c.contains l <;> rfl
theorem zc8 (c:List Int) (l:Int):zbi c l=some (c.contains l):=by unfold zbi;rw [zc7];rfl
theorem contains_any (c:List Int) (l:Int):(c.any fun y=>l == y)=c.contains l:=by induction c with
 | nil=>rfl
 | cons x c ih=>rw [List.any_cons,List.contains_cons,ih]
theorem zdX (c:List Int) (l:Int):∃ r,zcy c l=some r∧decide (0≤r)=c.contains l:=by
 unfold zcy
 rw [forL_find (p:=fun _ y=>l == y) (v:=fun i _=>(i:Int)) (fun i y _=>rfl)]
 cases h:findI (fun _ y=>l == y) c 0 with
 | none =>
  refine ⟨-1,rfl,?_⟩
  have:=findI_none.1 h
  rw [anyI_any,contains_any] at this;rw [this];rfl
 | some z =>
  obtain ⟨_,_,_,h4⟩:=findI_some h
  rw [anyI_any,contains_any] at h4
  exact ⟨_,rfl,by rw [h4];simp⟩
theorem zdG (c:List Int) (l:Int):zb5 c l=some (c.contains l):=by
 obtain ⟨r,h1,h2⟩:=zdX c l
 unfold zb5;rw [h1,zaa,h2]
end Go.PF
namespace Go.PF
open Go.Pu
theorem foldl_filter {α:Type} {p:α→Bool}:∀ {l s:List α},l.foldl (fun s y=>bif p y then s++[y] else s) s=s++l.filter p:=by
 intro l
 induction l with
 | nil=>intro s;simp
 | cons y l ih =>
  intro s
  rw [List.foldl_cons,ih]
  cases h:p y <;> simp [h]
theorem forL_filter {α X:Type} {f:Nat→α→List α→Option (Lp (List α) X)} {p:α→Bool} {l:List α} (hf:∀ i y s,l[i]?=some y→f i y s=bif p y then bd (app s [y]) fun xs=>some (.nx xs) else some (.nx s)) (hl:l.length≤lim) :
 forL l f []=some (.go (l.filter p)):=by
 have:=(forL_foldI (X:=X) (body:=f) (fun s y=>bif p y then s++[y] else s) (l:=l) (s:=[]) (fun i s=>s.length≤i) (by simp) (fun i x t hx ht=>by
  have hi:=(List.getElem?_eq_some_iff.1 hx).1
  rw [hf i x t hx]
  cases p x with
  | false=>exact ⟨rfl,by simp only [cond_false];omega⟩
  | true =>
   simp only [cond_true]
   rw [app_ok (by simp;omega),zaa]
   exact ⟨rfl,by simp;omega⟩)).1
 rw [this,foldl_filter];rfl
def zaJ (c:List Int) (v:Int):List Int:=c.filter fun y => !(vr y == v)
theorem zdH {c:List Int} {v:Int} (hl:c.length≤lim):zcg c v=some (zaJ c v):=by
 unfold zcg zaJ
 rw [forL_filter (p:=fun y => !(vr y == v)) (fun i y s _=>by rfl) hl];rfl
def putL (c:List Int) (l:Int):List Int:=c.takeWhile (fun y=>decide (vr y < vr l))++l::c.dropWhile (fun y=>decide (vr y < vr l))
theorem zcl {c:List Int} (hl:c.length≤lim):za5 c=some c:=by
 unfold za5;rw [app_ok (by simpa using hl)];rfl
theorem takeWhile_le {α:Type} {p:α→Bool} (l:List α):(l.takeWhile p).length≤l.length:=(List.takeWhile_prefix p).length_le
theorem take_takeWhile {α:Type} {p:α→Bool} (l:List α):l.take (l.takeWhile p).length=l.takeWhile p:=by
 conv=>lhs;rw [← List.takeWhile_append_dropWhile (p:=p) (l:=l)]
 rw [List.takeWhile_append_dropWhile]
 exact List.prefix_iff_eq_take.1 (List.takeWhile_prefix p) |>.symm
theorem drop_takeWhile {α:Type} {p:α→Bool} (l:List α):l.drop (l.takeWhile p).length=l.dropWhile p:=by
 have h:=List.takeWhile_append_dropWhile (p:=p) (l:=l)
 have h2:l.drop (l.takeWhile p).length=(l.takeWhile p++l.dropWhile p).drop (l.takeWhile p).length:=by rw [h]
 rw [h2,List.drop_left]
theorem spec_l2Put_eq {c:List Int} {l:Int} (hl:c.length + 1≤lim):zch c l=some (putL c l):=by
 unfold zch putL
 have hl':c.length + 1≤4294967296:=hl
 rw [iter_while (xs:=c) (p:=fun y=>decide (vr y < vr l)) (fun i y hy=>by
  have hi:=(List.getElem?_eq_some_iff.1 hy).1
  have hd:decide ((i:Int) < len c)=true:=by rw [zai];simp;omega
  rw [hd,zaQ,hy]
  simp only [cond_true,zaa,spec_l2Var_eq]
  rw [wr_succ hi (by omega)];rfl) (by
  have hd:decide (((c.length:Nat):Int) < len c)=false:=by rw [zai];simp
  rw [hd];rfl),bdR_go]
 have hk:=takeWhile_le (p:=fun y=>decide (vr y < vr l)) c
 rw [show (0:Int)=((0:Nat):Int) from rfl,cut_ok (Nat.zero_le _) hk,zaa,List.drop_zero,take_takeWhile,zcl (by omega),zaa,app_ok (by simp;omega),zaa,
  zai,cut_ok hk (Nat.le_refl _),zaa,List.take_length,drop_takeWhile,app_ok,zaa]
 · simp
 · have:=congrArg List.length (List.takeWhile_append_dropWhile (p:=fun y=>decide (vr y < vr l)) (l:=c))
   simp only [List.length_append] at this ⊢
   simp only [List.length_singleton]
   unfold lim;omega
theorem putL_length (c:List Int) (l:Int):(putL c l).length=c.length + 1:=by
 have:=congrArg List.length (List.takeWhile_append_dropWhile (p:=fun y=>decide (vr y < vr l)) (l:=c))
 unfold putL;simp only [List.length_append,List.length_cons] at this ⊢;omega
def joinL:List Int→List Int→Option (List Int)
 | s,[]=>some s
 | s,y::b=>bif s.contains (wr (-y)) then none else joinL (bif !s.contains y then putL s y else s) b
theorem spec_l2Join_eq {a b:List Int} (hl:a.length + b.length≤lim):zcY a b=some (match joinL a b with|some s=>(s,true)|none=>([],false)):=by
 unfold zcY
 rw [zcl (by omega),zaa]
 have key:∀ (F:Nat→Int→List Int→Option (Lp (List Int) (List Int×Bool))),(∀ i y s,F i y s=bd (PF.zbi s (wr (-y))) (fun r200=>(bif r200 then some (Lp.rt ([],false)) else bd (PF.zbi s y) (fun r222=>(bif (!r222) then bd (PF.zch s y) (fun r239=>some (Lp.nx r239)) else some (Lp.nx s)))))) →
  ∀ (b:List Int) (i:Nat) (s:List Int),s.length + b.length≤lim→zav F b i s=some (match joinL s b with|some s=>.go s|none=>.rt ([],false)):=by
  intro F hF b
  induction b with
  | nil=>intro i s _;rfl
  | cons y b ih =>
   intro i s hs
   simp only [List.length_cons] at hs
   rw [zav,hF,zc8,zaa,zc8,zaa,joinL]
   cases s.contains (wr (-y)) with
   | true=>rfl
   | false =>
    simp only [cond_false]
    cases s.contains y with
    | true=>simp only [Bool.not_true,cond_false];exact ih (i + 1) s (by omega)
    | false =>
     simp only [Bool.not_false,cond_true]
     rw [spec_l2Put_eq (c:=s) (by omega),zaa]
     exact ih (i + 1) _ (by rw [putL_length];omega)
 unfold forL
 rw [key _ (fun _ _ _=>rfl) b 0 a hl]
 cases joinL a b <;> rfl
abbrev Srt (c:List Int):Prop:=c.Pairwise fun a b=>a.natAbs < b.natAbs
def Sm (c:List Int):Prop:=∀ l∈c,-12≤l∧l≤12∧l≠0
theorem putL_mem {c:List Int} {l x:Int}:x∈putL c l↔x=l∨x∈c:=by
 have h:=List.takeWhile_append_dropWhile (p:=fun y=>decide (vr y < vr l)) (l:=c)
 have:x∈c↔x∈c.takeWhile (fun y=>decide (vr y < vr l))∨x∈c.dropWhile (fun y=>decide (vr y < vr l)):=by rw [← List.mem_append,h]
 unfold putL
 rw [this,List.mem_append,List.mem_cons]
 constructor
 · rintro (h|h|h)
   · exact .inr (.inl h)
   · exact .inl h
   · exact .inr (.inr h)
 · rintro (h|h|h)
   · exact .inr (.inl h)
   · exact .inl h
   · exact .inr (.inr h)
theorem putL_srt {c:List Int} {l:Int} (hc:Srt c) (hs:Sm c) (hl:-12≤l∧l≤12) (hn:∀ x∈c,x.natAbs≠l.natAbs):Srt (putL c l):=by
 have hv:∀ x∈c,(decide (vr x < vr l)=true↔x.natAbs < l.natAbs):=fun x hx=>by
  have:=hs x hx
  rw [decide_eq_true_eq,vr_abs (by omega) (by omega),vr_abs hl.1 hl.2];omega
 unfold putL
 induction c with
 | nil=>simp
 | cons y c ih =>
  obtain ⟨h1,h2⟩:=List.pairwise_cons.1 hc
  rw [List.takeWhile_cons,List.dropWhile_cons]
  by_cases hy:decide (vr y < vr l)=true
  · rw [if_pos hy,if_pos hy,List.cons_append]
    have ih:=ih h2 (fun x hx=>hs x (by simp [hx])) (fun x hx=>hn x (by simp [hx])) (fun x hx=>hv x (by simp [hx]))
    refine List.pairwise_cons.2 ⟨fun x hx=>?_,ih⟩
    rcases (putL_mem (c:=c) (l:=l)).1 hx with rfl|hx
    · exact (hv y (by simp)).1 hy
    · exact h1 x hx
  · rw [if_neg hy,if_neg hy,List.nil_append]
    have hly:l.natAbs < y.natAbs:=by
     have:=hn y (by simp)
     have h3:¬ y.natAbs < l.natAbs:=fun h=>hy ((hv y (by simp)).2 h)
     omega
    refine List.pairwise_cons.2 ⟨fun x hx=>?_,hc⟩
    rcases List.mem_cons.1 hx with rfl|hx
    · exact hly
    · have:=h1 x hx;omega
theorem joinL_spec:∀ {b s:List Int},Srt s→Sm s→Srt b→Sm b →
 (if ∃ y∈b,-y∈s then joinL s b=none else ∃ t,joinL s b=some t∧Srt t∧∀ x,x∈t↔x∈s∨x∈b):=by
 intro b
 induction b with
 | nil=>intro s hs _ _ _;simp only [List.not_mem_nil,false_and,exists_false,if_false,or_false];exact ⟨s,rfl,hs,fun _=>Iff.rfl⟩
 | cons y b ih =>
  intro s hs hs2 hb hb2
  obtain ⟨h1,h2⟩:=List.pairwise_cons.1 hb
  have hy:=hb2 y (by simp)
  have hw:wr (-y)=-y:=wr_of _ (by omega) (by omega)
  simp only [joinL,hw]
  by_cases hn:-y∈s
  · rw [if_pos ⟨y,by simp,hn⟩,List.contains_iff_mem.2 hn];rfl
  · have hnc:s.contains (-y)=false:=by rw [Bool.eq_false_iff];exact fun h=>hn (List.contains_iff_mem.1 h)
    rw [hnc,cond_false]
    by_cases hin:y∈s
    · rw [List.contains_iff_mem.2 hin]
      simp only [Bool.not_true,cond_false]
      have:=ih hs hs2 h2 (fun x hx=>hb2 x (by simp [hx]))
      have e1:(∃ z∈y::b,-z∈s)↔∃ z∈b,-z∈s:=by
       constructor
       · rintro ⟨z,hz,hz2⟩
         rcases List.mem_cons.1 hz with rfl|hz
         · exact absurd hz2 hn
         · exact ⟨z,hz,hz2⟩
       · rintro ⟨z,hz,hz2⟩;exact ⟨z,by simp [hz],hz2⟩
      simp only [e1]
      split at this
      · rename_i hex;rw [if_pos hex];exact this
      · rename_i hex
        rw [if_neg hex]
        obtain ⟨t,t1,t2,t3⟩:=this
        refine ⟨t,t1,t2,fun x=>?_⟩
        rw [t3,List.mem_cons]
        constructor
        · rintro (h|h)
          · exact .inl h
          · exact .inr (.inr h)
        · rintro (h|rfl|h)
          · exact .inl h
          · exact .inl hin
          · exact .inr h
    · have hic:s.contains y=false:=by rw [Bool.eq_false_iff];exact fun h=>hin (List.contains_iff_mem.1 h)
      rw [hic]
      simp only [Bool.not_false,cond_true]
      have hne:∀ x∈s,x.natAbs≠y.natAbs:=fun x hx e=>by
       have:x=y∨x=-y:=by omega
       rcases this with rfl|rfl
       · exact hin hx
       · exact hn hx
      have:=ih (putL_srt hs hs2 ⟨hy.1,hy.2.1⟩ hne) (fun x hx=>by
       rcases putL_mem.1 hx with rfl|hx
       · exact hy
       · exact hs2 x hx) h2 (fun x hx=>hb2 x (by simp [hx]))
      have e1:(∃ z∈y::b,-z∈s)↔∃ z∈b,-z∈putL s y:=by
       constructor
       · rintro ⟨z,hz,hz2⟩
         rcases List.mem_cons.1 hz with rfl|hz
         · exact absurd hz2 hn
         · exact ⟨z,hz,putL_mem.2 (.inr hz2)⟩
       · rintro ⟨z,hz,hz2⟩
         rcases putL_mem.1 hz2 with e|hz2
         · have:=h1 z hz;omega
         · exact ⟨z,by simp [hz],hz2⟩
      simp only [e1]
      split at this
      · rename_i hex;rw [if_pos hex];exact this
      · rename_i hex
        rw [if_neg hex]
        obtain ⟨t,t1,t2,t3⟩:=this
        refine ⟨t,t1,t2,fun x=>?_⟩
        rw [t3,putL_mem,List.mem_cons]
        constructor
        · rintro ((h|h)|h)
          · exact .inr (.inl h)
          · exact .inl h
          · exact .inr (.inr h)
        · rintro (h|h|h)
          · exact .inl (.inr h)
          · exact .inl (.inl h)
          · exact .inr h
end Go.PF
namespace Go.PF
open Go.Pu
theorem srt_unique:∀ {a b:List Int},Srt a→Srt b→(∀ x,x∈a↔x∈b)→a=b:=by
 intro a
 induction a with
 | nil =>
  intro b _ _ h
  cases b with
  | nil=>rfl
  | cons y b=>exact absurd ((h y).2 (by simp)) (by simp)
 | cons x a ih =>
  intro b ha hb h
  cases b with
  | nil=>exact absurd ((h x).1 (by simp)) (by simp)
  | cons y b =>
   obtain ⟨a1,a2⟩:=List.pairwise_cons.1 ha
   obtain ⟨b1,b2⟩:=List.pairwise_cons.1 hb
   have hxy:x=y:=by
    rcases List.mem_cons.1 ((h x).1 (by simp)) with e|e
    · exact e
    · rcases List.mem_cons.1 ((h y).2 (by simp)) with e'|e'
      · exact e'.symm
      · have:=b1 x e;have:=a1 y e';omega
   subst hxy
   rw [ih a2 b2 fun z=>?_]
   constructor
   · intro hz
     rcases List.mem_cons.1 ((h z).1 (by simp [hz])) with e|e
     · subst e;have:=a1 z hz;omega
     · exact e
   · intro hz
     rcases List.mem_cons.1 ((h z).2 (by simp [hz])) with e|e
     · subst e;have:=b1 z hz;omega
     · exact e
def cmpL (x y:Int):Int:=if zaP x < zaP y then -1 else if zaP y < zaP x then 1 else if y < x then -1 else if x < y then 1 else 0
theorem cmpL_neg {x y:Int}:cmpL x y < 0↔zaP x < zaP y∨(zaP x=zaP y∧y < x):=by
 unfold cmpL
 split
 · omega
 · split
   · omega
   · split
     · omega
     · split <;> omega
def joined (a b:List Int):List Int×Bool:=match joinL a b with|some s=>(s,true)|none=>([],false)
def res (a b:List Int) (v:Int):List Int×Bool:=bif !a.contains v || !b.contains (wr (-v)) then ([],false) else joined (zaJ a v) (zaJ b v)
theorem without_len (c:List Int) (v:Int):(zaJ c v).length≤c.length:=List.length_filter_le _ _
theorem spec_l2Resolve_eq {a b:List Int} {v:Int} (hl:a.length + b.length≤lim):zcZ a b v=some (res a b v):=by
 have h1:=without_len a v;have h2:=without_len b v
 unfold zcZ res
 rw [zc8,zaa]
 cases a.contains v with
 | false=>rfl
 | true =>
  simp only [Bool.not_true,cond_false,Bool.false_or]
  rw [zc8,zaa,zaa]
  cases b.contains (wr (-v)) with
  | false=>rfl
  | true =>
   simp only [Bool.not_true,cond_false]
   rw [zdH (by omega),zaa,zdH (by omega),zaa,spec_l2Join_eq (by omega),zaa]
   unfold joined
   cases joinL (zaJ a v) (zaJ b v) <;> rfl
theorem IsC.sm {V:Int} {c:List Int} (h:IsC V c):Sm c:=fun l hl=>by have:=h.lit l hl;have:=h.hi;omega
end Go.PF
namespace Go.PF
open Go.Pu
abbrev Asc (c:List Int):Prop:=c.Pairwise fun a b=>a < b
theorem asc_len:∀ {c:List Int} {lo hi:Int},Asc c→(∀ x∈c,lo < x∧x≤hi)→(c.length:Int)≤max 0 (hi - lo):=by
 intro c
 induction c with
 | nil=>intro lo hi _ _;simp only [List.length_nil];omega
 | cons a c ih =>
  intro lo hi h hl
  obtain ⟨h1,h2⟩:=List.pairwise_cons.1 h
  have ha:=hl a (by simp)
  have:=ih (lo:=a) (hi:=hi) h2 fun x hx=>⟨h1 x hx,(hl x (by simp [hx])).2⟩
  simp only [List.length_cons];omega
end Go.PF
namespace Go.PF
open Go.Pu
structure Le {A:Type} (x y:Option A):Prop where
 le:∀ r,x=some r→y=some r
theorem Le.rfl' {A:Type} (x:Option A):Le x x:=⟨fun _ h=>h⟩
def iterC {S X:Type}:Nat→(S→Option (Lp S X))→S→Option (Rs S X)
 | 0,_,_=>none
 | n + 1,b,s=>match b s with
  | none=>none
  | some (.nx s')=>iterC n b s'
  | some (.bk s')=>some (.go s')
  | some (.rt x)=>some (.rt x)
theorem iterC_le {S X:Type} {f g:S→Option (Lp S X)} (h:∀ s,Le (f s) (g s)) (n:Nat) (s:S):Le (iterC n f s) (iter g s):=by
 constructor
 induction n generalizing s with
 | zero=>intro r e;cases e
 | succ n ih =>
  intro r e
  unfold iterC at e
  split at e
  · cases e
  · rename_i s' hb;rw [zbF ((h s).le _ hb)];exact ih _ _ e
  · rename_i s' hb;cases e;exact zba ((h s).le _ hb)
  · rename_i x hb;cases e;exact iter_rt ((h s).le _ hb)
theorem bd_le {A B:Type} {x y:Option A} {k l:A→Option B} (h:Le x y) (hk:∀ a,Le (k a) (l a)):Le (bd x k) (bd y l):=by
 constructor
 intro r e
 obtain ⟨a,h1,h2⟩:=bnd e
 rw [h.le _ h1,zaa];exact (hk a).le _ h2
theorem bdR_le {S X B:Type} {x y:Option (Rs S X)} {k k':S→Option B} {l l':X→Option B} (h:Le x y) (hk:∀ a,Le (k a) (k' a)) (hl:∀ a,Le (l a) (l' a)):Le (bdR x k l) (bdR y k' l'):=by
 unfold bdR
 refine bd_le h fun a=>?_
 cases a with
 | go s=>exact hk s
 | rt x=>exact hl x
end Go.PF
namespace Go.PF
open Go.Pu
structure okC (n:Nat) (c:l1Cur):Prop where
 code:okL okU8 c.code
 lo:0≤c.at_
 hi:c.at_ + n≤4611686018427387904
theorem okC.le {n m:Nat} {c:l1Cur} (h:okC n c) (hm:m≤n:=by omega):okC m c:=⟨h.code,h.lo,by have:=h.hi;omega⟩
def Dr {A:Type} (n:Nat) (x:Option (A×l1Cur)) (Q:A→Prop):Prop:=∃ a c,x=some (a,c)∧okC n c∧Q a
theorem wrk_nn {n:Int} (h0:0≤n) (h1:n < 9223372036854775808):wrk true 64 n=n:=by
 unfold wrk
 have h2:(n % (2 ^ 64:Int))=n:=Int.emod_eq_of_lt h0 (by omega)
 rw [h2]
 simp only [Bool.true_and]
 rw [if_neg]
 simp
 omega
theorem andK_small (x:Int):0≤andK false 64 x 255∧andK false 64 x 255≤255:=by
 unfold andK
 have h:((BitVec.ofInt 64 x &&& BitVec.ofInt 64 255).toNat:Int)≤255:=by
  rw [BitVec.toNat_and]
  have:(BitVec.ofInt 64 x).toNat &&& (BitVec.ofInt 64 255).toNat≤(BitVec.ofInt 64 255).toNat:=Nat.and_le_right
  have e:(BitVec.ofInt 64 255).toNat=255:=by decide
  omega
 generalize hk:((BitVec.ofInt 64 x &&& BitVec.ofInt 64 255).toNat:Int)=k at *
 have h0:0≤k:=by rw [← hk];exact Int.natCast_nonneg _
 unfold wrk
 simp only [Bool.false_and,Bool.false_eq_true,if_false]
 rw [Int.emod_eq_of_lt h0 (by omega)]
 exact ⟨h0,h⟩
theorem dr_next {n:Nat} {c:l1Cur} (h:okC (n + 1) c):Dr n (zb2 c) fun b=>0≤b∧b≤255:=by
 have hl:=h.lo;have hh:=h.hi
 have hw:wr (c.at_ + 1)=c.at_ + 1:=wr_of _ (by omega) (by omega)
 have tail:∀ s:Int,0≤s→s≤255→Dr n (bif (decide ((wr (c.at_ + 1))≤(len c.code))) then some (s,(l1Cur.mk c.code (wr (c.at_ + 1)) (wrk false 64 ((wrk false 64 ((wrk false 64 (c.seed * 6364136223846793005)) + (wrk false 64 s))) + 337411)))) else some ((wrk true 64 (andK false 64 (shrK 64 (wrk false 64 ((wrk false 64 ((wrk false 64 (c.seed * 6364136223846793005)) + (wrk false 64 s))) + 337411)) 40) 255)),(l1Cur.mk c.code (wr (c.at_ + 1)) (wrk false 64 ((wrk false 64 ((wrk false 64 (c.seed * 6364136223846793005)) + (wrk false 64 s))) + 337411))))) (fun b=>0≤b∧b≤255):=by
  intro s h0 h1
  rw [hw]
  cases decide (c.at_ + 1≤len c.code)
  · have:=andK_small (shrK 64 (wrk false 64 ((wrk false 64 ((wrk false 64 (c.seed * 6364136223846793005)) + (wrk false 64 s))) + 337411)) 40)
    refine ⟨_,_,rfl,⟨h.code,by show 0≤c.at_ + 1;omega,by show c.at_ + 1 + _≤_;omega⟩,?_⟩
    show 0≤wrk true 64 _∧wrk true 64 _≤255
    rw [wrk_nn this.1 (by omega)];exact this
  · exact ⟨_,_,rfl,⟨h.code,by show 0≤c.at_ + 1;omega,by show c.at_ + 1 + _≤_;omega⟩,h0,h1⟩
 unfold zb2
 cases hd:decide (c.at_ < len c.code) with
 | false=>exact tail 0 (by omega) (by omega)
 | true =>
  have h2:c.at_ < c.code.length:=of_decide_eq_true hd
  obtain ⟨x,hx,hg⟩:=ix_of h.lo h2
  have hm:=h.code.2 x (List.mem_of_getElem? hg)
  simp only [cond_true]
  rw [hx,zaa,bdR_go,wrk_nn hm.1 (by have:=hm.2;omega)]
  exact tail x hm.1 hm.2
theorem Dr.bind {A B:Type} {n m:Nat} {x:Option (A×l1Cur)} {Q:A→Prop} {k:A×l1Cur→Option (B×l1Cur)} {R:B→Prop} (h:Dr n x Q) (hk:∀ a c,okC n c→Q a→Dr m (k (a,c)) R):Dr m (bd x k) R:=by
 obtain ⟨a,c,rfl,hc,hq⟩:=h
 exact hk a c hc hq
theorem zaW {n:Nat} {c:l1Cur} (h:okC (n + 2) c) (k:Int):Dr n (zaH c k) fun x=>0≤x∧x≤65535∧(x=0∨x < k):=by
 unfold zaH
 cases hd:decide (k≤1) with
 | true=>exact ⟨_,_,rfl,h.le,by omega,by omega,.inl rfl⟩
 | false =>
  have hk:1 < k:=by have:=of_decide_eq_false hd;omega
  have hz:nz k=some ():=by unfold nz;rw [if_neg (by omega)]
  simp only [cond_false]
  have small:∀ x:Int,0≤x→x≤65535→0≤x.tmod k∧x.tmod k≤65535∧(x.tmod k=0∨x.tmod k < k):=fun x h0 h1=>by
   rw [Int.tmod_eq_emod_of_nonneg h0]
   have g1:=Int.emod_nonneg x (show k≠0 by omega)
   have g2:=Int.emod_lt_of_pos x (show 0 < k by omega)
   have g3:x % k≤x:=by
    have e:=Int.mul_ediv_add_emod x k
    have:=Int.mul_nonneg (show 0≤k by omega) (Int.ediv_nonneg h0 (show 0≤k by omega))
    omega
   exact ⟨g1,by omega,.inr g2⟩
  refine (dr_next (n:=n + 1) h).bind fun b c1 hc1 hb=>?_
  cases decide (200 < k) with
  | true =>
   simp only [cond_true]
   refine (dr_next (n:=n) hc1).bind fun b2 c2 hc2 hb2=>?_
   rw [hz,zaa]
   have e1:wr (b * 256)=b * 256:=wr_of _ (by omega) (by omega)
   have e2:wr (b * 256 + b2)=b * 256 + b2:=wr_of _ (by omega) (by omega)
   exact ⟨_,_,rfl,hc2,by show 0≤(wr (wr (b * 256) + b2)).tmod k∧_;rw [e1,e2];exact small _ (by omega) (by omega)⟩
  | false =>
   simp only [cond_false]
   rw [hz,zaa]
   exact ⟨_,_,rfl,hc1.le,small b hb.1 (by omega)⟩
theorem dr_one {n:Nat} {c:l1Cur} (h:okC (n + 2) c) (k:Int):Dr n (za9 c k) fun _=>True:=by
 unfold za9
 exact (zaW h k).bind fun a c1 h1 _=>⟨_,_,rfl,h1,trivial⟩
theorem dr_ix {A:Type} {l:List A} (h:l≠[]) {x:Int} (h0:0≤x) (h1:x=0∨x < len l):∃ y,ix l x=some y∧y∈l:=by
 have hl:0 < l.length:=List.length_pos_iff.2 h
 rw [zai] at h1
 obtain ⟨y,hy,hg⟩:=ix_of (xs:=l) h0 (by omega)
 exact ⟨y,hy,List.mem_of_getElem? hg⟩
theorem zbI {n:Nat} {c:l1Cur} (h:okC (n + 2) c) {l:List Int} (hl:l≠[]):Dr n (za1 c l) fun x=>x∈l:=by
 unfold za1
 refine (zaW h (len l)).bind fun a c1 h1 hq=>?_
 obtain ⟨y,hy,hm⟩:=dr_ix hl hq.1 hq.2.2
 show Dr n (bd (ix l a) _) _
 rw [hy]
 exact ⟨_,_,rfl,h1,hm⟩
theorem iter_near {T X:Type} {body:T→Option (Lp T X)} (m:T→Nat) (I:T→Prop) (P:Rs T X→Prop)
 (h:∀ s,I s→(∃ s',body s=some (.nx s')∧I s'∧m s' < m s)∨(∃ s',body s=some (.bk s')∧P (.go s'))∨∃ x,body s=some (.rt x)∧P (.rt x)):∀ s,I s→∃ q,iter body s=some q∧P q:=by
 have key:∀ k s,m s < k→I s→∃ q,iter body s=some q∧P q:=by
  intro k
  induction k with
  | zero=>intro s hk;omega
  | succ k ih =>
   intro s hk hi
   rcases h s hi with ⟨s',hb,hi',hm⟩|⟨s',hb,hp⟩|⟨x,hb,hp⟩
   · obtain ⟨q,hq,hp⟩:=ih s' (by omega) hi'
     exact ⟨q,(zbF hb).trans hq,hp⟩
   · exact ⟨_,zba hb,hp⟩
   · exact ⟨_,iter_rt hb,hp⟩
 intro s hi
 exact key _ s (Nat.lt_succ_self _) hi
theorem dr_loop {T B:Type} {body:T→Option (Lp T Empty)} {s0:T} {k:T→Option (B×l1Cur)} {lx:Empty→Option (B×l1Cur)} {n:Nat} {R:B→Prop} (m:T→Nat) (I:T→Prop) (J:T→Prop)
 (h0:I s0) (h:∀ s,I s→(∃ s',body s=some (.nx s')∧I s'∧m s' < m s)∨(∃ s',body s=some (.bk s')∧J s')) (hk:∀ s,J s→Dr n (k s) R):Dr n (bdR (iter body s0) k lx) R:=by
 obtain ⟨q,hq,hp⟩:=iter_near (body:=body) m I (fun q=>match q with|.go s=>J s|.rt x=>x.elim) (fun s hs=>by
  rcases h s hs with g|g
  · exact .inl g
  · exact .inr (.inl g)) s0 h0
 rw [hq]
 cases q with
 | go s=>exact hk s hp
 | rt x=>exact x.elim
theorem loop_ex {T B:Type} {body:T→Option (Lp T Empty)} {s0:T} {k:T→Option B} {lx:Empty→Option B} {R:B→Prop} (m:T→Nat) (I:T→Prop) (J:T→Prop)
 (h0:I s0) (h:∀ s,I s→(∃ s',body s=some (.nx s')∧I s'∧m s' < m s)∨(∃ s',body s=some (.bk s')∧J s')) (hk:∀ s,J s→∃ r,k s=some r∧R r):∃ r,bdR (iter body s0) k lx=some r∧R r:=by
 obtain ⟨q,hq,hp⟩:=iter_near (body:=body) m I (fun q=>match q with|.go s=>J s|.rt x=>x.elim) (fun s hs=>by
  rcases h s hs with g|g
  · exact .inl g
  · exact .inr (.inl g)) s0 h0
 rw [hq]
 cases q with
 | go s=>exact hk s hp
 | rt x=>exact x.elim
theorem nx_of {T X:Type} {x:Option (Lp T X)} {P:T→Prop} (h:∃ r,x=some r∧∃ s',r=.nx s'∧P s'):∃ s',x=some (.nx s')∧P s':=by
 obtain ⟨r,e,s',rfl,hp⟩:=h;exact ⟨s',e,hp⟩
end Go.PF
namespace Go.PF
open Go.Pu
theorem zbY {V:Int} {c:List Int} (hc:IsC V c) {v x:Int} (h1:1≤v):x∈zaJ c v↔x∈c∧x.natAbs≠v.natAbs:=by
 unfold zaJ
 rw [List.mem_filter]
 refine and_congr_right fun hx=>?_
 have:=hc.lit x hx;have:=hc.hi
 rw [vr_abs (by omega) (by omega)]
 simp only [Bool.not_eq_true',beq_eq_false_iff_ne,ne_eq]
 omega
theorem srt_one {V:Int} {c:List Int} (hc:IsC V c) {x y:Int} (hx:x∈c) (hy:y∈c) (h:x.natAbs=y.natAbs:=by omega):x=y:=by
 have hp:=hc.srt
 obtain ⟨i,hi⟩:=List.getElem?_of_mem hx
 obtain ⟨j,hj⟩:=List.getElem?_of_mem hy
 have hij:i=j:=by
  rcases Nat.lt_trichotomy i j with g|g|g
  · have:=List.pairwise_iff_getElem.1 hp i j (List.getElem?_eq_some_iff.1 hi).1 (List.getElem?_eq_some_iff.1 hj).1 g
    rw [(List.getElem?_eq_some_iff.1 hi).2,(List.getElem?_eq_some_iff.1 hj).2] at this
    omega
  · exact g
  · have:=List.pairwise_iff_getElem.1 hp j i (List.getElem?_eq_some_iff.1 hj).1 (List.getElem?_eq_some_iff.1 hi).1 g
    rw [(List.getElem?_eq_some_iff.1 hi).2,(List.getElem?_eq_some_iff.1 hj).2] at this
    omega
 subst hij
 rw [hi] at hj
 exact Option.some.inj hj
theorem res_iff {V:Int} {a b:List Int} (ha:IsC V a) (hb:IsC V b) {v:Int} (h1:1≤v) (h2:v≤V) :
 ((res a b v).2=true↔v∈a∧-v∈b∧∀ x∈a,-x∈b→x=v) ∧
 ((res a b v).2=true→∀ x,x∈(res a b v).1↔(x∈a∨x∈b)∧x.natAbs≠v.natAbs):=by
 have hV:=ha.hi
 have hw:wr (-v)=-v:=wr_of _ (by omega) (by omega)
 unfold res
 rw [hw]
 by_cases m1:v∈a
 · by_cases m2:-v∈b
   · rw [List.contains_iff_mem.2 m1,List.contains_iff_mem.2 m2]
     simp only [Bool.not_true,Bool.or_self,cond_false]
     have hs:=joinL_spec (b:=zaJ b v) (s:=zaJ a v) (ha.srt.filter _) (fun x hx=>ha.sm x (List.mem_filter.1 hx).1) (hb.srt.filter _) (fun x hx=>hb.sm x (List.mem_filter.1 hx).1)
     unfold joined
     by_cases hx:∃ y∈zaJ b v,-y∈zaJ a v
     · rw [if_pos hx] at hs
       rw [hs]
       refine ⟨⟨fun h=>(by cases h),fun h=>?_⟩,fun h=>(by cases h)⟩
       exfalso
       obtain ⟨y,hy,hy2⟩:=hx
       rw [zbY hb h1] at hy
       rw [zbY ha h1] at hy2
       have:=h.2.2 (-y) hy2.1 (by rw [Int.neg_neg];exact hy.1)
       omega
     · rw [if_neg hx] at hs
       obtain ⟨t,e,hst,hm⟩:=hs
       rw [e]
       refine ⟨⟨fun _=>⟨m1,m2,fun x hxa hxb=>?_⟩,fun _=>rfl⟩,fun _ x=>?_⟩
       · by_cases hne:x.natAbs=v.natAbs
         · rcases Int.natAbs_eq_natAbs_iff.1 hne with h|h
           · exact h
           · exfalso
             subst h
             have:=srt_one ha m1 hxa
             omega
         · exact absurd ⟨-x,(zbY hb h1).2 ⟨hxb,by omega⟩,by rw [Int.neg_neg];exact (zbY ha h1).2 ⟨hxa,hne⟩⟩ hx
       · rw [hm,zbY ha h1,zbY hb h1,← or_and_right]
   · have:b.contains (-v)=false:=by rw [Bool.eq_false_iff];exact fun h=>m2 (List.contains_iff_mem.1 h)
     rw [this]
     simp only [Bool.not_false,Bool.or_true,cond_true]
     exact ⟨⟨fun h=>(by cases h),fun h=>absurd h.2.1 m2⟩,fun h=>(by cases h)⟩
 · have:a.contains v=false:=by rw [Bool.eq_false_iff];exact fun h=>m1 (List.contains_iff_mem.1 h)
   rw [this]
   simp only [Bool.not_false,Bool.true_or,cond_true]
   exact ⟨⟨fun h=>(by cases h),fun h=>absurd h.1 m1⟩,fun h=>(by cases h)⟩
end Go.PF
namespace Go.PF
open Go.Pu
def lexC:List Int→List Int→Int
 | [],[]=>0
 | [],_::_=>-1
 | _::_,[]=>1
 | x::a,y::b=>bif !(cmpL x y == 0) then cmpL x y else lexC a b
def cmpC (a b:List Int):Int:=if a.length < b.length then -1 else if b.length < a.length then 1 else lexC a b
theorem cmpL_zero {x y:Int}:cmpL x y=0↔x=y:=by
 unfold cmpL
 constructor
 · intro h
   split at h
   · omega
   · split at h
     · omega
     · split at h
       · omega
       · split at h <;> omega
 · rintro rfl;simp
theorem zcm {x y:Int} {a b:List Int}:lexC (x::a) (y::b) < 0↔cmpL x y < 0∨(x=y∧lexC a b < 0):=by
 simp only [lexC]
 by_cases h:x=y
 · have h0:cmpL x y=0:=cmpL_zero.2 h
   rw [show (cmpL x y == 0)=true by rw [beq_iff_eq];exact h0,Bool.not_true,cond_false,h0]
   exact ⟨fun h1=>.inr ⟨h,h1⟩,fun h1=>h1.elim (fun h2=>absurd h2 (by decide)) fun h2=>h2.2⟩
 · rw [show (cmpL x y == 0)=false by rw [beq_eq_false_iff_ne];exact fun h1=>h (cmpL_zero.1 h1),Bool.not_false,cond_true]
   exact ⟨.inl,fun h1=>h1.elim id fun h2=>absurd h2.1 h⟩
theorem lexC_irrefl:∀ a:List Int,¬ lexC a a < 0
 | []=>by simp [lexC]
 | x::a=>by
  rw [zcm,cmpL_zero.2 rfl]
  rintro (h|h)
  · exact absurd h (by decide)
  · exact lexC_irrefl a h.2
theorem cmpL_trans {x y z:Int} (h1:cmpL x y < 0) (h2:cmpL y z < 0):cmpL x z < 0:=by
 rw [cmpL_neg] at *;omega
theorem lexC_trans:∀ {a b c:List Int},lexC a b < 0→lexC b c < 0→lexC a c < 0
 | [],[],_,h,_=>absurd h (by simp [lexC])
 | [],_::_,[],_,h=>absurd h (by simp [lexC])
 | [],_::_,_::_,_,_=>by simp [lexC]
 | _::_,[],_,h,_=>absurd h (by simp [lexC])
 | _::_,_::_,[],_,h=>absurd h (by simp [lexC])
 | x::a,y::b,z::c,h1,h2=>by
  rw [zcm] at *
  rcases h1 with h1|⟨rfl,h1⟩
  · rcases h2 with h2|⟨rfl,h2⟩
    · exact .inl (cmpL_trans h1 h2)
    · exact .inl h1
  · rcases h2 with h2|⟨rfl,h2⟩
    · exact .inl h2
    · exact .inr ⟨rfl,lexC_trans h1 h2⟩
theorem lexC_total:∀ {a b:List Int},¬ lexC a b < 0→¬ lexC b a < 0→a=b
 | [],[],_,_=>rfl
 | [],_::_,h,_=>absurd (by simp [lexC]) h
 | _::_,[],_,h=>absurd (by simp [lexC]) h
 | x::a,y::b,h1,h2=>by
  rw [zcm] at *
  have e:x=y:=by
   by_cases hx:cmpL x y < 0
   · exact absurd (.inl hx) h1
   · by_cases hy:cmpL y x < 0
     · exact absurd (.inl hy) h2
     · rw [cmpL_neg] at hx hy;omega
  subst e
  rw [lexC_total (fun h=>h1 (.inr ⟨rfl,h⟩)) (fun h=>h2 (.inr ⟨rfl,h⟩))]
theorem zbZ {a b:List Int}:cmpC a b < 0↔a.length < b.length∨(a.length=b.length∧lexC a b < 0):=by
 unfold cmpC
 by_cases h1:a.length < b.length
 · rw [if_pos h1];exact ⟨fun _=>.inl h1,fun _=>by decide⟩
 · rw [if_neg h1]
   by_cases h2:b.length < a.length
   · rw [if_pos h2];exact ⟨fun h=>absurd h (by decide),fun h=>by omega⟩
   · rw [if_neg h2];exact ⟨fun h=>.inr ⟨by omega,h⟩,fun h=>h.elim (fun h=>absurd h h1) fun h=>h.2⟩
theorem zcn (a:List Int):¬ cmpC a a < 0:=by
 rw [zbZ]
 rintro (h|h)
 · omega
 · exact lexC_irrefl a h.2
theorem cmpC_trans {a b c:List Int} (h1:cmpC a b < 0) (h2:cmpC b c < 0):cmpC a c < 0:=by
 rw [zbZ] at *
 rcases h1 with h1|⟨e1,h1⟩
 · exact .inl (by omega)
 · rcases h2 with h2|⟨e2,h2⟩
   · exact .inl (by omega)
   · exact .inr ⟨by omega,lexC_trans h1 h2⟩
theorem cmpC_total {a b:List Int} (h1:¬ cmpC a b < 0) (h2:¬ cmpC b a < 0):a=b:=by
 rw [zbZ] at *
 have e:a.length=b.length:=by omega
 exact lexC_total (fun h=>h1 (.inr ⟨e,h⟩)) (fun h=>h2 (.inr ⟨e.symm,h⟩))
def sm (c:List Int):Prop:=∀ x∈c,-12≤x∧x≤12∧x≠0
theorem key_lt {x y:Int} (hx:-12≤x∧x≤12∧x≠0) (hy:-12≤y∧y≤12∧y≠0):zaK x < zaK y↔cmpL x y < 0:=by
 have hk:∀ z:Int,-12≤z∧z≤12∧z≠0→zaK z=if z < 0 then -2 * z + 1 else 2 * z:=fun z hz=>by
  unfold zaK
  by_cases h:z < 0
  · have e:wr (-2 * z)=-2 * z:=wr_of _ (by omega) (by omega)
    rw [show decide (z < 0)=true from decide_eq_true h,cond_true,if_pos h,e]
    exact wr_of _ (by omega) (by omega)
  · rw [show decide (z < 0)=false from decide_eq_false h,cond_false,if_neg h]
    exact wr_of _ (by omega) (by omega)
 have ha:∀ z:Int,-12≤z∧z≤12∧z≠0→zaP z=z.natAbs:=fun z hz=>by
  rw [zdl (by unfold okI;omega),vr_abs (by omega) (by omega)]
 rw [cmpL_neg,hk x hx,hk y hy,ha x hx,ha y hy]
 split <;> split <;> omega
theorem before_loop {f:Nat→Int→Unit→Option (Lp Unit Bool)} {b:List Int} (hb:sm b)
 (hf:∀ i y s,f i y s=bd (ix b ((i:Nat):Int)) fun x=>bif !(y == x) then bd (ix b ((i:Nat):Int)) fun x2=>some (Lp.rt (decide (zaK y < zaK x2))) else some (Lp.nx ())) :
 ∀ {a:List Int} {i:Nat},sm a→a.length + i=b.length→bdR (zav f a i ()) (fun _=>some false) (fun x=>some x)=some (decide (lexC a (b.drop i) < 0)):=by
 intro a
 induction a with
 | nil =>
  intro i _ hi
  simp only [List.length_nil] at hi
  rw [List.drop_eq_nil_of_le (by omega)];rfl
 | cons x a ih =>
  intro i hs hi
  simp only [List.length_cons] at hi
  have h:i < b.length:=by omega
  rw [List.drop_eq_getElem_cons h]
  have e:f i x ()=bif !(x == b[i]) then some (Lp.rt (decide (zaK x < zaK b[i]))) else some (Lp.nx ()):=by
   rw [hf,zaQ,List.getElem?_eq_getElem h,zaa,zaa]
  by_cases hx:x=b[i]
  · have e2:f i x ()=some (Lp.nx ()):=by rw [e,show (x == b[i])=true by rw [beq_iff_eq];exact hx];rfl
    simp only [zav,e2]
    rw [ih (fun z hz=>hs z (by simp [hz])) (by omega)]
    congr 1
    rw [decide_eq_decide,zcm]
    exact ⟨fun h1=>.inr ⟨hx,h1⟩,fun h1=>h1.elim (fun h2=>by rw [cmpL_zero.2 hx] at h2;exact absurd h2 (by decide)) fun h2=>h2.2⟩
  · have e2:f i x ()=some (Lp.rt (decide (zaK x < zaK b[i]))):=by rw [e,show (x == b[i])=false by rw [beq_eq_false_iff_ne];exact hx];rfl
    simp only [zav,e2]
    show some (decide _)=some (decide _)
    congr 1
    rw [decide_eq_decide,zcm,key_lt (hs x (by simp)) (hb _ (List.getElem_mem h))]
    exact ⟨.inl,fun h1=>h1.elim id fun h2=>absurd h2.1 hx⟩
theorem zdI {a b:List Int} (ha:sm a) (hb:sm b):zce a b=some (decide (cmpC a b < 0)):=by
 unfold zce
 by_cases h:a.length=b.length
 · rw [show (len a == len b)=true by rw [beq_iff_eq,zai,zai];omega,Bool.not_true,cond_false]
   unfold forL
   rw [before_loop hb (fun _ _ _=>rfl) ha (by omega),List.drop_zero]
   congr 1
   rw [decide_eq_decide,zbZ]
   exact ⟨fun h1=>.inr ⟨h,h1⟩,fun h1=>h1.elim (fun h2=>by omega) fun h2=>h2.2⟩
 · rw [show (len a == len b)=false by rw [beq_eq_false_iff_ne,zai,zai];omega,Bool.not_false,cond_true]
   congr 1
   rw [decide_eq_decide,zbZ,zai,zai]
   exact ⟨fun h1=>.inl (by omega),fun h1=>h1.elim (fun h2=>by omega) fun h2=>absurd h2.1 h⟩
abbrev SrtC (xs:List (List Int)):Prop:=xs.Pairwise fun a b=>cmpC a b < 0
end Go.PF
namespace Go.PF
open Go.Pu
theorem bsearch {X:Type} {body:Int×Int→Option (Lp (Int×Int) X)} {n P:Nat} (hP:P≤n)
 (h:∀ a b:Nat,a < b→b≤n→body ((a:Int),(b:Int))=some (.nx (if (a + b) / 2 < P then ((((a + b) / 2 + 1:Nat):Int),(b:Int)) else ((a:Int),(((a + b) / 2:Nat):Int)))))
 (he:∀ a:Nat,a≤n→body ((a:Int),(a:Int))=some (.bk ((a:Int),(a:Int)))) :
 iter body (0,(n:Int))=some (.go ((P:Int),(P:Int))):=by
 have key:∀ (m a b:Nat),b - a≤m→a≤P→P≤b→b≤n→iter body ((a:Int),(b:Int))=some (.go ((P:Int),(P:Int))):=by
  intro m
  induction m with
  | zero =>
   intro a b hm h1 h2 h3
   have e1:a=P:=by omega
   have e2:b=P:=by omega
   rw [e1,e2];exact zba (he _ hP)
  | succ m ih =>
   intro a b hm h1 h2 h3
   by_cases hab:a < b
   · rw [zbF (h a b hab h3)]
     by_cases hc:(a + b) / 2 < P
     · rw [if_pos hc];exact ih _ _ (by omega) (by omega) h2 h3
     · rw [if_neg hc];exact ih _ _ (by omega) h1 (by omega) (by omega)
   · have e1:a=P:=by omega
     have e2:b=P:=by omega
     rw [e1,e2];exact zba (he _ hP)
 have:=key n 0 n (by omega) (by omega) hP (Nat.le_refl _)
 simpa using this
def plc (xs:List (List Int)) (c:List Int):Nat:=(xs.takeWhile fun a=>decide (cmpC a c < 0)).length
theorem plc_le (xs:List (List Int)) (c:List Int):plc xs c≤xs.length:=(List.takeWhile_prefix _).length_le
theorem plc_lt:∀ {xs:List (List Int)} {c:List Int},SrtC xs→∀ {i:Nat} {x:List Int},xs[i]?=some x→(cmpC x c < 0↔i < plc xs c)
 | [],_,_,_,_,h=>by simp at h
 | a::xs,c,hs,i,x,h=>by
  obtain ⟨a1,a2⟩:=List.pairwise_cons.1 hs
  unfold plc
  rw [List.takeWhile_cons]
  by_cases hc:cmpC a c < 0
  · rw [if_pos (by simp [hc])]
    cases i with
    | zero=>simp at h;subst h;simp [hc]
    | succ i =>
     rw [List.getElem?_cons_succ] at h
     have:=plc_lt a2 (c:=c) h
     unfold plc at this
     rw [this,List.length_cons];omega
  · rw [if_neg (by simp [hc])]
    cases i with
    | zero=>simp at h;subst h;simp [hc]
    | succ i =>
     rw [List.getElem?_cons_succ] at h
     exact ⟨fun h1=>absurd (cmpC_trans (a1 x (List.mem_of_getElem? h)) h1) hc,fun h1=>absurd h1 (by simp)⟩
theorem plc_mem {xs:List (List Int)} {c:List Int} (hs:SrtC xs):c∈xs↔xs[plc xs c]?=some c:=by
 constructor
 · intro h
   obtain ⟨i,hi⟩:=List.mem_iff_getElem?.1 h
   have h1:¬ i < plc xs c:=fun h=>zcn c ((plc_lt hs hi).2 h)
   by_cases h2:plc xs c < i
   · have hil:i < xs.length:=(List.getElem?_eq_some_iff.1 hi).1
     obtain ⟨x,hx⟩:∃ x,xs[plc xs c]?=some x:=⟨_,List.getElem?_eq_getElem (by omega)⟩
     have h3:=List.pairwise_iff_getElem.1 hs (plc xs c) i (by omega) hil h2
     rw [List.getElem?_eq_some_iff] at hx hi
     obtain ⟨_,hx⟩:=hx
     obtain ⟨_,hi⟩:=hi
     rw [hx,hi] at h3
     exact absurd ((plc_lt hs (List.getElem?_eq_some_iff.2 ⟨_,hx⟩)).1 h3) (Nat.lt_irrefl _)
   · rw [show plc xs c=i by omega];exact hi
 · exact fun h=>List.mem_of_getElem? h
def insC (xs:List (List Int)) (c:List Int):List (List Int):=xs.take (plc xs c)++c::xs.drop (plc xs c)
theorem insC_mem {xs:List (List Int)} {c x:List Int}:x∈insC xs c↔x=c∨x∈xs:=by
 unfold insC
 have e:=List.take_append_drop (plc xs c) xs
 constructor
 · intro h
   rcases List.mem_append.1 h with h|h
   · exact .inr (List.mem_of_mem_take h)
   · rcases List.mem_cons.1 h with h|h
     · exact .inl h
     · exact .inr (List.mem_of_mem_drop h)
 · rintro (rfl|h)
   · simp
   · rw [← e] at h
     rcases List.mem_append.1 h with h|h
     · exact List.mem_append_left _ h
     · exact List.mem_append_right _ (List.mem_cons_of_mem _ h)
theorem insC_len (xs:List (List Int)) (c:List Int):(insC xs c).length=xs.length + 1:=by
 unfold insC;simp;have:=plc_le xs c;omega
theorem insC_srt {xs:List (List Int)} {c:List Int} (hs:SrtC xs) (hc:c ∉ xs):SrtC (insC xs c):=by
 have hlt:∀ x∈xs.take (plc xs c),cmpC x c < 0:=fun x hx=>by
  obtain ⟨i,hi⟩:=List.mem_iff_getElem?.1 hx
  have hl:i < plc xs c:=by
   have:=(List.getElem?_eq_some_iff.1 hi).1
   rw [List.length_take] at this;omega
  rw [List.getElem?_take_of_lt hl] at hi
  exact (plc_lt hs hi).2 hl
 have hgt:∀ x∈xs.drop (plc xs c),cmpC c x < 0:=fun x hx=>by
  obtain ⟨i,hi⟩:=List.mem_iff_getElem?.1 hx
  rw [List.getElem?_drop] at hi
  have h1:¬ cmpC x c < 0:=fun h=>absurd ((plc_lt hs hi).1 h) (by omega)
  by_cases h2:cmpC c x < 0
  · exact h2
  · exact absurd (by rw [cmpC_total h2 h1];exact List.mem_of_getElem? hi) hc
 unfold insC SrtC
 rw [List.pairwise_append,List.pairwise_cons]
 refine ⟨hs.sublist (List.take_sublist _ _),⟨hgt,hs.sublist (List.drop_sublist _ _)⟩,fun a ha b hb=>?_⟩
 rcases List.mem_cons.1 hb with rfl|hb
 · exact hlt a ha
 · exact cmpC_trans (hlt a ha) (hgt b hb)
def putC (xs:List (List Int)) (c:List Int):List (List Int):=bif xs.contains c then xs else insC xs c
theorem putC_mem {xs:List (List Int)} {c x:List Int}:x∈putC xs c↔x=c∨x∈xs:=by
 unfold putC
 cases h:xs.contains c with
 | true =>
  simp only [cond_true]
  rw [List.contains_iff_mem] at h
  exact ⟨.inr,fun h1=>h1.elim (fun h2=>by rw [h2];exact h) id⟩
 | false=>exact insC_mem
theorem putC_srt {xs:List (List Int)} {c:List Int} (hs:SrtC xs):SrtC (putC xs c):=by
 unfold putC
 cases h:xs.contains c with
 | true=>exact hs
 | false=>exact insC_srt hs (fun h1=>by rw [← List.contains_iff_mem,h] at h1;cases h1)
theorem putC_len (xs:List (List Int)) (c:List Int):(putC xs c).length≤xs.length + 1:=by
 unfold putC
 cases h:xs.contains c with
 | true=>exact Nat.le_succ _
 | false=>exact Nat.le_of_eq (insC_len xs c)
end Go.PF
namespace Go.PF
open Go.Pu
theorem IsC.small {V:Int} {c:List Int} (h:IsC V c):PF.sm c:=fun x hx=>by have:=h.lit x hx;have:=h.hi;omega
theorem zbk {V:Int} {a b:List Int} {v:Int} (ha:IsC V a) (hb:IsC V b) (h:(res a b v).2=true):IsC V (res a b v).1:=by
 unfold res at h ⊢
 cases hc : !a.contains v || !b.contains (wr (-v)) with
 | true=>rw [hc] at h;cases h
 | false =>
  rw [hc] at h
  simp only [cond_false] at h ⊢
  unfold joined at h ⊢
  have sa:Srt (zaJ a v):=ha.srt.sublist List.filter_sublist
  have sb:Srt (zaJ b v):=hb.srt.sublist List.filter_sublist
  have ma:Sm (zaJ a v):=fun x hx=>ha.sm x (List.mem_filter.1 hx).1
  have mb:Sm (zaJ b v):=fun x hx=>hb.sm x (List.mem_filter.1 hx).1
  have hj:=joinL_spec sa ma sb mb
  split at hj
  · rw [hj] at h;cases h
  · obtain ⟨t,h1,h2,h3⟩:=hj
    rw [h1]
    refine ⟨ha.lo,ha.hi,fun l hl=>?_,h2⟩
    rcases (h3 l).1 hl with hl|hl
    · exact ha.lit l (List.mem_filter.1 hl).1
    · exact hb.lit l (List.mem_filter.1 hl).1
structure Cfg (V:Int) (n:Nat) (xs:List (List Int)):Prop where
 srt:SrtC xs
 len:xs.length≤n
 cl:∀ c∈xs,IsC V c
theorem Cfg.put {V:Int} {n:Nat} {xs:List (List Int)} (h:Cfg V n xs) {c:List Int} (hc:IsC V c):Cfg V (n + 1) (putC xs c):=by
 refine ⟨putC_srt h.srt,?_,fun d hd=>?_⟩
 · have:=putC_len xs c;have:=h.len;omega
 · rcases putC_mem.1 hd with rfl|hd
   · exact hc
   · exact h.cl d hd
theorem putC_new {xs:List (List Int)} {c:List Int} (h:xs.contains c=false):putC xs c=insC xs c:=by unfold putC;rw [h];rfl
theorem zdm {V:Int} {n:Nat} {xs:List (List Int)} (h:Cfg V n xs) (hn:n≤100000) {c:List Int} (hc:sm c):zbS xs c=some (plc xs c:Int):=by
 unfold zbS
 have hl:=h.len
 rw [zai,bsearch (n:=xs.length) (P:=plc xs c) (plc_le xs c) (fun a b hab hb=>?_) (fun a ha=>?_)]
 · rfl
 · have w1:wr ((a:Int) + b)=((a + b:Nat):Int):=by rw [wr_of _ (by omega) (by omega)];omega
   have w2:wr (((a + b:Nat):Int).tdiv 2)=(((a + b) / 2:Nat):Int):=by
    rw [Int.tdiv_eq_ediv_of_nonneg (by omega)]
    rw [wr_of _ (by omega) (by omega)];omega
   have w3:wr ((((a + b) / 2:Nat):Int) + 1)=(((a + b) / 2 + 1:Nat):Int):=by rw [wr_of _ (by omega) (by omega)];omega
   obtain ⟨x,hx⟩:∃ x,xs[(a + b) / 2]?=some x:=⟨_,List.getElem?_eq_getElem (by omega)⟩
   have hp:=plc_lt h.srt (c:=c) hx
   simp only [show decide ((a:Int) < (b:Int))=true by rw [decide_eq_true_eq];omega,cond_true,w1,w2,w3,zaQ,hx,zaa]
   rw [zdI (h.cl x (List.mem_of_getElem? hx)).small hc,zaa]
   by_cases hlt:(a + b) / 2 < plc xs c
   · rw [if_pos hlt,show decide (cmpC x c < 0)=true by rw [decide_eq_true_eq];exact hp.2 hlt];rfl
   · rw [if_neg hlt,show decide (cmpC x c < 0)=false by rw [decide_eq_false_iff_not];exact fun h=>hlt (hp.1 h)];rfl
 · simp only [show decide ((a:Int) < (a:Int))=false by rw [decide_eq_false_iff_not];omega,cond_false]
theorem plc_test {V:Int} {n:Nat} {xs:List (List Int)} (h:Cfg V n xs) {c:List Int} :
 (bd (bif (decide (((plc xs c:Nat):Int) < len xs)) then bd (ix xs ((plc xs c:Nat):Int)) (fun x=>bd (zcf x c) (fun r=>some r)) else some false) fun t=>some t)=some (xs.contains c):=by
 have hm:=plc_mem h.srt (c:=c)
 by_cases hlt:plc xs c < xs.length
 · have hx:xs[plc xs c]?=some xs[plc xs c]:=List.getElem?_eq_getElem hlt
   rw [show decide (((plc xs c:Nat):Int) < len xs)=true by rw [decide_eq_true_eq,zai];omega,cond_true,zaQ,hx,zaa,spec_l1Same_eq]
   simp only [zaa]
   congr 1
   rw [Bool.eq_iff_iff,beq_iff_eq,List.contains_iff_mem,hm,hx]
   exact ⟨fun h=>by rw [h],fun h=>Option.some.inj h⟩
 · rw [show decide (((plc xs c:Nat):Int) < len xs)=false by rw [decide_eq_false_iff_not,zai];omega,cond_false,zaa]
   congr 1
   rw [eq_comm,Bool.eq_false_iff]
   intro hc
   rw [List.contains_iff_mem,hm,List.getElem?_eq_none (by omega)] at hc
   cases hc
theorem bd_test {β:Type} {x:Option Bool} {b:Bool} {k:Bool→Option β} (h:(bd x fun t=>some t)=some b):bd x k=k b:=by
 cases x with
 | none=>cases h
 | some y=>cases h;rfl
theorem spec_l2At_eq {V:Int} {n:Nat} {xs:List (List Int)} (h:Cfg V n xs) (hn:n≤100000) {c:List Int} (hc:sm c):zci xs c=some (bif xs.contains c then (plc xs c:Int) else -1):=by
 unfold zci
 rw [zdm h hn hc,zaa,bd_test (plc_test h)]
 cases xs.contains c <;> rfl
theorem at_ge {xs:List (List Int)} {c:List Int}:decide ((0:Int)≤bif xs.contains c then (plc xs c:Int) else -1)=xs.contains c:=by
 cases xs.contains c with
 | true=>simp only [cond_true];rw [decide_eq_true_eq];omega
 | false=>rfl
theorem zdn {V:Int} {n:Nat} {xs:List (List Int)} (h:Cfg V n xs) (hn:n≤100000) {c:List Int} (hc:sm c):zbT xs c=some (putC xs c):=by
 unfold zbT putC
 rw [zdm h hn hc,zaa,bd_test (plc_test h)]
 have hp:=plc_le xs c
 have hl:=h.len
 have hlim:lim=4294967296:=rfl
 cases xs.contains c with
 | true=>rfl
 | false =>
  simp only [cond_false]
  have c1:cut xs 0 ((plc xs c:Nat):Int)=some (xs.take (plc xs c)):=by
   have:=cut_ok (xs:=xs) (a:=0) (b:=plc xs c) (Nat.zero_le _) hp
   simpa using this
  have c2:cut xs ((plc xs c:Nat):Int) (len xs)=some (xs.drop (plc xs c)):=by
   have:=cut_ok (xs:=xs) (a:=plc xs c) (b:=xs.length) hp (Nat.le_refl _)
   rw [List.take_length] at this;exact this
  rw [c1,zaa,app_ok (by simp;omega),zaa,List.nil_append,app_ok (by simp;omega),zaa,c2,zaa,app_ok (by simp;omega),zaa]
  unfold insC
  rw [List.append_assoc];rfl
end Go.PF
namespace Go.PF
open Go.Pu
theorem loop_l {σ α X B:Type} {xs:List α} {body:Nat→α→σ→Option (Lp σ X)} {k:σ→Option B} {lx:X→Option B} {R:B→Prop} (I:Nat→σ→Prop) {s0:σ} (h0:I 0 s0)
 (h:∀ (i:Nat) x s,xs[i]?=some x→I i s→∃ s',body i x s=some (.nx s')∧I (i + 1) s')
 (hk:∀ s,I xs.length s→∃ r,k s=some r∧R r):∃ r,bdR (forL xs body s0) k lx=some r∧R r:=by
 have key:∀ (m:List α) (j:Nat) (s:σ),j + m.length=xs.length→(∀ i y,m[i]?=some y→xs[j + i]?=some y)→I j s→∃ s',zav body m j s=some (.go s')∧I xs.length s':=by
  intro m
  induction m with
  | nil =>
   intro j s hj _ hI
   simp only [List.length_nil,Nat.add_zero] at hj
   subst hj
   exact ⟨s,rfl,hI⟩
  | cons y m ih =>
   intro j s hj hm hI
   obtain ⟨s',h1,h2⟩:=h j y s (by have:=hm 0 y rfl;simpa using this) hI
   rw [forLFrom_nx h1]
   exact ih (j + 1) s' (by simp at hj;omega) (fun i z hz=>by have:=hm (i + 1) z (by simpa using hz);rwa [show j + (i + 1)=j + 1 + i by omega] at this) h2
 obtain ⟨s',h1,h2⟩:=key xs 0 s0 (by simp) (by simp) h0
 have h1':forL xs body s0=some (.go s'):=h1
 rw [h1',bdR_go]
 exact hk s' h2
end Go.PF
namespace Go.Pu
theorem wrk_nat {n:Nat} (h:n < 9223372036854775808):wrk true 64 (n:Int)=(n:Int):=by
 unfold wrk
 have h1:((n:Int) % (2 ^ 64:Int))=(n:Int):=Int.emod_eq_of_lt (by omega) (by omega)
 rw [h1]
 simp only [Bool.true_and]
 rw [if_neg]
 simp
 omega
theorem ofInt_nat {w n:Nat}:BitVec.ofInt w (n:Int)=BitVec.ofNat w n:=by
 apply BitVec.eq_of_toNat_eq
 simp
theorem andK_nat {a b:Nat} (ha:a < 9223372036854775808) (hb:b < 9223372036854775808):andK true 64 (a:Int) (b:Int)=((a &&& b:Nat):Int):=by
 unfold andK
 rw [ofInt_nat,ofInt_nat,BitVec.toNat_and,BitVec.toNat_ofNat,BitVec.toNat_ofNat,Nat.mod_eq_of_lt (by omega),Nat.mod_eq_of_lt (by omega)]
 exact wrk_nat (Nat.lt_of_le_of_lt Nat.and_le_left ha)
theorem shlK_nat {k:Nat} (hk:k≤62):shlK true 64 1 (k:Int)=((2 ^ k:Nat):Int):=by
 unfold shlK
 have h1:min ((k:Int)).toNat 64=k:=by simp;omega
 rw [h1]
 have hp:2 ^ k≤2 ^ 62:=Nat.pow_le_pow_right (by omega) hk
 have:=wrk_nat (n:=2 ^ k) (by omega)
 simpa using this
theorem shrK_nat {n k:Nat} (hk:k≤63):shrK 64 (n:Int) (k:Int)=((n >>> k:Nat):Int):=by
 unfold shrK
 have h1:min ((k:Int)).toNat 64=k:=by simp;omega
 rw [h1,Nat.shiftRight_eq_div_pow]
 rw [Int.fdiv_eq_ediv_of_nonneg _ (Int.le_of_lt (Int.pow_pos (by omega)))]
 simp
theorem bit_nat {n k:Nat} (hn:n < 9223372036854775808) (hk:k≤63):(andK true 64 (shrK 64 (n:Int) (k:Int)) 1 == 1)=n.testBit k:=by
 rw [shrK_nat hk]
 have h1:n >>> k < 9223372036854775808:=Nat.lt_of_le_of_lt (Nat.shiftRight_le n k) hn
 have:=andK_nat h1 (show 1 < 9223372036854775808 by omega)
 rw [show (1:Int)=((1:Nat):Int) from rfl,this]
 unfold Nat.testBit
 rw [Nat.and_comm]
 have hb:1 &&& n >>> k=0∨1 &&& n >>> k=1:=by
  have:1 &&& n >>> k≤1:=Nat.and_le_left
  omega
 rcases hb with h|h <;> rw [h] <;> rfl
end Go.Pu
namespace Go.PF
open Go.Pu
theorem iter_m {S X B:Type} {body:S→Option (Lp S X)} {s0:S} {k:S→Option B} {lx:X→Option B} {R:B→Prop} (I:S→Prop) (m:S→Nat) (h0:I s0)
 (h:∀ s,I s→(∃ s',body s=some (.nx s')∧I s'∧m s' < m s)∨(∃ s',body s=some (.bk s')∧∃ r,k s'=some r∧R r)∨(∃ x,body s=some (.rt x)∧∃ r,lx x=some r∧R r)) :
 ∃ r,bdR (iter body s0) k lx=some r∧R r:=by
 have key:∀ (n:Nat) (s:S),m s≤n→I s→∃ r,bdR (iter body s) k lx=some r∧R r:=by
  intro n
  induction n with
  | zero =>
   intro s hm hI
   rcases h s hI with ⟨s',_,_,h3⟩|⟨s',h1,h2⟩|⟨x,h1,h2⟩
   · omega
   · rw [zba h1,bdR_go];exact h2
   · rw [iter_rt h1,bdR_rt];exact h2
  | succ n ih =>
   intro s hm hI
   rcases h s hI with ⟨s',h1,h2,h3⟩|⟨s',h1,h2⟩|⟨x,h1,h2⟩
   · rw [zbF h1];exact ih s' (by omega) h2
   · rw [zba h1,bdR_go];exact h2
   · rw [iter_rt h1,bdR_rt];exact h2
 exact key _ s0 (Nat.le_refl _) h0
theorem list_m {σ α X B:Type} {xs:List α} {body:Nat→α→σ→Option (Lp σ X)} {k:σ→Option B} {lx:X→Option B} {R:B→Prop} (I:Nat→σ→Prop) {s0:σ} (h0:I 0 s0)
 (h:∀ (i:Nat) x s,xs[i]?=some x→I i s→(∃ s',body i x s=some (.nx s')∧I (i + 1) s')∨(∃ y,body i x s=some (.rt y)∧∃ r,lx y=some r∧R r))
 (hk:∀ s,I xs.length s→∃ r,k s=some r∧R r):∃ r,bdR (forL xs body s0) k lx=some r∧R r:=by
 have key:∀ (m:List α) (j:Nat) (s:σ),j + m.length=xs.length→(∀ i y,m[i]?=some y→xs[j + i]?=some y)→I j s→∃ r,bdR (zav body m j s) k lx=some r∧R r:=by
  intro m
  induction m with
  | nil =>
   intro j s hj _ hI
   simp only [List.length_nil,Nat.add_zero] at hj
   subst hj
   rw [forLFrom_nil,bdR_go]
   exact hk s hI
  | cons y m ih =>
   intro j s hj hm hI
   rcases h j y s (by have:=hm 0 y rfl;simpa using this) hI with ⟨s',h1,h2⟩|⟨x,h1,h2⟩
   · rw [forLFrom_nx h1]
     exact ih (j + 1) s' (by simp at hj;omega) (fun i z hz=>by have:=hm (i + 1) z (by simpa using hz);rwa [show j + (i + 1)=j + 1 + i by omega] at this) h2
   · rw [show zav body (y::m) j s=some (.rt x) by unfold zav;rw [h1],bdR_rt]
     exact h2
 exact key xs 0 s0 (by simp) (by simp) h0
theorem cnt_m {σ T X B:Type} (mk:σ→Int→T) {n:Nat} {body:T→Option (Lp T X)} {a:Nat} {t0:T} {k:T→Option B} {lx:X→Option B} {R:B→Prop} (I:Nat→σ→Prop) {s0:σ} (ht:t0=mk s0 (a:Int)) (ha:a≤n) (h0:I a s0)
 (h:∀ (i:Nat) s,a≤i→i < n→I i s→(∃ s',body (mk s (i:Int))=some (.nx (mk s' ((i + 1:Nat):Int)))∧I (i + 1) s')∨(∃ y,body (mk s (i:Int))=some (.rt y)∧∃ r,lx y=some r∧R r))
 (he:∀ s,I n s→body (mk s (n:Int))=some (.bk (mk s (n:Int)))) (hk:∀ s,I n s→∃ r,k (mk s (n:Int))=some r∧R r):∃ r,bdR (iter body t0) k lx=some r∧R r:=by
 subst ht
 have key:∀ (d i:Nat) (s:σ),a≤i→i + d=n→I i s→∃ r,bdR (iter body (mk s (i:Int))) k lx=some r∧R r:=by
  intro d
  induction d with
  | zero =>
   intro i s hi hd hI
   have e:i=n:=by omega
   subst e
   rw [zba (he s hI),bdR_go]
   exact hk s hI
  | succ d ih =>
   intro i s hi hd hI
   rcases h i s hi (by omega) hI with ⟨s',h1,h2⟩|⟨x,h1,h2⟩
   · rw [zbF h1];exact ih (i + 1) s' (by omega) (by omega) h2
   · rw [iter_rt h1,bdR_rt];exact h2
 exact key (n - a) a s0 (Nat.le_refl _) (by omega) h0
theorem wr_s {n:Int} (h0:-1000000000≤n) (h1:n≤1000000000):wr n=n:=wr_of n (by omega) (by omega)
end Go.PF
namespace Go.PF
open Go.Pu
theorem wrk16 (n:Nat) (h:n < 65536):wrk false 16 (n:Int)=(n:Int):=by
 unfold wrk
 have:((n:Int) % (2 ^ 16:Int))=(n:Int):=Int.emod_eq_of_lt (by omega) (by omega)
 rw [this]
 simp
theorem ofInt16 {n:Nat}:BitVec.ofInt 16 (n:Int)=BitVec.ofNat 16 n:=by
 apply BitVec.eq_of_toNat_eq
 simp
theorem and16 {a b:Nat} (ha:a < 65536) (hb:b < 65536):andK false 16 (a:Int) (b:Int)=((a &&& b:Nat):Int):=by
 unfold andK
 rw [ofInt16,ofInt16,BitVec.toNat_and,BitVec.toNat_ofNat,BitVec.toNat_ofNat,Nat.mod_eq_of_lt (by omega),Nat.mod_eq_of_lt (by omega)]
 exact wrk16 _ (Nat.lt_of_le_of_lt Nat.and_le_left ha)
theorem or16 {a b:Nat} (ha:a < 65536) (hb:b < 65536):orK false 16 (a:Int) (b:Int)=((a ||| b:Nat):Int):=by
 unfold orK
 rw [ofInt16,ofInt16,BitVec.toNat_or,BitVec.toNat_ofNat,BitVec.toNat_ofNat,Nat.mod_eq_of_lt (by omega),Nat.mod_eq_of_lt (by omega)]
 exact wrk16 _ (Nat.or_lt_two_pow (n:=16) ha hb)
def minusN (a b:Nat):Nat:=a ^^^ (a &&& b)
theorem minus_bit (a b j:Nat):(minusN a b).testBit j=(a.testBit j && !b.testBit j):=by
 unfold minusN
 rw [Nat.testBit_xor,Nat.testBit_and]
 cases a.testBit j <;> cases b.testBit j <;> rfl
theorem an16 {a b:Nat} (ha:a < 65536) (hb:b < 65536):anK false 16 (a:Int) (b:Int)=((minusN a b:Nat):Int):=by
 unfold anK
 have e:(BitVec.ofInt 16 (a:Int) &&& ~~~BitVec.ofInt 16 (b:Int)).toNat=minusN a b:=by
  rw [ofInt16,ofInt16]
  apply Nat.eq_of_testBit_eq
  intro j
  rw [minus_bit,BitVec.testBit_toNat,BitVec.getLsbD_and,BitVec.getLsbD_not,BitVec.getLsbD_ofNat,BitVec.getLsbD_ofNat]
  by_cases hj:j < 16
  · simp [hj]
  · have:a.testBit j=false:=Nat.testBit_lt_two_pow (Nat.lt_of_lt_of_le ha (Nat.pow_le_pow_right (n:=2) (i:=16) (by omega) (by omega)))
    simp [hj,this]
 rw [e]
 exact wrk16 _ (Nat.xor_lt_two_pow (n:=16) ha (Nat.lt_of_le_of_lt Nat.and_le_left ha))
theorem shl16 {a k:Nat} (hk:k≤16) (h:a <<< k < 65536):shlK false 16 (a:Int) (k:Int)=((a <<< k:Nat):Int):=by
 unfold shlK
 have h1:min ((k:Int)).toNat 16=k:=by simp;omega
 rw [h1]
 rw [← wrk16 _ h,Nat.shiftLeft_eq]
 simp
theorem shr16 {n k:Nat} (hk:k≤16):shrK 16 (n:Int) (k:Int)=((n >>> k:Nat):Int):=by
 unfold shrK
 have h1:min ((k:Int)).toNat 16=k:=by simp;omega
 rw [h1,Nat.shiftRight_eq_div_pow]
 rw [Int.fdiv_eq_ediv_of_nonneg _ (Int.le_of_lt (Int.pow_pos (by omega)))]
 simp
theorem bit_hi {n j k:Nat} (h:n < 2 ^ k) (hj:k≤j):n.testBit j=false:=Nat.testBit_lt_two_pow (Nat.lt_of_lt_of_le h (Nat.pow_le_pow_right (by omega) hj))
def swapN (y:Nat):Nat:=((y &&& 63) <<< 6) ||| (y >>> 6)
def bothN (x y:Nat):Nat:=((x &&& swapN y) ||| ((x &&& swapN y) >>> 6)) &&& 63
theorem and63 (y:Nat):y &&& 63 < 64:=Nat.lt_of_le_of_lt Nat.and_le_right (by omega)
theorem swap_lt {y:Nat} (hy:y < 4096):swapN y < 4096:=by
 unfold swapN
 apply Nat.or_lt_two_pow (n:=12)
 · have:=and63 y
   rw [Nat.shiftLeft_eq];omega
 · exact Nat.lt_of_le_of_lt (Nat.shiftRight_le y 6) hy
theorem swapped_eq {y:Nat} (hy:y < 4096):za4 (y:Int)=(swapN y:Int):=by
 unfold za4 swapN
 have h1:=and63 y
 have h2:(y &&& 63) <<< 6 < 65536:=by rw [Nat.shiftLeft_eq];omega
 have h3:y >>> 6≤y:=Nat.shiftRight_le y 6
 rw [show (63:Int)=((63:Nat):Int) from rfl,show (6:Int)=((6:Nat):Int) from rfl,and16 (by omega) (by omega),shl16 (by omega) h2,shr16 (by omega),or16 h2 (by omega)]
theorem both_lt (x y:Nat):bothN x y < 64:=and63 _
theorem bothOf_eq {x y:Nat} (hx:x < 4096) (hy:y < 4096):zaj (x:Int) (y:Int)=(bothN x y:Int):=by
 unfold zaj bothN
 have h0:=swap_lt hy
 have h1:x &&& swapN y < 4096:=Nat.lt_of_le_of_lt Nat.and_le_left hx
 have h2:(x &&& swapN y) >>> 6≤x &&& swapN y:=Nat.shiftRight_le _ 6
 have h3:(x &&& swapN y) ||| ((x &&& swapN y) >>> 6) < 4096:=Nat.or_lt_two_pow (n:=12) h1 (by omega)
 rw [swapped_eq hy,and16 (by omega) (by omega),show (63:Int)=((63:Nat):Int) from rfl,show (6:Int)=((6:Nat):Int) from rfl,shr16 (by omega),or16 (by omega) (by omega),and16 (by omega) (by omega)]
theorem bit63 (j:Nat):(63:Nat).testBit j=decide (j < 6):=Nat.testBit_two_pow_sub_one 6 j
theorem swap_bit {y:Nat} (hy:y < 4096) (j:Nat):(swapN y).testBit j=(bif decide (j < 6) then y.testBit (j + 6) else y.testBit (j - 6) && decide (j < 12)):=by
 unfold swapN
 rw [Nat.testBit_or,Nat.testBit_shiftLeft,Nat.testBit_and,bit63,Nat.testBit_shiftRight,Nat.add_comm 6 j]
 by_cases h:j < 6
 · have:¬ j ≥ 6:=by omega
   simp [h,this]
 · have h1:y.testBit (j + 6)=false:=bit_hi (k:=12) hy (by omega)
   have h2:j ≥ 6:=by omega
   by_cases h3:j < 12
   · have:j - 6 < 6:=by omega
     simp [h,h1,h2,h3,this]
   · have:¬ j - 6 < 6:=by omega
     simp [h,h1,h2,h3,this]
theorem both_bit {x y:Nat} (hx:x < 4096) (hy:y < 4096) {k:Nat} (hk:k < 6):(bothN x y).testBit k=(x.testBit k && y.testBit (k + 6) || x.testBit (k + 6) && y.testBit k):=by
 unfold bothN
 rw [Nat.testBit_and,bit63,Nat.testBit_or,Nat.testBit_shiftRight,Nat.testBit_and,Nat.testBit_and,swap_bit hy,swap_bit hy,Nat.add_comm 6 k]
 have h1:¬ k + 6 < 6:=by omega
 have h2:k + 6 - 6=k:=by omega
 have h3:k + 6 < 12:=by omega
 simp [hk,h1,h2,h3]
theorem one_tab:∀ m < 64,zbR ((m:Nat):Int)=(List.range 6).any fun k=>m == 2 ^ k:=by decide +kernel
theorem one_iff {m:Nat} (hm:m < 64):zbR (m:Int)=true↔∃ k,k < 6∧m=2 ^ k:=by
 rw [one_tab m hm,List.any_eq_true]
 constructor
 · rintro ⟨k,h1,h2⟩;exact ⟨k,List.mem_range.1 h1,by simpa using h2⟩
 · rintro ⟨k,h1,h2⟩;exact ⟨k,List.mem_range.2 h1,by simpa using h2⟩
def bi (l:Int):Nat:=if 0 < l then (l - 1).toNat else (5 - l).toNat
def mkN (c:List Int):Nat:=c.foldl (fun s l=>s ||| 2 ^ bi l) 0
theorem bi_inj {l k:Int} (h1:-6≤l) (h2:l≤6) (h3:l≠0) (h4:-6≤k) (h5:k≤6) (h6:k≠0):bi l=bi k↔l=k:=by
 unfold bi
 split <;> split <;> omega
theorem bi_lt {l:Int} (h1:-6≤l) (h2:l≤6) (h3:l≠0):bi l < 12:=by
 unfold bi
 split <;> omega
theorem mkN_fold (c:List Int):∀ (s j:Nat),(c.foldl (fun s l=>s ||| 2 ^ bi l) s).testBit j=(s.testBit j || c.any fun l=>bi l == j):=by
 induction c with
 | nil=>intro s j;simp
 | cons l c ih =>
  intro s j
  rw [List.foldl_cons,ih,Nat.testBit_or,Nat.testBit_two_pow,List.any_cons,Bool.or_assoc]
  congr 1
theorem mkN_bit (c:List Int) (j:Nat):(mkN c).testBit j=c.any fun l=>bi l == j:=by
 unfold mkN
 rw [mkN_fold];simp
structure IsS (V:Int) (c:List Int):Prop where
 c:IsC V c
 le:V≤6
theorem IsS.lit {V:Int} {c:List Int} (h:IsS V c):∀ l∈c,-6≤l∧l≤6∧l≠0:=by
 intro l hl
 have:=h.c.lit l hl
 have:=h.le
 omega
theorem zaX {V:Int} {c:List Int} (h:IsS V c) {l:Int} (h1:-6≤l) (h2:l≤6) (h3:l≠0):(mkN c).testBit (bi l)=true↔l∈c:=by
 rw [mkN_bit,List.any_eq_true]
 constructor
 · rintro ⟨k,hk,e⟩
   obtain ⟨a,b,d⟩:=h.lit k hk
   have:=(bi_inj a b d h1 h2 h3).1 (by simpa using e)
   exact this ▸ hk
 · intro hl;exact ⟨l,hl,by simp⟩
theorem zaG {V:Int} {c:List Int} (h:IsS V c):mkN c < 4096:=by
 apply Nat.lt_pow_two_of_testBit (n:=12)
 intro j hj
 rw [mkN_bit,Bool.eq_false_iff]
 intro e
 rw [List.any_eq_true] at e
 obtain ⟨l,hl,e⟩:=e
 obtain ⟨a,b,d⟩:=h.lit l hl
 have:=bi_lt a b d
 have:bi l=j:=by simpa using e
 omega
theorem mkN_inj {V:Int} {a b:List Int} (ha:IsS V a) (hb:IsS V b) (h:mkN a=mkN b):a=b:=by
 apply srt_unique ha.c.srt hb.c.srt
 intro x
 constructor
 · intro hx
   obtain ⟨p,q,r⟩:=ha.lit x hx
   exact (zaX hb p q r).1 (h ▸ (zaX ha p q r).2 hx)
 · intro hx
   obtain ⟨p,q,r⟩:=hb.lit x hx
   exact (zaX ha p q r).1 (h ▸ (zaX hb p q r).2 hx)
theorem maskOf_eq {V:Int} {c:List Int} (h:IsS V c):zbQ c=some (mkN c:Int):=by
 have main:∃ r,zbQ c=some r∧r=(mkN c:Int):=by
  unfold zbQ
  refine list_m (I:=fun i s=>s=((mkN (c.take i):Nat):Int)) rfl ?_ (fun s hs=>⟨s,rfl,by rw [List.take_length] at hs;exact hs⟩)
  intro i y s hy hs
  obtain ⟨a,b,d⟩:=h.lit y (List.mem_of_getElem? hy)
  have hlt:mkN (c.take i) < 65536:=by
   have:mkN (c.take i) < 4096:=by
    apply Nat.lt_pow_two_of_testBit (n:=12)
    intro j hj
    rw [mkN_bit,Bool.eq_false_iff]
    intro e
    rw [List.any_eq_true] at e
    obtain ⟨l,hl,e⟩:=e
    obtain ⟨a,b,d⟩:=h.lit l (List.mem_of_mem_take hl)
    have:=bi_lt a b d
    have:bi l=j:=by simpa using e
    omega
   omega
  have hb:=bi_lt a b d
  have hsh:1 <<< bi y < 65536:=by
   rw [Nat.one_shiftLeft]
   exact Nat.lt_of_le_of_lt (Nat.pow_le_pow_right (n:=2) (by omega) (show bi y≤11 by omega)) (by omega)
  have hm:mkN (c.take (i + 1))=mkN (c.take i) ||| 1 <<< bi y:=by
   rw [List.take_add_one,hy,Nat.one_shiftLeft]
   unfold mkN
   rw [List.foldl_append];rfl
  refine .inl ⟨_,?_,rfl⟩
  rw [hm,hs]
  by_cases hp:0 < y
  · rw [decide_eq_true hp,cond_true,wr_s (by omega) (by omega)]
    have e:y - 1=((bi y:Nat):Int):=by unfold bi;rw [if_pos hp];omega
    rw [e]
    have:nn ((bi y:Nat):Int)=some ():=by unfold nn;rw [if_neg (by omega)]
    rw [this,zaa,show (1:Int)=((1:Nat):Int) from rfl,shl16 (by omega) hsh,or16 hlt hsh]
  · rw [decide_eq_false hp,cond_false,wr_s (n:=6 - y) (by omega) (by omega),wr_s (by omega) (by omega)]
    have e:6 - y - 1=((bi y:Nat):Int):=by unfold bi;rw [if_neg hp];omega
    rw [e]
    have:nn ((bi y:Nat):Int)=some ():=by unfold nn;rw [if_neg (by omega)]
    rw [this,zaa,show (1:Int)=((1:Nat):Int) from rfl,shl16 (by omega) hsh,or16 hlt hsh]
 obtain ⟨r,e,hr⟩:=main
 rw [e,hr]
def litsM (m:Nat):List Int:=[1,-1,2,-2,3,-3,4,-4,5,-5,6,-6].filter fun l=>m.testBit (bi l)
theorem litsM_mk {V:Int} {c:List Int} (h:IsS V c):litsM (mkN c)=c:=by
 have hm:∀ x,x∈litsM (mkN c)↔x∈c:=by
  intro x
  unfold litsM
  rw [List.mem_filter]
  constructor
  · rintro ⟨h1,h2⟩
    have:-6≤x∧x≤6∧x≠0:=by
     simp only [List.mem_cons,List.not_mem_nil,or_false] at h1
     omega
    exact (zaX h this.1 this.2.1 this.2.2).1 h2
  · intro hx
    obtain ⟨a,b,d⟩:=h.lit x hx
    refine ⟨?_,(zaX h a b d).2 hx⟩
    simp only [List.mem_cons,List.not_mem_nil,or_false]
    omega
 refine srt_unique ?_ h.c.srt hm
 have hd:(litsM (mkN c)).Pairwise fun a b=>a.natAbs < b.natAbs∨a=-b:=by
  unfold litsM
  apply List.Pairwise.filter
  decide
 have hs:(litsM (mkN c)).Pairwise fun a b=>a∈c∧b∈c:=by
  apply List.pairwise_of_forall_mem_list
  intro a ha b hb
  exact ⟨(hm a).1 ha,(hm b).1 hb⟩
 refine (hd.and hs).imp ?_
 rintro a b ⟨h1|h1,h2,h3⟩
 · exact h1
 · exfalso
   have:=srt_one h.c h2 h3 (by omega)
   have:=(h.lit b h3).2.2
   omega
end Go.PF
namespace Go.PF
open Go.Pu
def zdo (a0:Int):Option Int :=
 bdR (iterC (S:=(Int×Int)) (X:=Empty) 14 (fun s21=>(bif (!(s21.1 == 0)) then some (Lp.nx ((andK false 16 s21.1 (wrk false 16 (s21.1 - 1))),(wr (s21.2 + 1)))) else some (Lp.bk (s21.1,s21.2)))) (a0,0)) (fun s21=>some s21.2) (fun x21=>nomatch x21)
theorem count_le (a:Int):Le (zdo a) (zbz a):=by
 unfold zdo zbz
 exact bdR_le (iterC_le (fun s=>Le.rfl' _) _ _) (fun _=>Le.rfl' _) (fun x=>nomatch x)
theorem count_tab:(List.range 4096).all (fun m=>zdo (m:Int) == some ((litsM m).length:Int))=true:=by decide +kernel
theorem mask_count_eq {m:Nat} (hm:m < 4096):zbz (m:Int)=some ((litsM m).length:Int):=by
 have:=List.all_eq_true.1 count_tab m (List.mem_range.2 hm)
 exact (count_le _).le _ (by simpa using this)
theorem count_mk {V:Int} {c:List Int} (h:IsS V c):zbz (mkN c:Int)=some (len c):=by
 rw [mask_count_eq (zaG h),litsM_mk h];rfl
theorem zaR {v:Int} (h1:1≤v):bi v=(v - 1).toNat:=by unfold bi;rw [if_pos (by omega)]
theorem bi_neg {v:Int} (h1:1≤v):bi (-v)=(v - 1).toNat + 6:=by unfold bi;rw [if_neg (by omega)];omega
theorem both_mem {V:Int} {a b:List Int} (ha:IsS V a) (hb:IsS V b) {v:Int} (h1:1≤v) (h2:v≤6):(bothN (mkN a) (mkN b)).testBit (bi v)=true↔(v∈a∧-v∈b)∨(-v∈a∧v∈b):=by
 have hk:bi v < 6:=by rw [zaR h1];omega
 have e:bi v + 6=bi (-v):=by rw [zaR h1,bi_neg h1]
 rw [both_bit (zaG ha) (zaG hb) hk,e,Bool.or_eq_true,Bool.and_eq_true,Bool.and_eq_true,zaX ha (by omega) (by omega) (by omega),zaX hb (by omega) (by omega) (by omega),zaX ha (by omega) (by omega) (by omega),zaX hb (by omega) (by omega) (by omega)]
theorem both_comm {V:Int} {a b:List Int} (ha:IsS V a) (hb:IsS V b):bothN (mkN a) (mkN b)=bothN (mkN b) (mkN a):=by
 apply Nat.eq_of_testBit_eq
 intro j
 by_cases hj:j < 6
 · rw [both_bit (zaG ha) (zaG hb) hj,both_bit (zaG hb) (zaG ha) hj]
   cases (mkN a).testBit j <;> cases (mkN b).testBit j <;> cases (mkN a).testBit (j + 6) <;> cases (mkN b).testBit (j + 6) <;> rfl
 · rw [bit_hi (k:=6) (both_lt _ _) (by omega),bit_hi (k:=6) (both_lt _ _) (by omega)]
theorem zb0 {V:Int} {a b:List Int} (ha:IsS V a) (hb:IsS V b) {v:Int} (h1:1≤v) (h2:v≤V):(res a b v).2=true↔v∈a∧bothN (mkN a) (mkN b)=2 ^ bi v:=by
 have hV:=ha.le
 rw [(res_iff ha.c hb.c h1 h2).1]
 constructor
 · rintro ⟨m1,m2,m3⟩
   refine ⟨m1,Nat.eq_of_testBit_eq fun j=>?_⟩
   rw [Nat.testBit_two_pow]
   by_cases hj:j < 6
   · have e:j=bi ((j:Int) + 1):=by rw [zaR (by omega)];omega
     rw [Bool.eq_iff_iff,decide_eq_true_iff]
     rw [show (bothN (mkN a) (mkN b)).testBit j=(bothN (mkN a) (mkN b)).testBit (bi ((j:Int) + 1)) by rw [← e],both_mem ha hb (by omega) (by omega)]
     constructor
     · rintro (⟨p,q⟩|⟨p,q⟩)
       · have:=m3 _ p q
         rw [e,← this]
       · have:=m3 _ p (by simpa using q)
         omega
     · intro g
       have:v=(j:Int) + 1:=by rw [zaR h1] at g;omega
       rw [← this]
       exact .inl ⟨m1,m2⟩
   · rw [bit_hi (k:=6) (both_lt _ _) (by omega)]
     have:bi v < 6:=by rw [zaR h1];omega
     symm
     rw [decide_eq_false_iff_not]
     omega
 · rintro ⟨m1,m2⟩
   have key:∀ w:Int,1≤w→w≤6→((w∈a∧-w∈b)∨(-w∈a∧w∈b))→w=v:=by
    intro w hw1 hw2 hw
    have:=(both_mem ha hb hw1 hw2).2 hw
    rw [m2,Nat.testBit_two_pow,decide_eq_true_iff,zaR hw1,zaR h1] at this
    omega
   have hn:-v ∉ a:=fun h=>by have:=srt_one ha.c m1 h (by omega);omega
   refine ⟨m1,?_,?_⟩
   · have:=(both_mem ha hb h1 (by omega)).1 (by rw [m2,Nat.testBit_two_pow];simp)
     rcases this with h|h
     · exact h.2
     · exact absurd h.1 hn
   · intro x hx hx2
     obtain ⟨l1,l2,l3⟩:=ha.lit x hx
     by_cases hp:0 < x
     · exact key x (by omega) (by omega) (.inl ⟨hx,hx2⟩)
     · have:=key (-x) (by omega) (by omega) (.inr ⟨by simpa using hx,hx2⟩)
       exact absurd (by rw [← this];simpa using hx) hn
theorem res_mkN {V:Int} {a b:List Int} (ha:IsS V a) (hb:IsS V b) {v:Int} (h1:1≤v) (h2:v≤V) (h:(res a b v).2=true) :
 mkN (res a b v).1=minusN (mkN a ||| mkN b) (2 ^ bi v ||| 2 ^ bi v <<< 6):=by
 have hV:=ha.le
 have hc:IsS V (res a b v).1:=⟨zbk ha.c hb.c h,hV⟩
 have hm:=(res_iff ha.c hb.c h1 h2).2 h
 have hbv:bi v < 6:=by rw [zaR h1];omega
 apply Nat.eq_of_testBit_eq
 intro j
 rw [minus_bit,Nat.testBit_or,Nat.testBit_or,Nat.testBit_shiftLeft,Nat.testBit_two_pow,Nat.testBit_two_pow]
 by_cases hj:j < 12
 · obtain ⟨l,e,l1,l2,l3⟩:∃ l,j=bi l∧-6≤l∧l≤6∧l≠0:=by
    by_cases hj6:j < 6
    · exact ⟨(j:Int) + 1,by rw [zaR (by omega)];omega,by omega,by omega,by omega⟩
    · exact ⟨5 - (j:Int),by unfold bi;rw [if_neg (by omega)];omega,by omega,by omega,by omega⟩
   subst e
   have e2:(decide (bi v=bi l) || (decide (bi l ≥ 6) && decide (bi v=bi l - 6)))=decide (l.natAbs=v.natAbs):=by
    rw [Bool.eq_iff_iff]
    simp only [Bool.or_eq_true,Bool.and_eq_true,decide_eq_true_iff]
    rw [zaR h1]
    unfold bi
    split <;> omega
   rw [e2,Bool.eq_iff_iff,Bool.and_eq_true,Bool.or_eq_true,zaX hc l1 l2 l3,zaX ha l1 l2 l3,zaX hb l1 l2 l3,hm]
   simp
 · rw [bit_hi (k:=12) (zaG hc) (by omega),bit_hi (k:=12) (zaG ha) (by omega),bit_hi (k:=12) (zaG hb) (by omega)]
   rfl
def hitM (x y:Int):Bool:=zbR (zaj x y)
def rsvM (x y:Int):Int:=anK false 16 (orK false 16 x y) (orK false 16 (zaj x y) (shlK false 16 (zaj x y) 6))
theorem hit_iff {V:Int} {a b:List Int} (ha:IsS V a) (hb:IsS V b):hitM (mkN a) (mkN b)=true↔∃ v,1≤v∧v≤V∧((res a b v).2=true∨(res b a v).2=true):=by
 have hV:=ha.le
 unfold hitM
 rw [bothOf_eq (zaG ha) (zaG hb),one_iff (both_lt _ _)]
 constructor
 · rintro ⟨k,hk,e⟩
   have eb:k=bi ((k:Int) + 1):=by rw [zaR (by omega)];omega
   have hb1:(bothN (mkN a) (mkN b)).testBit (bi ((k:Int) + 1))=true:=by rw [← eb,e,Nat.testBit_two_pow];simp
   rw [both_mem ha hb (by omega) (by omega)] at hb1
   rcases hb1 with ⟨p,q⟩|⟨p,q⟩
   · refine ⟨(k:Int) + 1,by omega,(ha.c.lit _ p).2.1,.inl ((zb0 ha hb (by omega) (ha.c.lit _ p).2.1).2 ⟨p,by rw [← eb];exact e⟩)⟩
   · refine ⟨(k:Int) + 1,by omega,(hb.c.lit _ q).2.1,.inr ((zb0 hb ha (by omega) (hb.c.lit _ q).2.1).2 ⟨q,by rw [← eb,← both_comm ha hb];exact e⟩)⟩
 · rintro ⟨v,h1,h2,h|h⟩
   · exact ⟨bi v,by rw [zaR h1];omega,((zb0 ha hb h1 h2).1 h).2⟩
   · exact ⟨bi v,by rw [zaR h1];omega,by rw [both_comm ha hb];exact ((zb0 hb ha h1 h2).1 h).2⟩
theorem rsv_pow {x y k:Nat} (hx:x < 4096) (hy:y < 4096) (hk:k < 6) (h:bothN x y=2 ^ k):rsvM (x:Int) (y:Int)=((minusN (x ||| y) (2 ^ k ||| 2 ^ k <<< 6):Nat):Int):=by
 unfold rsvM
 have h1:2 ^ k < 64:=Nat.pow_lt_pow_right (a:=2) (n:=6) (by omega) hk
 have h2:2 ^ k <<< 6 < 4096:=by rw [Nat.shiftLeft_eq];omega
 rw [bothOf_eq hx hy,h,show (6:Int)=((6:Nat):Int) from rfl,shl16 (by omega) (by omega),or16 (by omega) (by omega),or16 (by omega) (by omega),an16 (Nat.or_lt_two_pow (n:=16) (by omega) (by omega)) (Nat.or_lt_two_pow (n:=16) (by omega) (by omega))]
theorem rsv_left {V:Int} {a b:List Int} (ha:IsS V a) (hb:IsS V b) {v:Int} (h1:1≤v) (h2:v≤V) (h:(res a b v).2=true) :
 hitM (mkN a) (mkN b)=true∧rsvM (mkN a) (mkN b)=(mkN (res a b v).1:Int)∧zaj (mkN a) (mkN b)=((2 ^ bi v:Nat):Int):=by
 have hV:=ha.le
 have e:=((zb0 ha hb h1 h2).1 h).2
 refine ⟨(hit_iff ha hb).2 ⟨v,h1,h2,.inl h⟩,?_,?_⟩
 · rw [rsv_pow (zaG ha) (zaG hb) (by rw [zaR h1];omega) e,res_mkN ha hb h1 h2 h]
 · rw [bothOf_eq (zaG ha) (zaG hb),e]
theorem rsv_right {V:Int} {a b:List Int} (ha:IsS V a) (hb:IsS V b) {v:Int} (h1:1≤v) (h2:v≤V) (h:(res b a v).2=true) :
 hitM (mkN a) (mkN b)=true∧rsvM (mkN a) (mkN b)=(mkN (res b a v).1:Int):=by
 have hV:=ha.le
 have e:=((zb0 hb ha h1 h2).1 h).2
 refine ⟨(hit_iff ha hb).2 ⟨v,h1,h2,.inr h⟩,?_⟩
 rw [rsv_pow (k:=bi v) (zaG ha) (zaG hb) (by rw [zaR h1];omega) (by rw [both_comm ha hb];exact e),res_mkN hb ha h1 h2 h,Nat.or_comm]
end Go.PF
namespace Go.PF
open Go.Pu
def Mk (F:Cnf) (w:Int) (a b:List Int) (v:Int) (c:List Int):Prop:=1≤v∧v≤F.vars∧(res a b v).2=true∧(res a b v).1=c∧len c≤w
def Kn (F:Cnf) (w:Int):Nat→List Int→Prop
 | 0,_=>False
 | n + 1,c=>(c∈F.clauses∧len c≤w)∨Kn F w n c∨∃ a b v,Kn F w n a∧Kn F w n b∧Mk F w a b v c
def Rk (F:Cnf) (w:Int) (n:Nat) (c:List Int):Prop:=Kn F w (n + 1) c∧¬ Kn F w n c
structure Nar (F:Cnf):Prop where
 cnf:cnfB F=true
 le:F.vars≤6
theorem Nar.ax {F:Cnf} (h:Nar F) {c:List Int} (hc:c∈F.clauses):IsS F.vars c:=by
 have:=h.cnf
 unfold cnfB at this
 simp only [Bool.and_eq_true] at this
 exact ⟨clauseB_iff.1 (List.all_eq_true.1 this.2 c hc),h.le⟩
theorem Nar.kn {F:Cnf} (h:Nar F) {w:Int}:∀ {n:Nat} {c:List Int},Kn F w n c→IsS F.vars c
 | 0,_,h'=>h'.elim
 | n + 1,c,h'=>by
  rcases h' with ⟨h1,_⟩|h1|⟨a,b,v,h1,h2,h3,h4,h5,h6,_⟩
  · exact h.ax h1
  · exact h.kn h1
  · exact ⟨h6 ▸ zbk (h.kn h1).c (h.kn h2).c h5,h.le⟩
theorem Kn.len {F:Cnf} {w:Int}:∀ {n:Nat} {c:List Int},Kn F w n c→len c≤w
 | 0,_,h'=>h'.elim
 | n + 1,c,h'=>by
  rcases h' with ⟨_,h1⟩|h1|⟨a,b,v,_,_,_,_,_,_,h1⟩
  · exact h1
  · exact Kn.len h1
  · exact h1
theorem Kn.up {F:Cnf} {w:Int} {n m:Nat} (h:n≤m) {c:List Int} (hc:Kn F w n c):Kn F w m c:=by
  induction m with
  | zero => have:n=0:=by omega
            subst this;exact hc
  | succ m ih =>
    by_cases e:n=m + 1
    · subst e;exact hc
    · exact .inr (.inl (ih (by omega)))
theorem Kn.rk {F:Cnf} {w:Int}:∀ {n:Nat} {c:List Int},Kn F w n c→∃ q,q < n∧Rk F w q c
 | 0,_,h=>h.elim
 | n + 1,c,h=>by
  by_cases h':Kn F w n c
  · obtain ⟨q,h1,h2⟩:=h'.rk
    exact ⟨q,by omega,h2⟩
  · exact ⟨n,by omega,h,h'⟩
theorem Kn.stop {F:Cnf} {w:Int} {r:Nat} (h:∀ c,Kn F w (r + 1) c→Kn F w r c):∀ {n:Nat} {c:List Int},Kn F w n c→Kn F w r c
 | 0,_,h'=>h'.elim
 | n + 1,c,h'=>by
  apply h
  rcases h' with h2|h2|⟨a,b,v,h2,h3,h4⟩
  · exact .inl h2
  · exact .inr (.inl (Kn.stop h h2))
  · exact .inr (.inr ⟨a,b,v,Kn.stop h h2,Kn.stop h h3,h4⟩)
theorem Mk.ne {F:Cnf} {w:Int} (hF:Nar F) {a b:List Int} {v:Int} {c:List Int} (ha:IsS F.vars a) (hb:IsS F.vars b) (h:Mk F w a b v c):a≠b:=by
 intro e
 subst e
 obtain ⟨h1,h2,h3,h4,h5⟩:=h
 obtain ⟨m1,m2,_⟩:=(res_iff ha.c hb.c h1 h2).1.1 h3
 have:=srt_one ha.c m1 m2 (by omega)
 omega
theorem Mk.hit {F:Cnf} {w:Int} {a b:List Int} {v:Int} {c:List Int} (ha:IsS F.vars a) (hb:IsS F.vars b) (h:Mk F w a b v c∨Mk F w b a v c) :
 hitM (mkN a) (mkN b)=true∧rsvM (mkN a) (mkN b)=(mkN c:Int):=by
 rcases h with ⟨h1,h2,h3,h4,h5⟩|⟨h1,h2,h3,h4,h5⟩
 · have:=rsv_left ha hb h1 h2 h3
   rw [h4] at this
   exact ⟨this.1,this.2.1⟩
 · have:=rsv_right ha hb h1 h2 h3
   rw [h4] at this
   exact this
theorem hit_mk {F:Cnf} {w:Int} (hF:Nar F) {a b:List Int} (ha:IsS F.vars a) (hb:IsS F.vars b) (h:hitM (mkN a) (mkN b)=true) :
 ∃ c,IsS F.vars c∧rsvM (mkN a) (mkN b)=(mkN c:Int)∧(len c≤w→∃ v,Mk F w a b v c∨Mk F w b a v c):=by
 obtain ⟨v,h1,h2,h3|h3⟩:=(hit_iff ha hb).1 h
 · exact ⟨_,⟨zbk ha.c hb.c h3,hF.le⟩,(rsv_left ha hb h1 h2 h3).2.1,fun hl=>⟨v,.inl ⟨h1,h2,h3,rfl,hl⟩⟩⟩
 · exact ⟨_,⟨zbk hb.c ha.c h3,hF.le⟩,(rsv_right ha hb h1 h2 h3).2,fun hl=>⟨v,.inr ⟨h1,h2,h3,rfl,hl⟩⟩⟩
theorem few {V:Int} {cl:List (List Int)} (hn:cl.Nodup) (hc:∀ c∈cl,IsS V c):cl.length≤4096:=by
 let xs:List Int:=(cl.map fun c=>((mkN c:Nat):Int)).mergeSort fun a b=>decide (a≤b)
 have hp:xs.Perm (cl.map fun c=>((mkN c:Nat):Int)):=List.mergeSort_perm _ _
 have hnd:(cl.map fun c=>((mkN c:Nat):Int)).Nodup:=by
  rw [List.nodup_iff_pairwise_ne,List.pairwise_map]
  have:=List.Pairwise.and_mem.1 (List.nodup_iff_pairwise_ne.1 hn)
  refine this.imp ?_
  rintro a b ⟨ha,hb,hne⟩ e
  exact hne (mkN_inj (hc a ha) (hc b hb) (by omega))
 have hx:xs.Nodup:=hp.nodup_iff.2 hnd
 have hs:xs.Pairwise fun a b=>a≤b:=by
  have:=List.pairwise_mergeSort (le:=fun a b:Int=>decide (a≤b)) (by intro a b c;simp;omega) (by intro a b;simp;omega) (cl.map fun c=>((mkN c:Nat):Int))
  exact this.imp (fun h=>by simpa using h)
 have hasc:Asc xs:=(hs.and (List.nodup_iff_pairwise_ne.1 hx)).imp (fun ⟨h1,h2⟩=>by omega)
 have hl:=asc_len (lo:=-1) (hi:=4095) hasc (by
  intro x hx
  have:x∈cl.map fun c=>((mkN c:Nat):Int):=hp.mem_iff.1 hx
  obtain ⟨c,hcl,e⟩:=List.mem_map.1 this
  have:=zaG (hc c hcl)
  omega)
 have:xs.length=cl.length:=by rw [hp.length_eq,List.length_map]
 omega
theorem zco {V:Type} (p:Int×V) (m:List (Int×V)) (j:Int):mget (p::m) j=if j=p.1 then some p.2 else mget m j:=by
 simp only [mget]
 by_cases h:j=p.1
 · rw [if_pos h,beq_iff_eq.2 h,cond_true]
 · rw [if_neg h,beq_eq_false_iff_ne.2 h,cond_false]
theorem mget_mput {V:Type}:∀ (m:List (Int×V)) (k:Int) (v:V) (j:Int),mget (mput m k v) j=if j=k then some v else mget m j
 | [],k,v,j=>by simp only [mput];rw [zco]
 | p::m,k,v,j=>by
  simp only [mput]
  by_cases hk:k=p.1
  · rw [beq_iff_eq.2 hk,cond_true,zco,zco,← hk]
    by_cases h:j=k
    · rw [if_pos h,if_pos h]
    · rw [if_neg h,if_neg h,if_neg h]
  · rw [beq_eq_false_iff_ne.2 hk,cond_false,zco,zco,mget_mput m k v j]
    by_cases h:j=k
    · subst h
      rw [if_neg hk,if_pos rfl,if_pos rfl]
    · rw [if_neg h,if_neg h]
end Go.PF
namespace Go.PF
open Go.Pu
structure CI (F:Cnf) (w:Int) (cl:List (List Int)) (s:List Int×Int×List (Int×Int)):Prop where
 masks:s.1=cl.map fun c=>((mkN c:Nat):Int)
 nd:cl.Nodup
 sm:∀ c∈cl,IsS F.vars c
 map:∀ c,IsS F.vars c→((mget s.2.2 (mkN c)).isSome=true↔c∈cl)
 rk:∀ c∈cl,∃ n:Nat,mget s.2.2 (mkN c)=some (n:Int)∧Rk F w n c∧n≤5000
theorem CI.add {F:Cnf} {w:Int} {cl:List (List Int)} {s:List Int×Int×List (Int×Int)} (h:CI F w cl s) {c:List Int} (hc:IsS F.vars c) {n:Nat} (hn5:n≤5000) (hr:c ∉ cl→Rk F w n c) :
 ∃ s' cl',((bif (!((mget s.2.2 (mkN c)).isSome)) then bd (app s.1 [((mkN c:Nat):Int)]) (fun xs=>some (xs,(n:Int),(mput s.2.2 (mkN c) (n:Int)))) else some (s.1,s.2.1,s.2.2)):Option (List Int×Int×List (Int×Int)))=some s'
  ∧ CI F w cl' s'∧c∈cl'∧∃ e,cl'=cl++e∧∀ x∈e,x=c:=by
 by_cases hm:c∈cl
 · refine ⟨s,cl,?_,h,hm,[],by simp,nofun⟩
   rw [(h.map c hc).2 hm];rfl
 · have hl:s.1.length≤4096:=by rw [h.masks,List.length_map];exact few h.nd h.sm
   refine ⟨(s.1++[((mkN c:Nat):Int)],(n:Int),mput s.2.2 (mkN c) (n:Int)),cl++[c],?_,?_,by simp,[c],rfl,by simp⟩
   · have:(mget s.2.2 (mkN c)).isSome=false:=by rw [Bool.eq_false_iff];exact fun g=>hm ((h.map c hc).1 g)
     rw [this,Bool.not_false,cond_true]
     unfold app
     rw [if_pos (by simp [lim];omega),zaa]
   · refine ⟨by simp [h.masks],?_,?_,?_,?_⟩
     · rw [List.nodup_append]
       exact ⟨h.nd,by simp,fun a ha b hb e=>by
        have:b=c:=by simpa using hb
        exact hm (this ▸ e ▸ ha)⟩
     · intro x hx
       rcases List.mem_append.1 hx with g|g
       · exact h.sm x g
       · have:x=c:=by simpa using g
         exact this ▸ hc
     · intro x hx
       show (mget (mput s.2.2 (mkN c) (n:Int)) (mkN x)).isSome=true↔_
       rw [mget_mput]
       by_cases e:x=c
       · subst e;simp
       · rw [if_neg (fun g=>e (mkN_inj hx hc (by omega))),h.map x hx]
         simp [e]
     · intro x hx
       show ∃ m:Nat,mget (mput s.2.2 (mkN c) (n:Int)) (mkN x)=some (m:Int)∧_
       rw [mget_mput]
       by_cases e:x=c
       · subst e;exact ⟨n,by simp,hr hm,hn5⟩
       · have hx2:x∈cl:=by
          rcases List.mem_append.1 hx with g|g
          · exact g
          · exact absurd (by simpa using g) e
         rw [if_neg (fun g=>e (mkN_inj (h.sm x hx2) hc (by omega)))]
         exact h.rk x hx2
structure Clos (F:Cnf) (w:Int) (cl:List (List Int)) (C:zbo):Prop where
 ci:CI F w cl (C.masks,C.last,C.rounds)
 all:∀ c,c∈cl↔∃ n,Kn F w n c
def From (F:Cnf) (w:Int) (cl:List (List Int)) (i j:Nat) (c:List Int):Prop:=∃ a b v,cl[i]?=some a∧cl[j]?=some b∧(Mk F w a b v c∨Mk F w b a v c)
structure CR (F:Cnf) (w:Int) (r:Nat) (cl:List (List Int)) (D:Nat→Nat→Prop) (s:List Int×Int×List (Int×Int)):Prop where
 ex:∃ e,CI F w (cl++e) s∧(∀ c∈e,Kn F w (r + 1) c)∧∀ i j c,D i j→From F w cl i j c→c∈cl++e
theorem impl_closureOf_eq {F:Cnf} {w:Int} (hF:Nar F):∃ o,zcS F w=some o∧∃ C cl,o=some C∧Clos F w cl C:=by
 unfold zcS
 refine list_m (I:=fun i s=>∃ cl,CI F w cl s∧∀ c,c∈cl↔c∈F.clauses.take i∧len c≤w) ?_ ?_ ?_
 · exact ⟨[],⟨rfl,List.nodup_nil,nofun,fun c _=>by simp [mget],nofun⟩,by simp⟩
 · rintro i y s hy ⟨cl,h,hm⟩
   have hmem:=List.mem_of_getElem? hy
   have hys:=hF.ax hmem
   have htk:∀ c,c∈F.clauses.take (i + 1)↔c∈F.clauses.take i∨c=y:=by
    intro c;rw [List.take_add_one,hy];simp
   left
   by_cases hl:len y≤w
   · obtain ⟨s',cl',e1,e2,e3,e,e4,e5⟩:=h.add hys (n:=0) (by omega) (fun _=>⟨.inl ⟨hmem,hl⟩,fun g=>g⟩)
     refine ⟨s',?_,cl',e2,?_⟩
     · simp only [maskOf_eq hys,zaa]
       rw [decide_eq_true hl,cond_true]
       rw [show (0:Int)=((0:Nat):Int) from rfl]
       simp only [e1,zaa]
     · intro c
       rw [htk]
       constructor
       · intro hc
         rw [e4] at hc
         rcases List.mem_append.1 hc with g|g
         · exact ⟨.inl ((hm c).1 g).1,((hm c).1 g).2⟩
         · rw [e5 c g];exact ⟨.inr rfl,hl⟩
       · rintro ⟨g|g,g2⟩
         · rw [e4];exact List.mem_append_left _ ((hm c).2 ⟨g,g2⟩)
         · rw [g];exact e3
   · refine ⟨s,by rw [decide_eq_false hl,cond_false],cl,h,?_⟩
     intro c
     rw [htk,hm]
     constructor
     · rintro ⟨g,g2⟩;exact ⟨.inl g,g2⟩
     · rintro ⟨g|g,g2⟩
       · exact ⟨g,g2⟩
       · rw [g] at g2;exact absurd g2 hl
 · rintro s ⟨cl,h,hm⟩
   rw [List.take_length] at hm
   refine iter_m (I:=fun s=>∃ (r f:Nat) (cl:List (List Int)),1≤r∧r≤f + 1∧s.2.2.2.2=(r:Int)∧s.2.2.2.1=(f:Int)∧f≤cl.length∧CI F w cl (s.1,s.2.1,s.2.2.1)∧(∀ c,c∈cl↔Kn F w r c)∧∀ c,c∈cl.take f↔Kn F w (r - 1) c)
    (m:=fun s=>5000 - s.2.2.2.1.toNat) ?_ ?_
   · refine ⟨1,0,cl,by omega,by omega,rfl,rfl,by omega,h,?_,?_⟩
     · intro c
       rw [hm]
       constructor
       · intro g;exact .inl g
       · rintro (g|g|⟨a,b,v,g,_⟩)
         · exact g
         · exact g.elim
         · exact g.elim
     · intro c
       simp [Kn]
   · rintro ⟨ms,lst,mp,fr,rd⟩ ⟨r,f,cl,h1,h2,h3,h4,h5,hci,hall,hold⟩
     simp only at h3 h4 hci ⊢
     subst h3 h4
     have hfew:=few hci.nd hci.sm
     have hlen:len ms=(cl.length:Int):=by have:=hci.masks;simp only at this;rw [this];simp [len]
     by_cases hf:f < cl.length
     · left
       rw [hlen,decide_eq_true (by omega),cond_true]
       have fin:∀ q:List Int×Int×List (Int×Int),CR F w r cl (fun i j=>f≤i∧i < cl.length∧j < i) q→∃ s':List Int×Int×List (Int×Int)×Int×Int,(Lp.nx (q.1,q.2.1,q.2.2,((cl.length:Nat):Int),wr ((r:Int) + 1)):Lp _ Empty)=Lp.nx s'∧(∃ (r f:Nat) (cl:List (List Int)),1≤r∧r≤f + 1∧s'.2.2.2.2=(r:Int)∧s'.2.2.2.1=(f:Int)∧f≤cl.length∧CI F w cl (s'.1,s'.2.1,s'.2.2.1)∧(∀ c,c∈cl↔Kn F w r c)∧∀ c,c∈cl.take f↔Kn F w (r - 1) c)∧5000 - s'.2.2.2.1.toNat < 5000 - ((f:Nat):Int).toNat:=by
        rintro q ⟨ex,hex,hex2,hex3⟩
        refine ⟨_,rfl,⟨r + 1,cl.length,cl++ex,by omega,by omega,?_,rfl,by simp,?_,?_,?_⟩,?_⟩
        · simp only []
          rw [wr_s (by omega) (by omega)];omega
        · exact hex
        · intro c
          constructor
          · intro hc
            rcases List.mem_append.1 hc with g|g
            · exact .inr (.inl ((hall c).1 g))
            · exact hex2 c g
          · rintro (g|g|⟨a,b,v,g1,g2,g3⟩)
            · exact List.mem_append_left _ ((hall c).2 (Kn.up (n:=1) h1 (.inl g)))
            · exact List.mem_append_left _ ((hall c).2 g)
            · have hne:=g3.ne hF (hF.kn g1) (hF.kn g2)
              obtain ⟨i,hi⟩:=List.getElem?_of_mem ((hall a).2 g1)
              obtain ⟨j,hj⟩:=List.getElem?_of_mem ((hall b).2 g2)
              have hij:i≠j:=by rintro rfl;rw [hi] at hj;exact hne (by simpa using hj)
              have hil:=zao hi
              have hjl:=zao hj
              by_cases hold2:i < f∧j < f
              · have ga:=(hold a).1 (List.mem_of_getElem? (i:=i) (by rw [List.getElem?_take,if_pos hold2.1,hi]))
                have gb:=(hold b).1 (List.mem_of_getElem? (i:=j) (by rw [List.getElem?_take,if_pos hold2.2,hj]))
                have:Kn F w (r - 1 + 1) c:=.inr (.inr ⟨a,b,v,ga,gb,g3⟩)
                rw [show r - 1 + 1=r by omega] at this
                exact List.mem_append_left _ ((hall c).2 this)
              · by_cases hlt:j < i
                · exact hex3 i j c ⟨by omega,hil,hlt⟩ ⟨a,b,v,hi,hj,.inl g3⟩
                · exact hex3 j i c ⟨by omega,hjl,by omega⟩ ⟨b,a,v,hj,hi,.inr g3⟩
        · intro c
          rw [List.take_append_of_le_length (Nat.le_refl _),List.take_length,hall]
          rfl
        · simp only [Int.toNat_natCast]
          omega
       refine cnt_m (R:=fun z=>∃ q,z=Lp.nx (q.1,q.2.1,q.2.2,((cl.length:Nat):Int),wr ((r:Int) + 1))∧CR F w r cl (fun i j=>f≤i∧i < cl.length∧j < i) q) (σ:=List Int×Int×List (Int×Int)) (fun s i=>(s.1,s.2.1,s.2.2,i)) (n:=cl.length) (a:=f) (s0:=(ms,lst,mp)) (I:=fun k s=>CR F w r cl (fun i j=>f≤i∧i < k∧j < i) s) rfl (by omega) ?_ ?_ ?_ ?_ |> fun ⟨z,h1,q,h2,h3⟩=>(fin q h3).elim fun s' g=>⟨s',h1.trans (congrArg some (h2.trans g.1)),g.2⟩
       · exact ⟨[],by simpa using hci,nofun,fun i j c hd=>by omega⟩
       · rintro k s hk1 hk2 ⟨e,he,hk,hd⟩
         left
         simp only []
         rw [decide_eq_true (by omega),cond_true]
         have hfewe:=few he.nd he.sm
         have hms:s.1.length=(cl++e).length:=by rw [he.masks];simp
         have hcut:cut s.1 0 (k:Int)=some ((cl.take k).map fun c=>((mkN c:Nat):Int)):=by
          unfold cut
          rw [if_pos (by rw [hms,List.length_append];omega)]
          rw [he.masks,show ((k:Nat):Int).toNat=k by simp,← List.map_take,List.take_append_of_le_length (by omega)]
          rfl
         rw [hcut,zaa]
         obtain ⟨x,hx⟩:∃ x,cl[k]?=some x:=⟨cl[k],List.getElem?_eq_getElem hk2⟩
         have hxs:=hci.sm x (List.mem_of_getElem? hx)
         have hxk:=(hall x).1 (List.mem_of_getElem? hx)
         refine list_m (σ:=List Int×Int×List (Int×Int)) (R:=fun z=>∃ s',z=Lp.nx (s'.1,s'.2.1,s'.2.2,((k + 1:Nat):Int))∧CR F w r cl (fun i j=>f≤i∧i < k + 1∧j < i) s') (I:=fun q s=>CR F w r cl (fun i j=>(f≤i∧i < k∧j < i)∨(i=k∧j < q)) s) ?_ ?_ ?_ |> fun ⟨z,h1,s',h2,h3⟩=>⟨s',h1.trans (congrArg some h2),h3⟩
         · exact ⟨e,he,hk,fun i j c hh hfm=>hd i j c (by omega) hfm⟩
         · rintro q y s hy ⟨e,he,hk,hd⟩
           left
           obtain ⟨b,hb,rfl⟩:∃ b,cl[q]?=some b∧y=((mkN b:Nat):Int):=by
            rw [List.getElem?_map,Option.map_eq_some_iff] at hy
            obtain ⟨b,hb,hy⟩:=hy
            rw [List.getElem?_take] at hb
            split at hb
            · exact ⟨b,hb,hy.symm⟩
            · cases hb
           have hbs:=hci.sm b (List.mem_of_getElem? hb)
           have hbk:=(hall b).1 (List.mem_of_getElem? hb)
           have hix:ix s.1 (k:Int)=some ((mkN x:Nat):Int):=by
            rw [zaQ,he.masks,List.getElem?_map,List.getElem?_append_left hk2,hx];rfl
           rw [hix,zaa]
           change ∃ s',(bif (!hitM (mkN x) (mkN b)) then some (Lp.nx (s.1,s.2.1,s.2.2)) else bd (PF.zbz (rsvM (mkN x) (mkN b))) (fun r1931=>(bif (decide (r1931≤w)) then bd (β:=_) ((bif (!((mget s.2.2 (rsvM (mkN x) (mkN b))).isSome)) then bd (app s.1 [(rsvM (mkN x) (mkN b))]) (fun xs1987=>some (xs1987,(r:Int),(mput s.2.2 (rsvM (mkN x) (mkN b)) (r:Int)))) else some (s.1,s.2.1,s.2.2)):Option ((List Int)×Int×(List (Int×Int)))) (fun s1967=>some (Lp.nx (s1967.1,s1967.2.1,s1967.2.2))) else some (Lp.nx (s.1,s.2.1,s.2.2)))))=some (Lp.nx s')∧_
           have hdone:∀ {e':List (List Int)},(∀ c∈cl++e,c∈cl++e')→(∀ c v,Mk F w x b v c∨Mk F w b x v c→c∈cl++e')→∀ i j c,((f≤i∧i < k∧j < i)∨(i=k∧j < q + 1))→From F w cl i j c→c∈cl++e':=by
            intro e' h1 h2 i j c hij hfm
            by_cases hh:i=k∧j=q
            · obtain ⟨a,b',v,g1,g2,g3⟩:=hfm
              rw [hh.1,hx] at g1
              rw [hh.2,hb] at g2
              cases g1;cases g2
              exact h2 c v g3
            · exact h1 c (hd i j c (by omega) hfm)
           by_cases hh:hitM (mkN x) (mkN b)=true
           · obtain ⟨c,hc1,hc2,hc3⟩:=hit_mk (w:=w) hF hxs hbs hh
             rw [hh,hc2,count_mk hc1,zaa,Bool.not_true,cond_false]
             by_cases hl:len c≤w
             · obtain ⟨v,hv⟩:=hc3 hl
               have hck:Kn F w (r + 1) c:=by
                rcases hv with hv|hv
                · exact .inr (.inr ⟨x,b,v,hxk,hbk,hv⟩)
                · exact .inr (.inr ⟨b,x,v,hbk,hxk,hv⟩)
               obtain ⟨s',cl',e1,e2,e3,e',e4,e5⟩:=he.add hc1 (n:=r) (by omega) (fun hn=>⟨hck,fun g=>hn (List.mem_append_left _ ((hall c).2 g))⟩)
               refine ⟨s',?_,e++e',?_,?_,?_⟩
               · rw [decide_eq_true hl,cond_true,e1,zaa]
               · rw [← List.append_assoc,← e4];exact e2
               · intro z hz
                 rcases List.mem_append.1 hz with g|g
                 · exact hk z g
                 · rw [e5 z g];exact hck
               · refine hdone (fun z hz=>?_) (fun z v' hz=>?_)
                 · rw [← List.append_assoc];exact List.mem_append_left _ hz
                 · have:=(Mk.hit hxs hbs hz).2
                   have hzs:IsS F.vars z:=by
                    rcases hz with ⟨g1,g2,g3,g4,_⟩|⟨g1,g2,g3,g4,_⟩
                    · exact ⟨g4 ▸ zbk hxs.c hbs.c g3,hF.le⟩
                    · exact ⟨g4 ▸ zbk hbs.c hxs.c g3,hF.le⟩
                   have:z=c:=mkN_inj hzs hc1 (by rw [hc2] at this;omega)
                   rw [this,← List.append_assoc,← e4]
                   exact e3
             · refine ⟨s,by rw [decide_eq_false hl,cond_false],e,he,hk,hdone (fun z hz=>hz) (fun z v' hz=>?_)⟩
               exfalso
               have hzl:len z≤w:=by rcases hz with ⟨_,_,_,_,g⟩|⟨_,_,_,_,g⟩ <;> exact g
               have:=(Mk.hit hxs hbs hz).2
               have hzs:IsS F.vars z:=by
                rcases hz with ⟨g1,g2,g3,g4,_⟩|⟨g1,g2,g3,g4,_⟩
                · exact ⟨g4 ▸ zbk hxs.c hbs.c g3,hF.le⟩
                · exact ⟨g4 ▸ zbk hbs.c hxs.c g3,hF.le⟩
               have:z=c:=mkN_inj hzs hc1 (by rw [hc2] at this;omega)
               exact hl (this ▸ hzl)
           · rw [Bool.not_eq_true] at hh
             rw [hh,Bool.not_false,cond_true]
             refine ⟨s,rfl,e,he,hk,hdone (fun z hz=>hz) (fun z v' hz=>?_)⟩
             have:=(Mk.hit hxs hbs hz).1
             rw [hh] at this;cases this
         · rintro s ⟨e,he,hk,hd⟩
           refine ⟨_,rfl,s,?_,e,he,hk,fun i j c hij hfm=>hd i j c ?_ hfm⟩
           · simp only [Lp.nx.injEq,Prod.mk.injEq,true_and]
             rw [wr_s (by omega) (by omega)];omega
           · rw [List.length_map,List.length_take]
             omega
       · intro s hs
         simp
       · intro s hs
         exact ⟨_,rfl,s,rfl,hs⟩
     · right;left
       rw [hlen,decide_eq_false (by omega),cond_false]
       refine ⟨_,rfl,_,rfl,_,cl,rfl,hci,fun c=>?_⟩
       have hf':f=cl.length:=by omega
       subst hf'
       rw [List.take_length] at hold
       constructor
       · intro hc;exact ⟨r,(hall c).1 hc⟩
       · rintro ⟨n,hn⟩
         refine (hold c).2 (Kn.stop (fun z hz=>?_) hn)
         rw [show r - 1 + 1=r by omega] at hz
         exact (hold z).1 ((hall z).2 hz)
end Go.PF
namespace Go.PF
open Go.Pu
def atC (cl:List (List Int)) (k:Int):List Int:=(cl[k.toNat]?).getD []
theorem atC_ix {cl:List (List Int)} {k:Int} (h0:0≤k) (h1:k < cl.length):ix cl k=some (atC cl k)∧cl[k.toNat]?=some (atC cl k):=by
 obtain ⟨x,e1,e2⟩:=ix_of (xs:=cl) h0 h1
 unfold atC
 rw [e1,e2];exact ⟨rfl,rfl⟩
theorem atC_app {cl e:List (List Int)} {k:Int} (h0:0≤k) (h1:k < cl.length):atC (cl++e) k=atC cl k:=by
 unfold atC
 rw [List.getElem?_append_left (by omega)]
structure Ord (cl:List (List Int)) (m:Nat) (o:List Int):Prop where
 srt:SrtC (o.map (atC cl))
 mem:∀ c,c∈o.map (atC cl)↔c∈cl.take m
 inr:∀ k∈o,0≤k∧k < m
 len:o.length=m
theorem spec_l10Order_eq {W:zaD} {V:Int} (hn:W.list.Nodup) (hc:∀ c∈W.list,IsS V c):∃ o,zcX W=some o∧Ord W.list W.list.length o:=by
 unfold zcX
 have hfew:=few hn hc
 refine cnt_m (σ:=List Int) (fun s i=>(s,i)) (n:=W.list.length) (a:=0) (I:=fun i s=>Ord W.list i s) rfl (by omega) ⟨by simp,by simp,nofun,rfl⟩ ?_ ?_ ?_
 · intro i s _ hi ho
   left
   simp only []
   rw [zai,decide_eq_true (by omega),cond_true]
   obtain ⟨c,hx⟩:∃ c,W.list[i]?=some c:=⟨W.list[i],List.getElem?_eq_getElem hi⟩
   have hcs:=hc c (List.mem_of_getElem? hx)
   have hsl:=ho.len
   have hP:plc (s.map (atC W.list)) c≤s.length:=by have:=plc_le (s.map (atC W.list)) c;simpa using this
   rw [zai,bsearch (n:=s.length) (P:=plc (s.map (atC W.list)) c) hP (fun a b hab hb=>?_) (fun a ha=>?_)]
   · rw [bdR_go]
     simp only []
     have hcut:cut s 0 ((plc (s.map (atC W.list)) c:Nat):Int)=some (s.take (plc (s.map (atC W.list)) c)):=by
      unfold cut
      rw [if_pos (by omega)];simp
     have hcut2:cut s ((plc (s.map (atC W.list)) c:Nat):Int) (s.length:Int)=some (s.drop (plc (s.map (atC W.list)) c)):=by
      unfold cut
      rw [if_pos (by omega)];simp
     rw [hcut,zaa,zcl (by simp [lim];omega),zaa]
     have happ:app (s.take (plc (s.map (atC W.list)) c)) [(i:Int)]=some (s.take (plc (s.map (atC W.list)) c)++[(i:Int)]):=by
      unfold app;rw [if_pos (by simp [lim];omega)]
     rw [happ,zaa,hcut2,zaa]
     have happ2:app (s.take (plc (s.map (atC W.list)) c)++[(i:Int)]) (s.drop (plc (s.map (atC W.list)) c))=some (s.take (plc (s.map (atC W.list)) c)++[(i:Int)]++s.drop (plc (s.map (atC W.list)) c)):=by
      unfold app;rw [if_pos (by simp [lim];omega)]
     rw [happ2,zaa]
     refine ⟨_,by rw [wr_s (by omega) (by omega)];rfl,?_⟩
     have hat:atC W.list (i:Int)=c:=by unfold atC;rw [show ((i:Nat):Int).toNat=i by simp,hx];rfl
     have hmap:(s.take (plc (s.map (atC W.list)) c)++[(i:Int)]++s.drop (plc (s.map (atC W.list)) c)).map (atC W.list)=insC (s.map (atC W.list)) c:=by
      unfold insC
      rw [List.map_append,List.map_append,List.map_take,List.map_drop,List.map_cons,List.map_nil,hat]
      simp
     have hnew:c ∉ s.map (atC W.list):=by
      rw [ho.mem]
      intro g
      obtain ⟨j,hj⟩:=List.getElem?_of_mem g
      rw [List.getElem?_take] at hj
      split at hj
      · rename_i hlt
        have hij:i=j:=by
         have e1:W.list[i]?=W.list[j]?:=by rw [hx,hj]
         exact (List.getElem?_inj hi hn).1 e1
        omega
      · cases hj
     refine ⟨?_,?_,?_,?_⟩
     · rw [hmap];exact insC_srt ho.srt hnew
     · intro x
       rw [hmap,insC_mem,ho.mem,List.take_add_one,hx]
       simp [or_comm]
     · intro k hk
       have:k=(i:Int)∨k∈s:=by
        rw [List.mem_append,List.mem_append] at hk
        rcases hk with (hk|hk)|hk
        · exact .inr (List.mem_of_mem_take hk)
        · exact .inl (by simpa using hk)
        · exact .inr (List.mem_of_mem_drop hk)
       rcases this with h|h
       · omega
       · have:=ho.inr k h;omega
     · simp;omega
   · have w1:wr ((a:Int) + b)=((a + b:Nat):Int):=by rw [wr_of _ (by omega) (by omega)];omega
     have w2:wr (((a + b:Nat):Int).tdiv 2)=(((a + b) / 2:Nat):Int):=by
      rw [Int.tdiv_eq_ediv_of_nonneg (by omega)]
      rw [wr_of _ (by omega) (by omega)];omega
     have w3:wr ((((a + b) / 2:Nat):Int) + 1)=(((a + b) / 2 + 1:Nat):Int):=by rw [wr_of _ (by omega) (by omega)];omega
     obtain ⟨k,hk⟩:∃ k,s[(a + b) / 2]?=some k:=⟨_,List.getElem?_eq_getElem (by omega)⟩
     have hkr:=ho.inr k (List.mem_of_getElem? hk)
     have hkm:(s.map (atC W.list))[(a + b) / 2]?=some (atC W.list k):=by rw [List.getElem?_map,hk];rfl
     have hp:=plc_lt ho.srt (c:=c) hkm
     obtain ⟨i1,i2⟩:=atC_ix (cl:=W.list) hkr.1 (by omega)
     simp only [show decide ((a:Int) < (b:Int))=true by rw [decide_eq_true_eq];omega,cond_true,w1,w2,w3,zaQ,hk,i1,hx,zaa]
     rw [zdI (hc _ (List.mem_of_getElem? i2)).c.small hcs.c.small,zaa]
     by_cases hlt:(a + b) / 2 < plc (s.map (atC W.list)) c
     · rw [if_pos hlt,show decide (cmpC (atC W.list k) c < 0)=true by rw [decide_eq_true_eq];exact hp.2 hlt];rfl
     · rw [if_neg hlt,show decide (cmpC (atC W.list k) c < 0)=false by rw [decide_eq_false_iff_not];exact fun h=>hlt (hp.1 h)];rfl
   · simp only [show decide ((a:Int) < (a:Int))=false by rw [decide_eq_false_iff_not];omega,cond_false]
 · intro s hs
   simp [zai]
 · intro s hs
   exact ⟨s,rfl,hs⟩
abbrev Tri:=List Int×List Int×Int
def vsN (V:Int):List Int:=(List.range' 1 V.toNat).map fun (k:Nat)=>(k:Int)
def tris (V:Int) (kn:List (List Int)):List Tri:=kn.flatMap fun a=>kn.flatMap fun b=>(vsN V).map fun v=>(a,b,v)
def prodB (w:Int) (c:List Int) (t:Tri):Bool:=(res t.1 t.2.1 t.2.2).2 && ((res t.1 t.2.1 t.2.2).1 == c) && decide (len c≤w)
def Src (F:Cnf) (w:Int) (n:Nat) (c:List Int) (t:Tri):Prop:=∃ kn,SrtC kn∧(∀ x,x∈kn↔Kn F w n x)∧(tris F.vars kn).find? (prodB w c)=some t
theorem vsN_mem {V v:Int}:v∈vsN V↔1≤v∧v≤V:=by
 unfold vsN
 rw [List.mem_map]
 constructor
 · rintro ⟨k,hk,rfl⟩
   rw [List.mem_range'_1] at hk
   omega
 · rintro ⟨h1,h2⟩
   exact ⟨v.toNat,by rw [List.mem_range'_1];omega,by omega⟩
theorem tris_mem {V:Int} {kn:List (List Int)} {t:Tri}:t∈tris V kn↔t.1∈kn∧t.2.1∈kn∧1≤t.2.2∧t.2.2≤V:=by
 unfold tris
 simp only [List.mem_flatMap,List.mem_map,vsN_mem]
 constructor
 · rintro ⟨a,ha,b,hb,v,hv,rfl⟩
   exact ⟨ha,hb,hv⟩
 · rintro ⟨ha,hb,hv⟩
   exact ⟨t.1,ha,t.2.1,hb,t.2.2,hv,rfl⟩
theorem zbl {w:Int} {c:List Int} {t:Tri}:prodB w c t=true↔(res t.1 t.2.1 t.2.2).2=true∧(res t.1 t.2.1 t.2.2).1=c∧len c≤w:=by
 unfold prodB
 rw [Bool.and_eq_true,Bool.and_eq_true,beq_iff_eq,decide_eq_true_iff]
 exact and_assoc
theorem Src.mk {F:Cnf} {w:Int} {n:Nat} {c:List Int} {t:Tri} (h:Src F w n c t):Kn F w n t.1∧Kn F w n t.2.1∧Mk F w t.1 t.2.1 t.2.2 c:=by
 obtain ⟨k,h1,h2,h3⟩:=h
 have hm:=tris_mem.1 (List.mem_of_find?_eq_some h3)
 have hp:=zbl.1 (List.find?_some h3)
 exact ⟨(h2 _).1 hm.1,(h2 _).1 hm.2.1,hm.2.2.1,hm.2.2.2,hp.1,hp.2.1,hp.2.2⟩
structure Ent where
 a:Int
 b:Int
 v:Int
 c:List Int
structure New (F:Cnf) (w:Int) (old cl:List (List Int)) (D:List Tri) (E:List Ent):Prop where
 srt:SrtC (E.map (·.c))
 one:∀ e∈E,D.find? (prodB w e.c)=some (atC cl e.a,atC cl e.b,e.v)∧e.c ∉ old∧0≤e.a∧e.a < cl.length∧0≤e.b∧e.b < cl.length∧IsS F.vars e.c
 all:∀ t∈D,∀ c,prodB w c t=true→c∈old∨c∈E.map (·.c)
theorem New.few {F:Cnf} {w:Int} {old cl:List (List Int)} {D:List Tri} {E:List Ent} (h:New F w old cl D E):E.length≤4096:=by
 have:=PF.few (V:=F.vars) (cl:=E.map (·.c)) (by
  rw [List.nodup_iff_pairwise_ne]
  refine h.srt.imp ?_
  intro a b hab e
  exact zcn a (e ▸ hab)) (by
  intro c hc
  obtain ⟨e,he,rfl⟩:=List.mem_map.1 hc
  exact (h.one e he).2.2.2.2.2.2)
 simpa using this
theorem New.cfg {F:Cnf} {w:Int} {old cl:List (List Int)} {D:List Tri} {E:List Ent} (h:New F w old cl D E):Cfg F.vars 4096 (E.map (·.c)) :=
 ⟨h.srt,by have:=h.few;simpa using this,by
  intro c hc
  obtain ⟨e,he,rfl⟩:=List.mem_map.1 hc
  exact (h.one e he).2.2.2.2.2.2.c⟩
theorem New.skip {F:Cnf} {w:Int} {old cl:List (List Int)} {D D':List Tri} {E:List Ent} (h:New F w old cl D E) (hD:∀ t∈D',∀ c,prodB w c t=true→c∈old∨c∈E.map (·.c)):New F w old cl (D++D') E :=
 ⟨h.srt,fun e he=>by
  obtain ⟨h1,h2⟩:=h.one e he
  refine ⟨?_,h2⟩
  rw [List.find?_append,h1];rfl,fun t ht c hc=>by
  rcases List.mem_append.1 ht with g|g
  · exact h.all t g c hc
  · exact hD t g c hc⟩
def putE (E:List Ent) (e:Ent):List Ent:=E.take (plc (E.map (·.c)) e.c)++e::E.drop (plc (E.map (·.c)) e.c)
theorem putE_map {α:Type} (E:List Ent) (e:Ent) (f:Ent→α):(putE E e).map f=(E.map f).take (plc (E.map (·.c)) e.c)++f e::(E.map f).drop (plc (E.map (·.c)) e.c):=by
 unfold putE
 rw [List.map_append,List.map_cons,List.map_take,List.map_drop]
theorem putE_c (E:List Ent) (e:Ent):(putE E e).map (·.c)=insC (E.map (·.c)) e.c:=by rw [putE_map];rfl
theorem New.put {F:Cnf} {w:Int} {old cl:List (List Int)} {D:List Tri} {E:List Ent} (h:New F w old cl D E) {e:Ent} (h1:prodB w e.c (atC cl e.a,atC cl e.b,e.v)=true) (h2:e.c ∉ old) (h3:e.c ∉ E.map (·.c))
 (h4:0≤e.a∧e.a < cl.length∧0≤e.b∧e.b < cl.length∧IsS F.vars e.c):New F w old cl (D++[(atC cl e.a,atC cl e.b,e.v)]) (putE E e):=by
 have hm:∀ x,x∈putE E e↔x=e∨x∈E:=by
  intro x
  unfold putE
  rw [List.mem_append,List.mem_cons]
  constructor
  · rintro (g|g|g)
    · exact .inr (List.mem_of_mem_take g)
    · exact .inl g
    · exact .inr (List.mem_of_mem_drop g)
  · rintro (g|g)
    · exact .inr (.inl g)
    · rw [← List.take_append_drop (plc (E.map (·.c)) e.c) E,List.mem_append] at g
      rcases g with g|g
      · exact .inl g
      · exact .inr (.inr g)
 refine ⟨?_,?_,?_⟩
 · rw [putE_c];exact insC_srt h.srt h3
 · intro x hx
   rcases (hm x).1 hx with rfl|g
   · refine ⟨?_,h2,h4⟩
     rw [List.find?_append]
     have:D.find? (prodB w x.c)=none:=by
      rw [List.find?_eq_none]
      intro t ht hp
      rcases h.all t ht _ hp with g|g
      · exact h2 g
      · exact h3 g
     rw [this,Option.none_or,List.find?_singleton,if_pos h1]
   · obtain ⟨g1,g2⟩:=h.one x g
     exact ⟨by rw [List.find?_append,g1];rfl,g2⟩
 · intro t ht c hc
   rw [putE_c,insC_mem]
   rcases List.mem_append.1 ht with g|g
   · rcases h.all t g c hc with g2|g2
     · exact .inl g2
     · exact .inr (.inr g2)
   · have e1:t=(atC cl e.a,atC cl e.b,e.v):=by simpa using g
     subst e1
     refine .inr (.inl ?_)
     rw [← (zbl.1 hc).2.1,(zbl.1 h1).2.1]
end Go.PF
namespace Go.PF
open Go.Pu
def LtR (F:Cnf) (w:Int) (a b:List Int):Prop:=∃ n m,Rk F w n a∧Rk F w m b∧(n < m∨(n=m∧cmpC a b < 0))
structure WI (F:Cnf) (w:Int) (r:Nat) (W:zaD):Prop where
 srt:SrtC W.sorted
 sm:∀ c,c∈W.sorted↔Kn F w r c
 lm:∀ c,c∈W.list↔Kn F w r c
 nd:W.list.Nodup
 l1:W.rounds.length=W.list.length
 l2:W.left.length=W.list.length
 l3:W.right.length=W.list.length
 l4:W.pivots.length=W.list.length
 at_:∀ (i:Nat) c,W.list[i]?=some c→∃ n:Nat,W.rounds[i]?=some (n:Int)∧Rk F w n c∧(1≤n→∃ a b v:Int,W.left[i]?=some a∧W.right[i]?=some b∧W.pivots[i]?=some v∧0≤a∧a < i∧0≤b∧b < i∧Src F w n c (atC W.list a,atC W.list b,v))
 ord:W.list.Pairwise (LtR F w)
theorem ins_chain {B:Type} {L:List Int} {p:Nat} {x:Int} (hp:p≤L.length) (hl:L.length≤100000) (k:List Int→Option B) :
 bd (cut L 0 (p:Int)) (fun xs=>bd (za5 xs) fun r=>bd (app r [x]) fun ys=>bd (cut L (p:Int) (len L)) fun zs=>bd (app ys zs) k)=k (L.take p++x::L.drop p):=by
 have hcut:cut L 0 (p:Int)=some (L.take p):=by
  unfold cut
  rw [if_pos (by omega)];simp
 have hcut2:cut L (p:Int) (len L)=some (L.drop p):=by
  unfold cut
  rw [zai,if_pos (by omega)];simp
 rw [hcut,zaa,zcl (by simp [lim];omega),zaa]
 have happ:app (L.take p) [x]=some (L.take p++[x]):=by
  unfold app;rw [if_pos (by simp [lim];omega)]
 rw [happ,zaa,hcut2,zaa]
 have happ2:app (L.take p++[x]) (L.drop p)=some (L.take p++[x]++L.drop p):=by
  unfold app;rw [if_pos (by simp [lim];omega)]
 rw [happ2,zaa]
 simp
theorem cT {B:Type} {p:Prop} {i:Decidable p} (h:p) {a b:B}:(bif @decide p i then a else b)=a:=by rw [decide_eq_true h];rfl
theorem cF {B:Type} {p:Prop} {i:Decidable p} (h:¬ p) {a b:B}:(bif @decide p i then a else b)=b:=by rw [decide_eq_false h];rfl
theorem k11 {k:Nat} (h:1≤k):k + 1 - 1=k - 1 + 1:=by omega
abbrev rowsE (E:List Ent):List Int×List Int×List Int×List (List Int):=(E.map (·.a),E.map (·.b),E.map (·.v),E.map (·.c))
theorem vsN_at {V:Int} {i:Nat} (h1:1≤i) (h2:(i:Int)≤V):(vsN V)[i - 1]?=some (i:Int):=by
 unfold vsN
 rw [List.getElem?_map,List.getElem?_range' (by omega)]
 simp;omega
theorem vsN_len (V:Int):(vsN V).length=V.toNat:=by unfold vsN;simp
theorem take_flat {α β:Type} {l:List α} {f:α→List β} {i:Nat} {x:α} (h:l[i]?=some x):(l.take (i + 1)).flatMap f=(l.take i).flatMap f++f x:=by
 rw [List.take_add_one,h];simp
theorem take_map1 {α β:Type} {l:List α} {f:α→β} {i:Nat} {x:α} (h:l[i]?=some x):(l.take (i + 1)).map f=(l.take i).map f++[f x]:=by
 rw [List.take_add_one,h];simp
theorem spec_l10Round_eq {F:Cnf} {w:Int} (hF:Nar F) {W:zaD} {r:Nat} (h:WI F w r W) (hr:1≤r) (hrb:r≤10000) :
 ∃ q,zc0 F.vars W w (r:Int)=some q∧WI F w (r + 1) q.1∧(q.2=true→W.list.length < q.1.list.length)∧(q.2=false→∀ c,Kn F w (r + 1) c→Kn F w r c):=by
 unfold zc0
 have hsm:∀ c∈W.list,IsS F.vars c:=fun c hc=>hF.kn ((h.lm c).1 hc)
 have hfew:=few h.nd hsm
 have hV:0≤F.vars:=by
  have:=hF.cnf
  unfold cnfB at this
  simp only [Bool.and_eq_true] at this
  exact (varsB_iff.1 this.1.1).1
 have hV6:=hF.le
 obtain ⟨o,eo,ho⟩:=spec_l10Order_eq h.nd hsm
 rw [eo,zaa]
 have hol:=ho.len
 have hcs:Cfg F.vars 4096 W.sorted:=⟨h.srt,by
  have:=few (V:=F.vars) (cl:=W.sorted) (by
   rw [List.nodup_iff_pairwise_ne]
   refine h.srt.imp ?_
   intro a b hab e
   exact zcn a (e ▸ hab)) (fun c hc=>hF.kn ((h.sm c).1 hc))
  exact this,fun c hc=>(hF.kn ((h.sm c).1 hc)).c⟩
 have hkn:∀ x,x∈o.map (atC W.list)↔Kn F w r x:=fun x=>by rw [ho.mem,List.take_length,h.lm]
 refine cnt_m (σ:=List Int×List Int×List Int×List (List Int)) (fun s i=>(s.1,s.2.1,s.2.2.1,s.2.2.2,i)) (n:=o.length) (a:=0) (s0:=rowsE [])
  (I:=fun i s=>∃ E,s=rowsE E∧New F w W.sorted W.list (((o.map (atC W.list)).take i).flatMap fun a=>(o.map (atC W.list)).flatMap fun b=>(vsN F.vars).map fun v=>(a,b,v)) E) rfl (by omega) ?_ ?_ ?_ ?_
 · exact ⟨[],rfl,.nil,nofun,by simp⟩
 · rintro i s _ hi ⟨E,rfl,hE⟩
   left
   simp only []
   rw [zai,decide_eq_true (by omega),cond_true]
   obtain ⟨ai,hai⟩:∃ k,o[i]?=some k:=⟨_,List.getElem?_eq_getElem hi⟩
   have hair:=ho.inr ai (List.mem_of_getElem? hai)
   obtain ⟨a1,a2⟩:=atC_ix (cl:=W.list) hair.1 (by omega)
   have has:=hsm _ (List.mem_of_getElem? a2)
   have hka:(o.map (atC W.list))[i]?=some (atC W.list ai):=by rw [List.getElem?_map,hai];rfl
   obtain ⟨na,hra,hrka,_⟩:=h.at_ ai.toNat _ a2
   have hra':ix W.rounds ai=some (na:Int):=by
    have:=zal hra;rwa [show ((ai.toNat:Nat):Int)=ai by omega] at this
   simp only [zaQ,hai,zaa,hra',a1]
   rw [take_flat hka]
   generalize hD:((o.map (atC W.list)).take i).flatMap (fun a=>(o.map (atC W.list)).flatMap fun b=>(vsN F.vars).map fun v=>(a,b,v))=D at hE
   refine cnt_m (R:=fun z=>∃ E',z=Lp.nx ((rowsE E').1,(rowsE E').2.1,(rowsE E').2.2.1,(rowsE E').2.2.2,((i + 1:Nat):Int))∧New F w W.sorted W.list (D++(o.map (atC W.list)).flatMap fun b=>(vsN F.vars).map fun v=>(atC W.list ai,b,v)) E')
    (σ:=List Int×List Int×List Int×List (List Int)) (fun s i=>(s.1,s.2.1,s.2.2.1,s.2.2.2,i)) (n:=o.length) (a:=0) (s0:=rowsE E)
    (I:=fun j s=>∃ E,s=rowsE E∧New F w W.sorted W.list (D++((o.map (atC W.list)).take j).flatMap fun b=>(vsN F.vars).map fun v=>(atC W.list ai,b,v)) E) rfl (by omega) ?_ ?_ ?_ ?_ |> fun ⟨z,h1,E',h2,h3⟩=>⟨rowsE E',h1.trans (congrArg some h2),E',rfl,h3⟩
   · exact ⟨E,rfl,by simpa using hE⟩
   · rintro j s _ hj ⟨E,rfl,hE⟩
     left
     simp only []
     rw [decide_eq_true (by omega),cond_true]
     obtain ⟨bi,hbi⟩:∃ k,o[j]?=some k:=⟨_,List.getElem?_eq_getElem hj⟩
     have hbir:=ho.inr bi (List.mem_of_getElem? hbi)
     obtain ⟨b1,b2⟩:=atC_ix (cl:=W.list) hbir.1 (by omega)
     have hbs:=hsm _ (List.mem_of_getElem? b2)
     have hkb:(o.map (atC W.list))[j]?=some (atC W.list bi):=by rw [List.getElem?_map,hbi];rfl
     obtain ⟨nb,hrb',hrkb,_⟩:=h.at_ bi.toNat _ b2
     have hrb'':ix W.rounds bi=some (nb:Int):=by
      have:=zal hrb';rwa [show ((bi.toNat:Nat):Int)=bi by omega] at this
     simp only [zaQ,hbi,zaa,hrb'',b1]
     rw [take_flat hkb,← List.append_assoc]
     generalize hD2:D++((o.map (atC W.list)).take j).flatMap (fun b=>(vsN F.vars).map fun v=>(atC W.list ai,b,v))=D2 at hE
     have wr1:wr ((r:Int) - 1)=((r - 1:Nat):Int):=by rw [wr_s (by omega) (by omega)];omega
     have wj:wr ((j:Int) + 1)=((j + 1:Nat):Int):=by rw [wr_s (by omega) (by omega)];omega
     have htest:(bif decide (((na:Nat):Int) < ((r - 1:Nat):Int)) then some (decide (((nb:Nat):Int) < ((r - 1:Nat):Int))) else some false)=some (decide (na < r - 1) && decide (nb < r - 1)):=by
      by_cases g:na < r - 1
      · rw [decide_eq_true (by omega),decide_eq_true g,cond_true,Bool.true_and]
        exact congrArg some (decide_eq_decide.2 (by omega))
      · rw [decide_eq_false (by omega),decide_eq_false g];rfl
     rw [wr1,htest,zaa]
     by_cases hsk:na < r - 1∧nb < r - 1
     · rw [decide_eq_true hsk.1,decide_eq_true hsk.2,Bool.and_true,cond_true]
       refine ⟨rowsE E,by rw [wj],E,rfl,hE.skip ?_⟩
       intro t ht c hc
       obtain ⟨v,hv,rfl⟩:=List.mem_map.1 ht
       have hv:=vsN_mem.1 hv
       obtain ⟨p1,p2,p3⟩:=zbl.1 hc
       left
       rw [h.sm]
       have:Kn F w (r - 1 + 1) c:=.inr (.inr ⟨_,_,v,hrka.1.up (by omega),hrkb.1.up (by omega),hv.1,hv.2,p1,p2,p3⟩)
       rwa [show r - 1 + 1=r by omega] at this
     · have:(decide (na < r - 1) && decide (nb < r - 1))=false:=by
        rw [Bool.eq_false_iff]
        intro g
        rw [Bool.and_eq_true,decide_eq_true_iff,decide_eq_true_iff] at g
        exact hsk g
       rw [this,cond_false]
       refine cnt_m (R:=fun z=>∃ E',z=Lp.nx ((rowsE E').1,(rowsE E').2.1,(rowsE E').2.2.1,(rowsE E').2.2.2,((j + 1:Nat):Int))∧New F w W.sorted W.list (D2++(vsN F.vars).map fun v=>(atC W.list ai,atC W.list bi,v)) E')
        (σ:=List Int×List Int×List Int×List (List Int)) (fun s i=>(s.1,s.2.1,s.2.2.1,s.2.2.2,i)) (n:=F.vars.toNat + 1) (a:=1) (s0:=rowsE E)
        (I:=fun k s=>∃ E,s=rowsE E∧New F w W.sorted W.list (D2++((vsN F.vars).take (k - 1)).map fun v=>(atC W.list ai,atC W.list bi,v)) E) rfl (by omega) ?_ ?_ ?_ ?_ |> fun ⟨z,h1,E',h2,h3⟩=>⟨rowsE E',h1.trans (congrArg some h2),E',rfl,h3⟩
       · exact ⟨E,rfl,by simpa using hE⟩
       · rintro k s hk1 hk2 ⟨E,rfl,hE⟩
         left
         simp only []
         rw [decide_eq_true (by omega),cond_true]
         have hkV:(k:Int)≤F.vars:=by omega
         have wk:wr ((k:Int) + 1)=((k + 1:Nat):Int):=by rw [wr_s (by omega) (by omega)];omega
         have hvk:=vsN_at (V:=F.vars) (i:=k) hk1 hkV
         have htk:((vsN F.vars).take (k + 1 - 1)).map (fun v=>(atC W.list ai,atC W.list bi,v))=((vsN F.vars).take (k - 1)).map (fun v=>(atC W.list ai,atC W.list bi,v))++[(atC W.list ai,atC W.list bi,(k:Int))]:=by
          rw [k11 hk1,take_map1 hvk]
         rw [htk,← List.append_assoc]
         generalize hD3:D2++((vsN F.vars).take (k - 1)).map (fun v=>(atC W.list ai,atC W.list bi,v))=D3 at hE
         have hla:=has.c.len
         have hlb:=hbs.c.len
         rw [spec_l2Resolve_eq (by simp only [lim];omega),zaa]
         have hfewE:=hE.few
         have hcE:=hE.cfg
         have skip1:(∀ c,prodB w c (atC W.list ai,atC W.list bi,(k:Int))=true→c∈W.sorted∨c∈E.map (·.c))→∃ s',(some (Lp.nx ((rowsE E).1,(rowsE E).2.1,(rowsE E).2.2.1,(rowsE E).2.2.2,wr ((k:Int) + 1))):Option (Lp (List Int×List Int×List Int×List (List Int)×Int) Empty))=some (Lp.nx (s'.1,s'.2.1,s'.2.2.1,s'.2.2.2,((k + 1:Nat):Int)))∧∃ E,s'=rowsE E∧New F w W.sorted W.list (D3++[(atC W.list ai,atC W.list bi,(k:Int))]) E:=by
          intro g
          refine ⟨rowsE E,by rw [wk],E,rfl,hE.skip ?_⟩
          intro t ht c hc
          have:t=(atC W.list ai,atC W.list bi,(k:Int)):=by simpa using ht
          subst this
          exact g c hc
         by_cases hok:(res (atC W.list ai) (atC W.list bi) (k:Int)).2=true∧len (res (atC W.list ai) (atC W.list bi) (k:Int)).1≤w
         · obtain ⟨hok1,hok2⟩:=hok
           generalize hc0:(res (atC W.list ai) (atC W.list bi) (k:Int)).1=c at hok2
           have hcS:IsS F.vars c:=⟨hc0 ▸ zbk has.c hbs.c hok1,hF.le⟩
           rw [hok1,Bool.not_true,cond_false,decide_eq_false (by omega),cond_false,spec_l2At_eq hcs (by omega) hcS.c.small,zaa,zaa]
           rw [at_ge]
           by_cases hin:W.sorted.contains c=true
           · rw [hin,cond_true,zaa,cond_true]
             refine skip1 fun c' hc'=>.inl ?_
             rw [← (zbl.1 hc').2.1]
             simp only []
             rw [hc0]
             exact List.contains_iff_mem.1 hin
           · rw [Bool.not_eq_true] at hin
             rw [hin,cond_false,spec_l2At_eq hcE (by omega) hcS.c.small,zaa,zaa,at_ge]
             by_cases hin2:(E.map (·.c)).contains c=true
             · rw [hin2,cond_true]
               refine skip1 fun c' hc'=>.inr ?_
               rw [← (zbl.1 hc').2.1]
               simp only []
               rw [hc0]
               exact List.contains_iff_mem.1 hin2
             · rw [Bool.not_eq_true] at hin2
               rw [hin2,cond_false,zdm hcE (by omega) hcS.c.small,zaa,zdn hcE (by omega) hcS.c.small,zaa]
               have hnot:c ∉ E.map (·.c):=fun g=>by rw [List.contains_iff_mem.2 g] at hin2;cases hin2
               have hnot2:c ∉ W.sorted:=fun g=>by rw [List.contains_iff_mem.2 g] at hin;cases hin
               have hple:plc (E.map (·.c)) c≤E.length:=by have:=plc_le (E.map (·.c)) c;simpa using this
               rw [ins_chain (L:=(rowsE E).1) (p:=plc (E.map (·.c)) c) (by simp [];omega) (by simp [];omega),ins_chain (L:=(rowsE E).2.1) (p:=plc (E.map (·.c)) c) (by simp [];omega) (by simp [];omega),ins_chain (L:=(rowsE E).2.2.1) (p:=plc (E.map (·.c)) c) (by simp [];omega) (by simp [];omega),putC_new hin2]
               have hnew:=hE.put (e:=⟨ai,bi,(k:Int),c⟩) (zbl.2 ⟨hok1,hc0,hok2⟩) hnot2 hnot ⟨hair.1,hair.2,hbir.1,hbir.2,hcS⟩
               refine ⟨rowsE (putE E ⟨ai,bi,(k:Int),c⟩),?_,_,rfl,hnew⟩
               rw [wk]
               have e1:=putE_map E ⟨ai,bi,(k:Int),c⟩ (·.a)
               have e2:=putE_map E ⟨ai,bi,(k:Int),c⟩ (·.b)
               have e3:=putE_map E ⟨ai,bi,(k:Int),c⟩ (·.v)
               have e4:=putE_c E ⟨ai,bi,(k:Int),c⟩
               simp only []
               rw [e1,e2,e3,e4]
         · have hf:(bif (!(res (atC W.list ai) (atC W.list bi) (k:Int)).2) then true else (decide (w < (len (res (atC W.list ai) (atC W.list bi) (k:Int)).1))))=true:=by
            cases hb:(res (atC W.list ai) (atC W.list bi) (k:Int)).2
            · rfl
            · rw [Bool.not_true,cond_false,decide_eq_true_iff]
              have:¬ len (res (atC W.list ai) (atC W.list bi) (k:Int)).1≤w:=fun g=>hok ⟨hb,g⟩
              omega
           rw [hf,cond_true,zaa,cond_true,zaa,cond_true]
           refine skip1 fun c' hc'=>?_
           obtain ⟨p1,p2,p3⟩:=zbl.1 hc'
           exact absurd ⟨p1,by rw [p2];exact p3⟩ hok
       · intro s hs
         simp only []
         rw [decide_eq_false (by omega),cond_false]
       · rintro s ⟨E,rfl,hE⟩
         refine ⟨_,rfl,E,by rw [wj],?_⟩
         rw [show F.vars.toNat + 1 - 1=F.vars.toNat by omega,← vsN_len,List.take_length] at hE
         exact hE
   · intro s hs
     simp only []
     rw [decide_eq_false (by omega),cond_false]
   · rintro s ⟨E,rfl,hE⟩
     have wi:wr ((i:Int) + 1)=((i + 1:Nat):Int):=by rw [wr_s (by omega) (by omega)];omega
     refine ⟨_,rfl,E,by rw [wi],?_⟩
     rw [show o.length=(o.map (atC W.list)).length by simp,List.take_length] at hE
     exact hE
 · intro s hs
   simp only []
   rw [zai,decide_eq_false (by omega),cond_false]
 · rintro s ⟨E,rfl,hE⟩
   rw [show o.length=(o.map (atC W.list)).length by simp,List.take_length] at hE
   change New F w W.sorted W.list (tris F.vars (o.map (atC W.list))) E at hE
   have hfewE:=hE.few
   have hcE:=hE.cfg
   have hmk:∀ e∈E,Src F w r e.c (atC W.list e.a,atC W.list e.b,e.v):=fun e he=>⟨_,ho.srt,hkn,(hE.one e he).1⟩
   have hrk:∀ e∈E,Rk F w r e.c:=fun e he=>by
    obtain ⟨m1,m2,m3⟩:=(hmk e he).mk
    exact ⟨.inr (.inr ⟨_,_,_,m1,m2,m3⟩),fun g=>(hE.one e he).2.1 ((h.sm _).2 g)⟩
   have hall:∀ c,Kn F w (r + 1) c→Kn F w r c∨c∈E.map (·.c):=by
    rintro c (g|g|⟨a,b,v,g1,g2,g3,g4,g5,g6,g7⟩)
    · exact .inl (Kn.up (n:=1) hr (.inl g))
    · exact .inl g
    · rcases hE.all (a,b,v) (tris_mem.2 ⟨(hkn a).2 g1,(hkn b).2 g2,g3,g4⟩) c (zbl.2 ⟨g5,g6,g7⟩) with g|g
      · exact .inl ((h.sm c).1 g)
      · exact .inr g
   dsimp only [rowsE]
   refine cnt_m (σ:=List (List Int)×List Int×List (List Int)) (fun s i=>(s.1,s.2.1,s.2.2,i)) (n:=(E.map (·.c)).length) (a:=0) (s0:=(W.list,W.rounds,W.sorted))
    (I:=fun i s=>s.1=W.list++(E.map (·.c)).take i∧s.2.1=W.rounds++List.replicate i (r:Int)∧Cfg F.vars (4096 + i) s.2.2∧∀ c,c∈s.2.2↔c∈W.sorted∨c∈(E.map (·.c)).take i) rfl (by omega) ?_ ?_ ?_ ?_
   · exact ⟨by simp,by simp,hcs,by simp⟩
   · rintro i s _ hi ⟨g1,g2,g3,g4⟩
     left
     simp only []
     rw [cT (p:=(i:Int) < len (E.map (·.c))) (by rw [zai];omega)]
     obtain ⟨c,hc⟩:∃ c,(E.map (·.c))[i]?=some c:=⟨_,List.getElem?_eq_getElem hi⟩
     have hcI:=hcE.cl c (List.mem_of_getElem? hc)
     simp only [List.length_map] at hi
     simp only [zaQ,hc,zaa]
     have ha1:app s.1 [c]=some (W.list++(E.map (·.c)).take (i + 1)):=by
      unfold app
      rw [if_pos (by rw [g1];simp [lim];omega),g1,List.take_add_one,hc];simp
     have ha2:app s.2.1 [(r:Int)]=some (W.rounds++List.replicate (i + 1) (r:Int)):=by
      unfold app
      rw [if_pos (by rw [g2];have:=h.l1;simp [lim];omega),g2,List.replicate_succ'];simp
     rw [ha1,zaa,ha2,zaa,zdn g3 (by omega) hcI.small,zaa]
     refine ⟨(W.list++(E.map (·.c)).take (i + 1),W.rounds++List.replicate (i + 1) (r:Int),putC s.2.2 c),by rw [wr_s (by omega) (by omega)];rfl,rfl,rfl,g3.put hcI,fun x=>?_⟩
     show x∈putC s.2.2 c↔_
     rw [putC_mem,g4,List.take_add_one,hc]
     simp only [List.mem_append,Option.toList_some,List.mem_singleton]
     constructor
     · rintro (g|g|g)
       · exact .inr (.inr g)
       · exact .inl g
       · exact .inr (.inl g)
     · rintro (g|g|g)
       · exact .inr (.inl g)
       · exact .inr (.inr g)
       · exact .inl g
   · intro s hs
     simp only []
     rw [cF (p:=((E.map (·.c)).length:Int) < len (E.map (·.c))) (by rw [zai];omega)]
   · rintro s ⟨g1,g2,g3,g4⟩
     simp only []
     rw [List.take_length] at g1 g4
     have hp1:app W.left (E.map (·.a))=some (W.left++E.map (·.a)):=by unfold app;rw [if_pos (by have:=h.l2;simp [lim];omega)]
     have hp2:app W.right (E.map (·.b))=some (W.right++E.map (·.b)):=by unfold app;rw [if_pos (by have:=h.l3;simp [lim];omega)]
     have hp3:app W.pivots (E.map (·.v))=some (W.pivots++E.map (·.v)):=by unfold app;rw [if_pos (by have:=h.l4;simp [lim];omega)]
     rw [hp1,zaa,hp2,zaa,hp3,zaa]
     have hup:∀ c,c∈E.map (·.c)→Kn F w (r + 1) c:=fun c hc=>by
      obtain ⟨e,he,rfl⟩:=List.mem_map.1 hc
      exact (hrk e he).1
     refine ⟨_,rfl,⟨g3.srt,?_,?_,?_,?_,?_,?_,?_,?_,?_⟩,?_,?_⟩
     · intro c
       rw [g4,h.sm]
       constructor
       · rintro (g|g)
         · exact .inr (.inl g)
         · exact hup c g
       · exact hall c
     · intro c
       rw [g1,List.mem_append,h.lm]
       constructor
       · rintro (g|g)
         · exact .inr (.inl g)
         · exact hup c g
       · exact hall c
     · rw [g1,List.nodup_append]
       refine ⟨h.nd,?_,?_⟩
       · rw [List.nodup_iff_pairwise_ne]
         refine hE.srt.imp ?_
         intro a b hab e
         exact zcn a (e ▸ hab)
       · intro a ha b hb e
         obtain ⟨x,hx,rfl⟩:=List.mem_map.1 hb
         exact (hrk x hx).2 (e ▸ (h.lm a).1 ha)
     · simp only [g1,g2,List.length_append,List.length_map,List.length_replicate];have:=h.l1;omega
     · simp only [g1,List.length_append,List.length_map];have:=h.l2;omega
     · simp only [g1,List.length_append,List.length_map];have:=h.l3;omega
     · simp only [g1,List.length_append,List.length_map];have:=h.l4;omega
     · intro i c hc
       simp only [g1,g2] at hc ⊢
       have i1:=h.l1
       have i2:=h.l2
       have i3:=h.l3
       have i4:=h.l4
       by_cases hi:i < W.list.length
       · rw [List.getElem?_append_left hi] at hc
         obtain ⟨n,q1,q2,q3⟩:=h.at_ i c hc
         refine ⟨n,by rw [List.getElem?_append_left (by omega)];exact q1,q2,fun hn=>?_⟩
         obtain ⟨a,b,v,p1,p2,p3,p4,p5,p6,p7,p8⟩:=q3 hn
         refine ⟨a,b,v,by rw [List.getElem?_append_left (by omega)];exact p1,by rw [List.getElem?_append_left (by omega)];exact p2,by rw [List.getElem?_append_left (by omega)];exact p3,p4,p5,p6,p7,?_⟩
         rw [atC_app p4 (by omega),atC_app p6 (by omega)]
         exact p8
       · rw [List.getElem?_append_right (by omega),List.getElem?_map,Option.map_eq_some_iff] at hc
         obtain ⟨e,he,rfl⟩:=hc
         have hem:=List.mem_of_getElem? he
         have hel:=zao he
         obtain ⟨_,_,o1,o2,o3,o4,_⟩:=hE.one e hem
         refine ⟨r,?_,hrk e hem,fun _=>⟨e.a,e.b,e.v,?_,?_,?_,o1,by omega,o3,by omega,?_⟩⟩
         · rw [List.getElem?_append_right (by omega),List.getElem?_replicate,if_pos (by simp only [List.length_map];omega)]
         · rw [List.getElem?_append_right (by omega),i2,List.getElem?_map,he];rfl
         · rw [List.getElem?_append_right (by omega),i3,List.getElem?_map,he];rfl
         · rw [List.getElem?_append_right (by omega),i4,List.getElem?_map,he];rfl
         · rw [atC_app o1 o2,atC_app o3 o4]
           exact hmk e hem
     · rw [g1,List.pairwise_append]
       refine ⟨h.ord,?_,?_⟩
       · have:=List.Pairwise.and_mem.1 hE.srt
         refine this.imp ?_
         rintro a b ⟨ha,hb,hab⟩
         obtain ⟨x,hx,rfl⟩:=List.mem_map.1 ha
         obtain ⟨y,hy,rfl⟩:=List.mem_map.1 hb
         exact ⟨r,r,hrk x hx,hrk y hy,.inr ⟨rfl,hab⟩⟩
       · intro a ha b hb
         obtain ⟨y,hy,rfl⟩:=List.mem_map.1 hb
         obtain ⟨q,q1,q2⟩:=((h.lm a).1 ha).rk
         exact ⟨q,r,q2,hrk y hy,.inl q1⟩
     · intro g
       simp only [decide_eq_true_iff,zai,List.length_map] at g
       simp only [g1,List.length_append,List.length_map]
       omega
     · intro g c hc
       simp only [decide_eq_false_iff_not,zai,List.length_map] at g
       have:E=[]:=List.eq_nil_of_length_eq_zero (by omega)
       subst this
       rcases hall c hc with g|g
       · exact g
       · exact absurd g (by simp)
end Go.PF
namespace Go.PF
open Go.Pu
structure WOk (F:Cnf) (w:Int) (W:zaD):Prop where
 ex:∃ r,WI F w r W∧∀ n c,Kn F w n c→Kn F w r c
theorem WI.few {F:Cnf} {w:Int} (hF:Nar F) {r:Nat} {W:zaD} (h:WI F w r W):W.list.length≤4096 :=
 PF.few h.nd fun c hc=>hF.kn ((h.lm c).1 hc)
theorem Nar.len {F:Cnf} (h:Nar F):F.clauses.length≤60:=by
 have:=h.cnf
 unfold cnfB at this
 simp only [Bool.and_eq_true,zai] at this
 have:=of_decide_eq_true this.1.2
 omega
theorem spec_l10Closure_eq {F:Cnf} {w:Int} (hF:Nar F):∃ W,zcj F w=some W∧WOk F w W:=by
 unfold zcj
 have hFl:=hF.len
 refine cnt_m (σ:=List (List Int)) (fun s i=>(s,i)) (n:=F.clauses.length) (a:=0) (s0:=[])
  (I:=fun i s=>Cfg F.vars i s∧∀ c,c∈s↔c∈F.clauses.take i∧len c≤w) rfl (by omega) ⟨⟨.nil,by simp,nofun⟩,by simp⟩ ?_ ?_ ?_
 · rintro i s _ hi ⟨g1,g2⟩
   left
   dsimp only []
   rw [cT (by rw [zai];omega)]
   obtain ⟨c,hc⟩:∃ c,F.clauses[i]?=some c:=⟨_,List.getElem?_eq_getElem hi⟩
   have hcs:=hF.ax (List.mem_of_getElem? hc)
   have hcl:=hcs.c.len
   have wi:wr ((i:Int) + 1)=((i + 1:Nat):Int):=by rw [wr_s (by omega) (by omega)];omega
   simp only [zaQ,hc,zaa,wi]
   have htk:∀ x,x∈F.clauses.take (i + 1)↔x∈F.clauses.take i∨x=c:=by
    intro x;rw [List.take_add_one,hc];simp
   by_cases hl:len c≤w
   · rw [cT hl,zcl (by simp only [lim];omega),zaa,zdn g1 (by omega) hcs.c.small,zaa]
     refine ⟨putC s c,rfl,g1.put hcs.c,fun x=>?_⟩
     rw [putC_mem,g2,htk]
     constructor
     · rintro (g|⟨g,g3⟩)
       · rw [g];exact ⟨.inr rfl,hl⟩
       · exact ⟨.inl g,g3⟩
     · rintro ⟨g|g,g3⟩
       · exact .inr ⟨g,g3⟩
       · exact .inl g
   · rw [cF hl]
     refine ⟨s,rfl,⟨g1.srt,by have:=g1.len;omega,g1.cl⟩,fun x=>?_⟩
     rw [g2,htk]
     constructor
     · rintro ⟨g,g3⟩;exact ⟨.inl g,g3⟩
     · rintro ⟨g|g,g3⟩
       · exact ⟨g,g3⟩
       · rw [g] at g3;exact absurd g3 hl
 · intro s hs
   dsimp only []
   rw [cF (by rw [zai];omega)]
 · rintro s ⟨g1,g2⟩
   rw [List.take_length] at g2
   have hsl:=g1.len
   dsimp only []
   refine list_m (I:=fun i t=>t=(List.replicate i (0:Int),List.replicate i (-1:Int),List.replicate i (-1:Int),List.replicate i (0:Int),s.take i,([]:List (List Int)))) rfl ?_ ?_
   · intro i y t hy ht
     left
     subst ht
     have hil:=zao hy
     have e1:app (s.take i) [y]=some (s.take (i + 1)):=by
      unfold app
      rw [if_pos (by simp [lim];omega),List.take_add_one,hy];rfl
     have e2:∀ x:Int,app (List.replicate i x) [x]=some (List.replicate (i + 1) x):=by
      intro x
      unfold app
      rw [if_pos (by simp [lim];omega),List.replicate_succ']
     exact ⟨_,by simp only [e1,e2,zaa],rfl⟩
   · intro t ht
     rw [List.take_length] at ht
     subst ht
     have hk1:∀ c,c∈s↔Kn F w 1 c:=by
      intro c
      rw [g2]
      constructor
      · intro g;exact .inl g
      · rintro (g|g|⟨a,b,v,g,_⟩)
        · exact g
        · exact g.elim
        · exact g.elim
     have hr0:∀ c∈s,Rk F w 0 c:=fun c hc=>⟨(hk1 c).1 hc,fun g=>g⟩
     refine iter_m (I:=fun t=>∃ r:Nat,1≤r∧t.2.2.2.2.2.2.1=(r:Int)∧WI F w r (zaD.mk t.2.2.2.2.1 t.2.2.2.1 t.2.2.1 t.2.1 t.1 t.2.2.2.2.2.1)∧(t.2.2.2.2.2.2.2=true→r≤t.2.2.2.2.1.length + 1)∧(t.2.2.2.2.2.2.2=false→∀ c,Kn F w r c→Kn F w (r - 1) c))
      (m:=fun t=>bif t.2.2.2.2.2.2.2 then 5000 - t.2.2.2.2.1.length else 0) ?_ ?_
     · refine ⟨1,by omega,rfl,⟨g1.srt,hk1,hk1,?_,?_,?_,?_,?_,?_,?_⟩,fun _=>by dsimp only [];omega,fun g=>by cases g⟩
       · rw [List.nodup_iff_pairwise_ne]
         exact g1.srt.imp fun {a b} hab (e:a=b)=>zcn a (by rw [← e] at hab;exact hab)
       · simp
       · simp
       · simp
       · simp
       · intro i c hc
         have hil:=zao hc
         refine ⟨0,?_,hr0 c (List.mem_of_getElem? hc),fun h=>by omega⟩
         show (List.replicate s.length (0:Int))[i]?=_
         rw [List.getElem?_replicate,if_pos hil];rfl
       · have:=List.Pairwise.and_mem.1 g1.srt
         exact this.imp fun {a b} ⟨ha,hb,hab⟩=>⟨0,0,hr0 a ha,hr0 b hb,.inr ⟨rfl,hab⟩⟩
     · rintro ⟨pv,rt,lf,rd,ls,sd,n,more⟩ ⟨r,h1,h2,h3,h4,h5⟩
       dsimp only [] at h2 h3 h4 h5 ⊢
       subst h2
       cases more
       · right;left
         refine ⟨_,rfl,_,rfl,⟨r,h3,fun n c hn=>?_⟩⟩
         refine (Kn.stop (r:=r - 1) (fun z hz=>h5 rfl z ?_) hn).up (by omega)
         rwa [show r - 1 + 1=r by omega] at hz
       · left
         have hfew:ls.length≤4096:=h3.few hF
         have h4':=h4 rfl
         obtain ⟨q,e,q1,q2,q3⟩:=spec_l10Round_eq hF h3 h1 (by omega)
         rw [cond_true,e,zaa]
         refine ⟨_,rfl,⟨r + 1,by omega,?_,q1,?_,?_⟩,?_⟩
         · dsimp only []
           rw [wr_s (by omega) (by omega)];omega
         · intro g
           have:=q2 g
           dsimp only [] at this ⊢
           omega
         · intro g
           exact q3 g
         · dsimp only []
           cases hq:q.2
           · show (bif false then _ else 0) < 5000 - ls.length
             rw [cond_false];omega
           · have:=q2 hq
             dsimp only [] at this
             show (bif true then _ else 0) < 5000 - ls.length
             rw [cond_true];omega
inductive Need (F:Cnf) (w:Int) (t:List Int):List Int→Prop
 | self:Need F w t t
 | left {c:List Int} {n:Nat} {a b:List Int} {v:Int}:Need F w t c→1≤n→Rk F w n c→Src F w n c (a,b,v)→Need F w t a
 | right {c:List Int} {n:Nat} {a b:List Int} {v:Int}:Need F w t c→1≤n→Rk F w n c→Src F w n c (a,b,v)→Need F w t b
end Go.PF
namespace Go.PF
open Go.Pu
theorem put_at {A:Type} {xs:List A} {i:Nat} {x:A} (h:i < xs.length):put xs (i:Int) x=some (xs.set i x):=by
 unfold put
 rw [if_pos (by omega)];simp
theorem set_self {A:Type} {xs:List A} {i:Nat} {x:A} (h:i < xs.length):(xs.set i x)[i]?=some x:=by
 rw [List.getElem?_set,if_pos rfl,if_pos h]
theorem set_ne {A:Type} {xs:List A} {i j:Nat} {x:A} (h:i≠j):(xs.set i x)[j]?=xs[j]?:=by
 rw [List.getElem?_set,if_neg h]
structure Mks (F:Cnf) (w:Int) (W:zaD) (t:List Int) (g:Nat) (i:Int) (N:List Bool):Prop where
 len:N.length=W.list.length
 snd:∀ j:Nat,N[j]?=some true→j≤g∧∃ c,W.list[j]?=some c∧Need F w t c
 goal:N[g]?=some true
 cpl:∀ k:Nat,i < (k:Int)→N[k]?=some true→∀ (n:Nat) (a b:Int),1≤n→W.rounds[k]?=some (n:Int)→W.left[k]?=some a→W.right[k]?=some b→N[a.toNat]?=some true∧N[b.toNat]?=some true
end Go.PF
namespace Go.PF
open Go.Pu
theorem round_eq {F:Cnf} {w:Int} {cl:List (List Int)} {C:zbo} (h:Clos F w cl C) {c:List Int} (hc:IsS F.vars c) :
 ∃ q,zcT C c=some q∧((q=-1∧c ∉ cl)∨(c∈cl∧∃ n:Nat,q=(n:Int)∧Rk F w n c∧n≤5000)):=by
 unfold zcT
 rw [maskOf_eq hc,zaa]
 have hm:=h.ci.map c hc
 dsimp only [] at hm
 by_cases hin:c∈cl
 · obtain ⟨n,e,hn,hn5⟩:=h.ci.rk c hin
   dsimp only [] at e
   rw [e]
   exact ⟨_,rfl,.inr ⟨hin,n,rfl,hn,hn5⟩⟩
 · have:(mget C.rounds ((mkN c:Nat):Int)).isSome=false:=by rw [Bool.eq_false_iff];exact fun q=>hin (hm.1 q)
   rw [this]
   exact ⟨_,rfl,.inl ⟨rfl,hin⟩⟩
end Go.PF
namespace Go.PF
open Go.Pu
structure Qu2 (F:Cnf) (w:Int) (t:List Int) (D:List (List Int)) (q:List (List Int)) (m:List (Int×Bool)):Prop where
 nd:(D++q).Nodup
 seen:∀ c,IsS F.vars c→((mget m (mkN c)).getD false=true↔c∈D++q)
 need:∀ c∈D++q,Need F w t c
end Go.PF
namespace Go.PF
open Go.Pu
def goodB (F:Cnf):Bool:=decide (F.vars≤6) && cnfB F
theorem goodB_nar {F:Cnf} (h:goodB F=true):Nar F:=by
 unfold goodB at h
 rw [Bool.and_eq_true,decide_eq_true_iff] at h
 exact ⟨h.2,h.1⟩
theorem zdJ {F:Cnf} (hF:okCnf F):zcW F=some (goodB F):=by
 unfold zcW goodB
 rw [spec_l2Good_eq hF,zaa]
 cases h:decide (F.vars≤6) <;> rfl
theorem zdp {F:Cnf} (hF:okCnf F) (w:Int):zcR F w=some (goodB F && inB w 0 6):=by
 unfold zcR goodB
 rw [impl_IsCnf_eq hF,zaa,zbH]
 cases cnfB F <;> cases decide (F.vars≤6) <;> rfl
end Go.PF
namespace Go.PF
open Go.Pu
def Refut (F:Cnf) (w:Int):Prop:=∃ n,Kn F w n []
theorem Nar.nil {F:Cnf} (h:Nar F):IsS F.vars []:=by
 refine ⟨⟨?_,?_,nofun,.nil⟩,h.le⟩
 · have:=h.cnf
   unfold cnfB at this
   simp only [Bool.and_eq_true] at this
   exact (varsB_iff.1 this.1.1).1
 · have:=h.le;omega
theorem spec_empty_eq {F:Cnf} {w:Int} (hF:Nar F):∃ W,zcj F w=some W∧∃ b,zc1 W.sorted=some b∧(b=true↔Refut F w):=by
 obtain ⟨W,eW,r,hW,hall⟩:=spec_l10Closure_eq (w:=w) hF
 refine ⟨W,eW,?_⟩
 unfold zc1
 have hm:Refut F w↔[]∈W.sorted:=by
  rw [hW.sm]
  exact ⟨fun ⟨n,g⟩=>hall n _ g,fun g=>⟨r,g⟩⟩
 rw [hm]
 have hs:=hW.srt
 cases hc:W.sorted with
 | nil =>
  refine ⟨false,by rw [cF (by simp [zai])];rfl,by simp⟩
 | cons c l =>
  rw [hc] at hs
  rw [cT (by simp [zai]),show ix (c::l) 0=some c from rfl,zaa]
  refine ⟨_,rfl,?_⟩
  rw [beq_iff_eq,zai]
  constructor
  · intro g
    have:c=[]:=List.eq_nil_of_length_eq_zero (by omega)
    rw [this];simp
  · intro g
    rcases List.mem_cons.1 g with g|g
    · rw [← g];rfl
    · have:=(List.pairwise_cons.1 hs).1 _ g
      rw [zbZ] at this
      rcases this with q|⟨q,_⟩
      · simp at q
      · rw [q];rfl
theorem zdK {F:Cnf} {w:Int} (hF:Nar F):∃ b,zcd F w=some b∧(b=true↔Refut F w):=by
 obtain ⟨o,eo,C,cl,rfl,hC⟩:=impl_closureOf_eq (w:=w) hF
 obtain ⟨q,eq,hq⟩:=round_eq hC hF.nil
 unfold zcd
 rw [eo,zaa,zaa,eq,zaa]
 refine ⟨_,rfl,?_⟩
 rw [decide_eq_true_iff]
 unfold Refut
 rw [← hC.all]
 rcases hq with ⟨rfl,g⟩|⟨g,n,rfl,_⟩
 · exact ⟨fun q=>by omega,fun q=>absurd q g⟩
 · exact ⟨fun _=>g,fun _=>by omega⟩
def Least (F:Cnf) (r:Int):Prop:=(r < 0∧∀ w:Nat,w≤6→¬ Refut F w)∨∃ w:Nat,r=(w:Int)∧w≤6∧Refut F w∧∀ u < w,¬ Refut F u
theorem Least.uniq {F:Cnf} {r s:Int} (h:Least F r) (h':Least F s) (h0:0≤r):r=s:=by
 rcases h with ⟨g,_⟩|⟨w,rfl,g1,g2,g3⟩
 · omega
 · rcases h' with ⟨_,g⟩|⟨u,rfl,k1,k2,k3⟩
   · exact absurd g2 (g w g1)
   · have:w=u:=by
      apply Classical.byContradiction
      intro hne
      rcases Nat.lt_or_gt_of_ne hne with q|q
      · exact k3 w q g2
      · exact g3 u q k2
     rw [this]
theorem spec_least_eq {F:Cnf} (hF:Nar F):∃ r,zc2 F=some r∧Least F r:=by
 unfold zc2
 refine cnt_m (σ:=Unit) (fun _ i=>i) (n:=7) (a:=0) (s0:=()) (I:=fun i _=>∀ u < i,¬ Refut F ((u:Nat):Int)) rfl (by omega) (fun u hu=>by omega) ?_ ?_ ?_
 · rintro i ⟨⟩ _ hi hI
   rw [cT (by omega)]
   obtain ⟨W,eW,b,eb,hb⟩:=spec_empty_eq (w:=(i:Int)) hF
   rw [eW,zaa,eb,zaa]
   cases b
   · left
     rw [cond_false,wr_s (by omega) (by omega)]
     refine ⟨(),rfl,fun u hu=>?_⟩
     by_cases e:u=i
     · subst e;exact fun g=>by have:=hb.2 g;cases this
     · exact hI u (by omega)
   · right
     rw [cond_true]
     exact ⟨_,rfl,_,rfl,.inr ⟨i,rfl,by omega,hb.1 rfl,hI⟩⟩
 · intro s hs
   rfl
 · intro s hs
   exact ⟨_,rfl,.inl ⟨by omega,fun w hw=>hs w (by omega)⟩⟩
theorem impl_least_eq {F:Cnf} (hok:okCnf F) (h:goodB F=true):∃ q,zbA F=some q∧((q.2=false∧Least F (-1))∨(q.2=true∧0≤q.1∧q.1≤6∧Least F q.1)):=by
 have hF:=goodB_nar h
 unfold zbA
 rw [zdp hok,zaa,h,show (true && inB 0 0 6)=true from rfl,Bool.not_true,cond_false]
 refine cnt_m (σ:=Unit) (fun _ i=>i) (n:=7) (a:=0) (s0:=()) (I:=fun i _=>∀ u < i,¬ Refut F ((u:Nat):Int)) rfl (by omega) (fun u hu=>by omega) ?_ ?_ ?_
 · rintro i ⟨⟩ _ hi hI
   rw [cT (by omega)]
   obtain ⟨b,eb,hb⟩:=zdK (w:=(i:Int)) hF
   rw [eb,zaa]
   cases b
   · left
     rw [cond_false,wr_s (by omega) (by omega)]
     refine ⟨(),rfl,fun u hu=>?_⟩
     by_cases e:u=i
     · subst e;exact fun g=>by have:=hb.2 g;cases this
     · exact hI u (by omega)
   · right
     rw [cond_true]
     exact ⟨_,rfl,_,rfl,.inr ⟨rfl,by dsimp only [];omega,by dsimp only [];omega,.inr ⟨i,rfl,by omega,hb.1 rfl,hI⟩⟩⟩
 · intro s hs
   rfl
 · intro s hs
   exact ⟨_,rfl,.inl ⟨rfl,.inl ⟨by omega,fun w hw=>hs w (by omega)⟩⟩⟩
end Go.PF
namespace Go.PF
open Go.Pu
theorem loop_lx {σ α X B:Type} {xs:List α} {body:Nat→α→σ→Option (Lp σ X)} {k:σ→Option B} {lx:X→Option B} {R:B→Prop} (I:Nat→σ→Prop) {s0:σ} (h0:I 0 s0)
 (h:∀ (i:Nat) x s,xs[i]?=some x→I i s→(∃ s',body i x s=some (.nx s')∧I (i + 1) s')∨∃ y r,body i x s=some (.rt y)∧lx y=some r∧R r)
 (hk:∀ s,I xs.length s→∃ r,k s=some r∧R r):∃ r,bdR (forL xs body s0) k lx=some r∧R r:=by
 have key:∀ (m:List α) (j:Nat) (s:σ),j + m.length=xs.length→(∀ i y,m[i]?=some y→xs[j + i]?=some y)→I j s→∃ r,bdR (zav body m j s) k lx=some r∧R r:=by
  intro m
  induction m with
  | nil =>
   intro j s hj _ hI
   have:j=xs.length:=by simpa using hj
   subst this
   exact hk s hI
  | cons y m ih =>
   intro j s hj hm hI
   rcases h j y s (hm 0 y rfl) hI with ⟨s',e,hI'⟩|⟨z,r,e,e2,hr⟩
   · obtain ⟨r,e1,hr⟩:=ih (j + 1) s' (by simp at hj;omega) (fun i w hw=>by
      have:=hm (i + 1) w (by simpa using hw)
      rwa [show j + 1 + i=j + (i + 1) by omega]) hI'
     refine ⟨r,?_,hr⟩
     rw [← e1]
     simp only [zav,e]
   · refine ⟨r,?_,hr⟩
     simp only [zav,e]
     exact e2
 exact key xs 0 s0 (by simp) (fun i y h=>by simpa using h) h0
theorem app_x {A:Type} {xs ys:List A} (h:xs.length + ys.length≤1000000):app xs ys=some (xs++ys):=by
 unfold app;rw [if_pos (by unfold lim;omega)]
def qE (p:Int×Int→Bool) (E:List (Int×Int)) (k:Nat):Bool:=match E[k]? with
 | some e=>p e
 | none=>false
def idT (p:Int×Int→Bool) (E:List (Int×Int)) (i:Nat):List Int:=((List.range i).filter (qE p E)).map fun (k:Nat)=>(k:Int)
def idE (p:Int×Int→Bool) (E:List (Int×Int)):List Int:=idT p E E.length
theorem idT_succ {p:Int×Int→Bool} {E:List (Int×Int)} {i:Nat} {e:Int×Int} (h:E[i]?=some e):idT p E (i + 1)=idT p E i++(if p e then [(i:Int)] else []):=by
 unfold idT
 rw [List.range_succ,List.filter_append,List.map_append]
 congr 1
 have:qE p E i=p e:=by unfold qE;rw [h]
 cases hp:p e <;> simp [this,hp]
theorem idT_len {p:Int×Int→Bool} {E:List (Int×Int)} {i:Nat}:(idT p E i).length≤i:=by
 unfold idT
 rw [List.length_map]
 have:=List.length_filter_le (qE p E) (List.range i)
 simpa using this
theorem idE_len {p:Int×Int→Bool} {E:List (Int×Int)}:(idE p E).length≤E.length:=idT_len
theorem zbt {p:Int×Int→Bool} {E:List (Int×Int)} {x:Int}:x∈idE p E↔∃ (k:Nat) (e:Int×Int),x=(k:Int)∧E[k]?=some e∧p e=true:=by
 unfold idE idT
 simp only [List.mem_map,List.mem_filter,List.mem_range]
 constructor
 · rintro ⟨k,⟨h1,h2⟩,rfl⟩
   have he:E[k]?=some E[k]:=List.getElem?_eq_getElem h1
   unfold qE at h2
   rw [he] at h2
   exact ⟨k,_,rfl,he,h2⟩
 · rintro ⟨k,e,rfl,h1,h2⟩
   refine ⟨k,⟨(List.getElem?_eq_some_iff.1 h1).1,?_⟩,rfl⟩
   unfold qE;rw [h1];exact h2
theorem forL_idx {B:Type} {p:Int×Int→Bool} {E:List (Int×Int)} (hl:E.length≤100000) {body:Nat→Int×Int→List Int→Option (Lp (List Int) Empty)}
 (hb:∀ (i:Nat) y s,body i y s=bif p y then bd (app s [(i:Int)]) (fun xs=>some (.nx xs)) else some (.nx s)) {k:List Int→Option B} {lx:Empty→Option B} :
 bdR (forL E body []) k lx=k (idE p E):=by
 obtain ⟨s,e,hs⟩:=forL_inv (body:=body) (l:=E) (s:=[]) (fun i s=>s=idT p E i) rfl (fun i y s hy hs=>by
  subst hs
  rw [hb,idT_succ hy]
  have:=idT_len (p:=p) (E:=E) (i:=i)
  have:=(List.getElem?_eq_some_iff.1 hy).1
  cases p y
  · exact ⟨_,rfl,by simp⟩
  · rw [cond_true,app_x (by simp;omega)]
    exact ⟨_,rfl,by simp⟩)
 rw [e,hs]
 rfl
theorem iter_idx {B:Type} {p:Int×Int→Bool} {E:List (Int×Int)} (hl:E.length≤100000) {body:List Int×Int→Option (Lp (List Int×Int) Empty)}
 (hb:∀ (i:Nat) y s,E[i]?=some y→body (s,(i:Int))=bif p y then bd (app s [(i:Int)]) (fun xs=>some (.nx (xs,wr ((i:Int) + 1)))) else some (.nx (s,wr ((i:Int) + 1)))) (he:∀ s,body (s,(E.length:Int))=some (.bk (s,(E.length:Int))))
 {k:List Int×Int→Option B} {lx:Empty→Option B}:bdR (iter body ([],0)) k lx=k (idE p E,(E.length:Int)):=by
 obtain ⟨r,e,hr⟩:=cnt_m (X:=Empty) (B:=List Int×Int) (σ:=List Int) (fun s i=>(s,i)) (n:=E.length) (body:=body) (a:=0) (t0:=([],0)) (k:=some) (lx:=fun x=>nomatch x) (R:=fun r=>r=(idE p E,(E.length:Int))) (fun i s=>s=idT p E i) rfl (Nat.zero_le _) (s0:=[]) rfl
  (by
   rintro i s - hi rfl
   left
   have hy:E[i]?=some E[i]:=List.getElem?_eq_getElem hi
   rw [hb i _ _ hy,idT_succ hy,wr_s (by omega) (by omega)]
   have:=idT_len (p:=p) (E:=E) (i:=i)
   cases p E[i]
   · exact ⟨_,rfl,by simp⟩
   · rw [cond_true,app_x (by simp;omega)]
     exact ⟨_,rfl,by simp⟩)
  (fun s _=>he s) (by rintro s rfl;exact ⟨_,rfl,rfl⟩)
 cases hq:iter body ([],0) with
 | none=>rw [hq] at e;cases e
 | some q =>
  rw [hq] at e
  cases q with
  | go s =>
   have:some s=some r:=e
   cases this
   rw [hr];rfl
  | rt x=>exact nomatch x
def inc (v:Int) (e:Int×Int):Bool:=bif (e.1 == v) then true else (e.2 == v)
def cro (S:List Int) (e:Int×Int):Bool := !(S.contains e.1 == S.contains e.2)
theorem zc9 {G:zae} (hl:G.edges.length≤100000) (v:Int):zbp G v=some (idE (inc v) G.edges):=by
 unfold zbp
 exact forL_idx (p:=inc v) hl (fun i y s=>rfl)
theorem spec_at_eq {G:zae} (hl:G.edges.length≤100000) (v:Int):zbJ G v=some (idE (inc v) G.edges):=by
 unfold zbJ
 refine iter_idx (p:=inc v) hl ?_ ?_
 · intro i y s hy
   have:=(List.getElem?_eq_some_iff.1 hy).1
   dsimp only
   rw [cT (by rw [zai];omega),zal hy,zaa,zaa]
   unfold inc
   cases (y.1 == v)
   · rw [cond_false,zaa];rfl
   · rfl
 · intro s
   dsimp only
   rw [cF (by rw [zai];omega)]
theorem zdq {G:zae} (hl:G.edges.length≤100000) (S:List Int):zbL G S=some (idE (cro S) G.edges):=by
 unfold zbL
 exact forL_idx (p:=cro S) hl (fun i y s=>by rw [zdG,zdG];rfl)
theorem zdr {G:zae} (hl:G.edges.length≤100000) (S:List Int):zbP G S=some (idE (cro S) G.edges):=by
 unfold zbP
 refine iter_idx (p:=cro S) hl ?_ ?_
 · intro i y s hy
   have:=(List.getElem?_eq_some_iff.1 hy).1
   dsimp only
   rw [cT (by rw [zai];omega),zal hy,zaa,zc7,zaa,zaa,zc7]
   rfl
 · intro s
   dsimp only
   rw [cF (by rw [zai];omega)]
structure OkG (G:zae):Prop where
 v1:1≤G.vertices
 v8:G.vertices≤8
 e12:G.edges.length≤12
 cl:(G.charges.length:Int)=G.vertices
 ed:∀ e∈G.edges,0≤e.1∧e.1 < e.2∧e.2 < G.vertices
 ch:∀ c∈G.charges,c=0∨c=1
 dg:∀ v:Nat,v < G.charges.length→(idE (inc (v:Int)) G.edges).length≤4
theorem inB01 {c:Int}:inB c 0 1=true↔c=0∨c=1:=by rw [zaN];omega
theorem impl_good {G:zae}:∃ b,za3 G=some b∧(b=true↔OkG G):=by
 unfold za3
 rw [zbH]
 by_cases h1:inB G.vertices 1 8=true
 · by_cases h2:G.edges.length≤12
   · by_cases h3:len G.charges=G.vertices
     · rw [h1,decide_eq_false (show ¬ 12 < len G.edges by rw [zai];omega),h3,beq_self_eq_true]
       simp only [Bool.not_true,cond_false]
       obtain ⟨v1,v8⟩:=zaN.1 h1
       have hc:=h3;rw [zai] at hc
       refine loop_lx (fun i _=>∀ e∈G.edges.take i,0≤e.1∧e.1 < e.2∧e.2 < G.vertices) (by simp) ?_ ?_
       · rintro i e ⟨⟩ he hI
         by_cases hg:0≤e.1∧e.1 < e.2∧e.2 < G.vertices
         · left
           rw [decide_eq_false (show ¬ e.1 < 0 by omega),decide_eq_false (show ¬ e.2≤e.1 by omega),decide_eq_false (show ¬ G.vertices≤e.2 by omega)]
           refine ⟨(),rfl,fun x hx=>?_⟩
           rw [List.take_add_one,he] at hx
           rcases List.mem_append.1 hx with hx|hx
           · exact hI x hx
           · simp at hx;subst hx;exact hg
         · right
           refine ⟨false,false,?_,rfl,?_⟩
           · by_cases a1:e.1 < 0
             · rw [decide_eq_true a1];rfl
             · rw [decide_eq_false a1]
               by_cases a2:e.2≤e.1
               · rw [decide_eq_true a2];rfl
               · rw [decide_eq_false a2,decide_eq_true (show G.vertices≤e.2 by omega)];rfl
           · simp only [Bool.false_eq_true,false_iff]
             exact fun g=>hg (g.ed e (List.mem_of_getElem? he))
       · rintro ⟨⟩ hE
         rw [List.take_length] at hE
         refine loop_lx (fun i _=>(∀ c∈G.charges.take i,c=0∨c=1)∧∀ v:Nat,v < i→(idE (inc (v:Int)) G.edges).length≤4) (by simp) ?_ ?_
         · rintro i c ⟨⟩ hc' ⟨hI,hJ⟩
           have hlt:=(List.getElem?_eq_some_iff.1 hc').1
           rw [zbH,zc9 (by omega)]
           by_cases a1:c=0∨c=1
           · rw [inB01.2 a1,Bool.not_true,cond_false,zaa,zaa]
             by_cases a2:(idE (inc (i:Int)) G.edges).length≤4
             · left
               rw [decide_eq_false (show ¬ 4 < len (idE (inc (i:Int)) G.edges) by rw [zai];omega)]
               refine ⟨(),rfl,fun x hx=>?_,fun v hv=>?_⟩
               · rw [List.take_add_one,hc'] at hx
                 rcases List.mem_append.1 hx with hx|hx
                 · exact hI x hx
                 · simp at hx;subst hx;exact a1
               · by_cases e:v=i
                 · subst e;exact a2
                 · exact hJ v (by omega)
             · right
               rw [decide_eq_true (show 4 < len (idE (inc (i:Int)) G.edges) by rw [zai];omega)]
               refine ⟨false,false,rfl,rfl,?_⟩
               simp only [Bool.false_eq_true,false_iff]
               exact fun g=>a2 (g.dg i hlt)
           · right
             have:inB c 0 1=false:=by
              cases hh:inB c 0 1 with
              | true=>exact absurd (inB01.1 hh) a1
              | false=>rfl
             rw [this,Bool.not_false,cond_true,zaa,cond_true]
             refine ⟨false,false,rfl,rfl,?_⟩
             simp only [Bool.false_eq_true,false_iff]
             exact fun g=>a1 (g.ch c (List.mem_of_getElem? hc'))
         · rintro ⟨⟩ ⟨hI,hJ⟩
           rw [List.take_length] at hI
           exact ⟨true,rfl,fun _=>⟨v1,v8,h2,hc,hE,hI,hJ⟩,fun _=>rfl⟩
     · refine ⟨false,?_,?_⟩
       · rw [h1,decide_eq_false (show ¬ 12 < len G.edges by rw [zai];omega),show (len G.charges == G.vertices)=false from by rw [beq_eq_false_iff_ne];exact h3]
         rfl
       · simp only [Bool.false_eq_true,false_iff]
         exact fun g=>h3 g.cl
   · refine ⟨false,?_,?_⟩
     · rw [h1,decide_eq_true (show 12 < len G.edges by rw [zai];omega)]
       rfl
     · simp only [Bool.false_eq_true,false_iff]
       exact fun g=>h2 g.e12
 · refine ⟨false,?_,?_⟩
   · rw [show inB G.vertices 1 8=false from by simpa using h1]
     rfl
   · simp only [Bool.false_eq_true,false_iff]
     exact fun g=>h1 (zaN.2 ⟨g.v1,g.v8⟩)
end Go.PF
