/- Helpers of the walks and plain laws. -/
import Derived.Test.YtkaikagbfoadpaaGreatPpLC
import Derived.Test.YtkaikagbfoadpaaGreatPpPf
import Derived.Test.YtkaikagbfoadpaaGreatPpLB
set_option linter.unusedVariables false
namespace Go.PF
open Go.Pu
def vr (l:Int):Int:=bif decide (l < 0) then wr (-l) else l
theorem zee (l:Int):zaH l=vr l:=rfl
theorem zbP {l:Int} (h1:-12≤l) (h2:l≤12):vr l=l.natAbs:=by
 unfold vr
 by_cases h:l < 0
 · simp only [h,decide_true,cond_true];rw [wr_of _ (by omega) (by omega)];omega
 · simp only [h,decide_false,cond_false];omega
theorem zeM {l:Int} (h:okI l):zbb l=vr l:=by
 obtain ⟨h1,h2⟩:=h
 unfold zbb vr mx
 by_cases h0:l < 0
 · simp only [h0,decide_true,cond_true]
   by_cases hm:l=-9223372036854775808
   · subst hm;decide
   · rw [wr_of _ (by omega) (by omega),if_pos (by omega)]
 · simp only [h0,decide_false,cond_false]
   rw [wr_of _ (by omega) (by omega)]
   by_cases hz:l=0
   · subst hz;rfl
   · rw [if_neg (by omega)]
def inB (a b c:Int):Bool:=decide (b≤a) && decide (a≤c)
theorem zaF {a b c:Int}:inB a b c=true↔b≤a∧a≤c:=by simp [inB]
theorem zbx (a b c:Int):zan a b c=inB a b c:=by simp [zan,inB]
theorem zb8 (a b c:Int):zaI a b c=inB a b c:=by simp [zaI,inB]
def varsB (v:Int):Bool:=inB v 0 12
theorem zdg {v:Int}:varsB v=true↔0≤v∧v≤12:=zaF
theorem zfd (v:Int):zba v=varsB v:=zbx _ _ _
theorem zeN (v:Int):zbg v=varsB v:=zb8 _ _ _
def litB (v l:Int):Bool:=inB l (wr (-v)) v && !(l == 0)
theorem spec_l2Lit_eq (v l:Int):zbE v l=litB v l:=by simp [zbE,litB,zbx]
theorem impl_isLiteral_eq (v l:Int):zch v l=litB v l:=by simp [zch,litB,zb8,Bool.and_comm]
theorem impl_isVar_eq (v a:Int):zbh v a=inB a 1 v:=zb8 _ _ _
def za2 (v:Int) (c:List Int):Bool:=varsB v && (c.all (litB v) && adj (fun a b=>decide (vr a < vr b)) c)
theorem zeO {v:Int} {c:List Int} (hc:okL okI c):zb3 v c=some (za2 v c):=by
 unfold zb3 za2
 rw [zfd]
 cases hv:varsB v with
 | false=>rfl
 | true =>
  simp only [Bool.not_true,cond_false,Bool.true_and]
  rw [zcN (p:=fun i y=>!litB v y || match i with|0=>false|i + 1=>match c[i]? with|some x=>decide (vr y≤vr x)|none=>false) (v:=false) (fun i y hy=>by
   rw [spec_l2Lit_eq]
   cases hl:litB v y with
   | false=>simp
   | true =>
    cases i with
    | zero=>simp
    | succ i =>
     have hi:i + 1 < c.length:=(List.getElem?_eq_some_iff.1 hy).1
     have hp:decide ((0:Int) < ((i + 1:Nat):Int))=true:=by simp
     rw [hp,wr_pred (by omega) hi hc.1,zaA]
     simp only [Nat.add_sub_cancel]
     rw [List.getElem?_eq_getElem (show i < c.length by omega)]
     simp only [Bool.not_true,cond_false,cond_true,zaa,Bool.false_or,zee]
     rfl)]
  rw [anyI_adj (q:=fun y=>!litB v y) (r:=fun a b=>decide (vr a < vr b)) (by intro y _;simp) (by
   intro i x y hx hy
   simp only [hx]
   congr 1
   by_cases h:vr x < vr y
   · simp [h]
   · simp [h];omega)]
  simp only [Bool.not_not]
  cases (c.all fun y=>litB v y) && adj (fun a b=>decide (vr a < vr b)) c <;> rfl
theorem impl_IsClause_eq {v:Int} {c:List Int} (hc:okL okI c):zdy v c=some (za2 v c):=by
 unfold zdy za2
 rw [zeN]
 rw [zcN (p:=fun i y=>!litB v y || match i with|0=>false|i + 1=>match c[i]? with|some x=>decide (vr y≤vr x)|none=>false) (v:=false) (fun i y hy=>by
  rw [impl_isLiteral_eq]
  cases hl:litB v y with
  | false=>simp
  | true =>
   cases i with
   | zero=>simp
   | succ i =>
    have hi:i + 1 < c.length:=(List.getElem?_eq_some_iff.1 hy).1
    have hp:decide ((0:Int) < ((i + 1:Nat):Int))=true:=by simp
    rw [hp,wr_pred (by omega) hi hc.1,zaA]
    simp only [Nat.add_sub_cancel]
    rw [List.getElem?_eq_getElem (show i < c.length by omega)]
    simp only [Bool.not_true,cond_false,cond_true,zaa,Bool.false_or]
    rw [zeM (hc.2 _ (List.mem_of_getElem? hy)),zeM (hc.2 _ (List.getElem_mem _))])]
 rw [anyI_adj (q:=fun y=>!litB v y) (r:=fun a b=>decide (vr a < vr b)) (by intro y _;simp) (by
  intro i x y hx hy
  simp only [hx]
  congr 1
  by_cases h:vr x < vr y
  · simp [h]
  · simp [h];omega)]
 simp only [Bool.not_not]
 cases (c.all fun y=>litB v y) && adj (fun a b=>decide (vr a < vr b)) c <;> simp
structure IsC (v:Int) (c:List Int):Prop where
 lo:0≤v
 hi:v≤12
 lit:∀ l∈c,-v≤l∧l≤v∧l≠0
 srt:c.Pairwise fun a b=>a.natAbs < b.natAbs
theorem adj_pairwise {α:Type} {r:α→α→Bool} {R:α→α→Prop} (ht:∀ a b c,R a b→R b c→R a c):∀ {l:List α},(∀ a b,a∈l→b∈l→r a b=true→R a b)→adj r l=true→l.Pairwise R:=by
 intro l
 induction l with
 | nil=>intro _ _;exact .nil
 | cons a l ih =>
  intro hr h
  cases l with
  | nil=>simp
  | cons b l =>
   simp only [adj,Bool.and_eq_true] at h
   have hp:=ih (fun x y hx hy=>hr x y (by simp [hx]) (by simp [hy])) h.2
   have hab:=hr a b (by simp) (by simp) h.1
   refine List.pairwise_cons.2 ⟨fun x hx=>?_,hp⟩
   rcases List.mem_cons.1 hx with rfl|hx
   · exact hab
   · exact ht _ _ _ hab ((List.pairwise_cons.1 hp).1 x hx)
theorem adj_of_pairwise {α:Type} {r:α→α→Bool} {l:List α} (h:l.Pairwise fun a b=>r a b=true):adj r l=true:=by
 induction l with
 | nil=>rfl
 | cons a l ih =>
  cases l with
  | nil=>rfl
  | cons b l =>
   obtain ⟨h1,h2⟩:=List.pairwise_cons.1 h
   simp only [adj,Bool.and_eq_true]
   exact ⟨h1 b (by simp),ih h2⟩
theorem litB_iff {v l:Int} (h1:0≤v) (h2:v≤12):litB v l=true↔-v≤l∧l≤v∧l≠0:=by
 unfold litB
 rw [wr_of _ (by omega) (by omega)]
 simp [inB];omega
theorem zb9 {v:Int} {c:List Int}:za2 v c=true↔IsC v c:=by
 unfold za2
 rw [Bool.and_eq_true,Bool.and_eq_true,zdg,List.all_eq_true]
 constructor
 · rintro ⟨⟨h1,h2⟩,h3,h4⟩
   have hl:∀ l∈c,-v≤l∧l≤v∧l≠0:=fun l hl=>(litB_iff h1 h2).1 (h3 l hl)
   refine ⟨h1,h2,hl,adj_pairwise (R:=fun a b:Int=>a.natAbs < b.natAbs) (fun _ _ _=>Nat.lt_trans) (fun a b ha hb hr=>?_) h4⟩
   have:=hl a ha;have:=hl b hb
   simp only [decide_eq_true_eq] at hr
   rw [zbP (by omega) (by omega),zbP (by omega) (by omega)] at hr
   omega
 · rintro ⟨h1,h2,h3,h4⟩
   refine ⟨⟨h1,h2⟩,fun l hl=>(litB_iff h1 h2).2 (h3 l hl),adj_of_pairwise (List.Pairwise.imp_of_mem ?_ h4)⟩
   intro a b ha hb hr
   have:=h3 a ha;have:=h3 b hb
   simp only [decide_eq_true_eq]
   rw [zbP (by omega) (by omega),zbP (by omega) (by omega)]
   omega
theorem srt_len:∀ {c:List Int} {k n:Nat},c.Pairwise (fun a b=>a.natAbs < b.natAbs)→(∀ l∈c,k < l.natAbs∧l.natAbs≤n)→c.length + k≤max k n:=by
 intro c
 induction c with
 | nil=>intro k n _ _;simp;omega
 | cons a c ih =>
  intro k n h hl
  obtain ⟨h1,h2⟩:=List.pairwise_cons.1 h
  have ha:=hl a (by simp)
  have:=ih (k:=a.natAbs) (n:=n) h2 fun l hm=>⟨h1 l hm,(hl l (by simp [hm])).2⟩
  simp only [List.length_cons];omega
theorem IsC.len {v:Int} {c:List Int} (h:IsC v c):c.length≤12:=by
 have:=srt_len (k:=0) (n:=12) h.srt fun l hl=>by have:=h.lit l hl;have:=h.hi;omega
 omega
theorem IsC.ok {v:Int} {c:List Int} (h:IsC v c):okL okI c:=by
 refine ⟨by have:=h.len;omega,fun l hl=>?_⟩
 have:=h.lit l hl;have:=h.hi
 unfold okI;omega
def cnfB (f:Cnf):Bool:=varsB f.vars && decide (len f.clauses≤60) && f.clauses.all (za2 f.vars)
theorem zdh {f:Cnf} (hf:okCnf f):zb4 f=some (cnfB f):=by
 unfold zb4 cnfB
 rw [zfd]
 cases hv:varsB f.vars with
 | false=>rfl
 | true =>
  have e:(decide (60 < len f.clauses))=!decide (len f.clauses≤60):=by
   by_cases h:len f.clauses≤60
   · simp [h]
   · simp [h];omega
  simp only [Bool.not_true,cond_false,Bool.true_and]
  rw [e]
  cases hl:decide (len f.clauses≤60) with
  | false=>rfl
  | true =>
   have hlen:f.clauses.length≤60:=by have:=of_decide_eq_true hl;rw [zak] at this;omega
   simp only [Bool.not_true,cond_false,Bool.true_and]
   rw [iter_any (xs:=f.clauses) (p:=fun _ c=>!za2 f.vars c) (v:=false) (fun i y hy=>by
    have hi:=(List.getElem?_eq_some_iff.1 hy).1
    have hd:decide ((i:Int) < len f.clauses)=true:=by rw [zak];simp;omega
    rw [hd,zaA,hy]
    simp only [cond_true,zaa]
    rw [zeO (hf.2.2 _ (List.mem_of_getElem? hy)),zaa]
    cases za2 f.vars y with
    | false=>simp only [Bool.not_false,cond_true]
    | true=>rw [wr_succ hi (by omega)]) (by
    have hd:decide (((f.clauses.length:Nat):Int) < len f.clauses)=false:=by rw [zak];simp
    rw [hd,cond_false])]
   rw [zb7,show (f.clauses.any fun y=>!za2 f.vars y)=!f.clauses.all (za2 f.vars) by rw [List.all_eq_not_any_not,Bool.not_not]]
   cases f.clauses.all (za2 f.vars) <;> rfl
theorem zcO {f:Cnf} (hf:okCnf f):zbW f=some (cnfB f):=by
 unfold zbW cnfB
 rw [zeN]
 rw [zcN (p:=fun _ c=>!za2 f.vars c) (v:=false) (fun i y hy=>by
  rw [impl_IsClause_eq (hf.2.2 _ (List.mem_of_getElem? hy)),zaa])]
 rw [zb7,show (f.clauses.any fun y=>!za2 f.vars y)=!f.clauses.all (za2 f.vars) by rw [List.all_eq_not_any_not,Bool.not_not]]
 cases f.clauses.all (za2 f.vars) <;> simp
theorem same_eq (a b:List Int):(bif (!((len a) == (len b))) then some false else bdR (forL (S:=Unit) (X:=Bool) a (fun i23 y22 s23=>bd (ix b ((i23:Nat):Int)) (fun x74=>(bif (!(y22 == x74)) then some (Lp.rt false) else some (Lp.nx ())))) ()) (fun s23=>some true) (fun x23=>some x23))=some (a == b):=by
 rw [zak,zak]
 by_cases hl:a.length=b.length
 · have:(((a.length:Nat):Int) == ((b.length:Nat):Int))=true:=by simp [hl]
   rw [this]
   simp only [Bool.not_true,cond_false]
   rw [zcN (p:=fun i y=>match b[i]? with|some x=>!(y == x)|none=>false) (v:=false) (fun i y hy=>by
    have hi:=(List.getElem?_eq_some_iff.1 hy).1
    rw [zaA,List.getElem?_eq_getElem (by omega),zaa])]
   have e:anyI (fun i y=>match b[i]? with|some x=>!(y == x)|none=>false) a 0=!(a == b):=by
    by_cases hab:a=b
    · subst hab
      rw [show (a == a)=true by simp]
      rw [zdc.2];rfl
      intro i y hy;rw [Nat.zero_add,hy];simp
    · rw [show (a == b)=false by simpa using hab]
      cases h:anyI (fun i y=>match b[i]? with|some x=>!(y == x)|none=>false) a 0 with
      | true=>rfl
      | false =>
       exfalso;apply hab
       rw [zdc] at h
       apply List.ext_getElem hl
       intro i h1 h2
       have:=h i a[i] (by simp [h1])
       rw [Nat.zero_add,List.getElem?_eq_getElem h2] at this
       simpa using this
   rw [e];cases a == b <;> rfl
 · have:(((a.length:Nat):Int) == ((b.length:Nat):Int))=false:=by simp;omega
   rw [this]
   have:(a == b)=false:=by
    rw [beq_eq_false_iff_ne];intro e;subst e;exact hl rfl
   rw [this];rfl
theorem zef (a b:List Int):zcF a b=some (a == b):=same_eq a b
theorem zfE (a b:List Int):zeo a b=some (a == b):=same_eq a b
theorem spec_l1Has_eq (c:List Int) (l:Int):zdr c l=some (c.contains l):=by
 unfold zdr
 rw [zcN (p:=fun _ y=>y == l) (v:=true) (fun i y _=>rfl),zb7]
 rw [show (c.any fun y=>y == l)=c.contains l by induction c with|nil=>rfl|cons x c ih=>rw [List.any_cons,List.contains_cons,ih,Bool.beq_comm]]
 cases c.contains l <;> rfl
theorem zbI (c:List Int) (l:Int):zaY c l=some (c.contains l):=by unfold zaY;rw [spec_l1Has_eq];rfl
theorem zfF {c:List Int} {f:Int→Option Bool} {g:Int→Bool} (h:∀ y∈c,f y=some (g y)):∃ r,zdz c f=some r∧decide (0≤r)=c.any g∧(∀ z,findI (fun _ y=>g y) c 0=some z→r=z.1)∧(findI (fun _ y=>g y) c 0=none→r=-1):=by
 unfold zdz
 rw [zdd (p:=fun _ y=>g y) (v:=fun i _=>(i:Int)) (fun i y hy=>by rw [h y (List.mem_of_getElem? hy),zaa])]
 cases hf:findI (fun _ y=>g y) c 0 with
 | none =>
  refine ⟨-1,rfl,?_,nofun,fun _=>rfl⟩
  have:=zde.1 hf
  rw [zb7] at this;rw [this];rfl
 | some z =>
  obtain ⟨_,_,_,h4⟩:=zdf hf
  rw [zb7] at h4
  exact ⟨_,rfl,by rw [h4];simp,fun z' hz=>(by cases hz;rfl),nofun⟩
theorem zeg {c:List Int} {f:Int→Option Bool} {g:Int→Bool} (h:∀ y∈c,f y=some (g y)):zci c f=some (c.any g):=by
 obtain ⟨r,h1,h2,_⟩:=zfF h
 unfold zci;rw [h1,zaa,h2]
def partB (a b:List Int):Bool:=a.all fun y=>b.contains y
theorem spec_l2Sub_eq (a b:List Int):zbr a b=some (partB a b):=by
 unfold zbr partB
 rw [zcN (p:=fun _ y=>!b.contains y) (v:=false) (fun i y _=>by rw [zbI,zaa]),zb7,show (a.any fun y=>!b.contains y)=!a.all fun y=>b.contains y by rw [List.all_eq_not_any_not,Bool.not_not]]
 cases a.all fun y=>b.contains y <;> rfl
end Go.PF
namespace Go.PF
open Go.Pu
theorem foldl_filter {α:Type} {p:α→Bool}:∀ {l s:List α},l.foldl (fun s y=>bif p y then s++[y] else s) s=s++l.filter p:=by
 intro l
 induction l with
 | nil=>intro s;simp
 | cons y l ih =>
  intro s
  rw [List.foldl_cons,ih]
  cases h:p y <;> simp [h]
theorem zeP {α X:Type} {f:Nat→α→List α→Option (Lp (List α) X)} {p:α→Bool} {l:List α} (hf:∀ i y s,l[i]?=some y→f i y s=bif p y then bd (app s [y]) fun xs=>some (.nx xs) else some (.nx s)) (hl:l.length≤lim) :
 forL l f []=some (.go (l.filter p)):=by
 have:=(forL_foldI (X:=X) (body:=f) (fun s y=>bif p y then s++[y] else s) (l:=l) (s:=[]) (fun i s=>s.length≤i) (by simp) (fun i x t hx ht=>by
  have hi:=(List.getElem?_eq_some_iff.1 hx).1
  rw [hf i x t hx]
  cases p x with
  | false=>exact ⟨rfl,by simp only [cond_false];omega⟩
  | true =>
   simp only [cond_true]
   rw [zaB (by simp;omega),zaa]
   exact ⟨rfl,by simp;omega⟩)).1
 rw [this,foldl_filter];rfl
def zaW (c:List Int) (v:Int):List Int:=c.filter fun y=>!(vr y == v)
theorem zeQ {c:List Int} {v:Int} (hl:c.length≤lim):zcz c v=some (zaW c v):=by
 unfold zcz zaW
 rw [zeP (p:=fun y=>!(vr y == v)) (fun i y s _=>by rfl) hl];rfl
def putL (c:List Int) (l:Int):List Int:=c.takeWhile (fun y=>decide (vr y < vr l))++l::c.dropWhile (fun y=>decide (vr y < vr l))
theorem zeh {c:List Int} (hl:c.length≤lim):zcd c=some c:=by
 unfold zcd;rw [zaB (by simpa using hl)];rfl
theorem takeWhile_le {α:Type} {p:α→Bool} (l:List α):(l.takeWhile p).length≤l.length:=(List.takeWhile_prefix p).length_le
theorem take_takeWhile {α:Type} {p:α→Bool} (l:List α):l.take (l.takeWhile p).length=l.takeWhile p:=by
 conv=>lhs;rw [← List.takeWhile_append_dropWhile (p:=p) (l:=l)]
 rw [List.takeWhile_append_dropWhile]
 exact List.prefix_iff_eq_take.1 (List.takeWhile_prefix p) |>.symm
theorem drop_takeWhile {α:Type} {p:α→Bool} (l:List α):l.drop (l.takeWhile p).length=l.dropWhile p:=by
 have h:=List.takeWhile_append_dropWhile (p:=p) (l:=l)
 have h2:l.drop (l.takeWhile p).length=(l.takeWhile p++l.dropWhile p).drop (l.takeWhile p).length:=by rw [h]
 rw [h2,List.drop_left]
theorem zdi {c:List Int} {l:Int} (hl:c.length + 1≤lim):zbU c l=some (putL c l):=by
 unfold zbU putL
 have hl':c.length + 1≤4294967296:=hl
 rw [iter_while (xs:=c) (p:=fun y=>decide (vr y < vr l)) (fun i y hy=>by
  have hi:=(List.getElem?_eq_some_iff.1 hy).1
  have hd:decide ((i:Int) < len c)=true:=by rw [zak];simp;omega
  rw [hd,zaA,hy]
  simp only [cond_true,zaa,zee]
  rw [wr_succ hi (by omega)];rfl) (by
  have hd:decide (((c.length:Nat):Int) < len c)=false:=by rw [zak];simp
  rw [hd];rfl),zaE]
 have hk:=takeWhile_le (p:=fun y=>decide (vr y < vr l)) c
 rw [show (0:Int)=((0:Nat):Int) from rfl,cut_ok (Nat.zero_le _) hk,zaa,List.drop_zero,take_takeWhile,zeh (by omega),zaa,zaB (by simp;omega),zaa,
  zak,cut_ok hk (Nat.le_refl _),zaa,List.take_length,drop_takeWhile,zaB,zaa]
 · simp
 · have:=congrArg List.length (List.takeWhile_append_dropWhile (p:=fun y=>decide (vr y < vr l)) (l:=c))
   simp only [List.length_append] at this ⊢
   simp only [List.length_singleton]
   unfold lim;omega
theorem zei (c:List Int) (l:Int):(putL c l).length=c.length + 1:=by
 have:=congrArg List.length (List.takeWhile_append_dropWhile (p:=fun y=>decide (vr y < vr l)) (l:=c))
 unfold putL;simp only [List.length_append,List.length_cons] at this ⊢;omega
def joinL:List Int→List Int→Option (List Int)
 | s,[]=>some s
 | s,y::b=>bif s.contains (wr (-y)) then none else joinL (bif !s.contains y then putL s y else s) b
theorem spec_l2Join_eq {a b:List Int} (hl:a.length + b.length≤lim):zdT a b=some (match joinL a b with|some s=>(s,true)|none=>([],false)):=by
 unfold zdT
 rw [zeh (by omega),zaa]
 have key:∀ (F:Nat→Int→List Int→Option (Lp (List Int) (List Int×Bool))),(∀ i y s,F i y s=bd (PF.zaY s (wr (-y))) (fun r200=>(bif r200 then some (Lp.rt ([],false)) else bd (PF.zaY s y) (fun r222=>(bif (!r222) then bd (PF.zbU s y) (fun r239=>some (Lp.nx r239)) else some (Lp.nx s)))))) →
  ∀ (b:List Int) (i:Nat) (s:List Int),s.length + b.length≤lim→zaU F b i s=some (match joinL s b with|some s=>.go s|none=>.rt ([],false)):=by
  intro F hF b
  induction b with
  | nil=>intro i s _;rfl
  | cons y b ih =>
   intro i s hs
   simp only [List.length_cons] at hs
   rw [zaU,hF,zbI,zaa,zbI,zaa,joinL]
   cases s.contains (wr (-y)) with
   | true=>rfl
   | false =>
    simp only [cond_false]
    cases s.contains y with
    | true=>simp only [Bool.not_true,cond_false];exact ih (i + 1) s (by omega)
    | false =>
     simp only [Bool.not_false,cond_true]
     rw [zdi (c:=s) (by omega),zaa]
     exact ih (i + 1) _ (by rw [zei];omega)
 unfold forL
 rw [key _ (fun _ _ _=>rfl) b 0 a hl]
 cases joinL a b <;> rfl
abbrev Srt (c:List Int):Prop:=c.Pairwise fun a b=>a.natAbs < b.natAbs
def Sm (c:List Int):Prop:=∀ l∈c,-12≤l∧l≤12∧l≠0
theorem zct {c:List Int} {l x:Int}:x∈putL c l↔x=l∨x∈c:=by
 have h:=List.takeWhile_append_dropWhile (p:=fun y=>decide (vr y < vr l)) (l:=c)
 have:x∈c↔x∈c.takeWhile (fun y=>decide (vr y < vr l))∨x∈c.dropWhile (fun y=>decide (vr y < vr l)):=by rw [← List.mem_append,h]
 unfold putL
 rw [this,List.mem_append,List.mem_cons]
 constructor
 · rintro (h|h|h)
   · exact .inr (.inl h)
   · exact .inl h
   · exact .inr (.inr h)
 · rintro (h|h|h)
   · exact .inr (.inl h)
   · exact .inl h
   · exact .inr (.inr h)
theorem putL_srt {c:List Int} {l:Int} (hc:Srt c) (hs:Sm c) (hl:-12≤l∧l≤12) (hn:∀ x∈c,x.natAbs≠l.natAbs):Srt (putL c l):=by
 have hv:∀ x∈c,(decide (vr x < vr l)=true↔x.natAbs < l.natAbs):=fun x hx=>by
  have:=hs x hx
  rw [decide_eq_true_eq,zbP (by omega) (by omega),zbP hl.1 hl.2];omega
 unfold putL
 induction c with
 | nil=>simp
 | cons y c ih =>
  obtain ⟨h1,h2⟩:=List.pairwise_cons.1 hc
  rw [List.takeWhile_cons,List.dropWhile_cons]
  by_cases hy:decide (vr y < vr l)=true
  · rw [if_pos hy,if_pos hy,List.cons_append]
    have ih:=ih h2 (fun x hx=>hs x (by simp [hx])) (fun x hx=>hn x (by simp [hx])) (fun x hx=>hv x (by simp [hx]))
    refine List.pairwise_cons.2 ⟨fun x hx=>?_,ih⟩
    rcases (zct (c:=c) (l:=l)).1 hx with rfl|hx
    · exact (hv y (by simp)).1 hy
    · exact h1 x hx
  · rw [if_neg hy,if_neg hy,List.nil_append]
    have hly:l.natAbs < y.natAbs:=by
     have:=hn y (by simp)
     have h3:¬ y.natAbs < l.natAbs:=fun h=>hy ((hv y (by simp)).2 h)
     omega
    refine List.pairwise_cons.2 ⟨fun x hx=>?_,hc⟩
    rcases List.mem_cons.1 hx with rfl|hx
    · exact hly
    · have:=h1 x hx;omega
theorem joinL_spec:∀ {b s:List Int},Srt s→Sm s→Srt b→Sm b →
 (if ∃ y∈b,-y∈s then joinL s b=none else ∃ t,joinL s b=some t∧Srt t∧∀ x,x∈t↔x∈s∨x∈b):=by
 intro b
 induction b with
 | nil=>intro s hs _ _ _;simp only [List.not_mem_nil,false_and,exists_false,if_false,or_false];exact ⟨s,rfl,hs,fun _=>Iff.rfl⟩
 | cons y b ih =>
  intro s hs hs2 hb hb2
  obtain ⟨h1,h2⟩:=List.pairwise_cons.1 hb
  have hy:=hb2 y (by simp)
  have hw:wr (-y)=-y:=wr_of _ (by omega) (by omega)
  simp only [joinL,hw]
  by_cases hn:-y∈s
  · rw [if_pos ⟨y,by simp,hn⟩,List.contains_iff_mem.2 hn];rfl
  · have hnc:s.contains (-y)=false:=by rw [Bool.eq_false_iff];exact fun h=>hn (List.contains_iff_mem.1 h)
    rw [hnc,cond_false]
    by_cases hin:y∈s
    · rw [List.contains_iff_mem.2 hin]
      simp only [Bool.not_true,cond_false]
      have:=ih hs hs2 h2 (fun x hx=>hb2 x (by simp [hx]))
      have e1:(∃ z∈y::b,-z∈s)↔∃ z∈b,-z∈s:=by
       constructor
       · rintro ⟨z,hz,hz2⟩
         rcases List.mem_cons.1 hz with rfl|hz
         · exact absurd hz2 hn
         · exact ⟨z,hz,hz2⟩
       · rintro ⟨z,hz,hz2⟩;exact ⟨z,by simp [hz],hz2⟩
      simp only [e1]
      split at this
      · rename_i hex;rw [if_pos hex];exact this
      · rename_i hex
        rw [if_neg hex]
        obtain ⟨t,t1,t2,t3⟩:=this
        refine ⟨t,t1,t2,fun x=>?_⟩
        rw [t3,List.mem_cons]
        constructor
        · rintro (h|h)
          · exact .inl h
          · exact .inr (.inr h)
        · rintro (h|rfl|h)
          · exact .inl h
          · exact .inl hin
          · exact .inr h
    · have hic:s.contains y=false:=by rw [Bool.eq_false_iff];exact fun h=>hin (List.contains_iff_mem.1 h)
      rw [hic]
      simp only [Bool.not_false,cond_true]
      have hne:∀ x∈s,x.natAbs≠y.natAbs:=fun x hx e=>by
       have:x=y∨x=-y:=by omega
       rcases this with rfl|rfl
       · exact hin hx
       · exact hn hx
      have:=ih (putL_srt hs hs2 ⟨hy.1,hy.2.1⟩ hne) (fun x hx=>by
       rcases zct.1 hx with rfl|hx
       · exact hy
       · exact hs2 x hx) h2 (fun x hx=>hb2 x (by simp [hx]))
      have e1:(∃ z∈y::b,-z∈s)↔∃ z∈b,-z∈putL s y:=by
       constructor
       · rintro ⟨z,hz,hz2⟩
         rcases List.mem_cons.1 hz with rfl|hz
         · exact absurd hz2 hn
         · exact ⟨z,hz,zct.2 (.inr hz2)⟩
       · rintro ⟨z,hz,hz2⟩
         rcases zct.1 hz2 with e|hz2
         · have:=h1 z hz;omega
         · exact ⟨z,by simp [hz],hz2⟩
      simp only [e1]
      split at this
      · rename_i hex;rw [if_pos hex];exact this
      · rename_i hex
        rw [if_neg hex]
        obtain ⟨t,t1,t2,t3⟩:=this
        refine ⟨t,t1,t2,fun x=>?_⟩
        rw [t3,zct,List.mem_cons]
        constructor
        · rintro ((h|h)|h)
          · exact .inr (.inl h)
          · exact .inl h
          · exact .inr (.inr h)
        · rintro (h|h|h)
          · exact .inl (.inr h)
          · exact .inl (.inl h)
          · exact .inr h
end Go.PF
namespace Go.PF
open Go.Pu
def cmpL (x y:Int):Int:=if zbb x < zbb y then -1 else if zbb y < zbb x then 1 else if y < x then -1 else if x < y then 1 else 0
def joined (a b:List Int):List Int×Bool:=match joinL a b with|some s=>(s,true)|none=>([],false)
def res (a b:List Int) (v:Int):List Int×Bool:=bif !a.contains v || !b.contains (wr (-v)) then ([],false) else joined (zaW a v) (zaW b v)
theorem without_len (c:List Int) (v:Int):(zaW c v).length≤c.length:=List.length_filter_le _ _
theorem zfe {a b:List Int} {v:Int} (hl:a.length + b.length≤lim):zbq a b v=some (res a b v):=by
 have h1:=without_len a v;have h2:=without_len b v
 unfold zbq res
 rw [zbI,zaa]
 cases a.contains v with
 | false=>rfl
 | true =>
  simp only [Bool.not_true,cond_false,Bool.false_or]
  rw [zbI,zaa,zaa]
  cases b.contains (wr (-v)) with
  | false=>rfl
  | true =>
   simp only [Bool.not_true,cond_false]
   rw [zeQ (by omega),zaa,zeQ (by omega),zaa,spec_l2Join_eq (by omega),zaa]
   unfold joined
   cases joinL (zaW a v) (zaW b v) <;> rfl
theorem IsC.sm {V:Int} {c:List Int} (h:IsC V c):Sm c:=fun l hl=>by have:=h.lit l hl;have:=h.hi;omega
end Go.PF
namespace Go.PF
open Go.Pu
def clAt (S:List zae) (k:Int):List Int:=match S[k.toNat]? with|some y=>y.clause|none=>[]
def zbC (F:Cnf) (S:List zae) (i:Nat) (k:Int):Bool:=inB k 0 ((i:Int) - 1) && za2 F.vars (clAt S k)
def axB (F:Cnf) (x:zae):Bool:=inB x.right 0 (len F.clauses - 1) && match F.clauses[x.right.toNat]? with|some c=>c == x.clause|none=>false
def stepB (F:Cnf) (S:List zae) (i:Nat) (x:zae):Bool :=
 za2 F.vars x.clause &&
 bif x.left == -1 then x.pivot == 0 && axB F x
 else zbC F S i x.left &&
  bif x.right == -1 then x.pivot == 0 && partB (clAt S x.left) x.clause
  else zbC F S i x.right && (inB x.pivot 1 F.vars && ((res (clAt S x.left) (clAt S x.right) x.pivot).2 && (res (clAt S x.left) (clAt S x.right) x.pivot).1 == x.clause))
theorem earlier_at {S:List zae} {i:Nat} {k:Int} (hi:i < S.length) (h:inB k 0 ((i:Int) - 1)=true):∃ y,ix S k=some y∧clAt S k=y.clause∧y∈S:=by
 rw [zaF] at h
 obtain ⟨y,h1,h2⟩:=ix_of (xs:=S) (i:=k) h.1 (by omega)
 exact ⟨y,h1,by unfold clAt;rw [h2],List.mem_of_getElem? h2⟩
theorem wr_lt {i n:Nat} (h:i < n) (hn:n≤9223372036854775807):wr ((i:Int) - 1)=(i:Int) - 1:=wr_of _ (by omega) (by omega)
theorem zff {F:Cnf} {S:List zae} {i:Nat} {k:Int} (hS:okL zcw S) (hi:i < S.length):zc7 F S (i:Int) k=some (zbC F S i k):=by
 unfold zc7 zbC
 rw [wr_lt hi hS.1,zbx]
 cases h:inB k 0 ((i:Int) - 1) with
 | false=>rfl
 | true =>
  obtain ⟨y,h1,h2,h3⟩:=earlier_at hi h
  simp only [cond_true,Bool.true_and]
  rw [h1,zaa,zeO (hS.2 y h3).1,zaa,zaa,h2]
theorem ax_at {F:Cnf} {x:zae} (h:inB x.right 0 (len F.clauses - 1)=true):∃ c,ix F.clauses x.right=some c∧axB F x=(c == x.clause):=by
 have h':=zaF.1 h
 obtain ⟨c,h1,h2⟩:=ix_of (xs:=F.clauses) (i:=x.right) h'.1 (by rw [zak] at h';omega)
 exact ⟨c,h1,by unfold axB;rw [h,h2];rfl⟩
theorem zbQ {A:Type} {l:List A} (h:l.length≤9223372036854775807):wr (len l - 1)=len l - 1:=wr_of _ (by rw [zak];omega) (by rw [zak];omega)
theorem spec_l7Correct_eq {F:Cnf} {S:List zae} {i:Nat} {x:zae} (hF:okCnf F) (hS:okL zcw S) (hx:S[i]?=some x):zdX F S (i:Int)=some (stepB F S i x):=by
 have hi:=(List.getElem?_eq_some_iff.1 hx).1
 have hm:=List.mem_of_getElem? hx
 unfold zdX stepB
 rw [zaA,hx,zaa,zeO (hS.2 x hm).1,zaa]
 cases hc:za2 F.vars x.clause with
 | false=>rfl
 | true =>
  simp only [Bool.not_true,cond_false,Bool.true_and]
  cases hl:x.left == -1 with
  | true =>
   simp only [cond_true]
   cases hp:x.pivot == 0 with
   | false=>rfl
   | true =>
    simp only [cond_true,Bool.true_and,zbx,zbQ hF.2.1]
    cases hr:inB x.right 0 (len F.clauses - 1) with
    | false=>unfold axB;rw [hr];rfl
    | true =>
     obtain ⟨c,h1,h2⟩:=ax_at hr
     simp only [cond_true]
     rw [h1,zaa,zef,zaa,zaa,h2]
  | false =>
   simp only [cond_false]
   rw [zff hS hi,zaa]
   cases he:zbC F S i x.left with
   | false=>rfl
   | true =>
    simp only [Bool.not_true,cond_false,Bool.true_and]
    have he':inB x.left 0 ((i:Int) - 1)=true∧za2 F.vars (clAt S x.left)=true:=by unfold zbC at he;simpa using he
    obtain ⟨y,y1,y2,y3⟩:=earlier_at hi he'.1
    cases hr:x.right == -1 with
    | true =>
     simp only [cond_true]
     cases hp:x.pivot == 0 with
     | false=>rfl
     | true =>
      simp only [cond_true,Bool.true_and]
      rw [y1,zaa,spec_l2Sub_eq,zaa,zaa,y2]
    | false =>
     simp only [cond_false]
     rw [zff hS hi,zaa]
     cases hq:zbC F S i x.right with
     | false=>rfl
     | true =>
      simp only [Bool.not_true,cond_false,Bool.true_and,zbx]
      have hq':inB x.right 0 ((i:Int) - 1)=true∧za2 F.vars (clAt S x.right)=true:=by unfold zbC at hq;simpa using hq
      obtain ⟨z,z1,z2,z3⟩:=earlier_at hi hq'.1
      cases hv:inB x.pivot 1 F.vars with
      | false=>rfl
      | true =>
       simp only [Bool.not_true,cond_false,Bool.true_and]
       have cy:=(zb9.1 he'.2).len;have cz:=(zb9.1 hq'.2).len
       rw [y2] at cy;rw [z2] at cz
       rw [y1,zaa,z1,zaa,zfe (by unfold lim;omega),zaa,y2,z2]
       cases (res y.clause z.clause x.pivot).2 with
       | false=>rfl
       | true =>
        simp only [cond_true,Bool.true_and]
        rw [zef,zaa,zaa]
def derB (F:Cnf) (S:List zae):Bool:=cnfB F && (decide (len S≤200) && !anyI (fun i x=>!stepB F S i x) S 0)
theorem spec_l7Wrong_eq {F:Cnf} {S:List zae} (hF:okCnf F) (hS:okL zcw S):∃ r,zdY F S=some r∧decide (r < 0)=!anyI (fun i x=>!stepB F S i x) S 0:=by
 unfold zdY
 rw [zdd (p:=fun i x=>!stepB F S i x) (v:=fun i _=>(i:Int)) (fun i x hx=>by rw [spec_l7Correct_eq hF hS hx,zaa])]
 cases h:findI (fun i x=>!stepB F S i x) S 0 with
 | none=>exact ⟨-1,rfl,by rw [zde.1 h];rfl⟩
 | some z=>obtain ⟨_,_,_,h4⟩:=zdf h;exact ⟨_,rfl,by rw [h4];simp⟩
theorem spec_l7Good_eq {F:Cnf} {S:List zae} (hF:okCnf F) (hS:okL zcw S):zdZ F S=some (derB F S):=by
 obtain ⟨r,h1,h2⟩:=spec_l7Wrong_eq hF hS
 unfold zdZ zes derB
 rw [zdh hF,h1]
 cases cnfB F <;> cases decide (len S≤200) <;> simp [h2]
structure IsD (F:Cnf) (S:List zae):Prop where
 cnf:cnfB F=true
 le:S.length≤200
 step:∀ i x,S[i]?=some x→stepB F S i x=true
theorem derB_iff {F:Cnf} {S:List zae}:derB F S=true↔IsD F S:=by
 unfold derB
 rw [Bool.and_eq_true,Bool.and_eq_true,Bool.not_eq_true',zdc,decide_eq_true_eq,zak]
 constructor
 · rintro ⟨h1,h2,h3⟩;exact ⟨h1,by omega,fun i x hx=>by have:=h3 i x hx;simpa using this⟩
 · rintro ⟨h1,h2,h3⟩;exact ⟨h1,by omega,fun i x hx=>by simp [h3 i x hx]⟩
theorem IsD.clause {F:Cnf} {S:List zae} (h:IsD F S) {x:zae} (hx:x∈S):IsC F.vars x.clause:=by
 obtain ⟨i,hi⟩:=List.mem_iff_getElem?.1 hx
 have:=h.step i x hi
 unfold stepB at this
 rw [Bool.and_eq_true] at this
 exact zb9.1 this.1
theorem IsD.nums {F:Cnf} {S:List zae} (h:IsD F S) {i:Nat} {x:zae} (hx:S[i]?=some x) :
 (x.left=-1∧x.pivot=0∧0≤x.right∧x.right < len F.clauses)∨(0≤x.left∧x.left < i∧x.right=-1∧x.pivot=0)∨(0≤x.left∧x.left < i∧0≤x.right∧x.right < i∧1≤x.pivot∧x.pivot≤F.vars):=by
 have:=h.step i x hx
 unfold stepB at this
 rw [Bool.and_eq_true] at this
 obtain ⟨_,this⟩:=this
 cases hl:x.left == -1 with
 | true =>
  rw [hl] at this
  simp only [cond_true,Bool.and_eq_true,beq_iff_eq] at this
  unfold axB at this
  rw [Bool.and_eq_true,zaF] at this
  have:=beq_iff_eq.1 hl
  left;omega
 | false =>
  rw [hl] at this
  simp only [cond_false,Bool.and_eq_true] at this
  obtain ⟨h1,this⟩:=this
  unfold zbC at h1
  rw [Bool.and_eq_true,zaF] at h1
  cases hr:x.right == -1 with
  | true =>
   rw [hr] at this
   simp only [cond_true,Bool.and_eq_true,beq_iff_eq] at this
   have:=beq_iff_eq.1 hr
   right;left;omega
  | false =>
   rw [hr] at this
   simp only [cond_false,Bool.and_eq_true] at this
   obtain ⟨h2,h3,_⟩:=this
   unfold zbC at h2
   rw [Bool.and_eq_true,zaF] at h2
   rw [zaF] at h3
   right;right;omega
theorem IsD.before {F:Cnf} {S:List zae} (h:IsD F S) {i:Nat} {x:zae} (hx:S[i]?=some x) (hl:0≤x.left):x.left < i∧(0≤x.right→x.right < i):=by
 rcases h.nums hx with h|h|h <;> omega
end Go.PF
namespace Go.PF
open Go.Pu
abbrev Asc (c:List Int):Prop:=c.Pairwise fun a b=>a < b
def prem (x:zae):List Int:=bif decide (x.left < 0) then [] else bif decide (0≤x.left) && decide (0≤x.right) then [x.left,x.right] else [x.left]
theorem prem_len (x:zae):(prem x).length≤2:=by
 unfold prem
 cases decide (x.left < 0) <;> cases (decide (0≤x.left) && decide (0≤x.right)) <;> simp
end Go.PF
namespace Go.PF
open Go.Pu
def plI (V:Nat) (φ:Nat→Int) (b:Int):zaf:=⟨(List.range V).map φ,b⟩
theorem pl_at {V k:Nat} (φ:Nat→Int) (h:k < V):((List.range V).map φ)[k]?=some (φ k):=by
 rw [List.getElem?_map,List.getElem?_range h];rfl
theorem pl_ext {V:Nat} {φ:Nat→Int} {xs:List Int} (hl:xs.length=V) (h:∀ k,k < V→xs[k]?=some (φ k)):xs=(List.range V).map φ:=by
 refine List.ext_getElem? fun k=>?_
 by_cases hk:k < V
 · rw [h k hk,pl_at φ hk]
 · rw [List.getElem?_eq_none (by omega),List.getElem?_eq_none (by simp;omega)]
def cfA (c:List Int) (j:Nat):Int:=if ((j:Int) + 1)∈c then 1 else if -((j:Int) + 1)∈c then -1 else 0
def negs:List Int→Int
 | []=>0
 | l::c=>(if l < 0 then 1 else 0) + negs c
theorem negs_bd:∀ c:List Int,0≤negs c∧negs c≤c.length
 | []=>⟨Int.le_refl _,Int.le_refl _⟩
 | l::c=>by
  have:=negs_bd c
  simp only [negs,List.length_cons]
  split <;> omega
def ofC (V:Nat) (s:List Int×Int) (y:Int):List Int×Int:=if 0 < y then (s.1.set (y - 1).toNat 1,s.2) else (s.1.set (-y - 1).toNat (-1),s.2 - 1)
theorem ofC_fold {V:Nat}:∀ (c pre:List Int) (b:Int),(∀ l∈pre++c,l≠0∧l.natAbs≤V)→(pre++c).Pairwise (fun a b=>a.natAbs < b.natAbs) →
 c.foldl (ofC V) ((List.range V).map (cfA pre),b)=((List.range V).map (cfA (pre++c)),b - negs c)
 | [],pre,b,_,_=>by simp [negs]
 | y::c,pre,b,h,hp=>by
  have hy:=h y (by simp)
  have hpre:∀ a∈pre,a.natAbs < y.natAbs:=fun a ha=>(List.pairwise_append.1 hp).2.2 a ha y (by simp)
  have e:ofC V ((List.range V).map (cfA pre),b) y=((List.range V).map (cfA (pre++[y])),if y < 0 then b - 1 else b):=by
   have key:∀ (j:Nat) (s:Int),(j:Int) + 1=y.natAbs→cfA (pre++[y]) j=s→((List.range V).map (cfA pre)).set j s=(List.range V).map (cfA (pre++[y])):=fun j s hj hs=>by
    refine pl_ext (by simp) fun k hk=>?_
    rw [List.getElem?_set]
    by_cases hjk:j=k
    · subst hjk;rw [if_pos rfl,if_pos (by simpa using hk),hs]
    · rw [if_neg hjk,pl_at _ hk]
      congr 1
      unfold cfA
      simp only [List.mem_append,List.mem_singleton]
      have n1:(k:Int) + 1≠y:=by omega
      have n2:-((k:Int) + 1)≠y:=by omega
      simp only [n1,n2,or_false]
   unfold ofC
   by_cases h0:0 < y
   · rw [if_pos h0,if_neg (by omega)]
     rw [key (y - 1).toNat 1 (by omega) ?_]
     unfold cfA
     rw [if_pos (by rw [show (((y - 1).toNat:Nat):Int) + 1=y by omega];simp)]
   · rw [if_neg h0,if_pos (by omega)]
     rw [key (-y - 1).toNat (-1) (by omega) ?_]
     unfold cfA
     rw [if_neg,if_pos (by rw [show -((((-y - 1).toNat:Nat):Int) + 1)=y by omega];simp)]
     rw [show (((-y - 1).toNat:Nat):Int) + 1=-y by omega,List.mem_append,List.mem_singleton]
     rintro (h|h)
     · have:=hpre _ h;omega
     · omega
  rw [List.foldl_cons,e,ofC_fold c (pre++[y]) _ (by simpa using h) (by simpa using hp)]
  simp only [List.append_assoc,List.singleton_append,negs]
  congr 1
  split <;> omega
theorem zs_pl (V:Nat):List.replicate V (0:Int)=(List.range V).map (cfA []):=by
 refine pl_ext (by simp) fun k hk=>?_
 rw [List.getElem?_replicate,if_pos hk]
 simp [cfA]
def bC (c:List Int):Int:=1 - negs c
theorem planeOf_bdR {V:Int} {c:List Int} (hc:IsC V c) {lx:Empty→Option zaf} {body:Nat→Int→List Int×Int→Option (Lp (List Int×Int) Empty)}
 (hb:∀ i y s,body i y s=bif decide (0 < y) then bd (ix s.1 (wr (y - 1))) (fun _=>bd (put s.1 (wr (y - 1)) 1) fun xs=>some (Lp.nx (xs,s.2))) else bd (ix s.1 (wr (wr (-y) - 1))) (fun _=>bd (put s.1 (wr (wr (-y) - 1)) (-1)) fun xs=>some (Lp.nx (xs,wr (s.2 - 1))))) :
 bd (mk2 (0:Int) V V) (fun xs=>bdR (forL c body (xs,1)) (fun s=>some (zaf.mk s.1 s.2)) lx)=some (plI V.toNat (cfA c) (bC c)):=by
 have h0:=hc.lo;have h12:=hc.hi
 have hlim:lim=4294967296:=rfl
 have e:V=((V.toNat:Nat):Int):=by omega
 have hm:mk2 (0:Int) V V=some (List.replicate V.toNat 0):=by
  have:=mk2_ok (z:=(0:Int)) (n:=V.toNat) (by omega)
  rw [← e] at this;exact this
 have hlen:=hc.len
 rw [hm,zaa]
 obtain ⟨h1,_⟩:=forL_foldI (X:=Empty) (body:=body) (ofC V.toNat) (l:=c) (s:=(List.replicate V.toNat 0,1)) (fun i t=>t.1.length=V.toNat∧1 - (i:Int)≤t.2∧t.2≤1) (by simp) (fun i y t hx ht=>by
  obtain ⟨t1,t2,t3⟩:=ht
  have hy:=hc.lit y (List.mem_of_getElem? hx)
  have hi:=(List.getElem?_eq_some_iff.1 hx).1
  rw [hb]
  unfold ofC
  by_cases hp:0 < y
  · rw [if_pos hp,show decide (0 < y)=true from decide_eq_true hp,cond_true,wr_of _ (by omega) (by omega),show y - 1=(((y - 1).toNat:Nat):Int) by omega]
    obtain ⟨u,hu⟩:∃ u,t.1[(y - 1).toNat]?=some u:=⟨_,List.getElem?_eq_getElem (by omega)⟩
    rw [zaA,hu,zaa,zbH (by omega),zaa]
    exact ⟨rfl,by simp [t1],by simp;omega,by simpa using t3⟩
  · have w1:wr (-y)=-y:=wr_of _ (by omega) (by omega)
    rw [if_neg hp,show decide (0 < y)=false from decide_eq_false hp,cond_false,w1,wr_of (-y - 1) (by omega) (by omega),show -y - 1=(((-y - 1).toNat:Nat):Int) by omega]
    obtain ⟨u,hu⟩:∃ u,t.1[(-y - 1).toNat]?=some u:=⟨_,List.getElem?_eq_getElem (by omega)⟩
    rw [zaA,hu,zaa,zbH (by omega),zaa,wr_of (t.2 - 1) (by omega) (by omega)]
    exact ⟨rfl,by simp [t1],by simp;omega,by simp;omega⟩)
 rw [h1,zaE,zs_pl,ofC_fold c [] 1 (fun l hl=>by have:=hc.lit l (by simpa using hl);omega) (by simpa using hc.srt)]
 rfl
theorem zeR {V:Int} {c:List Int} (hc:IsC V c):zcf V c=some (plI V.toNat (cfA c) (bC c)):=planeOf_bdR hc fun _ _ _=>rfl
theorem impl_planeOf_eq {V:Int} {c:List Int} (hc:IsC V c):zen V c=some (plI V.toNat (cfA c) (bC c)):=planeOf_bdR hc fun _ _ _=>rfl
def bL (l:Int):Int:=if 0 < l then 0 else -1
theorem zb0 {V v n b:Int} (h0:0≤V∧V≤12) (hv:1≤v∧v≤V):(bd (mk2 (0:Int) V V) fun xs=>bd (ix xs (wr (v - 1))) fun _=>bd (put xs (wr (v - 1)) n) fun ys=>some (zaf.mk ys b))=some ⟨(List.replicate V.toNat 0).set (v - 1).toNat n,b⟩:=by
 have hlim:lim=4294967296:=rfl
 have e:V=((V.toNat:Nat):Int):=by omega
 have hm:mk2 (0:Int) V V=some (List.replicate V.toNat 0):=by
  have:=mk2_ok (z:=(0:Int)) (n:=V.toNat) (by omega)
  rw [← e] at this;exact this
 rw [hm,zaa,wr_of _ (by omega) (by omega),show v - 1=(((v - 1).toNat:Nat):Int) by omega,zaA]
 obtain ⟨u,hu⟩:∃ u,(List.replicate V.toNat (0:Int))[(v - 1).toNat]?=some u:=⟨_,List.getElem?_eq_getElem (by simp;omega)⟩
 rw [hu,zaa,zbH (by simp;omega),zaa]
 rfl
theorem lit_set {V:Nat} {l:Int} (h:l≠0) (hl:l.natAbs≤V):(List.replicate V (0:Int)).set (l.natAbs - 1) (if 0 < l then 1 else -1)=(List.range V).map (cfA [l]):=by
 have:=ofC_fold (V:=V) [l] [] 0 (fun x hx=>by rw [List.nil_append,List.mem_singleton] at hx;subst hx;exact ⟨h,hl⟩) (by simp)
 simp only [List.foldl_cons,List.foldl_nil,List.nil_append] at this
 refine Eq.trans ?_ (congrArg Prod.fst this)
 rw [← zs_pl]
 unfold ofC
 by_cases h0:0 < l
 · rw [if_pos h0,if_pos h0,show (l - 1).toNat=l.natAbs - 1 by omega]
 · rw [if_neg h0,if_neg h0,show (-l - 1).toNat=l.natAbs - 1 by omega]
theorem literal_eq {V l:Int} (h0:0≤V∧V≤12) (h1:-V≤l) (h2:l≤V) (h3:l≠0) {f:Int→Int→Int→Int→Option zaf}
 (hf:∀ v n b,f V v n b=bd (mk2 (0:Int) V V) fun xs=>bd (ix xs (wr (v - 1))) fun _=>bd (put xs (wr (v - 1)) n) fun ys=>some (zaf.mk ys b)) :
 (bif decide (0 < l) then bd (f V l 1 0) (fun r=>some r) else bd (f V (wr (-l)) (-1) (-1)) (fun r=>some r))=some (plI V.toNat (cfA [l]) (bL l)):=by
 unfold plI bL
 rw [← lit_set (V:=V.toNat) h3 (by omega)]
 by_cases hp:0 < l
 · rw [show decide (0 < l)=true from decide_eq_true hp,cond_true,hf,zb0 h0 ⟨by omega,h2⟩,zaa,if_pos hp,if_pos hp,show (l - 1).toNat=l.natAbs - 1 by omega]
 · have w1:wr (-l)=-l:=wr_of _ (by omega) (by omega)
   rw [show decide (0 < l)=false from decide_eq_false hp,cond_false,w1,hf,zb0 h0 ⟨by omega,by omega⟩,zaa,if_neg hp,if_neg hp,show (-l - 1).toNat=l.natAbs - 1 by omega]
theorem spec_l17Literal_eq {V l:Int} (h0:0≤V∧V≤12) (h1:-V≤l) (h2:l≤V) (h3:l≠0):zbt V l=some (plI V.toNat (cfA [l]) (bL l)):=literal_eq h0 h1 h2 h3 (f:=zbk) fun _ _ _=>rfl
theorem zej {X:Type} {n:Nat} (hn:n≤100000) {f:Nat→Int} {b:Int} {body:List Int×Int×Int→Option (Lp (List Int×Int×Int) X)}
    (hb:∀ (acc:List Int) (k:Nat),k < n→acc.length=k→body (acc,b,(k:Int))=some (.nx (acc++[f k],b,wr ((k:Int) + 1)))) (he:∀ acc,body (acc,b,(n:Int))=some (.bk (acc,b,(n:Int)))) :
    iter body ([],b,0)=some (.go ((List.range n).map f,b,(n:Int))):=by
  have key:∀ (m k:Nat),k + m=n→iter body ((List.range k).map f,b,(k:Int))=some (.go ((List.range n).map f,b,(n:Int))):=by
    intro m
    induction m with
    | zero => intro k hk;obtain rfl:k=n:=by omega
              exact zbc (he _)
    | succ m ih =>
      intro k hk
      have:=hb ((List.range k).map f) k (by omega) (by simp)
      rw [wr_of _ (by omega) (by omega),show ((k:Int) + 1)=((k + 1:Nat):Int) by omega] at this
      rw [zbn this]
      have e:=ih (k + 1) (by omega)
      rw [List.range_succ,List.map_append] at e
      exact e
  exact key n 0 (by omega)
theorem zeS {V:Nat} (hV:V≤12) {φ ψ:Nat→Int} {b d:Int} (hφ:∀ k,k < V→-1000000≤φ k∧φ k≤1000000) (hψ:∀ k,k < V→-1000000≤ψ k∧ψ k≤1000000) (hb:-1000000≤b∧b≤1000000) (hd:-1000000≤d∧d≤1000000) :
 zaZ (plI V φ b) (plI V ψ d)=some (plI V (fun k=>φ k + ψ k) (b + d)):=by
 have hlim:lim=4294967296:=rfl
 unfold zaZ
 rw [show wr ((plI V φ b).bound + (plI V ψ d).bound)=b + d from wr_of _ (by show _≤b + d;omega) (by show b + d≤_;omega)]
 have hl:len (plI V φ b).coeffs=(V:Int):=by rw [zak];show (((List.range V).map φ).length:Int)=_;simp
 rw [zej (n:=V) (by omega) (f:=fun k=>φ k + ψ k) (b:=b + d) (fun acc k hk ha=>by
  have:=hφ k hk;have:=hψ k hk
  simp only [hl,show decide ((k:Int) < (V:Int))=true by rw [decide_eq_true_eq];omega,cond_true]
  rw [zaA,show (plI V φ b).coeffs[k]?=some (φ k) from pl_at φ hk,zaa,zaA,show (plI V ψ d).coeffs[k]?=some (ψ k) from pl_at ψ hk,zaa,zaB (by simp;omega),zaa,wr_of (φ k + ψ k) (by omega) (by omega)])
  (fun acc=>by simp only [hl,show decide ((V:Int) < (V:Int))=false by rw [decide_eq_false_iff_not];omega,cond_false])]
 rfl
theorem zeT {V:Nat} (hV:V≤12) {φ ψ:Nat→Int} {b d:Int} {f:Int→Int→Option Int} {g:Nat→Int} {e:Int} (hb:f b d=some e) (hf:∀ k,k < V→f (φ k) (ψ k)=some (g k)) :
 zcC (plI V φ b) (plI V ψ d) f=some (plI V g e):=by
 have hlim:lim=4294967296:=rfl
 unfold zcC
 rw [show f (plI V φ b).bound (plI V ψ d).bound=some e from hb,zaa]
 obtain ⟨s,h1,h2,h3⟩:=forL_inv (X:=Empty) (l:=(plI V φ b).coeffs) (s:=(([]:List Int),e)) (body:=fun i y s=>bd (ix (plI V ψ d).coeffs ((i:Nat):Int)) fun x=>bd (f y x) fun r=>bd (app s.1 [r]) fun xs=>some (Lp.nx (xs,s.2)))
  (fun i t=>t.1=(List.range i).map g∧t.2=e) ⟨rfl,rfl⟩ (fun i y t hx ht=>by
   obtain ⟨t1,t2⟩:=ht
   have hi:i < V:=by have:=(List.getElem?_eq_some_iff.1 hx).1;simpa [plI] using this
   have hy:y=φ i:=by
    have:(plI V φ b).coeffs[i]?=some (φ i):=pl_at φ hi
    rw [this] at hx;exact (Option.some.inj hx).symm
   subst hy
   refine ⟨(t.1++[g i],t.2),?_,?_,t2⟩
   · rw [zaA,show (plI V ψ d).coeffs[i]?=some (ψ i) from pl_at ψ hi,zaa,hf i hi,zaa,zaB (by rw [t1];simp;omega),zaa]
   · rw [t1,List.range_succ,List.map_append];rfl)
 rw [h1,zaE,h2,h3]
 simp [plI]
theorem impl_addPlanes_eq {V:Nat} (hV:V≤12) {φ ψ:Nat→Int} {b d:Int} (hφ:∀ k,k < V→-1000000≤φ k∧φ k≤1000000) (hψ:∀ k,k < V→-1000000≤ψ k∧ψ k≤1000000) (hb:-1000000≤b∧b≤1000000) (hd:-1000000≤d∧d≤1000000) :
 zc0 (plI V φ b) (plI V ψ d)=some (plI V (fun k=>φ k + ψ k) (b + d)):=by
 unfold zc0
 rw [zeT hV (g:=fun k=>φ k + ψ k) (e:=b + d) (by unfold zcD;rw [wr_of _ (by omega) (by omega)]) (fun k hk=>by have:=hφ k hk;have:=hψ k hk;unfold zcD;rw [wr_of _ (by omega) (by omega)]),zaa]
def upH (b:Int):Int:=-((-b) / 2)
theorem tdiv2 (a:Int):a.tdiv 2=if 0≤a then a / 2 else -((-a) / 2):=by
 split
 · exact Int.tdiv_eq_ediv_of_nonneg (by omega)
 · rw [← Int.neg_neg a,Int.neg_tdiv,Int.tdiv_eq_ediv_of_nonneg (by omega),Int.neg_neg]
theorem tmod2 (a:Int):a.tmod 2=if 0≤a then a % 2 else -((-a) % 2):=by
 split
 · exact Int.tmod_eq_emod_of_nonneg (by omega)
 · rw [← Int.neg_neg a,Int.neg_tmod,Int.tmod_eq_emod_of_nonneg (by omega),Int.neg_neg]
theorem spec_l16Up_eq {b:Int} (hb:-1000000≤b∧b≤1000000):zcg b 2=some (upH b):=by
 unfold zcg upH
 by_cases h:0 < b
 · rw [show decide (0 < b)=true from decide_eq_true h,cond_true,show nz 2=some () from rfl,zaa,wr_of (b + 2) (by omega) (by omega),wr_of (b + 2 - 1) (by omega) (by omega),tdiv2,if_pos (by omega),wr_of _ (by omega) (by omega)]
   congr 1;omega
 · rw [show decide (0 < b)=false from decide_eq_false h,cond_false,show nz 2=some () from rfl,zaa,wr_of (-b) (by omega) (by omega),tdiv2,if_pos (by omega),wr_of (-b / 2) (by omega) (by omega),wr_of _ (by omega) (by omega)]
theorem spec_l16Divide_eq {V:Nat} (hV:V≤12) {φ:Nat→Int} {b:Int} (hφ:∀ k,k < V→-500000≤φ k∧φ k≤500000) (hb:-1000000≤b∧b≤1000000) :
 zbF (plI V (fun k=>2 * φ k) b) 2=some (plI V φ (upH b),true):=by
 have hlim:lim=4294967296:=rfl
 unfold zbF
 rw [show zcg (plI V (fun k=>2 * φ k) b).bound 2=some (upH b) from spec_l16Up_eq hb,zaa]
 have hl:len (plI V (fun k=>2 * φ k) b).coeffs=(V:Int):=by rw [zak];show (((List.range V).map _).length:Int)=_;simp
 rw [zej (n:=V) (by omega) (f:=φ) (b:=upH b) (fun acc k hk ha=>by
  have:=hφ k hk
  simp only [hl,show decide ((k:Int) < (V:Int))=true by rw [decide_eq_true_eq];omega,cond_true]
  have h2:(plI V (fun k=>2 * φ k) b).coeffs[k]?=some (2 * φ k):=pl_at (fun k=>2 * φ k) hk
  have hm:((2 * φ k).tmod 2 == 0)=true:=by rw [beq_iff_eq,tmod2];split <;> omega
  have hdv:wr ((2 * φ k).tdiv 2)=φ k:=by rw [tdiv2];split <;> (rw [wr_of _ (by omega) (by omega)];omega)
  rw [zaA,h2,zaa,show nz 2=some () from rfl,zaa,hm,Bool.not_true,cond_false,zaa,zaa,hdv,zaB (by simp;omega),zaa])
  (fun acc=>by simp only [hl,show decide ((V:Int) < (V:Int))=false by rw [decide_eq_false_iff_not];omega,cond_false])]
 rfl
end Go.PF
namespace Go.PF
open Go.Pu
def mor (a b:List Int):List Int:=a.filter fun y=>!b.contains y
def one (r c d:List Int):List Int:=r.filter fun y=>!(c.contains y == d.contains y)
theorem spec_l17Extra_eq {a b:List Int} (hl:a.length≤lim):zcI a b=some (mor a b):=by
 unfold zcI mor
 rw [zeP (p:=fun y=>!b.contains y) (fun i y s _=>by rw [zbI,zaa]) (by simpa using hl)]
 simp
theorem spec_l17Single_eq {r c d:List Int} (hl:r.length≤lim):zcJ r c d=some (one r c d):=by
 unfold zcJ one
 rw [zeP (p:=fun y=>!(c.contains y == d.contains y)) (fun i y s _=>by rw [zbI,zaa,zbI,zaa]) (by simpa using hl)]
 simp
def sA:List Int→Nat→Int
 | [],_=>0
 | l::ls,k=>cfA [l] k + sA ls k
theorem cfA_one (l:Int) (k:Nat):cfA [l] k=if (k:Int) + 1=l then 1 else if -((k:Int) + 1)=l then -1 else 0:=by
 unfold cfA;simp only [List.mem_singleton]
theorem sA_cfA:∀ {ls:List Int} (k:Nat),ls.Pairwise (fun a b=>a.natAbs < b.natAbs)→sA ls k=cfA ls k
 | [],k,_=>by simp [sA,cfA]
 | l::ls,k,h=>by
  obtain ⟨h1,h2⟩:=List.pairwise_cons.1 h
  rw [sA,sA_cfA k h2,cfA_one]
  unfold cfA
  simp only [List.mem_cons]
  by_cases e1:(k:Int) + 1=l
  · have n1:(k:Int) + 1 ∉ ls:=fun hm=>by have:=h1 _ hm;omega
    have n2:-((k:Int) + 1) ∉ ls:=fun hm=>by have:=h1 _ hm;omega
    rw [if_pos e1,if_neg n1,if_neg n2,if_pos (.inl e1)];rfl
  · by_cases e2:-((k:Int) + 1)=l
    · have n1:(k:Int) + 1 ∉ ls:=fun hm=>by have:=h1 _ hm;omega
      have n2:-((k:Int) + 1) ∉ ls:=fun hm=>by have:=h1 _ hm;omega
      rw [if_neg e1,if_pos e2,if_neg n1,if_neg n2,if_neg (by rintro (h|h);exact e1 h;exact n1 h),if_pos (.inl e2)];rfl
    · rw [if_neg e1,if_neg e2,Int.zero_add]
      simp only [e1,e2,false_or]
theorem cfA_bd (c:List Int) (k:Nat):-1≤cfA c k∧cfA c k≤1:=by
 unfold cfA;split
 · omega
 · split <;> omega
theorem mor_srt {a b:List Int} (h:a.Pairwise fun a b=>a.natAbs < b.natAbs):(mor a b).Pairwise fun a b=>a.natAbs < b.natAbs:=h.sublist List.filter_sublist
theorem one_srt {a b c:List Int} (h:a.Pairwise fun a b=>a.natAbs < b.natAbs):(one a b c).Pairwise fun a b=>a.natAbs < b.natAbs:=h.sublist List.filter_sublist
theorem mem_mor {a b:List Int} {x:Int}:x∈mor a b↔x∈a∧x ∉ b:=by unfold mor;simp
theorem mem_one {r c d:List Int} {x:Int}:x∈one r c d↔x∈r∧¬ (x∈c↔x∈d):=by
 unfold one
 rw [List.mem_filter,Bool.not_eq_true',beq_eq_false_iff_ne]
 simp only [List.contains_eq_mem,ne_eq,decide_eq_decide]
theorem no_comp {c:List Int} (h:c.Pairwise fun a b=>a.natAbs < b.natAbs) {x:Int} (hx:x∈c):x≠0→-x ∉ c:=fun h0 hm=>by
 obtain ⟨i,hi⟩:=List.mem_iff_getElem?.1 hx
 obtain ⟨j,hj⟩:=List.mem_iff_getElem?.1 hm
 have hi2:=List.getElem?_eq_some_iff.1 hi
 have hj2:=List.getElem?_eq_some_iff.1 hj
 obtain ⟨a1,a2⟩:=hi2
 obtain ⟨b1,b2⟩:=hj2
 rw [List.pairwise_iff_getElem] at h
 rcases Nat.lt_trichotomy i j with hij|hij|hij
 · have:=h i j a1 b1 hij;rw [a2,b2] at this;omega
 · subst hij;rw [a2] at b2;omega
 · have:=h j i b1 a1 hij;rw [a2,b2] at this;omega
theorem weak_id {V:Int} {c d:List Int} (hd:IsC V d) (h:∀ x∈c,x∈d) (k:Nat):cfA c k + sA (mor d c) k=cfA d k:=by
 rw [sA_cfA k (mor_srt hd.srt)]
 unfold cfA
 simp only [mem_mor]
 have n1:(k:Int) + 1∈d→-((k:Int) + 1) ∉ d:=fun h=>no_comp hd.srt h (by omega)
 have h1:=h ((k:Int) + 1);have h2:=h (-((k:Int) + 1))
 by_cases a1:(k:Int) + 1∈c
 · have a2:-((k:Int) + 1) ∉ c:=fun h=>n1 (h1 a1) (h2 h)
   simp [a1,a2,h1 a1,n1 (h1 a1)]
 · by_cases a2:-((k:Int) + 1)∈c
   · have a3:(k:Int) + 1 ∉ d:=fun h=>n1 h (h2 a2)
     simp [a1,a2,h2 a2,a3]
   · simp [a1,a2]
theorem res_mem {V:Int} {a b r:List Int} {v:Int} (ha:IsC V a) (hb:IsC V b) (hv:1≤v∧v≤V) (h:res a b v=(r,true)) :
 v∈a∧-v∈b∧(∀ x,x∈r↔(x∈a∧x.natAbs≠v.natAbs)∨(x∈b∧x.natAbs≠v.natAbs))∧(∀ x,x∈a→-x∈b→x.natAbs=v.natAbs):=by
 have h12:=ha.hi
 have wv:wr (-v)=-v:=wr_of _ (by omega) (by omega)
 unfold res at h
 cases hc:!a.contains v || !b.contains (wr (-v)) with
 | true=>rw [hc] at h;cases h
 | false =>
  rw [hc] at h
  rw [Bool.or_eq_false_iff,Bool.not_eq_false',Bool.not_eq_false',List.contains_iff_mem,List.contains_iff_mem,wv] at hc
  simp only [cond_false] at h
  unfold joined at h
  have sa:Srt (zaW a v):=ha.srt.sublist List.filter_sublist
  have sb:Srt (zaW b v):=hb.srt.sublist List.filter_sublist
  have ma:Sm (zaW a v):=fun x hx=>ha.sm x (List.mem_filter.1 hx).1
  have mb:Sm (zaW b v):=fun x hx=>hb.sm x (List.mem_filter.1 hx).1
  have mw:∀ {c:List Int},IsC V c→∀ x,x∈zaW c v↔x∈c∧x.natAbs≠v.natAbs:=fun {c} hcl x=>by
   unfold zaW
   rw [List.mem_filter]
   refine ⟨fun h=>⟨h.1,fun e=>?_⟩,fun h=>⟨h.1,?_⟩⟩
   · have hx:=hcl.lit x h.1
     have h2:=h.2
     rw [zbP (by omega) (by omega)] at h2
     rw [Bool.not_eq_true',beq_eq_false_iff_ne] at h2
     omega
   · have hx:=hcl.lit x h.1
     have h2:=h.2
     rw [zbP (by omega) (by omega),Bool.not_eq_true',beq_eq_false_iff_ne]
     omega
  have hj:=joinL_spec sa ma sb mb
  split at hj
  · rw [hj] at h;cases h
  · rename_i hne
    obtain ⟨t,h1,h2,h3⟩:=hj
    rw [h1] at h
    cases h
    refine ⟨hc.1,hc.2,fun x=>by rw [h3,mw ha,mw hb],fun x hx hy=>?_⟩
    by_cases e:x.natAbs=v.natAbs
    · exact e
    · exact absurd ⟨-x,(mw hb _).2 ⟨hy,by omega⟩,by rw [Int.neg_neg];exact (mw ha _).2 ⟨hx,e⟩⟩ hne
theorem res_id {V:Int} {a b r:List Int} {v:Int} (ha:IsC V a) (hb:IsC V b) (hr:IsC V r) (hv:1≤v∧v≤V) (h:res a b v=(r,true)) (k:Nat):cfA a k + cfA b k + sA (one r a b) k=2 * cfA r k:=by
 obtain ⟨h1,h2,h3,h4⟩:=res_mem ha hb hv h
 rw [sA_cfA k (one_srt hr.srt)]
 unfold cfA
 simp only [mem_one,h3]
 have na:(k:Int) + 1∈a→-((k:Int) + 1) ∉ a:=fun h=>no_comp ha.srt h (by omega)
 have nb:(k:Int) + 1∈b→-((k:Int) + 1) ∉ b:=fun h=>no_comp hb.srt h (by omega)
 by_cases hk:((k:Int) + 1).natAbs=v.natAbs
 · have e:(k:Int) + 1=v:=by omega
   rw [e] at na nb ⊢
   have n3:v ∉ b:=fun h=>nb h h2
   have hnv:(-v).natAbs=v.natAbs:=by omega
   simp [h1,h2,n3,hnv]
 · have hk2:(-((k:Int) + 1)).natAbs≠v.natAbs:=by omega
   have c1:(k:Int) + 1∈a→-((k:Int) + 1) ∉ b:=fun h h'=>hk (h4 _ h h')
   have c2:-((k:Int) + 1)∈a→(k:Int) + 1 ∉ b:=fun h h'=>hk2 (h4 _ h (by rw [Int.neg_neg];exact h'))
   by_cases a1:(k:Int) + 1∈a
   · have a2:=na a1;have a3:=c1 a1
     by_cases b1:(k:Int) + 1∈b
     · simp [a1,a2,a3,b1,hk]
     · simp [a1,a3,b1,hk]
   · by_cases a2:-((k:Int) + 1)∈a
     · have b1:=c2 a2
       by_cases b2:-((k:Int) + 1)∈b
       · simp [a1,a2,b1,b2,hk]
       · simp [a1,a2,b1,b2,hk]
     · by_cases b1:(k:Int) + 1∈b
       · have b2:=nb b1
         simp [a1,a2,b1,hk]
       · by_cases b2:-((k:Int) + 1)∈b
         · simp [a1,a2,b1,b2,hk]
         · simp [a1,a2,b1,b2,hk]
theorem IsD.weak {F:Cnf} {S:List zae} (h:IsD F S) {i:Nat} {x:zae} (hx:S[i]?=some x) (hl:0≤x.left) (hr:x.right < 0):IsC F.vars (clAt S x.left)∧∀ y∈clAt S x.left,y∈x.clause:=by
 have hn:=h.nums hx
 have:=h.step i x hx
 unfold stepB at this
 rw [Bool.and_eq_true,show (x.left == -1)=false by rw [beq_eq_false_iff_ne];omega,show (x.right == -1)=true by rw [beq_iff_eq];omega] at this
 simp only [cond_false,cond_true,Bool.and_eq_true] at this
 have he:=this.2.1
 unfold zbC at he
 rw [Bool.and_eq_true] at he
 refine ⟨zb9.1 he.2,fun y hy=>?_⟩
 have hp:=this.2.2.2
 unfold partB at hp
 rw [List.all_eq_true] at hp
 exact List.contains_iff_mem.1 (hp y hy)
theorem IsD.resv {F:Cnf} {S:List zae} (h:IsD F S) {i:Nat} {x:zae} (hx:S[i]?=some x) (hl:0≤x.left) (hr:0≤x.right) :
 IsC F.vars (clAt S x.left)∧IsC F.vars (clAt S x.right)∧(1≤x.pivot∧x.pivot≤F.vars)∧res (clAt S x.left) (clAt S x.right) x.pivot=(x.clause,true):=by
 have hn:=h.nums hx
 have:=h.step i x hx
 unfold stepB at this
 rw [Bool.and_eq_true,show (x.left == -1)=false by rw [beq_eq_false_iff_ne];omega,show (x.right == -1)=false by rw [beq_eq_false_iff_ne];omega] at this
 simp only [cond_false,Bool.and_eq_true] at this
 have he:=this.2.1;have he2:=this.2.2.1
 unfold zbC at he he2
 rw [Bool.and_eq_true] at he he2
 refine ⟨zb9.1 he.2,zb9.1 he2.2,zaF.1 this.2.2.2.1,Prod.ext (eq_of_beq this.2.2.2.2.2) this.2.2.2.2.1⟩
end Go.PF
namespace Go.PF
open Go.Pu
structure okC (n:Nat) (c:l1Cur):Prop where
 code:okL okU8 c.code
 lo:0≤c.at_
 hi:c.at_ + n≤4611686018427387904
theorem okC.le {n m:Nat} {c:l1Cur} (h:okC n c) (hm:m≤n:=by omega):okC m c:=⟨h.code,h.lo,by have:=h.hi;omega⟩
def Dr {A:Type} (n:Nat) (x:Option (A×l1Cur)) (Q:A→Prop):Prop:=∃ a c,x=some (a,c)∧okC n c∧Q a
theorem wrk_nn {n:Int} (h0:0≤n) (h1:n < 9223372036854775808):wrk true 64 n=n:=by
 unfold wrk
 have h2:(n % (2 ^ 64:Int))=n:=Int.emod_eq_of_lt h0 (by omega)
 rw [h2]
 simp only [Bool.true_and]
 rw [if_neg]
 simp
 omega
theorem andK_small (x:Int):0≤andK false 64 x 255∧andK false 64 x 255≤255:=by
 unfold andK
 have h:((BitVec.ofInt 64 x &&& BitVec.ofInt 64 255).toNat:Int)≤255:=by
  rw [BitVec.toNat_and]
  have:(BitVec.ofInt 64 x).toNat &&& (BitVec.ofInt 64 255).toNat≤(BitVec.ofInt 64 255).toNat:=Nat.and_le_right
  have e:(BitVec.ofInt 64 255).toNat=255:=by decide
  omega
 generalize hk:((BitVec.ofInt 64 x &&& BitVec.ofInt 64 255).toNat:Int)=k at *
 have h0:0≤k:=by rw [← hk];exact Int.natCast_nonneg _
 unfold wrk
 simp only [Bool.false_and,Bool.false_eq_true,if_false]
 rw [Int.emod_eq_of_lt h0 (by omega)]
 exact ⟨h0,h⟩
theorem dr_next {n:Nat} {c:l1Cur} (h:okC (n + 1) c):Dr n (zcR c) fun b=>0≤b∧b≤255:=by
 have hl:=h.lo;have hh:=h.hi
 have hw:wr (c.at_ + 1)=c.at_ + 1:=wr_of _ (by omega) (by omega)
 have tail:∀ s:Int,0≤s→s≤255→Dr n (bif (decide ((wr (c.at_ + 1))≤(len c.code))) then some (s,(l1Cur.mk c.code (wr (c.at_ + 1)) (wrk false 64 ((wrk false 64 ((wrk false 64 (c.seed * 6364136223846793005)) + (wrk false 64 s))) + 337411)))) else some ((wrk true 64 (andK false 64 (shrK 64 (wrk false 64 ((wrk false 64 ((wrk false 64 (c.seed * 6364136223846793005)) + (wrk false 64 s))) + 337411)) 40) 255)),(l1Cur.mk c.code (wr (c.at_ + 1)) (wrk false 64 ((wrk false 64 ((wrk false 64 (c.seed * 6364136223846793005)) + (wrk false 64 s))) + 337411))))) (fun b=>0≤b∧b≤255):=by
  intro s h0 h1
  rw [hw]
  cases decide (c.at_ + 1≤len c.code)
  · have:=andK_small (shrK 64 (wrk false 64 ((wrk false 64 ((wrk false 64 (c.seed * 6364136223846793005)) + (wrk false 64 s))) + 337411)) 40)
    refine ⟨_,_,rfl,⟨h.code,by show 0≤c.at_ + 1;omega,by show c.at_ + 1 + _≤_;omega⟩,?_⟩
    show 0≤wrk true 64 _∧wrk true 64 _≤255
    rw [wrk_nn this.1 (by omega)];exact this
  · exact ⟨_,_,rfl,⟨h.code,by show 0≤c.at_ + 1;omega,by show c.at_ + 1 + _≤_;omega⟩,h0,h1⟩
 unfold zcR
 cases hd:decide (c.at_ < len c.code) with
 | false=>exact tail 0 (by omega) (by omega)
 | true =>
  have h2:c.at_ < c.code.length:=of_decide_eq_true hd
  obtain ⟨x,hx,hg⟩:=ix_of h.lo h2
  have hm:=h.code.2 x (List.mem_of_getElem? hg)
  simp only [cond_true]
  rw [hx,zaa,zaE,wrk_nn hm.1 (by have:=hm.2;omega)]
  exact tail x hm.1 hm.2
theorem Dr.bind {A B:Type} {n m:Nat} {x:Option (A×l1Cur)} {Q:A→Prop} {k:A×l1Cur→Option (B×l1Cur)} {R:B→Prop} (h:Dr n x Q) (hk:∀ a c,okC n c→Q a→Dr m (k (a,c)) R):Dr m (bd x k) R:=by
 obtain ⟨a,c,rfl,hc,hq⟩:=h
 exact hk a c hc hq
theorem zaX {n:Nat} {c:l1Cur} (h:okC (n + 2) c) (k:Int):Dr n (zaM c k) fun x=>0≤x∧x≤65535∧(x=0∨x < k):=by
 unfold zaM
 cases hd:decide (k≤1) with
 | true=>exact ⟨_,_,rfl,h.le,by omega,by omega,.inl rfl⟩
 | false =>
  have hk:1 < k:=by have:=of_decide_eq_false hd;omega
  have hz:nz k=some ():=by unfold nz;rw [if_neg (by omega)]
  simp only [cond_false]
  have small:∀ x:Int,0≤x→x≤65535→0≤x.tmod k∧x.tmod k≤65535∧(x.tmod k=0∨x.tmod k < k):=fun x h0 h1=>by
   rw [Int.tmod_eq_emod_of_nonneg h0]
   have g1:=Int.emod_nonneg x (show k≠0 by omega)
   have g2:=Int.emod_lt_of_pos x (show 0 < k by omega)
   have g3:x % k≤x:=by
    have e:=Int.mul_ediv_add_emod x k
    have:=Int.mul_nonneg (show 0≤k by omega) (Int.ediv_nonneg h0 (show 0≤k by omega))
    omega
   exact ⟨g1,by omega,.inr g2⟩
  refine (dr_next (n:=n + 1) h).bind fun b c1 hc1 hb=>?_
  cases decide (200 < k) with
  | true =>
   simp only [cond_true]
   refine (dr_next (n:=n) hc1).bind fun b2 c2 hc2 hb2=>?_
   rw [hz,zaa]
   have e1:wr (b * 256)=b * 256:=wr_of _ (by omega) (by omega)
   have e2:wr (b * 256 + b2)=b * 256 + b2:=wr_of _ (by omega) (by omega)
   exact ⟨_,_,rfl,hc2,by show 0≤(wr (wr (b * 256) + b2)).tmod k∧_;rw [e1,e2];exact small _ (by omega) (by omega)⟩
  | false =>
   simp only [cond_false]
   rw [hz,zaa]
   exact ⟨_,_,rfl,hc1.le,small b hb.1 (by omega)⟩
theorem dr_one {n:Nat} {c:l1Cur} (h:okC (n + 2) c) (k:Int):Dr n (zbo c k) fun _=>True:=by
 unfold zbo
 exact (zaX h k).bind fun a c1 h1 _=>⟨_,_,rfl,h1,trivial⟩
theorem dr_ix {A:Type} {l:List A} (h:l≠[]) {x:Int} (h0:0≤x) (h1:x=0∨x < len l):∃ y,ix l x=some y∧y∈l:=by
 have hl:0 < l.length:=List.length_pos_iff.2 h
 rw [zak] at h1
 obtain ⟨y,hy,hg⟩:=ix_of (xs:=l) h0 (by omega)
 exact ⟨y,hy,List.mem_of_getElem? hg⟩
theorem zb1 {n:Nat} {c:l1Cur} (h:okC (n + 2) c) {l:List Int} (hl:l≠[]):Dr n (za5 c l) fun x=>x∈l:=by
 unfold za5
 refine (zaX h (len l)).bind fun a c1 h1 hq=>?_
 obtain ⟨y,hy,hm⟩:=dr_ix hl hq.1 hq.2.2
 show Dr n (bd (ix l a) _) _
 rw [hy]
 exact ⟨_,_,rfl,h1,hm⟩
theorem dr_of {n:Nat} {c:l1Cur} (h:okC (n + 2) c) {l:List ByteArray} (hl:l≠[]):Dr n (zdn c l) fun x=>x∈l:=by
 unfold zdn
 refine (zaX h (len l)).bind fun a c1 h1 hq=>?_
 obtain ⟨y,hy,hm⟩:=dr_ix hl hq.1 hq.2.2
 show Dr n (bd (ix l a) _) _
 rw [hy]
 exact ⟨_,_,rfl,h1,hm⟩
theorem zcP {T X:Type} {body:T→Option (Lp T X)} (m:T→Nat) (I:T→Prop) (P:Rs T X→Prop)
 (h:∀ s,I s→(∃ s',body s=some (.nx s')∧I s'∧m s' < m s)∨(∃ s',body s=some (.bk s')∧P (.go s'))∨∃ x,body s=some (.rt x)∧P (.rt x)):∀ s,I s→∃ q,iter body s=some q∧P q:=by
 have key:∀ k s,m s < k→I s→∃ q,iter body s=some q∧P q:=by
  intro k
  induction k with
  | zero=>intro s hk;omega
  | succ k ih =>
   intro s hk hi
   rcases h s hi with ⟨s',hb,hi',hm⟩|⟨s',hb,hp⟩|⟨x,hb,hp⟩
   · obtain ⟨q,hq,hp⟩:=ih s' (by omega) hi'
     exact ⟨q,(zbn hb).trans hq,hp⟩
   · exact ⟨_,zbc hb,hp⟩
   · exact ⟨_,iter_rt hb,hp⟩
 intro s hi
 exact key _ s (Nat.lt_succ_self _) hi
theorem zcu {T B:Type} {body:T→Option (Lp T Empty)} {s0:T} {k:T→Option (B×l1Cur)} {lx:Empty→Option (B×l1Cur)} {n:Nat} {R:B→Prop} (m:T→Nat) (I:T→Prop) (J:T→Prop)
 (h0:I s0) (h:∀ s,I s→(∃ s',body s=some (.nx s')∧I s'∧m s' < m s)∨(∃ s',body s=some (.bk s')∧J s')) (hk:∀ s,J s→Dr n (k s) R):Dr n (bdR (iter body s0) k lx) R:=by
 obtain ⟨q,hq,hp⟩:=zcP (body:=body) m I (fun q=>match q with|.go s=>J s|.rt x=>x.elim) (fun s hs=>by
  rcases h s hs with g|g
  · exact .inl g
  · exact .inr (.inl g)) s0 h0
 rw [hq]
 cases q with
 | go s=>exact hk s hp
 | rt x=>exact x.elim
theorem loop_ex {T B:Type} {body:T→Option (Lp T Empty)} {s0:T} {k:T→Option B} {lx:Empty→Option B} {R:B→Prop} (m:T→Nat) (I:T→Prop) (J:T→Prop)
 (h0:I s0) (h:∀ s,I s→(∃ s',body s=some (.nx s')∧I s'∧m s' < m s)∨(∃ s',body s=some (.bk s')∧J s')) (hk:∀ s,J s→∃ r,k s=some r∧R r):∃ r,bdR (iter body s0) k lx=some r∧R r:=by
 obtain ⟨q,hq,hp⟩:=zcP (body:=body) m I (fun q=>match q with|.go s=>J s|.rt x=>x.elim) (fun s hs=>by
  rcases h s hs with g|g
  · exact .inl g
  · exact .inr (.inl g)) s0 h0
 rw [hq]
 cases q with
 | go s=>exact hk s hp
 | rt x=>exact x.elim
theorem nx_of {T X:Type} {x:Option (Lp T X)} {P:T→Prop} (h:∃ r,x=some r∧∃ s',r=.nx s'∧P s'):∃ s',x=some (.nx s')∧P s':=by
 obtain ⟨r,e,s',rfl,hp⟩:=h;exact ⟨s',e,hp⟩
def okIs (c:List Int):Prop:=∀ x∈c,okI x
theorem zbR (n:Int):okI (wr n):=wr_bd n
theorem without_sub {c:List Int} {v x:Int} (h:x∈zaW c v):x∈c:=(List.mem_filter.1 h).1
theorem dr_clause {n:Nat} {c:l1Cur} (h:okC (n + 30) c) (v:Int):Dr n (zce c v) fun x=>x.length≤4∧okIs x:=by
 unfold zce
 refine (zb1 (n:=n + 28) h (by simp)).bind fun k c1 h1 hk=>?_
 have hk4:0≤k∧k≤4:=by simp only [List.mem_cons,List.not_mem_nil,or_false] at hk;omega
 refine zcu (fun s=>s.2.2.2.2.toNat) (fun s=>okC (n + 4 * s.2.2.2.2.toNat) (l1Cur.mk s.1 s.2.1 s.2.2.1)∧0≤s.2.2.2.2∧s.2.2.2.1.length + s.2.2.2.2≤4∧okIs s.2.2.2.1) (fun s=>okC n (l1Cur.mk s.1 s.2.1 s.2.2.1)∧s.2.2.2.1.length≤4∧okIs s.2.2.2.1)
  ⟨h1.le (by show n + 4 * k.toNat≤_;omega),hk4.1,by show (([]:List Int).length:Int) + k≤4;simp;omega,fun x hx=>by cases hx⟩ ?_ (fun s hs=>⟨_,_,rfl,hs⟩)
 rintro ⟨cd,at_,sd,out,j⟩ ⟨g1,g2,g3,g4⟩
 simp only at g1 g2 g3 g4 ⊢
 cases hd:(bif decide (0 < j) then decide (0 < v) else false) with
 | false =>
  simp only [cond_false]
  exact .inr ⟨_,rfl,g1.le,by show out.length≤4;omega,g4⟩
 | true =>
  have hj:0 < j:=by
   cases hx:decide (0 < j) with
   | true=>exact of_decide_eq_true hx
   | false=>rw [hx] at hd;cases hd
  have hlim:lim=4294967296:=rfl
  have hw:wr (j - 1)=j - 1:=wr_of _ (by omega) (by omega)
  left
  simp only [cond_true]
  have e0:n + 4 * j.toNat=(n + 4 * (j - 1).toNat + 2) + 2:=by omega
  rw [e0] at g1
  obtain ⟨r,c2,e1,k1,k2⟩:=zaX g1 v
  rw [e1,zaa]
  have hwl:=List.length_filter_le (fun y=>!(vr y == wr (1 + r))) out
  rw [zeQ (by omega),zaa]
  obtain ⟨b,c3,e2,k3,_⟩:=dr_one k1 2
  simp only
  rw [e2,zaa]
  have hlen:(zaW out (wr (1 + r))).length≤out.length:=hwl
  have fin:∀ y,okI y→(putL (zaW out (wr (1 + r))) y).length + (j - 1)≤4∧okIs (putL (zaW out (wr (1 + r))) y):=fun y hy=>by
   rw [zei]
   refine ⟨by omega,fun x hx=>?_⟩
   rcases zct.1 hx with rfl|hx
   · exact hy
   · exact g4 x (without_sub hx)
  cases b with
  | true =>
   simp only [cond_true]
   rw [zdi (by omega),zaa]
   have f:=fin (wr (-(wr (1 + r)))) (zbR _)
   exact ⟨_,rfl,⟨by rw [hw];exact k3,by dsimp only;rw [hw];omega,by rw [hw];exact f.1,f.2⟩,by dsimp only;rw [hw];omega⟩
  | false =>
   simp only [cond_false]
   rw [zdi (by omega),zaa]
   have f:=fin (wr (1 + r)) (zbR _)
   exact ⟨_,rfl,⟨by rw [hw];exact k3,by dsimp only;rw [hw];omega,by rw [hw];exact f.1,f.2⟩,by dsimp only;rw [hw];omega⟩
end Go.PF
namespace Go.PF
open Go.Pu
structure Le {A:Type} (x y:Option A):Prop where
 le:∀ r,x=some r→y=some r
theorem Le.rfl' {A:Type} (x:Option A):Le x x:=⟨fun _ h=>h⟩
def iterC {S X:Type}:Nat→(S→Option (Lp S X))→S→Option (Rs S X)
 | 0,_,_=>none
 | n + 1,b,s=>match b s with
  | none=>none
  | some (.nx s')=>iterC n b s'
  | some (.bk s')=>some (.go s')
  | some (.rt x)=>some (.rt x)
theorem iterC_le {S X:Type} {f g:S→Option (Lp S X)} (h:∀ s,Le (f s) (g s)) (n:Nat) (s:S):Le (iterC n f s) (iter g s):=by
 constructor
 induction n generalizing s with
 | zero=>intro r e;cases e
 | succ n ih =>
  intro r e
  unfold iterC at e
  split at e
  · cases e
  · rename_i s' hb;rw [zbn ((h s).le _ hb)];exact ih _ _ e
  · rename_i s' hb;cases e;exact zbc ((h s).le _ hb)
  · rename_i x hb;cases e;exact iter_rt ((h s).le _ hb)
theorem bd_le {A B:Type} {x y:Option A} {k l:A→Option B} (h:Le x y) (hk:∀ a,Le (k a) (l a)):Le (bd x k) (bd y l):=by
 constructor
 intro r e
 obtain ⟨a,h1,h2⟩:=bnd e
 rw [h.le _ h1,zaa];exact (hk a).le _ h2
theorem bdR_le {S X B:Type} {x y:Option (Rs S X)} {k k':S→Option B} {l l':X→Option B} (h:Le x y) (hk:∀ a,Le (k a) (k' a)) (hl:∀ a,Le (l a) (l' a)):Le (bdR x k l) (bdR y k' l'):=by
 unfold bdR
 refine bd_le h fun a=>?_
 cases a with
 | go s=>exact hk s
 | rt x=>exact hl x
theorem bif_le {A:Type} {c:Bool} {x x' y y':Option A} (h:Le x x') (h':Le y y'):Le (bif c then x else y) (bif c then x' else y'):=by
 cases c
 · exact h'
 · exact h
theorem forFrom_le {S X:Type} {f g:Nat→S→Option (Lp S X)} (h:∀ i s,Le (f i s) (g i s)):∀ (n i:Nat) (s:S),Le (zbm f n i s) (zbm g n i s):=by
 intro n
 induction n with
 | zero=>intro i s;exact Le.rfl' _
 | succ n ih =>
  intro i s
  constructor
  intro r e
  unfold zbm at e ⊢
  split at e
  · cases e
  · rename_i s' hb;rw [(h i s).le _ hb];exact (ih _ _).le _ e
  · rename_i s' hb;rw [(h i s).le _ hb];exact e
  · rename_i x hb;rw [(h i s).le _ hb];exact e
theorem forR_le {S X:Type} {f g:Nat→S→Option (Lp S X)} (h:∀ i s,Le (f i s) (g i s)) (a n:Nat) (s:S):Le (forR a n f s) (forR a n g s):=forFrom_le h _ _ _
end Go.PF
namespace Go.PF
open Go.Pu
def zeU (a0:Int) (a1:ByteArray):Option ((List Int)×Bool) :=
 (bif (a1.toList == (ByteArray.mk #[110,111,110,101]).toList) then some ([],(PF.zba a0)) else bd (PF.zcS a1 32) (fun r30=>bdR (iterC 70 (S:=((List Int)×Int)) (X:=((List Int)×Bool)) (fun s40=>(bif (bif (decide (s40.2 < (len r30))) then (decide (s40.2≤12)) else false) then bd (ix r30 s40.2) (fun x134=>bd (PF.zcT x134) (fun r136=>(bif (!r136.2) then some (Lp.rt ([],false)) else bd (app s40.1 [r136.1]) (fun xs152=>some (Lp.nx (xs152,(wr (s40.2 + 1)))))))) else some (Lp.bk (s40.1,s40.2)))) ([],0)) (fun s40=>bd (bif (decide (12 < (len r30))) then some true else bd (PF.zb3 a0 s40.1) (fun r195=>some (!r195))) (fun t183=>bd (bif t183 then some true else bd (PF.zcU s40.1) (fun r225=>some (!(r225.toList == a1.toList)))) (fun t213=>(bif t213 then some ([],false) else some (s40.1,true))))) (fun x40=>some x40)))
theorem c_spec_l2Parse_le:∀ (a0:Int) (a1:ByteArray),Le (zeU a0 a1) (zdo a0 a1):=by
 intro a0 a1
 unfold zeU zdo
 repeat' first|with_reducible exact Le.rfl' _  | with_reducible apply iterC_le|with_reducible apply bdR_le|with_reducible apply bd_le|with_reducible apply forR_le|with_reducible apply bif_le|exact Empty.elim (by assumption)|intro _
def zeV (a0:Cnf):Option ByteArray :=
 bd (PF.zcx a0.vars) (fun r29=>bdR (iterC 70 (S:=(ByteArray×Int)) (X:=Empty) (fun s34=>(bif (decide (s34.2 < (len a0.clauses))) then bd (catS s34.1 (ByteArray.mk #[59,32])) (fun z72=>bd (ix a0.clauses s34.2) (fun x80=>bd (PF.zcU x80) (fun r84=>bd (catS z72 r84) (fun z89=>some (Lp.nx (z89,(wr (s34.2 + 1)))))))) else some (Lp.bk (s34.1,s34.2)))) (r29,0)) (fun s34=>some s34.1) (fun x34=>nomatch x34))
theorem c_spec_l2TextOf_le:∀ (a0:Cnf),Le (zeV a0) (zdp a0):=by
 intro a0
 unfold zeV zdp
 repeat' first|with_reducible exact Le.rfl' _  | with_reducible apply iterC_le|with_reducible apply bdR_le|with_reducible apply bd_le|with_reducible apply forR_le|with_reducible apply bif_le|exact Empty.elim (by assumption)|intro _
def zeW (a0:ByteArray):Option (Cnf×Bool) :=
 bd (PF.zcS a0 59) (fun r25=>bd (ix r25 0) (fun x41=>bd (PF.zcT x41) (fun r43=>(bif (bif (bif (!r43.2) then true else (!(PF.zba r43.1))) then true else (decide (61 < (len r25)))) then some ((Cnf.mk 0 []),false) else bdR (iterC 70 (S:=((List (List Int))×Int×Int)) (X:=(Cnf×Bool)) (fun s94=>(bif (decide (s94.2.2 < (len r25))) then bd (ix r25 s94.2.2) (fun x334=>bd (bif (decide ((x334.size:Int) < 2)) then some true else bd (ix r25 s94.2.2) (fun x359=>bd (ixS x359 0) (fun z361=>some (!(z361 == 32))))) (fun t346=>(bif t346 then some (Lp.rt ((Cnf.mk 0 []),false)) else bd (ix r25 s94.2.2) (fun x380=>bd (cutS x380 1 (x380.size:Int)) (fun z382=>bd (PF.zeU r43.1 z382) (fun r384=>(bif (!r384.2) then some (Lp.rt ((Cnf.mk 0 []),false)) else bd (app s94.1 [r384.1]) (fun xs409=>some (Lp.nx (xs409,s94.2.1,(wr (s94.2.2 + 1)))))))))))) else some (Lp.bk (s94.1,s94.2.1,s94.2.2)))) ([],r43.1,1)) (fun s94=>bd (PF.zeV (Cnf.mk s94.2.1 s94.1)) (fun r439=>(bif (!(r439.toList == a0.toList)) then some ((Cnf.mk 0 []),false) else some ((Cnf.mk s94.2.1 s94.1),true)))) (fun x94=>some x94)))))
theorem c_spec_ParseCnf_le:∀ (a0:ByteArray),Le (zeW a0) (zdq a0):=by
 intro a0
 have h_spec_l2Parse:=c_spec_l2Parse_le
 have h_spec_l2TextOf:=c_spec_l2TextOf_le
 unfold zeW zdq
 repeat' first|with_reducible exact Le.rfl' _|with_reducible exact h_spec_l2Parse _ _|with_reducible exact h_spec_l2TextOf _|with_reducible apply iterC_le|with_reducible apply bdR_le|with_reducible apply bd_le|with_reducible apply forR_le|with_reducible apply bif_le|exact Empty.elim (by assumption)|intro _
def zek (a0:ByteArray):Option Cnf :=
 bd (PF.zeW a0) (fun r25=>some r25.1)
theorem c_spec_l2Known_le:∀ (a0:ByteArray),Le (zek a0) (zcy a0):=by
 intro a0
 have h_spec_ParseCnf:=c_spec_ParseCnf_le
 unfold zek zcy
 repeat' first|with_reducible exact Le.rfl' _|with_reducible exact h_spec_ParseCnf _|with_reducible apply iterC_le|with_reducible apply bdR_le|with_reducible apply bd_le|with_reducible apply forR_le|with_reducible apply bif_le|exact Empty.elim (by assumption)|intro _
def knownB (t:ByteArray):Bool:=match zek t with
 | some f=>cnfB f && decide (f.vars≤4)
 | none=>false
theorem knownB_all:(zb2.all knownB)=true:=by decide +kernel
theorem known_ok {t:ByteArray} (h:t∈zb2):∃ f,zcy t=some f∧cnfB f=true∧f.vars≤4:=by
 have h1:=List.all_eq_true.1 knownB_all t h
 unfold knownB at h1
 cases hc:zek t with
 | none=>rw [hc] at h1;cases h1
 | some f =>
  rw [hc] at h1
  simp only [Bool.and_eq_true,decide_eq_true_eq] at h1
  exact ⟨f,(c_spec_l2Known_le t).le _ hc,h1.1,h1.2⟩
end Go.PF
namespace Go.PF
open Go.Pu
structure SmC (N M:Nat) (f:Cnf):Prop where
 vars:okI f.vars
 len:f.clauses.length≤N
 cl:∀ c∈f.clauses,c.length≤M∧okIs c
theorem SmC.ok {N M:Nat} {f:Cnf} (h:SmC N M f) (hN:N≤1000000:=by decide) (hM:M≤1000000:=by decide):okCnf f:=by
 refine ⟨h.vars,?_,fun c hc=>⟨?_,(h.cl c hc).2⟩⟩
 · have:=h.len;omega
 · have:=(h.cl c hc).1;omega
theorem dr_lit {n:Nat} {c:l1Cur} (h:okC (n + 8) c) (v:Int):Dr n (zdt c v) okI:=by
 unfold zdt
 have tail:∀ (t:Bool) (c1:l1Cur),okC (n + 4) c1→Dr n (bif t then bd (za5 c1 [0,(wr (v + 1)),(wr ((wr (-v)) - 1))]) (fun r=>some (r.1,r.2)) else bd (zaM c1 v) (fun r=>bd (zbo r.2 2) (fun s=>(bif s.1 then some ((wr (-(wr (1 + r.1)))),s.2) else some ((wr (1 + r.1)),s.2))))) okI:=by
  intro t c1 h1
  cases t with
  | true =>
   refine (zb1 (n:=n) h1.le (by simp)).bind fun x c2 h2 hx=>⟨_,_,rfl,h2,?_⟩
   simp only [List.mem_cons,List.not_mem_nil,or_false] at hx
   show okI x
   rcases hx with rfl|rfl|rfl
   · unfold okI;omega
   · exact zbR _
   · exact zbR _
  | false =>
   refine (zaX (n:=n + 2) h1.le v).bind fun x c2 h2 hx=>?_
   refine (dr_one (n:=n) h2 2).bind fun b c3 h3 _=>?_
   cases b
   · exact ⟨_,_,rfl,h3,zbR _⟩
   · exact ⟨_,_,rfl,h3,zbR _⟩
 cases decide (v < 1) with
 | true =>
  simp only [cond_true,zaa]
  exact tail true c h.le
 | false =>
  simp only [cond_false]
  obtain ⟨b,c1,e,h1,_⟩:=dr_one (n:=n + 4) (c:=c) h.le 40
  rw [e,zaa,zaa]
  exact tail b c1 h1
theorem ix0 {A:Type} {l:List A} (h:0 < l.length):∃ x,ix l 0=some x∧x∈l:=by
 obtain ⟨x,hx,hg⟩:=ix_of (xs:=l) (i:=0) (by omega) (by omega)
 exact ⟨x,hx,List.mem_of_getElem? hg⟩
theorem put_mem {l ys:List Int} {i x:Int} (h:put l i x=some ys) (hl:okIs l) (hx:okI x):ys.length=l.length∧okIs ys:=by
 obtain ⟨_,_,rfl⟩:=put_some h
 exact ⟨List.length_set,fun y hy=>by
  rcases List.mem_or_eq_of_mem_set hy with g|rfl
  · exact hl y g
  · exact hx⟩
theorem put_is {A:Type} {l:List A} {i:Int} (x:A) (h0:0≤i) (h1:i < l.length):∃ ys,put l i x=some ys:=⟨_,by unfold put;rw [if_pos ⟨h0,h1⟩]⟩
theorem dr_anyClause {n:Nat} {c:l1Cur} (h:okC (n + 50) c) (v:Int):Dr n (zdu c v) fun x=>x.length≤5∧okIs x:=by
 unfold zdu
 refine (dr_clause (n:=n + 20) h.le v).bind fun l c1 h1 hl=>?_
 refine (zaX (n:=n + 18) h1 32).bind fun k c2 h2 _=>?_
 have hlim:lim=4294967296:=rfl
 show Dr n (bif (k == 0) then _ else _) _
 cases k == 0 with
 | true =>
  refine (dr_lit (n:=n) (c:=c2) h2.le v).bind fun x c3 h3 hx=>?_
  rw [zaB (by simp;omega)]
  exact ⟨_,_,rfl,h3,by simp;omega,fun y hy=>by
   rcases List.mem_append.1 hy with g|g
   · exact hl.2 y g
   · rw [List.mem_singleton] at g;subst g;exact hx⟩
 | false =>
 show Dr n (bif (k == 1) then _ else _) _
 cases k == 1 with
 | true =>
  simp only [cond_true]
  cases hd:decide (0 < len l) with
  | false=>exact ⟨_,_,rfl,h2.le,by show l.length≤5;omega,hl.2⟩
  | true =>
   simp only [cond_true]
   have hl0:0 < l.length:=by have:=of_decide_eq_true hd;rw [zak] at this;omega
   refine (zb1 (n:=n) (c:=c2) h2.le (by simp)).bind fun x c3 h3 hx=>?_
   obtain ⟨y,hy,_⟩:=ix0 hl0
   obtain ⟨ys,hys⟩:=put_is (l:=l) (i:=0) x (by omega) (by omega)
   rw [hy,zaa]
   show Dr n (bd (put l 0 x) _) _
   rw [hys]
   have hx':okI x:=by
    simp only [List.mem_cons,List.not_mem_nil,or_false] at hx
    rcases hx with rfl|rfl|rfl|rfl
    · unfold okI;omega
    · exact zbR _
    · exact zbR _
    · unfold okI;omega
   have:=put_mem hys hl.2 hx'
   exact ⟨_,_,rfl,h3,by show ys.length≤5;omega,this.2⟩
 | false =>
 show Dr n (bif (k == 2) then _ else _) _
 cases k == 2 with
 | false=>exact ⟨_,_,rfl,h2.le,by show l.length≤5;omega,hl.2⟩
 | true =>
  simp only [cond_true]
  cases hd:decide (1 < len l) with
  | false=>exact ⟨_,_,rfl,h2.le,by show l.length≤5;omega,hl.2⟩
  | true =>
   simp only [cond_true]
   have hl0:1 < l.length:=by have:=of_decide_eq_true hd;rw [zak] at this;omega
   obtain ⟨x,hx,hxm⟩:=ix0 (l:=l) (by omega)
   obtain ⟨y,hy,hg⟩:=ix_of (xs:=l) (i:=1) (by omega) (by omega)
   obtain ⟨ys,hys⟩:=put_is (l:=l) (i:=0) y (by omega) (by omega)
   have p1:=put_mem hys hl.2 (hl.2 y (List.mem_of_getElem? hg))
   obtain ⟨z,hz,_⟩:=ix_of (xs:=ys) (i:=1) (by omega) (by omega)
   obtain ⟨zs,hzs⟩:=put_is (l:=ys) (i:=1) x (by omega) (by omega)
   have p2:=put_mem hzs p1.2 (hl.2 x hxm)
   rw [hx,zaa,hy,zaa,zaa,hys,zaa,hz,zaa,hzs]
   exact ⟨_,_,rfl,h2.le,by show zs.length≤5;omega,p2.2⟩
theorem rename_ok {f:Cnf} {N:Nat} (hf:cnfB f=true) (hN:f.clauses.length≤N) (hN2:N≤60) {to:List Int} (ht:okIs to) (hl:to.length≤1000):∃ r,zds f to=some r∧SmC N 12 r.1:=by
 have hlim:lim=4294967296:=rfl
 have hv:0≤f.vars∧f.vars≤12:=by
  unfold cnfB at hf
  simp only [Bool.and_eq_true] at hf
  exact zdg.1 hf.1.1
 have hc:∀ c∈f.clauses,IsC f.vars c:=fun c hc=>by
  unfold cnfB at hf
  simp only [Bool.and_eq_true] at hf
  exact zb9.1 (List.all_eq_true.1 hf.2 c hc)
 have hok:okCnf f:=⟨by unfold okI;omega,⟨by omega,fun c h=>(hc c h).ok⟩⟩
 have bad:SmC N 12 (Cnf.mk 0 []):=⟨by unfold okI;decide,by simp,fun c h=>by cases h⟩
 unfold zds
 rw [zdh hok,zaa,hf]
 simp only [Bool.not_true,cond_false]
 cases hlen:(len to == f.vars) with
 | false=>exact ⟨_,rfl,bad⟩
 | true =>
 have hlen':(to.length:Int)=f.vars:=by rw [← zak];exact eq_of_beq hlen
 simp only [Bool.not_true,cond_false]
 -- the test of the new names: whatever it comes to
 have test:∀ {body:Nat→Int→Unit→Option (Lp Unit (Cnf×Bool))},(∀ i y u,i < to.length→∃ q,body i y u=some q∧(q=.nx ()∨q=.rt (Cnf.mk 0 [],false)))→∃ q,forL to body ()=some q∧(q=.go ()∨q=.rt (Cnf.mk 0 [],false)):=by
  intro body hb
  have key:∀ (l:List Int) (i:Nat),i + l.length≤to.length→∃ q,zaU body l i ()=some q∧(q=.go ()∨q=.rt (Cnf.mk 0 [],false)):=by
   intro l
   induction l with
   | nil=>intro i _;exact ⟨_,rfl,.inl rfl⟩
   | cons y l ih =>
    intro i hi
    simp only [List.length_cons] at hi
    obtain ⟨q,hq,h⟩:=hb i y () (by omega)
    unfold zaU
    rw [hq]
    rcases h with rfl|rfl
    · exact ih (i + 1) (by omega)
    · exact ⟨_,rfl,.inr rfl⟩
  exact key to 0 (by omega)
 obtain ⟨q,hq,hq2⟩:=test (body:=fun i54 y53 s54=>bd (bif (!(PF.zbE f.vars y53)) then some true else bd (cut to 0 ((i54:Nat):Int)) (fun xs190=>bd (PF.zaY xs190 y53) (fun r201=>some r201))) (fun t183=>bd (bif t183 then some true else bd (cut to 0 ((i54:Nat):Int)) (fun xs228=>bd (PF.zaY xs228 (wr (-y53))) (fun r239=>some r239))) (fun t221=>(bif t221 then some (Lp.rt ((Cnf.mk 0 []),false)) else some (Lp.nx ()))))) (by
  intro i y u hi
  rw [show (0:Int)=((0:Nat):Int) from rfl,cut_ok (Nat.zero_le _) (by omega),zaa,zbI,zaa,zaa,zbI,zaa]
  cases PF.zbE f.vars y with
  | false=>exact ⟨_,rfl,.inr rfl⟩
  | true =>
   simp only [Bool.not_true,cond_false,zaa]
   cases ((to.take i).drop 0).contains y with
   | true=>exact ⟨_,rfl,.inr rfl⟩
   | false =>
    simp only [cond_false,zaa]
    cases ((to.take i).drop 0).contains (wr (-y)) with
    | true=>exact ⟨_,rfl,.inr rfl⟩
    | false=>exact ⟨_,rfl,.inl rfl⟩)
 rw [hq]
 rcases hq2 with rfl|rfl
 rotate_left
 · exact ⟨_,rfl,bad⟩
 simp only [zaE]
 -- the clauses
 refine loop_ex
  (fun s=>f.clauses.length - s.2.2.toNat) (fun s=>0≤s.2.2∧s.2.2≤f.clauses.length∧s.1.length=s.2.2.toNat∧s.2.1=f.vars∧∀ c∈s.1,c.length≤12∧okIs c)
  (fun s=>s.2.1=f.vars∧s.1.length≤N∧∀ c∈s.1,c.length≤12∧okIs c) ⟨by show (0:Int)≤0;omega,by show (0:Int)≤_;omega,rfl,rfl,fun c h=>by cases h⟩ (by
   rintro ⟨out,v,k⟩ ⟨g1,g2,g3,g4,g5⟩
   simp only at g1 g2 g3 g4 g5 ⊢
   subst g4
   cases hd:decide (k < len f.clauses) with
   | false=>exact .inr ⟨_,rfl,rfl,by show out.length≤N;omega,g5⟩
   | true =>
    have hk:k < f.clauses.length:=by have:=of_decide_eq_true hd;rwa [zak] at this
    obtain ⟨c,hcx,hcg⟩:=ix_of (xs:=f.clauses) g1 hk
    have hC:=hc c (List.mem_of_getElem? hcg)
    have hcl:=hC.len
    have hw:wr (k + 1)=k + 1:=wr_of _ (by omega) (by omega)
    simp only [cond_true,hcx,zaa]
    left
    refine nx_of (loop_ex
     (fun s=>c.length - s.2.toNat) (fun s=>0≤s.2∧s.2≤c.length∧s.1.length=s.2.toNat∧okIs s.1) (fun s=>s.1.length≤12∧okIs s.1) ⟨by show (0:Int)≤0;omega,by show (0:Int)≤_;omega,rfl,fun x h=>by cases h⟩ (by
      rintro ⟨cs,j⟩ ⟨k1,k2,k3,k4⟩
      simp only at k1 k2 k3 k4 ⊢
      cases hd2:decide (j < len c) with
      | false=>exact .inr ⟨_,rfl,by show cs.length≤12;omega,k4⟩
      | true =>
       have hj:j < c.length:=by have:=of_decide_eq_true hd2;rwa [zak] at this
       obtain ⟨x,hx,hxg⟩:=ix_of (xs:=c) k1 hj
       have hX:=hC.lit x (List.mem_of_getElem? hxg)
       have hw2:wr (j + 1)=j + 1:=wr_of _ (by omega) (by omega)
       have hvr:zaH x=x.natAbs:=by rw [zee];exact zbP (by omega) (by omega)
       have hw3:wr (zaH x - 1)=x.natAbs - 1:=by rw [hvr];exact wr_of _ (by omega) (by omega)
       obtain ⟨y,hy,hyg⟩:=ix_of (xs:=to) (i:=(x.natAbs:Int) - 1) (by omega) (by omega)
       have hY:=ht y (List.mem_of_getElem? hyg)
       left
       simp only [cond_true,hx,zaa,hw3,hy]
       have fin:∀ z,okI z→okIs (putL cs z):=fun z hz w hw=>by
        rcases zct.1 hw with rfl|hw
        · exact hz
        · exact k4 w hw
       cases decide (x < 0) with
       | true =>
        simp only [cond_true]
        rw [zdi (by omega),zaa]
        exact ⟨_,rfl,⟨by dsimp only;rw [hw2];omega,by dsimp only;rw [hw2];omega,by dsimp only;rw [zei,hw2];omega,fin _ (zbR _)⟩,by dsimp only;rw [hw2];omega⟩
       | false =>
        simp only [cond_false]
        rw [zdi (by omega),zaa]
        exact ⟨_,rfl,⟨by dsimp only;rw [hw2];omega,by dsimp only;rw [hw2];omega,by dsimp only;rw [zei,hw2];omega,fin _ hY⟩,by dsimp only;rw [hw2];omega⟩) (fun s e2=>?_))
    · have e3:s.1.length≤12∧okIs s.1:=e2
      rw [zaB (by simp;omega),zaa]
      refine ⟨_,rfl,_,rfl,⟨by dsimp only;rw [hw];omega,by dsimp only;rw [hw];omega,by dsimp only;rw [hw,List.length_append,List.length_singleton];omega,rfl,fun x hx=>?_⟩,by dsimp only;rw [hw];omega⟩
      rcases List.mem_append.1 hx with g|g
      · exact g5 x g
      · rw [List.mem_singleton] at g;subst g;exact e3) (fun s h4=>?_)
 have h4:s.2.1=f.vars∧s.1.length≤N∧∀ c∈s.1,c.length≤12∧okIs c:=h4
 exact ⟨_,rfl,by show okI s.2.1;rw [h4.1];unfold okI;omega,h4.2.1,h4.2.2⟩
end Go.PF
