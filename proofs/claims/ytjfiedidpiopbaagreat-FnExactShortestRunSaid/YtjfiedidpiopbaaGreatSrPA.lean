/- Helpers of the walks and plain laws. -/
import Derived.Test.YtjfiedidpiopbaaGreatSrPf
import Derived.Test.YtjfiedidpiopbaaGreatSrLB
set_option linter.unusedVariables false
namespace Go.PF
open Go.Pu
def big:Int:=9223372036854775807
def wIntS (a:List Int):Nat:=a.length
def wIntSS (a:List (List Int)):Nat:=a.length + tot wIntS a
def wCnf (a:Cnf):Nat:=wIntSS a.clauses
theorem sz_IntS {a:List Int} {s:Int} (ha:okL okI a) (h0:0≤s) (h1:s≤1048576):zbr a s < 0∨zbr a s + wIntS a=s:=by
 have:=ha.1
 unfold zbr wIntS
 rw [wr_of _ (by rw [zah];omega) (by rw [zah];omega)]
 by_cases h:s - len a < 0
 · left;simp [h]
 · right;simp only [h,decide_false,cond_false];rw [zah];omega
theorem sz_IntSS {a:List (List Int)} {s:Int} (ha:okL (okL okI) a) (h0:0≤s) (h1:s≤1048576):∃ r,zdG a s=some r∧(r < 0∨r + wIntSS a=s) :=
 sz_list (sz:=fun y s=>some (zbr y s)) (wt:=wIntS) (fun _ _ _=>rfl) (fun y hy _ h0 h1=>⟨_,rfl,sz_IntS (ha.2 y hy) h0 h1⟩) ha.1 h0 h1
theorem sz_Cnf {a:Cnf} {s:Int} (ha:okCnf a) (h0:0≤s) (h1:s≤1048576):∃ r,zcZ a s=some r∧(r < 0∨r + wCnf a=s):=by
 obtain ⟨r,h2,h3⟩:=sz_IntSS ha.2 h0 h1
 unfold zcZ
 rw [h2,zaa]
 by_cases h:r < 0
 · exact ⟨-1,by simp [h],.inl (by omega)⟩
 · exact ⟨r,by simp [h],h3⟩
theorem to_IntS {a:List Int} (h:wIntS a≤lim):zc0 a=some a:=by
 have:=to_list (β:=Int) (g:=fun y=>some y) (h:=id) (z:=0) (l:=a) (f:=fun i y s=>bd (ix s (i:Int)) fun _=>bd (put s (i:Int) y) fun xs=>some (.nx xs)) (fun _ _ _=>rfl) (fun _ _=>rfl) h
 rw [List.map_id] at this;exact this
theorem to_IntSS {a:List (List Int)} (h:wIntSS a≤lim):zdH a=some a:=by
 have:=to_list (g:=zc0) (h:=id) (z:=[]) (l:=a) (fun _ _ _=>rfl) (fun y hy=>to_IntS (by have:=tot_mem (wt:=wIntS) hy;unfold wIntSS at h;omega)) (by unfold wIntSS at h;omega)
 rw [List.map_id] at this;exact this
theorem to_Cnf {a:Cnf} (h:wCnf a≤lim):zbT a=some a:=by
 unfold zbT;rw [to_IntSS h];rfl
theorem eq_IntS (a:List Int):zdq a a=some true :=
 eq_list (eq:=fun y x=>some (y == x)) (fun _ _ _=>rfl) (fun y _=>by simp)
theorem eq_IntSS (a:List (List Int)):zdR a a=some true:=eq_list (eq:=zdq) (fun _ _ _=>rfl) (fun y _=>eq_IntS y)
theorem eq_Cnf (a:Cnf):zdr a a=some true:=by unfold zdr;rw [eq_IntSS];simp
theorem tot_one {A:Type} (l:List A):tot (fun _=>1) l=l.length:=by induction l with
 | nil=>rfl
 | cons _ l ih=>simp [tot,ih];omega
theorem mark_IntS {a:List Int} {k:Int} (h0:0≤k) (h1:k + a.length≤big):(za9 a k).2=k + a.length:=by
 have:=mark_end (F:=fun (_:Int) m=>(m,wr (m + 1))) (wt:=fun _=>1) (l:=a) (k:=k) (fun y _ k h0 h1=>wr_of _ (by omega) (by omega)) h0 (by rw [tot_one];exact h1)
 rw [tot_one] at this;exact this
theorem mark_IntSS {a:List (List Int)} {k:Int} (h0:0≤k) (h1:k + tot wIntS a≤big):(zcN a k).2=k + tot wIntS a :=
 mark_end (wt:=wIntS) (fun _ _ _ h0 h1=>mark_IntS h0 h1) h0 h1
theorem mark_Cnf {a:Cnf} {k:Int} (h0:0≤k) (h1:k + tot wIntS a.clauses≤big):(zci a k).2=k + tot wIntS a.clauses:=mark_IntSS h0 h1
end Go.PF
namespace Go.PF
open Go.Pu
def vr (l:Int):Int:=bif decide (l < 0) then wr (-l) else l
theorem spec_l2Var_eq (l:Int):zbG l=vr l:=rfl
theorem vr_abs {l:Int} (h1:-12≤l) (h2:l≤12):vr l=l.natAbs:=by
 unfold vr
 by_cases h:l < 0
 · simp only [h,decide_true,cond_true];rw [wr_of _ (by omega) (by omega)];omega
 · simp only [h,decide_false,cond_false];omega
theorem zcS {l:Int} (h:okI l):zau l=vr l:=by
 obtain ⟨h1,h2⟩:=h
 unfold zau vr mx
 by_cases h0:l < 0
 · simp only [h0,decide_true,cond_true]
   by_cases hm:l=-9223372036854775808
   · subst hm;decide
   · rw [wr_of _ (by omega) (by omega),if_pos (by omega)]
 · simp only [h0,decide_false,cond_false]
   rw [wr_of _ (by omega) (by omega)]
   by_cases hz:l=0
   · subst hz;rfl
   · rw [if_neg (by omega)]
def inB (a b c:Int):Bool:=decide (b≤a) && decide (a≤c)
theorem zaR {a b c:Int}:inB a b c=true↔b≤a∧a≤c:=by simp [inB]
theorem zcT (a b c:Int):zay a b c=inB a b c:=by simp [zay,inB]
theorem zbP (a b c:Int):zat a b c=inB a b c:=by simp [zat,inB]
def varsB (v:Int):Bool:=inB v 0 12
theorem varsB_iff {v:Int}:varsB v=true↔0≤v∧v≤12:=zaR
theorem zel (v:Int):zbF v=varsB v:=zcT _ _ _
theorem zem (v:Int):zbv v=varsB v:=zbP _ _ _
def litB (v l:Int):Bool:=inB l (wr (-v)) v && !(l == 0)
theorem spec_l2Lit_eq (v l:Int):zbU v l=litB v l:=by simp [zbU,litB,zcT]
theorem impl_isLiteral_eq (v l:Int):zbW v l=litB v l:=by simp [zbW,litB,zbP,Bool.and_comm]
theorem impl_isVar_eq (v a:Int):zcK v a=inB a 1 v:=zbP _ _ _
def zaS (v:Int) (c:List Int):Bool:=varsB v && (c.all (litB v) && adj (fun a b=>decide (vr a < vr b)) c)
theorem spec_l2Clause_eq {v:Int} {c:List Int} (hc:okL okI c):zc1 v c=some (zaS v c):=by
 unfold zc1 zaS
 rw [zel]
 cases hv:varsB v with
 | false=>rfl
 | true =>
  simp only [Bool.not_true,cond_false,Bool.true_and]
  rw [zcn (p:=fun i y => !litB v y || match i with|0=>false|i + 1=>match c[i]? with|some x=>decide (vr y≤vr x)|none=>false) (v:=false) (fun i y hy=>by
   rw [spec_l2Lit_eq]
   cases hl:litB v y with
   | false=>simp
   | true =>
    cases i with
    | zero=>simp
    | succ i =>
     have hi:i + 1 < c.length:=(List.getElem?_eq_some_iff.1 hy).1
     have hp:decide ((0:Int) < ((i + 1:Nat):Int))=true:=by simp
     rw [hp,wr_pred (by omega) hi hc.1,zaE]
     simp only [Nat.add_sub_cancel]
     rw [List.getElem?_eq_getElem (show i < c.length by omega)]
     simp only [Bool.not_true,cond_false,cond_true,zaa,Bool.false_or,spec_l2Var_eq]
     rfl)]
  rw [anyI_adj (q:=fun y => !litB v y) (r:=fun a b=>decide (vr a < vr b)) (by intro y _;simp) (by
   intro i x y hx hy
   simp only [hx]
   congr 1
   by_cases h:vr x < vr y
   · simp [h]
   · simp [h];omega)]
  simp only [Bool.not_not]
  cases (c.all fun y=>litB v y) && adj (fun a b=>decide (vr a < vr b)) c <;> rfl
theorem impl_IsClause_eq {v:Int} {c:List Int} (hc:okL okI c):zde v c=some (zaS v c):=by
 unfold zde zaS
 rw [zem]
 rw [zcn (p:=fun i y => !litB v y || match i with|0=>false|i + 1=>match c[i]? with|some x=>decide (vr y≤vr x)|none=>false) (v:=false) (fun i y hy=>by
  rw [impl_isLiteral_eq]
  cases hl:litB v y with
  | false=>simp
  | true =>
   cases i with
   | zero=>simp
   | succ i =>
    have hi:i + 1 < c.length:=(List.getElem?_eq_some_iff.1 hy).1
    have hp:decide ((0:Int) < ((i + 1:Nat):Int))=true:=by simp
    rw [hp,wr_pred (by omega) hi hc.1,zaE]
    simp only [Nat.add_sub_cancel]
    rw [List.getElem?_eq_getElem (show i < c.length by omega)]
    simp only [Bool.not_true,cond_false,cond_true,zaa,Bool.false_or]
    rw [zcS (hc.2 _ (List.mem_of_getElem? hy)),zcS (hc.2 _ (List.getElem_mem _))])]
 rw [anyI_adj (q:=fun y => !litB v y) (r:=fun a b=>decide (vr a < vr b)) (by intro y _;simp) (by
  intro i x y hx hy
  simp only [hx]
  congr 1
  by_cases h:vr x < vr y
  · simp [h]
  · simp [h];omega)]
 simp only [Bool.not_not]
 cases (c.all fun y=>litB v y) && adj (fun a b=>decide (vr a < vr b)) c <;> simp
structure IsC (v:Int) (c:List Int):Prop where
 lo:0≤v
 hi:v≤12
 lit:∀ l∈c,-v≤l∧l≤v∧l≠0
 srt:c.Pairwise fun a b=>a.natAbs < b.natAbs
theorem adj_pairwise {α:Type} {r:α→α→Bool} {R:α→α→Prop} (ht:∀ a b c,R a b→R b c→R a c):∀ {l:List α},(∀ a b,a∈l→b∈l→r a b=true→R a b)→adj r l=true→l.Pairwise R:=by
 intro l
 induction l with
 | nil=>intro _ _;exact .nil
 | cons a l ih =>
  intro hr h
  cases l with
  | nil=>simp
  | cons b l =>
   simp only [adj,Bool.and_eq_true] at h
   have hp:=ih (fun x y hx hy=>hr x y (by simp [hx]) (by simp [hy])) h.2
   have hab:=hr a b (by simp) (by simp) h.1
   refine List.pairwise_cons.2 ⟨fun x hx=>?_,hp⟩
   rcases List.mem_cons.1 hx with rfl|hx
   · exact hab
   · exact ht _ _ _ hab ((List.pairwise_cons.1 hp).1 x hx)
theorem zd1 {α:Type} {r:α→α→Bool} {l:List α} (h:l.Pairwise fun a b=>r a b=true):adj r l=true:=by
 induction l with
 | nil=>rfl
 | cons a l ih =>
  cases l with
  | nil=>rfl
  | cons b l =>
   obtain ⟨h1,h2⟩:=List.pairwise_cons.1 h
   simp only [adj,Bool.and_eq_true]
   exact ⟨h1 b (by simp),ih h2⟩
theorem litB_iff {v l:Int} (h1:0≤v) (h2:v≤12):litB v l=true↔-v≤l∧l≤v∧l≠0:=by
 unfold litB
 rw [wr_of _ (by omega) (by omega)]
 simp [inB];omega
theorem clauseB_iff {v:Int} {c:List Int}:zaS v c=true↔IsC v c:=by
 unfold zaS
 rw [Bool.and_eq_true,Bool.and_eq_true,varsB_iff,List.all_eq_true]
 constructor
 · rintro ⟨⟨h1,h2⟩,h3,h4⟩
   have hl:∀ l∈c,-v≤l∧l≤v∧l≠0:=fun l hl=>(litB_iff h1 h2).1 (h3 l hl)
   refine ⟨h1,h2,hl,adj_pairwise (R:=fun a b:Int=>a.natAbs < b.natAbs) (fun _ _ _=>Nat.lt_trans) (fun a b ha hb hr=>?_) h4⟩
   have:=hl a ha;have:=hl b hb
   simp only [decide_eq_true_eq] at hr
   rw [vr_abs (by omega) (by omega),vr_abs (by omega) (by omega)] at hr
   omega
 · rintro ⟨h1,h2,h3,h4⟩
   refine ⟨⟨h1,h2⟩,fun l hl=>(litB_iff h1 h2).2 (h3 l hl),zd1 (List.Pairwise.imp_of_mem ?_ h4)⟩
   intro a b ha hb hr
   have:=h3 a ha;have:=h3 b hb
   simp only [decide_eq_true_eq]
   rw [vr_abs (by omega) (by omega),vr_abs (by omega) (by omega)]
   omega
theorem srt_len:∀ {c:List Int} {k n:Nat},c.Pairwise (fun a b=>a.natAbs < b.natAbs)→(∀ l∈c,k < l.natAbs∧l.natAbs≤n)→c.length + k≤max k n:=by
 intro c
 induction c with
 | nil=>intro k n _ _;simp;omega
 | cons a c ih =>
  intro k n h hl
  obtain ⟨h1,h2⟩:=List.pairwise_cons.1 h
  have ha:=hl a (by simp)
  have:=ih (k:=a.natAbs) (n:=n) h2 fun l hm=>⟨h1 l hm,(hl l (by simp [hm])).2⟩
  simp only [List.length_cons];omega
theorem IsC.len {v:Int} {c:List Int} (h:IsC v c):c.length≤12:=by
 have:=srt_len (k:=0) (n:=12) h.srt fun l hl=>by have:=h.lit l hl;have:=h.hi;omega
 omega
theorem IsC.ok {v:Int} {c:List Int} (h:IsC v c):okL okI c:=by
 refine ⟨by have:=h.len;omega,fun l hl=>?_⟩
 have:=h.lit l hl;have:=h.hi
 unfold okI;omega
def cnfB (f:Cnf):Bool:=varsB f.vars && decide (len f.clauses≤60) && f.clauses.all (zaS f.vars)
theorem spec_l2Good_eq {f:Cnf} (hf:okCnf f):zc2 f=some (cnfB f):=by
 unfold zc2 cnfB
 rw [zel]
 cases hv:varsB f.vars with
 | false=>rfl
 | true =>
  have e:(decide (60 < len f.clauses)) = !decide (len f.clauses≤60):=by
   by_cases h:len f.clauses≤60
   · simp [h]
   · simp [h];omega
  simp only [Bool.not_true,cond_false,Bool.true_and]
  rw [e]
  cases hl:decide (len f.clauses≤60) with
  | false=>rfl
  | true =>
   have hlen:f.clauses.length≤60:=by have:=of_decide_eq_true hl;rw [zah] at this;omega
   simp only [Bool.not_true,cond_false,Bool.true_and]
   rw [iter_any (xs:=f.clauses) (p:=fun _ c => !zaS f.vars c) (v:=false) (fun i y hy=>by
    have hi:=(List.getElem?_eq_some_iff.1 hy).1
    have hd:decide ((i:Int) < len f.clauses)=true:=by rw [zah];simp;omega
    rw [hd,zaE,hy]
    simp only [cond_true,zaa]
    rw [spec_l2Clause_eq (hf.2.2 _ (List.mem_of_getElem? hy)),zaa]
    cases zaS f.vars y with
    | false=>simp only [Bool.not_false,cond_true]
    | true=>rw [wr_succ hi (by omega)]) (by
    have hd:decide (((f.clauses.length:Nat):Int) < len f.clauses)=false:=by rw [zah];simp
    rw [hd,cond_false])]
   rw [zbi,show (f.clauses.any fun y => !zaS f.vars y) = !f.clauses.all (zaS f.vars) by rw [List.all_eq_not_any_not,Bool.not_not]]
   cases f.clauses.all (zaS f.vars) <;> rfl
theorem impl_IsCnf_eq {f:Cnf} (hf:okCnf f):zdf f=some (cnfB f):=by
 unfold zdf cnfB
 rw [zem]
 rw [zcn (p:=fun _ c => !zaS f.vars c) (v:=false) (fun i y hy=>by
  rw [impl_IsClause_eq (hf.2.2 _ (List.mem_of_getElem? hy)),zaa])]
 rw [zbi,show (f.clauses.any fun y => !zaS f.vars y) = !f.clauses.all (zaS f.vars) by rw [List.all_eq_not_any_not,Bool.not_not]]
 cases f.clauses.all (zaS f.vars) <;> simp
theorem same_eq (a b:List Int):(bif (!((len a) == (len b))) then some false else bdR (forL (S:=Unit) (X:=Bool) a (fun i23 y22 s23=>bd (ix b ((i23:Nat):Int)) (fun x74=>(bif (!(y22 == x74)) then some (Lp.rt false) else some (Lp.nx ())))) ()) (fun s23=>some true) (fun x23=>some x23))=some (a == b):=by
 rw [zah,zah]
 by_cases hl:a.length=b.length
 · have:(((a.length:Nat):Int) == ((b.length:Nat):Int))=true:=by simp [hl]
   rw [this]
   simp only [Bool.not_true,cond_false]
   rw [zcn (p:=fun i y=>match b[i]? with|some x => !(y == x)|none=>false) (v:=false) (fun i y hy=>by
    have hi:=(List.getElem?_eq_some_iff.1 hy).1
    rw [zaE,List.getElem?_eq_getElem (by omega),zaa])]
   have e:anyI (fun i y=>match b[i]? with|some x => !(y == x)|none=>false) a 0 = !(a == b):=by
    by_cases hab:a=b
    · subst hab
      rw [show (a == a)=true by simp]
      rw [anyI_false.2];rfl
      intro i y hy;rw [Nat.zero_add,hy];simp
    · rw [show (a == b)=false by simpa using hab]
      cases h:anyI (fun i y=>match b[i]? with|some x => !(y == x)|none=>false) a 0 with
      | true=>rfl
      | false =>
       exfalso;apply hab
       rw [anyI_false] at h
       apply List.ext_getElem hl
       intro i h1 h2
       have:=h i a[i] (by simp [h1])
       rw [Nat.zero_add,List.getElem?_eq_getElem h2] at this
       simpa using this
   rw [e];cases a == b <;> rfl
 · have:(((a.length:Nat):Int) == ((b.length:Nat):Int))=false:=by simp;omega
   rw [this]
   have:(a == b)=false:=by
    rw [beq_eq_false_iff_ne];intro e;subst e;exact hl rfl
   rw [this];rfl
theorem spec_l1Same_eq (a b:List Int):zcv a b=some (a == b):=same_eq a b
theorem zen (a b:List Int):zdJ a b=some (a == b):=same_eq a b
theorem spec_l1Has_eq (c:List Int) (l:Int):zc5 c l=some (c.contains l):=by
 unfold zc5
 rw [zcn (p:=fun _ y=>y == l) (v:=true) (fun i y _=>rfl),zbi]
 rw [show (c.any fun y=>y == l)=c.contains l by induction c with|nil=>rfl|cons x c ih=>rw [List.any_cons,List.contains_cons,ih,Bool.beq_comm]]
 cases c.contains l <;> rfl
theorem zdz (c:List Int) (l:Int):zbu c l=some (c.contains l):=by unfold zbu;rw [spec_l1Has_eq];rfl
theorem contains_any (c:List Int) (l:Int):(c.any fun y=>l == y)=c.contains l:=by induction c with
 | nil=>rfl
 | cons x c ih=>rw [List.any_cons,List.contains_cons,ih]
theorem zeM (c:List Int) (l:Int):∃ r,zdk c l=some r∧decide (0≤r)=c.contains l:=by
 unfold zdk
 rw [forL_find (p:=fun _ y=>l == y) (v:=fun i _=>(i:Int)) (fun i y _=>rfl)]
 cases h:findI (fun _ y=>l == y) c 0 with
 | none =>
  refine ⟨-1,rfl,?_⟩
  have:=zcP.1 h
  rw [zbi,contains_any] at this;rw [this];rfl
 | some z =>
  obtain ⟨_,_,_,h4⟩:=zcQ h
  rw [zbi,contains_any] at h4
  exact ⟨_,rfl,by rw [h4];simp⟩
theorem zeo (c:List Int) (l:Int):zcC c l=some (c.contains l):=by
 obtain ⟨r,h1,h2⟩:=zeM c l
 unfold zcC;rw [h1,zaa,h2]
theorem zeN {c:List Int} {f:Int→Option Bool} {g:Int→Bool} (h:∀ y∈c,f y=some (g y)):∃ r,zdl c f=some r∧decide (0≤r)=c.any g∧(∀ z,findI (fun _ y=>g y) c 0=some z→r=z.1)∧(findI (fun _ y=>g y) c 0=none→r=-1):=by
 unfold zdl
 rw [forL_find (p:=fun _ y=>g y) (v:=fun i _=>(i:Int)) (fun i y hy=>by rw [h y (List.mem_of_getElem? hy),zaa])]
 cases hf:findI (fun _ y=>g y) c 0 with
 | none =>
  refine ⟨-1,rfl,?_,nofun,fun _=>rfl⟩
  have:=zcP.1 hf
  rw [zbi] at this;rw [this];rfl
 | some z =>
  obtain ⟨_,_,_,h4⟩:=zcQ hf
  rw [zbi] at h4
  exact ⟨_,rfl,by rw [h4];simp,fun z' hz=>(by cases hz;rfl),nofun⟩
end Go.PF
namespace Go.PF
open Go.Pu
theorem foldl_filter {α:Type} {p:α→Bool}:∀ {l s:List α},l.foldl (fun s y=>bif p y then s++[y] else s) s=s++l.filter p:=by
 intro l
 induction l with
 | nil=>intro s;simp
 | cons y l ih =>
  intro s
  rw [List.foldl_cons,ih]
  cases h:p y <;> simp [h]
theorem forL_filter {α X:Type} {f:Nat→α→List α→Option (Lp (List α) X)} {p:α→Bool} {l:List α} (hf:∀ i y s,l[i]?=some y→f i y s=bif p y then bd (app s [y]) fun xs=>some (.nx xs) else some (.nx s)) (hl:l.length≤lim) :
 forL l f []=some (.go (l.filter p)):=by
 have:=(forL_foldI (X:=X) (body:=f) (fun s y=>bif p y then s++[y] else s) (l:=l) (s:=[]) (fun i s=>s.length≤i) (by simp) (fun i x t hx ht=>by
  have hi:=(List.getElem?_eq_some_iff.1 hx).1
  rw [hf i x t hx]
  cases p x with
  | false=>exact ⟨rfl,by simp only [cond_false];omega⟩
  | true =>
   simp only [cond_true]
   rw [zaX (by simp;omega),zaa]
   exact ⟨rfl,by simp;omega⟩)).1
 rw [this,foldl_filter];rfl
def zaB (c:List Int) (v:Int):List Int:=c.filter fun y => !(vr y == v)
theorem zep {c:List Int} {v:Int} (hl:c.length≤lim):zcw c v=some (zaB c v):=by
 unfold zcw zaB
 rw [forL_filter (p:=fun y => !(vr y == v)) (fun i y s _=>by rfl) hl];rfl
theorem filter_take {α:Type} {p:α→Bool} {c:List α} {j:Nat} {x:α} (hx:c[j]?=some x):(c.take (j + 1)).filter p=(c.take j).filter p++bif p x then [x] else []:=by
 rw [List.take_add_one,hx,Option.toList_some,List.filter_append]
 cases h:p x <;> simp [List.filter,h]
theorem del_loop {α:Type} {n:Nat} (hn:n≤9223372036854775806) {c:List α} (hc:c.length=n) {f:α→Option Bool} {g:α→Bool} (h:∀ y∈c,f y=some (g y)) :
 ∀ (m j i:Nat) (s:List α),j + m=n→i≤j→s.length=n→s.take i=(c.take j).filter (fun y => !g y)→s.drop j=c.drop j →
  ∃ s' i',iter (S:=(List α)×Int×Int) (X:=Empty) (fun s32=>(bif (decide (s32.2.2 < (len s32.1))) then bd (ix s32.1 s32.2.2) (fun x143=>bd (f x143) (fun r145=>(bif (!r145) then bd (ix s32.1 s32.2.1) (fun _=>bd (put s32.1 s32.2.1 x143) (fun xs167=>some (Lp.nx (xs167,(wr (s32.2.1 + 1)),(wr (s32.2.2 + 1)))))) else some (Lp.nx (s32.1,s32.2.1,(wr (s32.2.2 + 1))))))) else some (Lp.bk (s32.1,s32.2.1,s32.2.2)))) (s,(i:Int),(j:Int)) =
   some (.go (s',((i':Nat):Int),(n:Int)))∧i'≤n∧s'.length=n∧s'.take i'=c.filter (fun y => !g y):=by
 intro m
 induction m with
 | zero =>
  intro j i s hj hi hs ht _
  have:j=n:=by omega
  subst this
  refine ⟨s,i,zaP ?_,hi,hs,by rw [ht,List.take_of_length_le (by omega)]⟩
  have hd:decide (((j:Nat):Int) < len s)=false:=by rw [zah,hs];simp
  simp only [hd,cond_false]
 | succ m ih =>
  intro j i s hj hi hs ht hd
  have hjn:j < n:=by omega
  have hx:s[j]?=some c[j]:=by
   have:=congrArg (·[0]?) hd
   simp only [List.getElem?_drop,Nat.add_zero] at this
   rw [this];exact List.getElem?_eq_getElem (by omega)
  have hlt:decide (((j:Nat):Int) < len s)=true:=by rw [zah,hs];simp;omega
  have hg:=h c[j] (List.getElem_mem _)
  have e1:wr ((j:Int) + 1)=((j + 1:Nat):Int):=by rw [wr_of _ (by omega) (by omega)];simp
  have e2:wr ((i:Int) + 1)=((i + 1:Nat):Int):=by rw [wr_of _ (by omega) (by omega)];simp
  cases hgc:g c[j] with
  | true =>
   obtain ⟨s',i',q1,q2⟩:=ih (j + 1) i s (by omega) (by omega) hs (by
    rw [ht,filter_take (List.getElem?_eq_getElem (by omega)),hgc];simp) (by
    have:=congrArg (List.drop 1) hd
    rwa [List.drop_drop,List.drop_drop] at this)
   refine ⟨s',i',?_,q2⟩
   rw [← q1]
   refine zbq ?_
   simp only [hlt,cond_true,zaE,hx,zaa,hg,hgc,Bool.not_true,cond_false,e1]
  | false =>
   obtain ⟨s',i',q1,q2⟩:=ih (j + 1) (i + 1) (s.set i c[j]) (by omega) (by omega) (by simpa using hs) (by
    rw [List.take_add_one,List.getElem?_set_self (by omega),List.take_set_of_le (Nat.le_refl _),ht,filter_take (List.getElem?_eq_getElem (show j < c.length by omega)),hgc];rfl) (by
    rw [List.drop_set_of_lt (by omega)]
    have:=congrArg (List.drop 1) hd
    rwa [List.drop_drop,List.drop_drop] at this)
   refine ⟨s',i',?_,q2⟩
   rw [← q1]
   refine zbq ?_
   simp only [hlt,cond_true,zaE,hx,zaa,hg,hgc,Bool.not_false,e1,e2]
   rw [List.getElem?_eq_getElem (show i < s.length by omega),zaa,put_ok (by omega),zaa]
theorem zeO {c:List Int} {f:Int→Option Bool} {g:Int→Bool} (h:∀ y∈c,f y=some (g y)) (hl:c.length≤lim):zdm c f=some (c.filter fun y => !g y):=by
 obtain ⟨r,h1,_,h3,h4⟩:=zeN h
 unfold zdm
 rw [h1,zaa]
 unfold lim at hl
 cases hf:findI (fun _ y=>g y) c 0 with
 | none =>
  rw [h4 hf]
  have:=zcP.1 hf
  rw [zbi,List.any_eq_false] at this
  simp only [BEq.rfl,cond_true]
  rw [List.filter_eq_self.2]
  intro y hy;have:=this y hy;simp only [Bool.not_eq_true] at this;rw [this];rfl
 | some z =>
  have hz:=h3 z hf
  subst hz
  obtain ⟨_,k2,k3,_⟩:=zcQ hf
  rw [Nat.sub_zero] at k2
  have hzl:=(List.getElem?_eq_some_iff.1 k2).1
  have hne:(((z.1:Nat):Int) == -1)=false:=by simp
  rw [hne,cond_false,show wr (((z.1:Nat):Int) + 1)=((z.1 + 1:Nat):Int) by rw [wr_of _ (by omega) (by omega)];simp]
  obtain ⟨s',i',q1,q2,q3,q4⟩:=del_loop (n:=c.length) (by omega) rfl h (c.length - (z.1 + 1)) (z.1 + 1) z.1 c (by omega) (by omega) rfl (by
   rw [List.take_add_one,k2]
   have hall:∀ y∈c.take z.1,g y=false:=by
    intro y hy
    obtain ⟨i,hi⟩:=List.mem_iff_getElem?.1 hy
    rw [List.getElem?_take] at hi
    split at hi
    · rename_i hlt
      -- no earlier one
      have key:∀ (l:List Int) (k:Nat) (z:Nat×Int),findI (fun _ y=>g y) l k=some z→∀ i y,l[i]?=some y→k + i < z.1→g y=false:=by
       intro l
       induction l with
       | nil=>intro k z _ i y hy;simp at hy
       | cons x l ih =>
        intro k z hz i y hy hlt
        simp only [findI] at hz
        cases hgx:g x with
        | true=>rw [hgx] at hz;simp at hz;subst hz;simp at hlt;omega
        | false =>
         rw [hgx] at hz;simp only [cond_false] at hz
         cases i with
         | zero=>simp at hy;subst hy;exact hgx
         | succ i=>exact ih (k + 1) z hz i y (by simpa using hy) (by omega)
      exact key c 0 z hf i y hi (by omega)
    · cases hi
   rw [List.filter_append,List.filter_eq_self.2 (fun y hy=>by rw [hall y hy];rfl)]
   simp [k3]) rfl
  rw [q1,za3]
  simp only
  rw [show len s'=((s'.length:Nat):Int) from rfl,cut_ok (by omega) (Nat.le_refl _),zaa]
  have hcl:clearL 0 s' (i':Int)=s'.take i'++List.replicate (s'.length - i') 0:=by unfold clearL;simp
  rw [hcl,show (0:Int)=((0:Nat):Int) from rfl,cut_ok (Nat.zero_le _) (by simp;omega),zaa,List.drop_zero,List.take_left' (by simp;omega),q4]
theorem zeq {c:List Int} (hl:c.length≤lim):zcD c=some c:=by
 unfold zcD;rw [zaX (by simpa using hl)];rfl
theorem zer {c:List Int} {v:Int} (hc:∀ y∈c,okI y) (hl:c.length≤lim):zcF c v=some (zaB c v):=by
 unfold zcF zaB
 rw [zeq hl,zaa,zeO (g:=fun y=>vr y == v) (fun y hy=>by unfold zcE;rw [zcS (hc y hy)]) hl];rfl
def putL (c:List Int) (l:Int):List Int:=c.takeWhile (fun y=>decide (vr y < vr l))++l::c.dropWhile (fun y=>decide (vr y < vr l))
theorem zcU {c:List Int} (hl:c.length≤lim):zbl c=some c:=by
 unfold zbl;rw [zaX (by simpa using hl)];rfl
theorem takeWhile_le {α:Type} {p:α→Bool} (l:List α):(l.takeWhile p).length≤l.length:=(List.takeWhile_prefix p).length_le
theorem take_takeWhile {α:Type} {p:α→Bool} (l:List α):l.take (l.takeWhile p).length=l.takeWhile p:=by
 conv=>lhs;rw [← List.takeWhile_append_dropWhile (p:=p) (l:=l)]
 rw [List.takeWhile_append_dropWhile]
 exact List.prefix_iff_eq_take.1 (List.takeWhile_prefix p) |>.symm
theorem drop_takeWhile {α:Type} {p:α→Bool} (l:List α):l.drop (l.takeWhile p).length=l.dropWhile p:=by
 have h:=List.takeWhile_append_dropWhile (p:=p) (l:=l)
 have h2:l.drop (l.takeWhile p).length=(l.takeWhile p++l.dropWhile p).drop (l.takeWhile p).length:=by rw [h]
 rw [h2,List.drop_left]
theorem spec_l2Put_eq {c:List Int} {l:Int} (hl:c.length + 1≤lim):zcx c l=some (putL c l):=by
 unfold zcx putL
 have hl':c.length + 1≤4294967296:=hl
 rw [iter_while (xs:=c) (p:=fun y=>decide (vr y < vr l)) (fun i y hy=>by
  have hi:=(List.getElem?_eq_some_iff.1 hy).1
  have hd:decide ((i:Int) < len c)=true:=by rw [zah];simp;omega
  rw [hd,zaE,hy]
  simp only [cond_true,zaa,spec_l2Var_eq]
  rw [wr_succ hi (by omega)];rfl) (by
  have hd:decide (((c.length:Nat):Int) < len c)=false:=by rw [zah];simp
  rw [hd];rfl),za3]
 have hk:=takeWhile_le (p:=fun y=>decide (vr y < vr l)) c
 rw [show (0:Int)=((0:Nat):Int) from rfl,cut_ok (Nat.zero_le _) hk,zaa,List.drop_zero,take_takeWhile,zcU (by omega),zaa,zaX (by simp;omega),zaa,
  zah,cut_ok hk (Nat.le_refl _),zaa,List.take_length,drop_takeWhile,zaX,zaa]
 · simp
 · have:=congrArg List.length (List.takeWhile_append_dropWhile (p:=fun y=>decide (vr y < vr l)) (l:=c))
   simp only [List.length_append] at this ⊢
   simp only [List.length_singleton]
   unfold lim;omega
theorem putL_length (c:List Int) (l:Int):(putL c l).length=c.length + 1:=by
 have:=congrArg List.length (List.takeWhile_append_dropWhile (p:=fun y=>decide (vr y < vr l)) (l:=c))
 unfold putL;simp only [List.length_append,List.length_cons] at this ⊢;omega
def joinL:List Int→List Int→Option (List Int)
 | s,[]=>some s
 | s,y::b=>bif s.contains (wr (-y)) then none else joinL (bif !s.contains y then putL s y else s) b
theorem spec_l2Join_eq {a b:List Int} (hl:a.length + b.length≤lim):zc6 a b=some (match joinL a b with|some s=>(s,true)|none=>([],false)):=by
 unfold zc6
 rw [zcU (by omega),zaa]
 have key:∀ (F:Nat→Int→List Int→Option (Lp (List Int) (List Int×Bool))),(∀ i y s,F i y s=bd (PF.zbu s (wr (-y))) (fun r200=>(bif r200 then some (Lp.rt ([],false)) else bd (PF.zbu s y) (fun r222=>(bif (!r222) then bd (PF.zcx s y) (fun r239=>some (Lp.nx r239)) else some (Lp.nx s)))))) →
  ∀ (b:List Int) (i:Nat) (s:List Int),s.length + b.length≤lim→zas F b i s=some (match joinL s b with|some s=>.go s|none=>.rt ([],false)):=by
  intro F hF b
  induction b with
  | nil=>intro i s _;rfl
  | cons y b ih =>
   intro i s hs
   simp only [List.length_cons] at hs
   rw [zas,hF,zdz,zaa,zdz,zaa,joinL]
   cases s.contains (wr (-y)) with
   | true=>rfl
   | false =>
    simp only [cond_false]
    cases s.contains y with
    | true=>simp only [Bool.not_true,cond_false];exact ih (i + 1) s (by omega)
    | false =>
     simp only [Bool.not_false,cond_true]
     rw [spec_l2Put_eq (c:=s) (by omega),zaa]
     exact ih (i + 1) _ (by rw [putL_length];omega)
 unfold forL
 rw [key _ (fun _ _ _=>rfl) b 0 a hl]
 cases joinL a b <;> rfl
abbrev Srt (c:List Int):Prop:=c.Pairwise fun a b=>a.natAbs < b.natAbs
def Sm (c:List Int):Prop:=∀ l∈c,-12≤l∧l≤12∧l≠0
theorem putL_mem {c:List Int} {l x:Int}:x∈putL c l↔x=l∨x∈c:=by
 have h:=List.takeWhile_append_dropWhile (p:=fun y=>decide (vr y < vr l)) (l:=c)
 have:x∈c↔x∈c.takeWhile (fun y=>decide (vr y < vr l))∨x∈c.dropWhile (fun y=>decide (vr y < vr l)):=by rw [← List.mem_append,h]
 unfold putL
 rw [this,List.mem_append,List.mem_cons]
 constructor
 · rintro (h|h|h)
   · exact .inr (.inl h)
   · exact .inl h
   · exact .inr (.inr h)
 · rintro (h|h|h)
   · exact .inr (.inl h)
   · exact .inl h
   · exact .inr (.inr h)
theorem putL_srt {c:List Int} {l:Int} (hc:Srt c) (hs:Sm c) (hl:-12≤l∧l≤12) (hn:∀ x∈c,x.natAbs≠l.natAbs):Srt (putL c l):=by
 have hv:∀ x∈c,(decide (vr x < vr l)=true↔x.natAbs < l.natAbs):=fun x hx=>by
  have:=hs x hx
  rw [decide_eq_true_eq,vr_abs (by omega) (by omega),vr_abs hl.1 hl.2];omega
 unfold putL
 induction c with
 | nil=>simp
 | cons y c ih =>
  obtain ⟨h1,h2⟩:=List.pairwise_cons.1 hc
  rw [List.takeWhile_cons,List.dropWhile_cons]
  by_cases hy:decide (vr y < vr l)=true
  · rw [if_pos hy,if_pos hy,List.cons_append]
    have ih:=ih h2 (fun x hx=>hs x (by simp [hx])) (fun x hx=>hn x (by simp [hx])) (fun x hx=>hv x (by simp [hx]))
    refine List.pairwise_cons.2 ⟨fun x hx=>?_,ih⟩
    rcases (putL_mem (c:=c) (l:=l)).1 hx with rfl|hx
    · exact (hv y (by simp)).1 hy
    · exact h1 x hx
  · rw [if_neg hy,if_neg hy,List.nil_append]
    have hly:l.natAbs < y.natAbs:=by
     have:=hn y (by simp)
     have h3:¬ y.natAbs < l.natAbs:=fun h=>hy ((hv y (by simp)).2 h)
     omega
    refine List.pairwise_cons.2 ⟨fun x hx=>?_,hc⟩
    rcases List.mem_cons.1 hx with rfl|hx
    · exact hly
    · have:=h1 x hx;omega
theorem joinL_spec:∀ {b s:List Int},Srt s→Sm s→Srt b→Sm b →
 (if ∃ y∈b,-y∈s then joinL s b=none else ∃ t,joinL s b=some t∧Srt t∧∀ x,x∈t↔x∈s∨x∈b):=by
 intro b
 induction b with
 | nil=>intro s hs _ _ _;simp only [List.not_mem_nil,false_and,exists_false,if_false,or_false];exact ⟨s,rfl,hs,fun _=>Iff.rfl⟩
 | cons y b ih =>
  intro s hs hs2 hb hb2
  obtain ⟨h1,h2⟩:=List.pairwise_cons.1 hb
  have hy:=hb2 y (by simp)
  have hw:wr (-y)=-y:=wr_of _ (by omega) (by omega)
  simp only [joinL,hw]
  by_cases hn:-y∈s
  · rw [if_pos ⟨y,by simp,hn⟩,List.contains_iff_mem.2 hn];rfl
  · have hnc:s.contains (-y)=false:=by rw [Bool.eq_false_iff];exact fun h=>hn (List.contains_iff_mem.1 h)
    rw [hnc,cond_false]
    by_cases hin:y∈s
    · rw [List.contains_iff_mem.2 hin]
      simp only [Bool.not_true,cond_false]
      have:=ih hs hs2 h2 (fun x hx=>hb2 x (by simp [hx]))
      have e1:(∃ z∈y::b,-z∈s)↔∃ z∈b,-z∈s:=by
       constructor
       · rintro ⟨z,hz,hz2⟩
         rcases List.mem_cons.1 hz with rfl|hz
         · exact absurd hz2 hn
         · exact ⟨z,hz,hz2⟩
       · rintro ⟨z,hz,hz2⟩;exact ⟨z,by simp [hz],hz2⟩
      simp only [e1]
      split at this
      · rename_i hex;rw [if_pos hex];exact this
      · rename_i hex
        rw [if_neg hex]
        obtain ⟨t,t1,t2,t3⟩:=this
        refine ⟨t,t1,t2,fun x=>?_⟩
        rw [t3,List.mem_cons]
        constructor
        · rintro (h|h)
          · exact .inl h
          · exact .inr (.inr h)
        · rintro (h|rfl|h)
          · exact .inl h
          · exact .inl hin
          · exact .inr h
    · have hic:s.contains y=false:=by rw [Bool.eq_false_iff];exact fun h=>hin (List.contains_iff_mem.1 h)
      rw [hic]
      simp only [Bool.not_false,cond_true]
      have hne:∀ x∈s,x.natAbs≠y.natAbs:=fun x hx e=>by
       have:x=y∨x=-y:=by omega
       rcases this with rfl|rfl
       · exact hin hx
       · exact hn hx
      have:=ih (putL_srt hs hs2 ⟨hy.1,hy.2.1⟩ hne) (fun x hx=>by
       rcases putL_mem.1 hx with rfl|hx
       · exact hy
       · exact hs2 x hx) h2 (fun x hx=>hb2 x (by simp [hx]))
      have e1:(∃ z∈y::b,-z∈s)↔∃ z∈b,-z∈putL s y:=by
       constructor
       · rintro ⟨z,hz,hz2⟩
         rcases List.mem_cons.1 hz with rfl|hz
         · exact absurd hz2 hn
         · exact ⟨z,hz,putL_mem.2 (.inr hz2)⟩
       · rintro ⟨z,hz,hz2⟩
         rcases putL_mem.1 hz2 with e|hz2
         · have:=h1 z hz;omega
         · exact ⟨z,by simp [hz],hz2⟩
      simp only [e1]
      split at this
      · rename_i hex;rw [if_pos hex];exact this
      · rename_i hex
        rw [if_neg hex]
        obtain ⟨t,t1,t2,t3⟩:=this
        refine ⟨t,t1,t2,fun x=>?_⟩
        rw [t3,putL_mem,List.mem_cons]
        constructor
        · rintro ((h|h)|h)
          · exact .inr (.inl h)
          · exact .inl h
          · exact .inr (.inr h)
        · rintro (h|h|h)
          · exact .inl (.inr h)
          · exact .inl (.inl h)
          · exact .inr h
end Go.PF
namespace Go.PF
open Go.Pu
theorem srt_unique:∀ {a b:List Int},Srt a→Srt b→(∀ x,x∈a↔x∈b)→a=b:=by
 intro a
 induction a with
 | nil =>
  intro b _ _ h
  cases b with
  | nil=>rfl
  | cons y b=>exact absurd ((h y).2 (by simp)) (by simp)
 | cons x a ih =>
  intro b ha hb h
  cases b with
  | nil=>exact absurd ((h x).1 (by simp)) (by simp)
  | cons y b =>
   obtain ⟨a1,a2⟩:=List.pairwise_cons.1 ha
   obtain ⟨b1,b2⟩:=List.pairwise_cons.1 hb
   have hxy:x=y:=by
    rcases List.mem_cons.1 ((h x).1 (by simp)) with e|e
    · exact e
    · rcases List.mem_cons.1 ((h y).2 (by simp)) with e'|e'
      · exact e'.symm
      · have:=b1 x e;have:=a1 y e';omega
   subst hxy
   rw [ih a2 b2 fun z=>?_]
   constructor
   · intro hz
     rcases List.mem_cons.1 ((h z).1 (by simp [hz])) with e|e
     · subst e;have:=a1 z hz;omega
     · exact e
   · intro hz
     rcases List.mem_cons.1 ((h z).2 (by simp [hz])) with e|e
     · subst e;have:=b1 z hz;omega
     · exact e
theorem zdA {A:Type} [DecidableEq A]:∀ {l:List A} {x:A},x∈zar l↔x∈l
 | [],x=>by simp [zar]
 | [y],x=>by simp [zar]
 | y::z::r,x=>by
  rw [zar]
  split
  · rename_i h;subst h
    rw [zdA];simp
  · rw [List.mem_cons,zdA];simp
theorem zd2 {A:Type} [DecidableEq A] {R:A→A→Prop} (ha:∀ a b,R a b→R b a→a=b):∀ {l:List A},l.Pairwise R→(zar l).Pairwise fun a b=>R a b∧a≠b
 | [],_=>by simp [zar]
 | [y],_=>by simp [zar]
 | y::z::r,h=>by
  obtain ⟨h1,h2⟩:=List.pairwise_cons.1 h
  rw [zar]
  split
  · exact zd2 ha h2
  · rename_i hne
    refine List.pairwise_cons.2 ⟨fun x hx=>?_,zd2 ha h2⟩
    have hx':=zdA.1 hx
    refine ⟨h1 x hx',fun e=>?_⟩
    subst e
    rcases List.mem_cons.1 hx' with e|e
    · exact hne e
    · exact hne (ha _ _ (h1 z (by simp)) ((List.pairwise_cons.1 h2).1 y e))
def litLe (x y:Int):Prop:=zau x < zau y∨(zau x=zau y∧y≤x)
def cmpL (x y:Int):Int:=if zau x < zau y then -1 else if zau y < zau x then 1 else if y < x then -1 else if x < y then 1 else 0
theorem zd3 (x y:Int):zaH x y=some (cmpL x y):=by
 have hc:∀ a b:Int,zaU a b=if a < b then -1 else if b < a then 1 else 0:=fun a b=>by
  unfold zaU zbc
  simp only [BEq.rfl,Bool.not_true,cond_false]
  by_cases h1:a < b
  · simp [h1]
  · by_cases h2:b < a <;> simp [h1,h2]
 unfold zaH zcA cmpL
 rw [hc,hc]
 by_cases h1:zau x < zau y
 · simp [h1,forL,zas]
 · by_cases h2:zau y < zau x
   · simp [h1,h2,forL,zas]
   · by_cases h3:y < x
     · simp [h1,h2,h3,forL,zas]
     · by_cases h4:x < y <;> simp [h1,h2,h3,h4,forL,zas]
theorem zbQ {x y:Int}:cmpL x y < 0↔zau x < zau y∨(zau x=zau y∧y < x):=by
 unfold cmpL
 split
 · omega
 · split
   · omega
   · split
     · omega
     · split <;> omega
theorem leF_lit {x y:Int}:leF (fun x0 x1=>PF.zaH x0 x1) x y=true↔litLe x y:=by
 unfold leF litLe
 simp only [zd3]
 rw [Bool.not_eq_true',decide_eq_false_iff_not,zbQ]
 omega
theorem sort_lit {xs:List Int} (hl:xs.length < lim):zdL xs (fun x0 x1=>PF.zaH x0 x1)=some (xs.mergeSort (leF fun x0 x1=>PF.zaH x0 x1)):=by
 unfold zdL sortF
 rw [if_pos]
 refine ⟨cmpL,hl,fun x _ y _=>zd3 x y,fun x _=>?_,fun x _ y _ z _ h1 h2=>?_,fun x _ y _ z _ h1 h2=>?_,fun x _ y _ h1 h2=>?_⟩
 · rw [zbQ];omega
 · rw [zbQ] at *;omega
 · rw [zbQ] at *;omega
 · rw [zbQ] at *;omega
theorem sorted_lit (xs:List Int):(xs.mergeSort (leF fun x0 x1=>PF.zaH x0 x1)).Pairwise litLe:=by
 have:=List.pairwise_mergeSort (le:=leF fun x0 x1=>PF.zaH x0 x1) (fun a b c h1 h2=>by
  rw [leF_lit] at *;unfold litLe at *;omega) (fun a b=>by
  rw [Bool.or_eq_true,leF_lit,leF_lit];unfold litLe;omega) xs
 exact this.imp fun h=>leF_lit.1 h
def noComp (t:List Int):Bool:=adj (fun a b => !(b == wr (-a))) t
theorem impl_clause_eq {c:List Int} (hl:c.length < lim):zcG c=some (let t:=zar (c.mergeSort (leF fun x0 x1=>PF.zaH x0 x1));bif noComp t then (t,true) else ([],false)):=by
 unfold zcG
 rw [zeq (by omega),zaa,sort_lit hl,zaa]
 unfold zea
 rw [zaa]
 simp only
 generalize ht:zar (c.mergeSort (leF fun x0 x1=>PF.zaH x0 x1))=t
 have htl:t.length≤4294967296:=by
  have:∀ l:List Int,(zar l).length≤l.length:=by
   intro l
   induction l using zar.induct with
   | case1=>simp [zar]
   | case2=>simp [zar]
   | case3 y r ih=>rw [zar,if_pos rfl];simp only [List.length_cons] at ih ⊢;omega
   | case4 x y r h ih=>rw [zar,if_neg h];simp only [List.length_cons] at ih ⊢;omega
  have h1:=this (c.mergeSort (leF fun x0 x1=>PF.zaH x0 x1))
  rw [ht,List.length_mergeSort] at h1
  unfold lim at hl;omega
 cases t with
 | nil =>
  rw [zaP (s':=1) rfl];rfl
 | cons x t =>
  have key:∀ (m:List Int) (k:Nat),k + 1 + m.length=(x::t).length→(∀ i y,m[i]?=some y→(x::t)[k + 1 + i]?=some y)→iter (S:=Int) (X:=((List Int)×Bool)) (fun s49=>(bif (decide (s49 < (len (x::t)))) then bd (ix (x::t) s49) (fun x94=>bd (ix (x::t) (wr (s49 - 1))) (fun x102=>(bif (x94 == (wr (-x102))) then some (Lp.rt ([],false)) else some (Lp.nx (wr (s49 + 1)))))) else some (Lp.bk s49))) ((k + 1:Nat):Int) =
   some (bif anyI (fun i y=>match i with|0=>false|i + 1=>match (x::t)[i]? with|some z=>y == wr (-z)|none=>false) m (k + 1) then .rt ([],false) else .go (((x::t).length:Nat):Int)):=by
   intro m
   induction m with
   | nil =>
    intro k hk _
    simp only [List.length_nil,Nat.add_zero] at hk
    rw [zaP (s':=((k + 1:Nat):Int))]
    · rw [hk];rfl
    · have hd:decide (((k + 1:Nat):Int) < len (x::t))=false:=by rw [zah,← hk];simp
      rw [hd];rfl
   | cons y m ih =>
    intro k hk hm
    simp only [List.length_cons (a:=y)] at hk
    have hy:(x::t)[k + 1]?=some y:=by simpa using hm 0 y rfl
    have hd:decide (((k + 1:Nat):Int) < len (x::t))=true:=by rw [zah];simp only [decide_eq_true_eq];omega
    have hkl:k < (x::t).length:=by omega
    have hz:=List.getElem?_eq_getElem hkl
    simp only [anyI]
    cases hb:(y == wr (-(x::t)[k])) with
    | true =>
     rw [iter_rt (x:=([],false))]
     · simp [hz,hb]
     · simp only [hd,cond_true,zaE,hy,zaa,wr_pred (show 0 < k + 1 by omega) (show k + 1 < (x::t).length by omega) (by omega),Nat.add_sub_cancel,hz,hb]
    | false =>
     rw [zbq (s':=((k + 1 + 1:Nat):Int))]
     · rw [ih (k + 1) (by omega) fun i z hz=>by have:=hm (i + 1) z (by simpa using hz);rwa [show k + 1 + (i + 1)=k + 1 + 1 + i by omega] at this]
       simp [hz,hb]
     · simp only [hd,cond_true,zaE,hy,zaa,wr_pred (show 0 < k + 1 by omega) (show k + 1 < (x::t).length by omega) (by omega),Nat.add_sub_cancel,hz,hb,cond_false]
       rw [wr_succ (n:=(x::t).length) (by omega) (by omega)];simp
  have hk:=key t 0 (by simp;omega) (by intro i y hy;rw [show 0 + 1 + i=i + 1 by omega];simpa using hy)
  rw [show ((0 + 1:Nat):Int)=1 from rfl] at hk
  rw [hk]
  have ha:=anyI_adj (l:=x::t) (p:=fun i y=>match i with|0=>false|i + 1=>match (x::t)[i]? with|some z=>y == wr (-z)|none=>false) (q:=fun _=>false) (r:=fun a b => !(b == wr (-a))) (fun _ _=>rfl) (fun i a b h1 _=>by simp only [h1];simp)
  simp only [anyI,Bool.false_or,Nat.zero_add] at ha
  rw [show (0 + 1:Nat)=1 from rfl,ha]
  unfold noComp
  rw [show ((x::t).all fun _ => !false)=true by simp]
  cases adj (fun a b => !(b == wr (-a))) (x::t) <;> rfl
theorem slices_Concat2 {a b:List Int} (hl:a.length + b.length≤lim):zdn [a,b]=some (a++b):=by
 have hl':a.length + b.length≤4294967296:=hl
 have e1:wr (0 + len a)=(a.length:Int):=by rw [wr_of _ (by rw [zah];omega) (by rw [zah];omega),zah];omega
 have e2:wr ((a.length:Int) + len b)=((a.length + b.length:Nat):Int):=by rw [wr_of _ (by rw [zah];omega) (by rw [zah];omega),zah];omega
 have d1:decide ((a.length:Int) < 0)=false:=by rw [decide_eq_false_iff_not];omega
 have d2:decide (((a.length + b.length:Nat):Int) < 0)=false:=by rw [decide_eq_false_iff_not];omega
 unfold zdn forL
 rw [zcR (s':=(a.length:Int)) (by rw [e1,d1];rfl),zcR (s':=((a.length + b.length:Nat):Int)) (by rw [e2,d2];rfl),zd0,za3]
 unfold zdK
 rw [if_pos (by omega),zaa]
 rw [zcR (s':=a) (by rw [zaX (by simp;omega),zaa];rfl),zcR (s':=a++b) (by rw [zaX hl,zaa]),zd0,za3]
def joined (a b:List Int):List Int×Bool:=match joinL a b with|some s=>(s,true)|none=>([],false)
theorem clause_joined {a b:List Int} (ha:Srt a) (hb:Srt b) (sa:Sm a) (sb:Sm b) (hl:a.length + b.length < lim):zcG (a++b)=some (joined a b):=by
 rw [impl_clause_eq (by simpa using hl)]
 simp only
 generalize ht:zar ((a++b).mergeSort (leF fun x0 x1=>PF.zaH x0 x1))=t
 have hm:∀ x,x∈t↔x∈a∨x∈b:=fun x=>by rw [← ht,zdA,List.mem_mergeSort,List.mem_append]
 have hs:Sm t:=fun x hx=>by
  rcases (hm x).1 hx with h|h
  · exact sa x h
  · exact sb x h
 have hab:∀ x∈t,zau x=x.natAbs:=fun x hx=>by
  have:=hs x hx
  rw [zcS (by unfold okI;omega),vr_abs this.1 this.2.1]
 have hlt:t.Pairwise fun x y=>litLe x y∧x≠y:=by
  rw [← ht]
  exact zd2 (fun x y h1 h2=>by unfold litLe at *;omega) (sorted_lit _)
 have hw:∀ x∈t,wr (-x)=-x:=fun x hx=>by have:=hs x hx;exact wr_of _ (by omega) (by omega)
 have hspec:=joinL_spec ha sa hb sb
 unfold joined
 by_cases hex:∃ y∈b,-y∈a
 · rw [if_pos hex] at hspec
   rw [hspec]
   have hn:noComp t=false:=by
    cases hn:noComp t with
    | false=>rfl
    | true =>
     exfalso
     -- neighbours have other variables, so all have
     have hsrt:Srt t:=by
      refine adj_pairwise (r:=fun x y => !(y == wr (-x)) && decide (x.natAbs < y.natAbs∨(x.natAbs=y.natAbs∧y < x))) (R:=fun x y:Int=>x.natAbs < y.natAbs) (fun _ _ _=>Nat.lt_trans) (fun x y hx hy hr=>?_) ?_
      · have h1:=hs x hx;have h2:=hs y hy
        simp only [Bool.and_eq_true,Bool.not_eq_true',beq_eq_false_iff_ne,ne_eq,decide_eq_true_eq] at hr
        rw [hw x hx] at hr
        omega
      · have hp:t.Pairwise fun x y=>(decide (x.natAbs < y.natAbs∨(x.natAbs=y.natAbs∧y < x)))=true:=by
         refine List.Pairwise.imp_of_mem ?_ hlt
         intro x y hx hy h
         simp only [decide_eq_true_eq]
         unfold litLe at h
         rw [hab x hx,hab y hy] at h
         omega
        have h1:=zd1 hp
        unfold noComp at hn
        clear hp hlt hm hspec ht hs hab hw
        revert h1 hn
        generalize t=t
        intro hn h1
        induction t with
        | nil=>rfl
        | cons x t ih =>
         cases t with
         | nil=>rfl
         | cons y t =>
          simp only [adj,Bool.and_eq_true] at hn h1 ⊢
          exact ⟨⟨hn.1,h1.1⟩,ih hn.2 h1.2⟩
     obtain ⟨y,hy,hy2⟩:=hex
     have h1:=(hm y).2 (.inr hy)
     have h2:=(hm (-y)).2 (.inl hy2)
     have h0:=sb y hy
     -- two of one variable
     obtain ⟨i,hi⟩:=List.mem_iff_getElem?.1 h1
     obtain ⟨j,hj⟩:=List.mem_iff_getElem?.1 h2
     have hlen1:=(List.getElem?_eq_some_iff.1 hi).1
     have hlen2:=(List.getElem?_eq_some_iff.1 hj).1
     rw [List.getElem?_eq_getElem hlen1] at hi
     rw [List.getElem?_eq_getElem hlen2] at hj
     simp only [Option.some.injEq] at hi hj
     have hpw:=List.pairwise_iff_getElem.1 hsrt
     rcases Nat.lt_trichotomy i j with h|h|h
     · have:=hpw i j hlen1 hlen2 h;rw [hi,hj] at this;omega
     · subst h;rw [hi] at hj;omega
     · have:=hpw j i hlen2 hlen1 h;rw [hi,hj] at this;omega
   rw [hn];rfl
 · rw [if_neg hex] at hspec
   obtain ⟨s,h1,h2,h3⟩:=hspec
   rw [h1]
   have hne:∀ x∈t,-x ∉ t:=fun x hx hx2=>by
    have h0:=hs x hx
    rcases (hm x).1 hx with ha1|hb1 <;> rcases (hm (-x)).1 hx2 with ha2|hb2
    · have hpw:=List.pairwise_iff_getElem.1 ha
      obtain ⟨i,hi1,hi⟩:=List.getElem_of_mem ha1
      obtain ⟨j,hj1,hj⟩:=List.getElem_of_mem ha2
      rcases Nat.lt_trichotomy i j with h|h|h
      · have:=hpw i j hi1 hj1 h;rw [hi,hj] at this;omega
      · subst h;rw [hi] at hj;omega
      · have:=hpw j i hj1 hi1 h;rw [hi,hj] at this;omega
    · exact hex ⟨-x,hb2,by rw [Int.neg_neg];exact ha1⟩
    · exact hex ⟨x,hb1,ha2⟩
    · have hpw:=List.pairwise_iff_getElem.1 hb
      obtain ⟨i,hi1,hi⟩:=List.getElem_of_mem hb1
      obtain ⟨j,hj1,hj⟩:=List.getElem_of_mem hb2
      rcases Nat.lt_trichotomy i j with h|h|h
      · have:=hpw i j hi1 hj1 h;rw [hi,hj] at this;omega
      · subst h;rw [hi] at hj;omega
      · have:=hpw j i hj1 hi1 h;rw [hi,hj] at this;omega
   have hn:noComp t=true:=by
    unfold noComp
    refine zd1 (List.Pairwise.imp_of_mem ?_ hlt)
    intro x y hx hy _
    rw [hw x hx]
    simp only [Bool.not_eq_true',beq_eq_false_iff_ne,ne_eq]
    intro e;subst e;exact hne x hx hy
   have hsrt:Srt t:=by
    refine List.Pairwise.imp_of_mem ?_ hlt
    intro x y hx hy h
    unfold litLe at h
    rw [hab x hx,hab y hy] at h
    have:y≠-x:=fun e=>by subst e;exact hne x hx hy
    omega
   rw [hn]
   rw [srt_unique hsrt h2 fun x=>by rw [hm,h3]];rfl
def res (a b:List Int) (v:Int):List Int×Bool:=bif !a.contains v || !b.contains (wr (-v)) then ([],false) else joined (zaB a v) (zaB b v)
theorem zdB (c:List Int) (v:Int):(zaB c v).length≤c.length:=List.length_filter_le _ _
theorem zd4 {a b:List Int} {v:Int} (hl:a.length + b.length≤lim):zbI a b v=some (res a b v):=by
 have h1:=zdB a v;have h2:=zdB b v
 unfold zbI res
 rw [zdz,zaa]
 cases a.contains v with
 | false=>rfl
 | true =>
  simp only [Bool.not_true,cond_false,Bool.false_or]
  rw [zdz,zaa,zaa]
  cases b.contains (wr (-v)) with
  | false=>rfl
  | true =>
   simp only [Bool.not_true,cond_false]
   rw [zep (by omega),zaa,zep (by omega),zaa,spec_l2Join_eq (by omega),zaa]
   unfold joined
   cases joinL (zaB a v) (zaB b v) <;> rfl
theorem IsC.sm {V:Int} {c:List Int} (h:IsC V c):Sm c:=fun l hl=>by have:=h.lit l hl;have:=h.hi;omega
theorem zes {V:Int} {a b:List Int} {v:Int} (ha:IsC V a) (hb:IsC V b):zbw a b v=some (res a b v):=by
 have h1:=zdB a v;have h2:=zdB b v
 have h3:=ha.len;have h4:=hb.len
 have hlim:lim=4294967296:=rfl
 unfold zbw res
 rw [zeo,zaa]
 cases a.contains v with
 | false=>rfl
 | true =>
  simp only [Bool.not_true,cond_false,Bool.false_or]
  rw [zeo,zaa,zaa]
  cases b.contains (wr (-v)) with
  | false=>rfl
  | true =>
   simp only [Bool.not_true,cond_false]
   rw [zer ha.ok.2 (by omega),zaa,zer hb.ok.2 (by omega),zaa,slices_Concat2 (by omega),zaa,
    clause_joined (a:=zaB a v) (b:=zaB b v) (ha.srt.sublist List.filter_sublist) (hb.srt.sublist List.filter_sublist) (fun x hx=>ha.sm x (List.mem_filter.1 hx).1) (fun x hx=>hb.sm x (List.mem_filter.1 hx).1) (by omega),zaa]
end Go.PF
namespace Go.PF
open Go.Pu
abbrev Asc (c:List Int):Prop:=c.Pairwise fun a b=>a < b
theorem asc_len:∀ {c:List Int} {lo hi:Int},Asc c→(∀ x∈c,lo < x∧x≤hi)→(c.length:Int)≤max 0 (hi - lo):=by
 intro c
 induction c with
 | nil=>intro lo hi _ _;simp only [List.length_nil];omega
 | cons a c ih =>
  intro lo hi h hl
  obtain ⟨h1,h2⟩:=List.pairwise_cons.1 h
  have ha:=hl a (by simp)
  have:=ih (lo:=a) (hi:=hi) h2 fun x hx=>⟨h1 x hx,(hl x (by simp [hx])).2⟩
  simp only [List.length_cons];omega
end Go.PF
namespace Go.PF
open Go.Pu
structure Le {A:Type} (x y:Option A):Prop where
 le:∀ r,x=some r→y=some r
theorem Le.rfl' {A:Type} (x:Option A):Le x x:=⟨fun _ h=>h⟩
def iterC {S X:Type}:Nat→(S→Option (Lp S X))→S→Option (Rs S X)
 | 0,_,_=>none
 | n + 1,b,s=>match b s with
  | none=>none
  | some (.nx s')=>iterC n b s'
  | some (.bk s')=>some (.go s')
  | some (.rt x)=>some (.rt x)
theorem iterC_le {S X:Type} {f g:S→Option (Lp S X)} (h:∀ s,Le (f s) (g s)) (n:Nat) (s:S):Le (iterC n f s) (iter g s):=by
 constructor
 induction n generalizing s with
 | zero=>intro r e;cases e
 | succ n ih =>
  intro r e
  unfold iterC at e
  split at e
  · cases e
  · rename_i s' hb;rw [zbq ((h s).le _ hb)];exact ih _ _ e
  · rename_i s' hb;cases e;exact zaP ((h s).le _ hb)
  · rename_i x hb;cases e;exact iter_rt ((h s).le _ hb)
theorem bd_le {A B:Type} {x y:Option A} {k l:A→Option B} (h:Le x y) (hk:∀ a,Le (k a) (l a)):Le (bd x k) (bd y l):=by
 constructor
 intro r e
 obtain ⟨a,h1,h2⟩:=bnd e
 rw [h.le _ h1,zaa];exact (hk a).le _ h2
theorem bdR_le {S X B:Type} {x y:Option (Rs S X)} {k k':S→Option B} {l l':X→Option B} (h:Le x y) (hk:∀ a,Le (k a) (k' a)) (hl:∀ a,Le (l a) (l' a)):Le (bdR x k l) (bdR y k' l'):=by
 unfold bdR
 refine bd_le h fun a=>?_
 cases a with
 | go s=>exact hk s
 | rt x=>exact hl x
end Go.PF
namespace Go.PF
open Go.Pu
theorem zco {V:Int} {c:List Int} (hc:IsC V c) {v x:Int} (h1:1≤v):x∈zaB c v↔x∈c∧x.natAbs≠v.natAbs:=by
 unfold zaB
 rw [List.mem_filter]
 refine and_congr_right fun hx=>?_
 have:=hc.lit x hx;have:=hc.hi
 rw [vr_abs (by omega) (by omega)]
 simp only [Bool.not_eq_true',beq_eq_false_iff_ne,ne_eq]
 omega
theorem srt_one {V:Int} {c:List Int} (hc:IsC V c) {x y:Int} (hx:x∈c) (hy:y∈c) (h:x.natAbs=y.natAbs:=by omega):x=y:=by
 have hp:=hc.srt
 obtain ⟨i,hi⟩:=List.getElem?_of_mem hx
 obtain ⟨j,hj⟩:=List.getElem?_of_mem hy
 have hij:i=j:=by
  rcases Nat.lt_trichotomy i j with g|g|g
  · have:=List.pairwise_iff_getElem.1 hp i j (List.getElem?_eq_some_iff.1 hi).1 (List.getElem?_eq_some_iff.1 hj).1 g
    rw [(List.getElem?_eq_some_iff.1 hi).2,(List.getElem?_eq_some_iff.1 hj).2] at this
    omega
  · exact g
  · have:=List.pairwise_iff_getElem.1 hp j i (List.getElem?_eq_some_iff.1 hj).1 (List.getElem?_eq_some_iff.1 hi).1 g
    rw [(List.getElem?_eq_some_iff.1 hi).2,(List.getElem?_eq_some_iff.1 hj).2] at this
    omega
 subst hij
 rw [hi] at hj
 exact Option.some.inj hj
theorem res_iff {V:Int} {a b:List Int} (ha:IsC V a) (hb:IsC V b) {v:Int} (h1:1≤v) (h2:v≤V) :
 ((res a b v).2=true↔v∈a∧-v∈b∧∀ x∈a,-x∈b→x=v) ∧
 ((res a b v).2=true→∀ x,x∈(res a b v).1↔(x∈a∨x∈b)∧x.natAbs≠v.natAbs):=by
 have hV:=ha.hi
 have hw:wr (-v)=-v:=wr_of _ (by omega) (by omega)
 unfold res
 rw [hw]
 by_cases m1:v∈a
 · by_cases m2:-v∈b
   · rw [List.contains_iff_mem.2 m1,List.contains_iff_mem.2 m2]
     simp only [Bool.not_true,Bool.or_self,cond_false]
     have hs:=joinL_spec (b:=zaB b v) (s:=zaB a v) (ha.srt.filter _) (fun x hx=>ha.sm x (List.mem_filter.1 hx).1) (hb.srt.filter _) (fun x hx=>hb.sm x (List.mem_filter.1 hx).1)
     unfold joined
     by_cases hx:∃ y∈zaB b v,-y∈zaB a v
     · rw [if_pos hx] at hs
       rw [hs]
       refine ⟨⟨fun h=>(by cases h),fun h=>?_⟩,fun h=>(by cases h)⟩
       exfalso
       obtain ⟨y,hy,hy2⟩:=hx
       rw [zco hb h1] at hy
       rw [zco ha h1] at hy2
       have:=h.2.2 (-y) hy2.1 (by rw [Int.neg_neg];exact hy.1)
       omega
     · rw [if_neg hx] at hs
       obtain ⟨t,e,hst,hm⟩:=hs
       rw [e]
       refine ⟨⟨fun _=>⟨m1,m2,fun x hxa hxb=>?_⟩,fun _=>rfl⟩,fun _ x=>?_⟩
       · by_cases hne:x.natAbs=v.natAbs
         · rcases Int.natAbs_eq_natAbs_iff.1 hne with h|h
           · exact h
           · exfalso
             subst h
             have:=srt_one ha m1 hxa
             omega
         · exact absurd ⟨-x,(zco hb h1).2 ⟨hxb,by omega⟩,by rw [Int.neg_neg];exact (zco ha h1).2 ⟨hxa,hne⟩⟩ hx
       · rw [hm,zco ha h1,zco hb h1,← or_and_right]
   · have:b.contains (-v)=false:=by rw [Bool.eq_false_iff];exact fun h=>m2 (List.contains_iff_mem.1 h)
     rw [this]
     simp only [Bool.not_false,Bool.or_true,cond_true]
     exact ⟨⟨fun h=>(by cases h),fun h=>absurd h.2.1 m2⟩,fun h=>(by cases h)⟩
 · have:a.contains v=false:=by rw [Bool.eq_false_iff];exact fun h=>m1 (List.contains_iff_mem.1 h)
   rw [this]
   simp only [Bool.not_false,Bool.true_or,cond_true]
   exact ⟨⟨fun h=>(by cases h),fun h=>absurd h.1 m1⟩,fun h=>(by cases h)⟩
end Go.PF
namespace Go.PF
open Go.Pu
def lexC:List Int→List Int→Int
 | [],[]=>0
 | [],_::_=>-1
 | _::_,[]=>1
 | x::a,y::b=>bif !(cmpL x y == 0) then cmpL x y else lexC a b
theorem compare_loop {f:Nat→Int→Unit→Option (Lp Unit Int)} {b:List Int} {n:Int}
 (hf:∀ i y s,f i y s=bif decide (len b≤((i:Nat):Int)) then some (Lp.rt 1) else bd (ix b ((i:Nat):Int)) fun x=>bd (zaH y x) fun r=>bif !(r == 0) then some (Lp.rt r) else some (Lp.nx ())) :
 ∀ {a:List Int} {i:Nat},i≤b.length→n=(i:Int) + a.length→bdR (zas f a i ()) (fun _=>bif decide (n < len b) then some (-1) else some 0) (fun x=>some x)=some (lexC a (b.drop i)):=by
 intro a
 induction a with
 | nil =>
  intro i hi hn
  simp only [List.length_nil] at hn
  simp only [zas,za3]
  by_cases h:i < b.length
  · rw [List.drop_eq_getElem_cons h,show decide (n < len b)=true by rw [decide_eq_true_eq,zah];omega];rfl
  · rw [List.drop_eq_nil_of_le (by omega),show decide (n < len b)=false by rw [decide_eq_false_iff_not,zah];omega];rfl
 | cons x a ih =>
  intro i hi hn
  simp only [List.length_cons] at hn
  by_cases h:i < b.length
  · have e:f i x ()=bif !(cmpL x b[i] == 0) then some (Lp.rt (cmpL x b[i])) else some (Lp.nx ()):=by
     rw [hf,show decide (len b≤((i:Nat):Int))=false by rw [decide_eq_false_iff_not,zah];omega,cond_false,zaE,List.getElem?_eq_getElem h,zaa,zd3,zaa]
    rw [List.drop_eq_getElem_cons h]
    simp only [zas,e,lexC]
    cases hc:cmpL x b[i] == 0 with
    | true =>
     simp only [Bool.not_true,cond_false]
     exact ih (by omega) (by omega)
    | false=>simp only [Bool.not_false,cond_true];rfl
  · have e:f i x ()=some (Lp.rt 1):=by
     rw [hf,show decide (len b≤((i:Nat):Int))=true by rw [decide_eq_true_eq,zah];omega];rfl
    rw [List.drop_eq_nil_of_le (by omega)]
    simp only [zas,e]
    rfl
def cmpC (a b:List Int):Int:=if a.length < b.length then -1 else if b.length < a.length then 1 else lexC a b
theorem zeP (a b:List Int):zdi a b (fun x0 x1=>PF.zaH x0 x1)=some (lexC a b):=by
 unfold zdi forL
 have h:=compare_loop (b:=b) (n:=(a.length:Int)) (fun _ _ _=>rfl) (a:=a) (i:=0) (Nat.zero_le _) (by omega)
 rw [List.drop_zero] at h
 rw [← h,zah a]
theorem zd5 (a b:List Int):zaJ a b=some (cmpC a b):=by
 have hc:∀ a b:Int,zaU a b=if a < b then -1 else if b < a then 1 else 0:=fun a b=>by
  unfold zaU zbc
  simp only [BEq.rfl,Bool.not_true,cond_false]
  by_cases h1:a < b
  · simp [h1]
  · by_cases h2:b < a <;> simp [h1,h2]
 unfold zaJ
 rw [zeP,zaa]
 unfold zcA cmpC
 rw [hc,zah,zah]
 by_cases h1:a.length < b.length
 · simp [h1,forL,zas]
 · by_cases h2:b.length < a.length
   · simp [h1,h2,forL,zas]
   · by_cases h3:lexC a b=0
     · simp [h1,h2,h3,forL,zas]
     · have h4:(lexC a b == 0)=false:=by rw [beq_eq_false_iff_ne];exact h3
       simp [h1,h2,h4,forL,zas]
theorem cmpL_zero {x y:Int}:cmpL x y=0↔x=y:=by
 unfold cmpL
 constructor
 · intro h
   split at h
   · omega
   · split at h
     · omega
     · split at h
       · omega
       · split at h <;> omega
 · rintro rfl;simp
theorem zcV {x y:Int} {a b:List Int}:lexC (x::a) (y::b) < 0↔cmpL x y < 0∨(x=y∧lexC a b < 0):=by
 simp only [lexC]
 by_cases h:x=y
 · have h0:cmpL x y=0:=cmpL_zero.2 h
   rw [show (cmpL x y == 0)=true by rw [beq_iff_eq];exact h0,Bool.not_true,cond_false,h0]
   exact ⟨fun h1=>.inr ⟨h,h1⟩,fun h1=>h1.elim (fun h2=>absurd h2 (by decide)) fun h2=>h2.2⟩
 · rw [show (cmpL x y == 0)=false by rw [beq_eq_false_iff_ne];exact fun h1=>h (cmpL_zero.1 h1),Bool.not_false,cond_true]
   exact ⟨.inl,fun h1=>h1.elim id fun h2=>absurd h2.1 h⟩
theorem lexC_irrefl:∀ a:List Int,¬ lexC a a < 0
 | []=>by simp [lexC]
 | x::a=>by
  rw [zcV,cmpL_zero.2 rfl]
  rintro (h|h)
  · exact absurd h (by decide)
  · exact lexC_irrefl a h.2
theorem cmpL_trans {x y z:Int} (h1:cmpL x y < 0) (h2:cmpL y z < 0):cmpL x z < 0:=by
 rw [zbQ] at *;omega
theorem lexC_trans:∀ {a b c:List Int},lexC a b < 0→lexC b c < 0→lexC a c < 0
 | [],[],_,h,_=>absurd h (by simp [lexC])
 | [],_::_,[],_,h=>absurd h (by simp [lexC])
 | [],_::_,_::_,_,_=>by simp [lexC]
 | _::_,[],_,h,_=>absurd h (by simp [lexC])
 | _::_,_::_,[],_,h=>absurd h (by simp [lexC])
 | x::a,y::b,z::c,h1,h2=>by
  rw [zcV] at *
  rcases h1 with h1|⟨rfl,h1⟩
  · rcases h2 with h2|⟨rfl,h2⟩
    · exact .inl (cmpL_trans h1 h2)
    · exact .inl h1
  · rcases h2 with h2|⟨rfl,h2⟩
    · exact .inl h2
    · exact .inr ⟨rfl,lexC_trans h1 h2⟩
theorem lexC_total:∀ {a b:List Int},¬ lexC a b < 0→¬ lexC b a < 0→a=b
 | [],[],_,_=>rfl
 | [],_::_,h,_=>absurd (by simp [lexC]) h
 | _::_,[],_,h=>absurd (by simp [lexC]) h
 | x::a,y::b,h1,h2=>by
  rw [zcV] at *
  have e:x=y:=by
   by_cases hx:cmpL x y < 0
   · exact absurd (.inl hx) h1
   · by_cases hy:cmpL y x < 0
     · exact absurd (.inl hy) h2
     · rw [zbQ] at hx hy;omega
  subst e
  rw [lexC_total (fun h=>h1 (.inr ⟨rfl,h⟩)) (fun h=>h2 (.inr ⟨rfl,h⟩))]
theorem cmpC_neg {a b:List Int}:cmpC a b < 0↔a.length < b.length∨(a.length=b.length∧lexC a b < 0):=by
 unfold cmpC
 by_cases h1:a.length < b.length
 · rw [if_pos h1];exact ⟨fun _=>.inl h1,fun _=>by decide⟩
 · rw [if_neg h1]
   by_cases h2:b.length < a.length
   · rw [if_pos h2];exact ⟨fun h=>absurd h (by decide),fun h=>by omega⟩
   · rw [if_neg h2];exact ⟨fun h=>.inr ⟨by omega,h⟩,fun h=>h.elim (fun h=>absurd h h1) fun h=>h.2⟩
theorem za5 (a:List Int):¬ cmpC a a < 0:=by
 rw [cmpC_neg]
 rintro (h|h)
 · omega
 · exact lexC_irrefl a h.2
theorem zb2 {a b c:List Int} (h1:cmpC a b < 0) (h2:cmpC b c < 0):cmpC a c < 0:=by
 rw [cmpC_neg] at *
 rcases h1 with h1|⟨e1,h1⟩
 · exact .inl (by omega)
 · rcases h2 with h2|⟨e2,h2⟩
   · exact .inl (by omega)
   · exact .inr ⟨by omega,lexC_trans h1 h2⟩
theorem zcp {a b:List Int} (h1:¬ cmpC a b < 0) (h2:¬ cmpC b a < 0):a=b:=by
 rw [cmpC_neg] at *
 have e:a.length=b.length:=by omega
 exact lexC_total (fun h=>h1 (.inr ⟨e,h⟩)) (fun h=>h2 (.inr ⟨e.symm,h⟩))
theorem zd6 {a b c:List Int} (h1:¬ cmpC a b < 0) (h2:¬ cmpC b c < 0):¬ cmpC a c < 0:=by
 intro h
 by_cases h3:cmpC b a < 0
 · exact h2 (zb2 h3 h)
 · have e:=zcp h1 h3
   subst e
   exact h2 h
theorem sort_config {xs:List (List Int)} (hl:xs.length < lim):zdQ xs (fun x0 x1=>PF.zaJ x0 x1)=some (xs.mergeSort (leF fun x0 x1=>PF.zaJ x0 x1)):=by
 unfold zdQ sortF
 rw [if_pos]
 exact ⟨cmpC,hl,fun x _ y _=>zd5 x y,fun x _=>za5 x,fun x _ y _ z _ h1 h2=>zb2 h1 h2,fun x _ y _ z _ h1 h2=>zd6 h1 h2,fun x _ y _ h1 h2=>zcp h1 h2⟩
theorem zdC {x y:List Int}:leF (fun x0 x1=>PF.zaJ x0 x1) x y=true↔¬ cmpC y x < 0:=by
 unfold leF
 simp only [zd5]
 rw [Bool.not_eq_true',decide_eq_false_iff_not]
theorem sorted_config (xs:List (List Int)):(xs.mergeSort (leF fun x0 x1=>PF.zaJ x0 x1)).Pairwise fun x y=>¬ cmpC y x < 0:=by
 have:=List.pairwise_mergeSort (le:=leF fun x0 x1=>PF.zaJ x0 x1) (fun a b c h1 h2=>by
  rw [zdC] at *;exact zd6 h2 h1) (fun a b=>by
  rw [Bool.or_eq_true,zdC,zdC]
  by_cases h:cmpC b a < 0
  · exact .inr fun h2=>za5 _ (zb2 h h2)
  · exact .inl h) xs
 exact this.imp fun h=>zdC.1 h
def sm (c:List Int):Prop:=∀ x∈c,-12≤x∧x≤12∧x≠0
theorem key_lt {x y:Int} (hx:-12≤x∧x≤12∧x≠0) (hy:-12≤y∧y≤12∧y≠0):zaM x < zaM y↔cmpL x y < 0:=by
 have hk:∀ z:Int,-12≤z∧z≤12∧z≠0→zaM z=if z < 0 then -2 * z + 1 else 2 * z:=fun z hz=>by
  unfold zaM
  by_cases h:z < 0
  · have e:wr (-2 * z)=-2 * z:=wr_of _ (by omega) (by omega)
    rw [show decide (z < 0)=true from decide_eq_true h,cond_true,if_pos h,e]
    exact wr_of _ (by omega) (by omega)
  · rw [show decide (z < 0)=false from decide_eq_false h,cond_false,if_neg h]
    exact wr_of _ (by omega) (by omega)
 have ha:∀ z:Int,-12≤z∧z≤12∧z≠0→zau z=z.natAbs:=fun z hz=>by
  rw [zcS (by unfold okI;omega),vr_abs (by omega) (by omega)]
 rw [zbQ,hk x hx,hk y hy,ha x hx,ha y hy]
 split <;> split <;> omega
theorem before_loop {f:Nat→Int→Unit→Option (Lp Unit Bool)} {b:List Int} (hb:sm b)
 (hf:∀ i y s,f i y s=bd (ix b ((i:Nat):Int)) fun x=>bif !(y == x) then bd (ix b ((i:Nat):Int)) fun x2=>some (Lp.rt (decide (zaM y < zaM x2))) else some (Lp.nx ())) :
 ∀ {a:List Int} {i:Nat},sm a→a.length + i=b.length→bdR (zas f a i ()) (fun _=>some false) (fun x=>some x)=some (decide (lexC a (b.drop i) < 0)):=by
 intro a
 induction a with
 | nil =>
  intro i _ hi
  simp only [List.length_nil] at hi
  rw [List.drop_eq_nil_of_le (by omega)];rfl
 | cons x a ih =>
  intro i hs hi
  simp only [List.length_cons] at hi
  have h:i < b.length:=by omega
  rw [List.drop_eq_getElem_cons h]
  have e:f i x ()=bif !(x == b[i]) then some (Lp.rt (decide (zaM x < zaM b[i]))) else some (Lp.nx ()):=by
   rw [hf,zaE,List.getElem?_eq_getElem h,zaa,zaa]
  by_cases hx:x=b[i]
  · have e2:f i x ()=some (Lp.nx ()):=by rw [e,show (x == b[i])=true by rw [beq_iff_eq];exact hx];rfl
    simp only [zas,e2]
    rw [ih (fun z hz=>hs z (by simp [hz])) (by omega)]
    congr 1
    rw [decide_eq_decide,zcV]
    exact ⟨fun h1=>.inr ⟨hx,h1⟩,fun h1=>h1.elim (fun h2=>by rw [cmpL_zero.2 hx] at h2;exact absurd h2 (by decide)) fun h2=>h2.2⟩
  · have e2:f i x ()=some (Lp.rt (decide (zaM x < zaM b[i]))):=by rw [e,show (x == b[i])=false by rw [beq_eq_false_iff_ne];exact hx];rfl
    simp only [zas,e2]
    show some (decide _)=some (decide _)
    congr 1
    rw [decide_eq_decide,zcV,key_lt (hs x (by simp)) (hb _ (List.getElem_mem h))]
    exact ⟨.inl,fun h1=>h1.elim id fun h2=>absurd h2.1 hx⟩
theorem zet {a b:List Int} (ha:sm a) (hb:sm b):zcu a b=some (decide (cmpC a b < 0)):=by
 unfold zcu
 by_cases h:a.length=b.length
 · rw [show (len a == len b)=true by rw [beq_iff_eq,zah,zah];omega,Bool.not_true,cond_false]
   unfold forL
   rw [before_loop hb (fun _ _ _=>rfl) ha (by omega),List.drop_zero]
   congr 1
   rw [decide_eq_decide,cmpC_neg]
   exact ⟨fun h1=>.inr ⟨h,h1⟩,fun h1=>h1.elim (fun h2=>by omega) fun h2=>h2.2⟩
 · rw [show (len a == len b)=false by rw [beq_eq_false_iff_ne,zah,zah];omega,Bool.not_false,cond_true]
   congr 1
   rw [decide_eq_decide,cmpC_neg,zah,zah]
   exact ⟨fun h1=>.inl (by omega),fun h1=>h1.elim (fun h2=>by omega) fun h2=>absurd h2.1 h⟩
abbrev SrtC (xs:List (List Int)):Prop:=xs.Pairwise fun a b=>cmpC a b < 0
theorem srt_ext:∀ {xs ys:List (List Int)},SrtC xs→SrtC ys→(∀ x,x∈xs↔x∈ys)→xs=ys
 | [],[],_,_,_=>rfl
 | [],y::_,_,_,h=>absurd ((h y).2 (by simp)) (by simp)
 | x::_,[],_,_,h=>absurd ((h x).1 (by simp)) (by simp)
 | x::xs,y::ys,h1,h2,h=>by
  obtain ⟨a1,a2⟩:=List.pairwise_cons.1 h1
  obtain ⟨b1,b2⟩:=List.pairwise_cons.1 h2
  have e:x=y:=by
   rcases List.mem_cons.1 ((h x).1 (by simp)) with e|m1
   · exact e
   · rcases List.mem_cons.1 ((h y).2 (by simp)) with e|m2
     · exact e.symm
     · exact absurd (zb2 (a1 y m2) (b1 x m1)) (za5 x)
  subst e
  rw [srt_ext a2 b2 fun z=>?_]
  constructor
  · intro hz
    rcases List.mem_cons.1 ((h z).1 (by simp [hz])) with e|m
    · subst e;exact absurd (a1 z hz) (za5 z)
    · exact m
  · intro hz
    rcases List.mem_cons.1 ((h z).2 (by simp [hz])) with e|m
    · subst e;exact absurd (b1 z hz) (za5 z)
    · exact m
theorem srt_with {xs:List (List Int)} {c:List Int} (h:SrtC xs) (hc:c ∉ xs):SrtC ((xs++[c]).mergeSort (leF fun x0 x1=>PF.zaJ x0 x1)):=by
 have nd:(xs++[c]).Nodup:=by
  rw [List.nodup_append]
  refine ⟨h.imp fun {a b} h e=>by subst e;exact za5 _ h,by simp,fun a ha b hb e=>?_⟩
  rw [List.mem_singleton] at hb
  subst hb;subst e
  exact hc ha
 have nd2:((xs++[c]).mergeSort (leF fun x0 x1=>PF.zaJ x0 x1)).Nodup:=(List.mergeSort_perm (xs++[c]) _).nodup_iff.2 nd
 refine ((sorted_config (xs++[c])).and nd2).imp fun {a b} ⟨h1,h2⟩=>?_
 by_cases h3:cmpC a b < 0
 · exact h3
 · exact absurd (zcp h3 h1) h2
end Go.PF
namespace Go.PF
open Go.Pu
theorem bsearch {X:Type} {body:Int×Int→Option (Lp (Int×Int) X)} {n P:Nat} (hP:P≤n)
 (h:∀ a b:Nat,a < b→b≤n→body ((a:Int),(b:Int))=some (.nx (if (a + b) / 2 < P then ((((a + b) / 2 + 1:Nat):Int),(b:Int)) else ((a:Int),(((a + b) / 2:Nat):Int)))))
 (he:∀ a:Nat,a≤n→body ((a:Int),(a:Int))=some (.bk ((a:Int),(a:Int)))) :
 iter body (0,(n:Int))=some (.go ((P:Int),(P:Int))):=by
 have key:∀ (m a b:Nat),b - a≤m→a≤P→P≤b→b≤n→iter body ((a:Int),(b:Int))=some (.go ((P:Int),(P:Int))):=by
  intro m
  induction m with
  | zero =>
   intro a b hm h1 h2 h3
   have e1:a=P:=by omega
   have e2:b=P:=by omega
   rw [e1,e2];exact zaP (he _ hP)
  | succ m ih =>
   intro a b hm h1 h2 h3
   by_cases hab:a < b
   · rw [zbq (h a b hab h3)]
     by_cases hc:(a + b) / 2 < P
     · rw [if_pos hc];exact ih _ _ (by omega) (by omega) h2 h3
     · rw [if_neg hc];exact ih _ _ (by omega) h1 (by omega) (by omega)
   · have e1:a=P:=by omega
     have e2:b=P:=by omega
     rw [e1,e2];exact zaP (he _ hP)
 have:=key n 0 n (by omega) (by omega) hP (Nat.le_refl _)
 simpa using this
def plc (xs:List (List Int)) (c:List Int):Nat:=(xs.takeWhile fun a=>decide (cmpC a c < 0)).length
theorem plc_le (xs:List (List Int)) (c:List Int):plc xs c≤xs.length:=(List.takeWhile_prefix _).length_le
theorem plc_lt:∀ {xs:List (List Int)} {c:List Int},SrtC xs→∀ {i:Nat} {x:List Int},xs[i]?=some x→(cmpC x c < 0↔i < plc xs c)
 | [],_,_,_,_,h=>by simp at h
 | a::xs,c,hs,i,x,h=>by
  obtain ⟨a1,a2⟩:=List.pairwise_cons.1 hs
  unfold plc
  rw [List.takeWhile_cons]
  by_cases hc:cmpC a c < 0
  · rw [if_pos (by simp [hc])]
    cases i with
    | zero=>simp at h;subst h;simp [hc]
    | succ i =>
     rw [List.getElem?_cons_succ] at h
     have:=plc_lt a2 (c:=c) h
     unfold plc at this
     rw [this,List.length_cons];omega
  · rw [if_neg (by simp [hc])]
    cases i with
    | zero=>simp at h;subst h;simp [hc]
    | succ i =>
     rw [List.getElem?_cons_succ] at h
     exact ⟨fun h1=>absurd (zb2 (a1 x (List.mem_of_getElem? h)) h1) hc,fun h1=>absurd h1 (by simp)⟩
theorem plc_mem {xs:List (List Int)} {c:List Int} (hs:SrtC xs):c∈xs↔xs[plc xs c]?=some c:=by
 constructor
 · intro h
   obtain ⟨i,hi⟩:=List.mem_iff_getElem?.1 h
   have h1:¬ i < plc xs c:=fun h=>za5 c ((plc_lt hs hi).2 h)
   by_cases h2:plc xs c < i
   · have hil:i < xs.length:=(List.getElem?_eq_some_iff.1 hi).1
     obtain ⟨x,hx⟩:∃ x,xs[plc xs c]?=some x:=⟨_,List.getElem?_eq_getElem (by omega)⟩
     have h3:=List.pairwise_iff_getElem.1 hs (plc xs c) i (by omega) hil h2
     rw [List.getElem?_eq_some_iff] at hx hi
     obtain ⟨_,hx⟩:=hx
     obtain ⟨_,hi⟩:=hi
     rw [hx,hi] at h3
     exact absurd ((plc_lt hs (List.getElem?_eq_some_iff.2 ⟨_,hx⟩)).1 h3) (Nat.lt_irrefl _)
   · rw [show plc xs c=i by omega];exact hi
 · exact fun h=>List.mem_of_getElem? h
def insC (xs:List (List Int)) (c:List Int):List (List Int):=xs.take (plc xs c)++c::xs.drop (plc xs c)
theorem insC_mem {xs:List (List Int)} {c x:List Int}:x∈insC xs c↔x=c∨x∈xs:=by
 unfold insC
 have e:=List.take_append_drop (plc xs c) xs
 constructor
 · intro h
   rcases List.mem_append.1 h with h|h
   · exact .inr (List.mem_of_mem_take h)
   · rcases List.mem_cons.1 h with h|h
     · exact .inl h
     · exact .inr (List.mem_of_mem_drop h)
 · rintro (rfl|h)
   · simp
   · rw [← e] at h
     rcases List.mem_append.1 h with h|h
     · exact List.mem_append_left _ h
     · exact List.mem_append_right _ (List.mem_cons_of_mem _ h)
theorem insC_len (xs:List (List Int)) (c:List Int):(insC xs c).length=xs.length + 1:=by
 unfold insC;simp;have:=plc_le xs c;omega
theorem insC_srt {xs:List (List Int)} {c:List Int} (hs:SrtC xs) (hc:c ∉ xs):SrtC (insC xs c):=by
 have hlt:∀ x∈xs.take (plc xs c),cmpC x c < 0:=fun x hx=>by
  obtain ⟨i,hi⟩:=List.mem_iff_getElem?.1 hx
  have hl:i < plc xs c:=by
   have:=(List.getElem?_eq_some_iff.1 hi).1
   rw [List.length_take] at this;omega
  rw [List.getElem?_take_of_lt hl] at hi
  exact (plc_lt hs hi).2 hl
 have hgt:∀ x∈xs.drop (plc xs c),cmpC c x < 0:=fun x hx=>by
  obtain ⟨i,hi⟩:=List.mem_iff_getElem?.1 hx
  rw [List.getElem?_drop] at hi
  have h1:¬ cmpC x c < 0:=fun h=>absurd ((plc_lt hs hi).1 h) (by omega)
  by_cases h2:cmpC c x < 0
  · exact h2
  · exact absurd (by rw [zcp h2 h1];exact List.mem_of_getElem? hi) hc
 unfold insC SrtC
 rw [List.pairwise_append,List.pairwise_cons]
 refine ⟨hs.sublist (List.take_sublist _ _),⟨hgt,hs.sublist (List.drop_sublist _ _)⟩,fun a ha b hb=>?_⟩
 rcases List.mem_cons.1 hb with rfl|hb
 · exact hlt a ha
 · exact zb2 (hlt a ha) (hgt b hb)
def putC (xs:List (List Int)) (c:List Int):List (List Int):=bif xs.contains c then xs else insC xs c
theorem putC_mem {xs:List (List Int)} {c x:List Int}:x∈putC xs c↔x=c∨x∈xs:=by
 unfold putC
 cases h:xs.contains c with
 | true =>
  simp only [cond_true]
  rw [List.contains_iff_mem] at h
  exact ⟨.inr,fun h1=>h1.elim (fun h2=>by rw [h2];exact h) id⟩
 | false=>exact insC_mem
theorem putC_srt {xs:List (List Int)} {c:List Int} (hs:SrtC xs):SrtC (putC xs c):=by
 unfold putC
 cases h:xs.contains c with
 | true=>exact hs
 | false=>exact insC_srt hs (fun h1=>by rw [← List.contains_iff_mem,h] at h1;cases h1)
theorem putC_len (xs:List (List Int)) (c:List Int):(putC xs c).length≤xs.length + 1:=by
 unfold putC
 cases h:xs.contains c with
 | true=>exact Nat.le_succ _
 | false=>exact Nat.le_of_eq (insC_len xs c)
end Go.PF
namespace Go.PF
open Go.Pu
theorem IsC.small {V:Int} {c:List Int} (h:IsC V c):PF.sm c:=fun x hx=>by have:=h.lit x hx;have:=h.hi;omega
theorem zaY {V:Int} {a b:List Int} {v:Int} (ha:IsC V a) (hb:IsC V b) (h:(res a b v).2=true):IsC V (res a b v).1:=by
 unfold res at h ⊢
 cases hc : !a.contains v || !b.contains (wr (-v)) with
 | true=>rw [hc] at h;cases h
 | false =>
  rw [hc] at h
  simp only [cond_false] at h ⊢
  unfold joined at h ⊢
  have sa:Srt (zaB a v):=ha.srt.sublist List.filter_sublist
  have sb:Srt (zaB b v):=hb.srt.sublist List.filter_sublist
  have ma:Sm (zaB a v):=fun x hx=>ha.sm x (List.mem_filter.1 hx).1
  have mb:Sm (zaB b v):=fun x hx=>hb.sm x (List.mem_filter.1 hx).1
  have hj:=joinL_spec sa ma sb mb
  split at hj
  · rw [hj] at h;cases h
  · obtain ⟨t,h1,h2,h3⟩:=hj
    rw [h1]
    refine ⟨ha.lo,ha.hi,fun l hl=>?_,h2⟩
    rcases (h3 l).1 hl with hl|hl
    · exact ha.lit l (List.mem_filter.1 hl).1
    · exact hb.lit l (List.mem_filter.1 hl).1
structure Cfg (V:Int) (n:Nat) (xs:List (List Int)):Prop where
 srt:SrtC xs
 len:xs.length≤n
 cl:∀ c∈xs,IsC V c
theorem Cfg.at {V:Int} {n:Nat} {xs:List (List Int)} (h:Cfg V n xs) {k:Int} (hk:inB k 0 ((xs.length:Int) - 1)=true):∃ c,ix xs k=some c∧xs[k.toNat]?=some c∧IsC V c:=by
 have:=zaR.1 hk
 obtain ⟨c,h1,h2⟩:=ix_of (xs:=xs) (i:=k) (by omega) (by omega)
 exact ⟨c,h1,h2,h.cl c (List.mem_of_getElem? h2)⟩
theorem Cfg.put {V:Int} {n:Nat} {xs:List (List Int)} (h:Cfg V n xs) {c:List Int} (hc:IsC V c):Cfg V (n + 1) (putC xs c):=by
 refine ⟨putC_srt h.srt,?_,fun d hd=>?_⟩
 · have:=putC_len xs c;have:=h.len;omega
 · rcases putC_mem.1 hd with rfl|hd
   · exact hc
   · exact h.cl d hd
theorem putC_new {xs:List (List Int)} {c:List Int} (h:xs.contains c=false):putC xs c=insC xs c:=by unfold putC;rw [h];rfl
theorem zd7 {V:Int} {n:Nat} {xs:List (List Int)} (h:Cfg V n xs) (hn:n≤100000) {c:List Int} (hc:sm c):zb8 xs c=some (plc xs c:Int):=by
 unfold zb8
 have hl:=h.len
 rw [zah,bsearch (n:=xs.length) (P:=plc xs c) (plc_le xs c) (fun a b hab hb=>?_) (fun a ha=>?_)]
 · rfl
 · have w1:wr ((a:Int) + b)=((a + b:Nat):Int):=by rw [wr_of _ (by omega) (by omega)];omega
   have w2:wr (((a + b:Nat):Int).tdiv 2)=(((a + b) / 2:Nat):Int):=by
    rw [Int.tdiv_eq_ediv_of_nonneg (by omega)]
    rw [wr_of _ (by omega) (by omega)];omega
   have w3:wr ((((a + b) / 2:Nat):Int) + 1)=(((a + b) / 2 + 1:Nat):Int):=by rw [wr_of _ (by omega) (by omega)];omega
   obtain ⟨x,hx⟩:∃ x,xs[(a + b) / 2]?=some x:=⟨_,List.getElem?_eq_getElem (by omega)⟩
   have hp:=plc_lt h.srt (c:=c) hx
   simp only [show decide ((a:Int) < (b:Int))=true by rw [decide_eq_true_eq];omega,cond_true,w1,w2,w3,zaE,hx,zaa]
   rw [zet (h.cl x (List.mem_of_getElem? hx)).small hc,zaa]
   by_cases hlt:(a + b) / 2 < plc xs c
   · rw [if_pos hlt,show decide (cmpC x c < 0)=true by rw [decide_eq_true_eq];exact hp.2 hlt];rfl
   · rw [if_neg hlt,show decide (cmpC x c < 0)=false by rw [decide_eq_false_iff_not];exact fun h=>hlt (hp.1 h)];rfl
 · simp only [show decide ((a:Int) < (a:Int))=false by rw [decide_eq_false_iff_not];omega,cond_false]
theorem plc_test {V:Int} {n:Nat} {xs:List (List Int)} (h:Cfg V n xs) {c:List Int} :
 (bd (bif (decide (((plc xs c:Nat):Int) < len xs)) then bd (ix xs ((plc xs c:Nat):Int)) (fun x=>bd (zcv x c) (fun r=>some r)) else some false) fun t=>some t)=some (xs.contains c):=by
 have hm:=plc_mem h.srt (c:=c)
 by_cases hlt:plc xs c < xs.length
 · have hx:xs[plc xs c]?=some xs[plc xs c]:=List.getElem?_eq_getElem hlt
   rw [show decide (((plc xs c:Nat):Int) < len xs)=true by rw [decide_eq_true_eq,zah];omega,cond_true,zaE,hx,zaa,spec_l1Same_eq]
   simp only [zaa]
   congr 1
   rw [Bool.eq_iff_iff,beq_iff_eq,List.contains_iff_mem,hm,hx]
   exact ⟨fun h=>by rw [h],fun h=>Option.some.inj h⟩
 · rw [show decide (((plc xs c:Nat):Int) < len xs)=false by rw [decide_eq_false_iff_not,zah];omega,cond_false,zaa]
   congr 1
   rw [eq_comm,Bool.eq_false_iff]
   intro hc
   rw [List.contains_iff_mem,hm,List.getElem?_eq_none (by omega)] at hc
   cases hc
theorem bd_test {β:Type} {x:Option Bool} {b:Bool} {k:Bool→Option β} (h:(bd x fun t=>some t)=some b):bd x k=k b:=by
 cases x with
 | none=>cases h
 | some y=>cases h;rfl
theorem zcW {V:Int} {n:Nat} {xs:List (List Int)} (h:Cfg V n xs) (hn:n≤100000) {c:List Int} (hc:sm c):za8 xs c=some (bif xs.contains c then (plc xs c:Int) else -1):=by
 unfold za8
 rw [zd7 h hn hc,zaa,bd_test (plc_test h)]
 cases xs.contains c <;> rfl
theorem at_ge {xs:List (List Int)} {c:List Int}:decide ((0:Int)≤bif xs.contains c then (plc xs c:Int) else -1)=xs.contains c:=by
 cases xs.contains c with
 | true=>simp only [cond_true];rw [decide_eq_true_eq];omega
 | false=>rfl
theorem zcX {V:Int} {n:Nat} {xs:List (List Int)} (h:Cfg V n xs) (hn:n≤100000) {c:List Int} (hc:sm c):zbH xs c=some (putC xs c):=by
 unfold zbH putC
 rw [zd7 h hn hc,zaa,bd_test (plc_test h)]
 have hp:=plc_le xs c
 have hl:=h.len
 have hlim:lim=4294967296:=rfl
 cases xs.contains c with
 | true=>rfl
 | false =>
  simp only [cond_false]
  have c1:cut xs 0 ((plc xs c:Nat):Int)=some (xs.take (plc xs c)):=by
   have:=cut_ok (xs:=xs) (a:=0) (b:=plc xs c) (Nat.zero_le _) hp
   simpa using this
  have c2:cut xs ((plc xs c:Nat):Int) (len xs)=some (xs.drop (plc xs c)):=by
   have:=cut_ok (xs:=xs) (a:=plc xs c) (b:=xs.length) hp (Nat.le_refl _)
   rw [List.take_length] at this;exact this
  rw [c1,zaa,zaX (by simp;omega),zaa,List.nil_append,zaX (by simp;omega),zaa,c2,zaa,zaX (by simp;omega),zaa]
  unfold insC
  rw [List.append_assoc];rfl
theorem zeQ {c:List (List Int)} {f:List Int→Option Bool} {g:List Int→Bool} (h:∀ y∈c,f y=some (g y)):∃ r,zcd c f=some r∧decide (0≤r)=c.any g:=by
 unfold zcd
 rw [forL_find (p:=fun _ y=>g y) (v:=fun i _=>(i:Int)) (fun i y hy=>by rw [h y (List.mem_of_getElem? hy),zaa])]
 cases hf:findI (fun _ y=>g y) c 0 with
 | none =>
  refine ⟨-1,rfl,?_⟩
  have:=zcP.1 hf
  rw [zbi] at this;rw [this];rfl
 | some z =>
  obtain ⟨_,_,_,h4⟩:=zcQ hf
  rw [zbi] at h4
  exact ⟨_,rfl,by rw [h4];simp⟩
theorem any_contains (xs:List (List Int)) (c:List Int):(xs.any fun y=>c == y)=xs.contains c:=by
 induction xs with
 | nil=>rfl
 | cons x xs ih=>rw [List.any_cons,List.contains_cons,ih]
theorem zeu (xs:List (List Int)) (c:List Int):zcB xs c=some (xs.contains c):=by
 unfold zcB zbd
 obtain ⟨r,h1,h2⟩:=zeQ (c:=xs) (f:=fun x0=>zce x0 c) (g:=fun y=>c == y) (fun y _=>by unfold zce;rw [zen];rfl)
 rw [h1,zaa,zaa,h2,any_contains]
theorem zeR {V:Int} {n:Nat} {xs:List (List Int)} (h:Cfg V n xs) (hn:n≤100000) (c:List Int):zdp xs c=some (bif xs.contains c then ([],false) else (putC xs c,true)):=by
 unfold zdp
 rw [zeu,zaa]
 have hl:=h.len
 have hlim:lim=4294967296:=rfl
 cases hc:xs.contains c with
 | true=>rfl
 | false =>
  have hnc:c ∉ xs:=fun h1=>by rw [← List.contains_iff_mem,hc] at h1;cases h1
  simp only [cond_false]
  unfold zdP
  rw [zaX (by simp;omega),zaa,List.nil_append,zaa,zaX (by simp;omega),zaa,sort_config (by simp;omega),zaa]
  congr 2
  rw [putC_new hc]
  refine srt_ext (srt_with h.srt hnc) (insC_srt h.srt hnc) fun x=>?_
  rw [(List.mergeSort_perm (xs++[c]) _).mem_iff,insC_mem,List.mem_append,List.mem_singleton]
  exact or_comm
def puts (F:Cnf) (now:List (List Int)) (s:zab):List Int×Bool :=
 bif s.kind == 1 then
  bif inB s.a 0 ((F.clauses.length:Int) - 1) && (s.b == 0 && s.pivot == 0) then ((F.clauses[s.a.toNat]?).getD [],true) else ([],false)
 else bif s.kind == 2 then
  bif inB s.a 0 ((now.length:Int) - 1) && (inB s.b 0 ((now.length:Int) - 1) && inB s.pivot 1 F.vars) then res ((now[s.a.toNat]?).getD []) ((now[s.b.toNat]?).getD []) s.pivot else ([],false)
 else ([],false)
def gone (now:List (List Int)) (s:zab):Bool:=inB s.a 0 ((now.length:Int) - 1) && (s.b == 0 && s.pivot == 0)
def nxt (F:Cnf) (now:List (List Int)) (s:zab):List (List Int)×Bool :=
 bif s.kind == 3 then (bif gone now s then (now.eraseIdx s.a.toNat,true) else ([],false))
 else bif (puts F now s).2 && !now.contains (puts F now s).1 then (putC now (puts F now s).1,true) else ([],false)
theorem puts_isC {F:Cnf} {now:List (List Int)} {n:Nat} (hF:cnfB F=true) (h:Cfg F.vars n now) {s:zab} (hp:(puts F now s).2=true):IsC F.vars (puts F now s).1:=by
 have hcl:∀ c∈F.clauses,IsC F.vars c:=fun c hc=>by
  unfold cnfB at hF
  rw [Bool.and_eq_true,List.all_eq_true] at hF
  exact clauseB_iff.1 (hF.2 c hc)
 unfold puts at hp ⊢
 cases h1:s.kind == 1 with
 | true =>
  rw [h1] at hp
  simp only [cond_true] at hp ⊢
  cases h2:inB s.a 0 ((F.clauses.length:Int) - 1) && (s.b == 0 && s.pivot == 0) with
  | false=>rw [h2] at hp;cases hp
  | true =>
   simp only [cond_true]
   rw [Bool.and_eq_true] at h2
   have:=zaR.1 h2.1
   obtain ⟨c,_,h4⟩:=ix_of (xs:=F.clauses) (i:=s.a) (by omega) (by omega)
   rw [h4]
   exact hcl c (List.mem_of_getElem? h4)
 | false =>
  rw [h1] at hp
  simp only [cond_false] at hp ⊢
  cases h2:s.kind == 2 with
  | false=>rw [h2] at hp;cases hp
  | true =>
   rw [h2] at hp
   simp only [cond_true] at hp ⊢
   cases h3:inB s.a 0 ((now.length:Int) - 1) && (inB s.b 0 ((now.length:Int) - 1) && inB s.pivot 1 F.vars) with
   | false=>rw [h3] at hp;cases hp
   | true =>
    rw [h3] at hp
    simp only [cond_true] at hp ⊢
    rw [Bool.and_eq_true,Bool.and_eq_true] at h3
    obtain ⟨x,_,hx,cx⟩:=h.at h3.1
    obtain ⟨y,_,hy,cy⟩:=h.at h3.2.1
    rw [hx,hy] at hp ⊢
    exact zaY cx cy hp
theorem wr_len1 {A:Type} {xs:List A} (h:xs.length≤9223372036854775807):wr (len xs - 1)=(xs.length:Int) - 1:=by rw [zah];exact wr_of _ (by omega) (by omega)
theorem spec_l15Step_eq {F:Cnf} {now:List (List Int)} {n:Nat} {s:zab} (hF:cnfB F=true) (h:Cfg F.vars n now) (hn:n≤100000) (hs:zd9 s) :
 ∃ r,zcy F now s=some r∧r.2.2=(nxt F now s).2∧((nxt F now s).2=true→r.1=(nxt F now s).1∧(s.kind≠3→r.2.1=(puts F now s).1)):=by
 have hF60:F.clauses.length≤60:=by
  unfold cnfB at hF
  rw [Bool.and_eq_true,Bool.and_eq_true,decide_eq_true_eq,zah] at hF
  omega
 have hl:=h.len
 unfold zcy
 rw [wr_len1 (xs:=F.clauses) (by omega),wr_len1 (xs:=now) (by omega)]
 simp only [zcT]
 cases h1:s.kind == 1 with
 | true =>
  have hk:s.kind=1:=by simpa using h1
  have h3:(s.kind == 3)=false:=by rw [hk];rfl
  have hnx:nxt F now s=bif (puts F now s).2 && !now.contains (puts F now s).1 then (putC now (puts F now s).1,true) else ([],false):=by unfold nxt;rw [h3];rfl
  rw [hnx]
  have hpu:puts F now s=bif inB s.a 0 ((F.clauses.length:Int) - 1) && (s.b == 0 && s.pivot == 0) then ((F.clauses[s.a.toNat]?).getD [],true) else ([],false):=by unfold puts;rw [h1];rfl
  simp only [cond_true]
  cases g1:inB s.a 0 ((F.clauses.length:Int) - 1) with
  | false =>
   rw [hpu,g1]
   refine ⟨_,rfl,rfl,nofun⟩
  | true =>
   cases g2:(s.b == 0) && (s.pivot == 0) with
   | false =>
    rw [hpu,g1,g2]
    refine ⟨([],[],false),?_,rfl,nofun⟩
    revert g2
    cases s.b == 0 <;> cases s.pivot == 0 <;> intro g2 <;> first|rfl|cases g2
   | true =>
    rw [Bool.and_eq_true] at g2
    rw [g2.1,g2.2]
    have:=zaR.1 g1
    obtain ⟨c,c1,c2⟩:=ix_of (xs:=F.clauses) (i:=s.a) (by omega) (by omega)
    have hpu2:puts F now s=(c,true):=by rw [hpu,g1,g2.1,g2.2,c2];rfl
    have hcc:IsC F.vars c:=by have:=puts_isC hF h (s:=s) (by rw [hpu2]);rw [hpu2] at this;exact this
    simp only [Bool.not_true,cond_false,c1,zaa,zcW h hn hcc.small,at_ge,hpu2,Bool.true_and]
    cases hm:now.contains c with
    | true=>exact ⟨_,rfl,rfl,nofun⟩
    | false =>
     simp only [cond_false,zcX h hn hcc.small,zaa]
     exact ⟨_,rfl,rfl,fun _=>⟨rfl,fun _=>rfl⟩⟩
 | false =>
  simp only [cond_false]
  cases g1:inB s.a 0 ((now.length:Int) - 1) with
  | false =>
   refine ⟨_,rfl,?_⟩
   have:(nxt F now s)=([],false):=by
    unfold nxt gone puts
    rw [h1,g1]
    cases s.kind == 3 <;> cases s.kind == 2 <;> rfl
   rw [this]
   exact ⟨rfl,nofun⟩
  | true =>
   have b1:=zaR.1 g1
   simp only [Bool.not_true,cond_false]
   cases h3:s.kind == 3 with
   | true =>
    have hk:s.kind=3:=by simpa using h3
    simp only [cond_true]
    have e1:s.a=((s.a.toNat:Nat):Int):=by omega
    have w1:wr (s.a + 1)=((s.a.toNat + 1:Nat):Int):=by rw [wr_of _ (by omega) (by omega)];omega
    have c1:cut now 0 s.a=some (now.take s.a.toNat):=by
     have:=cut_ok (xs:=now) (a:=0) (b:=s.a.toNat) (Nat.zero_le _) (by omega)
     rw [← e1] at this;simpa using this
    have c2:cut now (wr (s.a + 1)) (len now)=some (now.drop (s.a.toNat + 1)):=by
     have:=cut_ok (xs:=now) (a:=s.a.toNat + 1) (b:=now.length) (by omega) (Nat.le_refl _)
     rw [List.take_length] at this;rw [w1];exact this
    have hlim:lim=4294967296:=rfl
    rw [c1,zaa,zaX (by simp;omega),zaa,List.nil_append,c2,zaa,zaX (by simp;omega),zaa]
    refine ⟨_,rfl,?_⟩
    unfold nxt gone
    rw [h3,g1,List.eraseIdx_eq_take_drop_succ]
    simp only [cond_true,Bool.true_and]
    cases hb:s.b == 0 <;> cases hp:s.pivot == 0 <;> refine ⟨rfl,fun ht=>?_⟩ <;> first|exact ⟨rfl,fun hk2=>absurd hk hk2⟩|cases ht
   | false =>
    simp only [cond_false]
    have hnx:nxt F now s=bif (puts F now s).2 && !now.contains (puts F now s).1 then (putC now (puts F now s).1,true) else ([],false):=by unfold nxt;rw [h3];rfl
    rw [hnx]
    cases h2:s.kind == 2 with
    | false =>
     have:puts F now s=([],false):=by unfold puts;rw [h1,h2];rfl
     rw [this]
     exact ⟨_,rfl,rfl,nofun⟩
    | true =>
     have hpu:puts F now s=bif inB s.a 0 ((now.length:Int) - 1) && (inB s.b 0 ((now.length:Int) - 1) && inB s.pivot 1 F.vars) then res ((now[s.a.toNat]?).getD []) ((now[s.b.toNat]?).getD []) s.pivot else ([],false):=by unfold puts;rw [h1,h2];rfl
     cases g2:inB s.b 0 ((now.length:Int) - 1) with
     | false=>rw [hpu,g1,g2];exact ⟨_,rfl,rfl,nofun⟩
     | true =>
      cases g3:inB s.pivot 1 F.vars with
      | false=>rw [hpu,g1,g2,g3];exact ⟨_,rfl,rfl,nofun⟩
      | true =>
       obtain ⟨x,x1,x2,cx⟩:=h.at g1
       obtain ⟨y,y1,y2,cy⟩:=h.at g2
       have lx:=cx.len;have ly:=cy.len
       have hlim:lim=4294967296:=rfl
       have hpu2:puts F now s=res x y s.pivot:=by rw [hpu,g1,g2,g3,x2,y2];rfl
       simp only [Bool.not_true,cond_false,x1,y1,zaa,zd4 (a:=x) (b:=y) (v:=s.pivot) (by omega),hpu2]
       cases hr:(res x y s.pivot).2 with
       | false=>exact ⟨_,rfl,rfl,nofun⟩
       | true =>
        have hcc:=zaY cx cy hr
        simp only [Bool.not_true,cond_false,zcW h hn hcc.small,zaa,at_ge,Bool.true_and]
        cases hm:now.contains (res x y s.pivot).1 with
        | true=>exact ⟨_,rfl,rfl,nofun⟩
        | false =>
         simp only [cond_false,zcX h hn hcc.small,zaa]
         exact ⟨_,rfl,rfl,fun _=>⟨rfl,fun _=>rfl⟩⟩
end Go.PF
namespace Go.PF
open Go.Pu
theorem impl_config_put_eq {F:Cnf} {now:List (List Int)} {n:Nat} {s:zab} (hF:cnfB F=true) (h:Cfg F.vars n now) (hn:n≤100000):zdo now F s=some (puts F now s):=by
  have hF60:F.clauses.length≤60:=by
    unfold cnfB at hF
    rw [Bool.and_eq_true,Bool.and_eq_true,decide_eq_true_eq,zah] at hF
    omega
  have hl:=h.len
  unfold zdo
  rw [wr_len1 (xs:=F.clauses) (by omega),wr_len1 (xs:=now) (by omega)]
  simp only [zbP,impl_isVar_eq,bif_ff]
  cases h1:s.kind == 1 with
  | true =>
    have h2 : (s.kind == 2) = false := by have:s.kind=1:=by simpa using h1
                                          rw [this];rfl
    have hpu:puts F now s=bif inB s.a 0 ((F.clauses.length:Int) - 1) && (s.b == 0 && s.pivot == 0) then ((F.clauses[s.a.toNat]?).getD [],true) else ([],false):=by unfold puts;rw [h1];rfl
    rw [hpu,h2]
    simp only [Bool.true_and,Bool.false_and,cond_false]
    rw [Bool.and_assoc]
    cases hg:inB s.a 0 ((F.clauses.length:Int) - 1) && ((s.b == 0) && (s.pivot == 0)) with
    | false=>rfl
    | true =>
      have hg1:=(Bool.and_eq_true _ _).mp hg
      have:=zaR.1 hg1.1
      obtain ⟨c,c1,c2⟩:=ix_of (xs:=F.clauses) (i:=s.a) (by omega) (by omega)
      simp only [cond_true,c1,zaa,c2,Option.getD_some]
  | false =>
    simp only [Bool.false_and,cond_false]
    have hpu:puts F now s=bif s.kind == 2 then bif inB s.a 0 ((now.length:Int) - 1) && (inB s.b 0 ((now.length:Int) - 1) && inB s.pivot 1 F.vars) then res ((now[s.a.toNat]?).getD []) ((now[s.b.toNat]?).getD []) s.pivot else ([],false) else ([],false):=by unfold puts;rw [h1];rfl
    rw [hpu]
    cases h2:s.kind == 2 with
    | false=>rfl
    | true =>
      simp only [Bool.true_and,cond_true]
      rw [Bool.and_assoc]
      cases hg:inB s.a 0 ((now.length:Int) - 1) && (inB s.b 0 ((now.length:Int) - 1) && inB s.pivot 1 F.vars) with
      | false=>rfl
      | true =>
        have hg1:=(Bool.and_eq_true _ _).mp hg
        have hg2:=(Bool.and_eq_true _ _).mp hg1.2
        obtain ⟨x,x1,x2,cx⟩:=h.at hg1.1
        obtain ⟨y,y1,y2,cy⟩:=h.at hg2.1
        simp only [cond_true,x1,y1,zaa,x2,y2,Option.getD_some,zes cx cy]
theorem zeS {F:Cnf} {now:List (List Int)} {n:Nat} {s:zab} (hF:cnfB F=true) (h:Cfg F.vars n now) (hn:n≤100000):zaV now F s=some (nxt F now s):=by
 have hl:=h.len
 unfold zaV nxt
 rw [wr_len1 (xs:=now) (by omega)]
 simp only [zbP]
 cases h3:s.kind == 3 with
 | true =>
  simp only [cond_true]
  have e:(bif (bif !inB s.a 0 ((now.length:Int) - 1) then true else !(s.b == 0)) then true else !(s.pivot == 0)) = !gone now s:=by
   unfold gone
   cases inB s.a 0 ((now.length:Int) - 1) <;> cases s.b == 0 <;> cases s.pivot == 0 <;> rfl
  rw [e]
  cases hg:gone now s with
  | false=>rfl
  | true =>
   simp only [Bool.not_true,cond_false,cond_true]
   unfold gone at hg
   have hg1:=(Bool.and_eq_true _ _).mp hg
   have:=zaR.1 hg1.1
   have hlim:lim=4294967296:=rfl
   have w1:wr (s.a + 1)=((s.a.toNat + 1:Nat):Int):=by rw [wr_of _ (by omega) (by omega)];omega
   unfold zdO zdN zeb
   rw [zaX (by simp;omega),zaa,List.nil_append,zaa,w1]
   unfold delL
   rw [if_pos (by omega),zaa,zaa,List.eraseIdx_eq_take_drop_succ]
   rfl
 | false =>
  simp only [cond_false]
  rw [impl_config_put_eq hF h hn,zaa]
  cases hp:(puts F now s).2 with
  | false=>rfl
  | true =>
   simp only [Bool.not_true,cond_false,Bool.true_and]
   rw [zeR h hn,zaa]
   cases now.contains (puts F now s).1 <;> rfl
theorem eq_SpaceStep (a:zab):zch a a=true:=by unfold zch;simp
theorem eq_SpaceStepS (a:List zab):zcM a a=some true :=
 eq_list (eq:=fun x y=>some (zch x y)) (fun _ _ _=>rfl) (fun y _=>by rw [eq_SpaceStep])
theorem tot_four {A:Type} (l:List A):tot (fun _=>4) l=4 * l.length:=by induction l with
 | nil=>rfl
 | cons _ l ih=>simp [tot,ih];omega
theorem mark_SpaceStepS {a:List zab} {k:Int} (h0:0≤k) (h1:k + 4 * a.length≤9223372036854775807):(zaW a k).2=k + 4 * a.length:=by
 have:=mark_end (F:=fun (_:zab) m=>(zab.mk m (wr (m + 1)) (wr ((wr (m + 1)) + 1)) (wr ((wr ((wr (m + 1)) + 1)) + 1)),wr ((wr ((wr ((wr (m + 1)) + 1)) + 1)) + 1))) (wt:=fun _=>4) (l:=a) (k:=k) (fun y _ k h0 h1=>by
  have a1:wr (k + 1)=k + 1:=wr_of _ (by omega) (by omega)
  have a2:wr (k + 1 + 1)=k + 2:=by rw [wr_of _ (by omega) (by omega)];omega
  have a3:wr (k + 2 + 1)=k + 3:=by rw [wr_of _ (by omega) (by omega)];omega
  have a4:wr (k + 3 + 1)=k + 4:=by rw [wr_of _ (by omega) (by omega)];omega
  simp only [a1,a2,a3,a4];rfl) h0 (by rw [tot_four];omega)
 rw [tot_four] at this
 unfold zaW
 rw [this];omega
end Go.PF
namespace Go.Pu
theorem wrk_nat {n:Nat} (h:n < 9223372036854775808):wrk true 64 (n:Int)=(n:Int):=by
 unfold wrk
 have h1:((n:Int) % (2 ^ 64:Int))=(n:Int):=Int.emod_eq_of_lt (by omega) (by omega)
 rw [h1]
 simp only [Bool.true_and]
 rw [if_neg]
 simp
 omega
theorem zbj {w n:Nat}:BitVec.ofInt w (n:Int)=BitVec.ofNat w n:=by
 apply BitVec.eq_of_toNat_eq
 simp
theorem zb3 {a b:Nat} (ha:a < 9223372036854775808) (hb:b < 9223372036854775808):andK true 64 (a:Int) (b:Int)=((a &&& b:Nat):Int):=by
 unfold andK
 rw [zbj,zbj,BitVec.toNat_and,BitVec.toNat_ofNat,BitVec.toNat_ofNat,Nat.mod_eq_of_lt (by omega),Nat.mod_eq_of_lt (by omega)]
 exact wrk_nat (Nat.lt_of_le_of_lt Nat.and_le_left ha)
theorem xorK_nat {a b k:Nat} (ha:a < 2 ^ k) (hb:b < 2 ^ k) (hk:k≤62):xorK true 64 (a:Int) (b:Int)=((a ^^^ b:Nat):Int)∧a ^^^ b < 2 ^ k:=by
 have h:=Nat.xor_lt_two_pow ha hb
 have hp:2 ^ k≤2 ^ 62:=Nat.pow_le_pow_right (by omega) hk
 refine ⟨?_,h⟩
 unfold xorK
 rw [zbj,zbj,BitVec.toNat_xor,BitVec.toNat_ofNat,BitVec.toNat_ofNat,Nat.mod_eq_of_lt (by omega),Nat.mod_eq_of_lt (by omega)]
 exact wrk_nat (by omega)
theorem orK_natK {a b k:Nat} (ha:a < 2 ^ k) (hb:b < 2 ^ k) (hk:k≤62):orK true 64 (a:Int) (b:Int)=((a ||| b:Nat):Int)∧a ||| b < 2 ^ k:=by
 have h:=Nat.or_lt_two_pow ha hb
 have hp:2 ^ k≤2 ^ 62:=Nat.pow_le_pow_right (by omega) hk
 refine ⟨?_,h⟩
 unfold orK
 rw [zbj,zbj,BitVec.toNat_or,BitVec.toNat_ofNat,BitVec.toNat_ofNat,Nat.mod_eq_of_lt (by omega),Nat.mod_eq_of_lt (by omega)]
 exact wrk_nat (by omega)
theorem zcq {k:Nat} (hk:k≤62):shlK true 64 1 (k:Int)=((2 ^ k:Nat):Int):=by
 unfold shlK
 have h1:min ((k:Int)).toNat 64=k:=by simp;omega
 rw [h1]
 have hp:2 ^ k≤2 ^ 62:=Nat.pow_le_pow_right (by omega) hk
 have:=wrk_nat (n:=2 ^ k) (by omega)
 simpa using this
theorem zb4 {n k:Nat} (hk:k≤63):shrK 64 (n:Int) (k:Int)=((n >>> k:Nat):Int):=by
 unfold shrK
 have h1:min ((k:Int)).toNat 64=k:=by simp;omega
 rw [h1,Nat.shiftRight_eq_div_pow]
 rw [Int.fdiv_eq_ediv_of_nonneg _ (Int.le_of_lt (Int.pow_pos (by omega)))]
 simp
theorem bit_nat {n k:Nat} (hn:n < 9223372036854775808) (hk:k≤63):(andK true 64 (shrK 64 (n:Int) (k:Int)) 1 == 1)=n.testBit k:=by
 rw [zb4 hk]
 have h1:n >>> k < 9223372036854775808:=Nat.lt_of_le_of_lt (Nat.shiftRight_le n k) hn
 have:=zb3 h1 (show 1 < 9223372036854775808 by omega)
 rw [show (1:Int)=((1:Nat):Int) from rfl,this]
 unfold Nat.testBit
 rw [Nat.and_comm]
 have hb:1 &&& n >>> k=0∨1 &&& n >>> k=1:=by
  have:1 &&& n >>> k≤1:=Nat.and_le_left
  omega
 rcases hb with h|h <;> rw [h] <;> rfl
end Go.Pu
namespace Go.PF
open Go.Pu
theorem iter_m {S X B:Type} {body:S→Option (Lp S X)} {s0:S} {k:S→Option B} {lx:X→Option B} {R:B→Prop} (I:S→Prop) (m:S→Nat) (h0:I s0)
 (h:∀ s,I s→(∃ s',body s=some (.nx s')∧I s'∧m s' < m s)∨(∃ s',body s=some (.bk s')∧∃ r,k s'=some r∧R r)∨(∃ x,body s=some (.rt x)∧∃ r,lx x=some r∧R r)) :
 ∃ r,bdR (iter body s0) k lx=some r∧R r:=by
 have key:∀ (n:Nat) (s:S),m s≤n→I s→∃ r,bdR (iter body s) k lx=some r∧R r:=by
  intro n
  induction n with
  | zero =>
   intro s hm hI
   rcases h s hI with ⟨s',_,_,h3⟩|⟨s',h1,h2⟩|⟨x,h1,h2⟩
   · omega
   · rw [zaP h1,za3];exact h2
   · rw [iter_rt h1,bdR_rt];exact h2
  | succ n ih =>
   intro s hm hI
   rcases h s hI with ⟨s',h1,h2,h3⟩|⟨s',h1,h2⟩|⟨x,h1,h2⟩
   · rw [zbq h1];exact ih s' (by omega) h2
   · rw [zaP h1,za3];exact h2
   · rw [iter_rt h1,bdR_rt];exact h2
 exact key _ s0 (Nat.le_refl _) h0
theorem zaA {σ α X B:Type} {xs:List α} {body:Nat→α→σ→Option (Lp σ X)} {k:σ→Option B} {lx:X→Option B} {R:B→Prop} (I:Nat→σ→Prop) {s0:σ} (h0:I 0 s0)
 (h:∀ (i:Nat) x s,xs[i]?=some x→I i s→(∃ s',body i x s=some (.nx s')∧I (i + 1) s')∨(∃ y,body i x s=some (.rt y)∧∃ r,lx y=some r∧R r))
 (hk:∀ s,I xs.length s→∃ r,k s=some r∧R r):∃ r,bdR (forL xs body s0) k lx=some r∧R r:=by
 have key:∀ (m:List α) (j:Nat) (s:σ),j + m.length=xs.length→(∀ i y,m[i]?=some y→xs[j + i]?=some y)→I j s→∃ r,bdR (zas body m j s) k lx=some r∧R r:=by
  intro m
  induction m with
  | nil =>
   intro j s hj _ hI
   simp only [List.length_nil,Nat.add_zero] at hj
   subst hj
   rw [zd0,za3]
   exact hk s hI
  | cons y m ih =>
   intro j s hj hm hI
   rcases h j y s (by have:=hm 0 y rfl;simpa using this) hI with ⟨s',h1,h2⟩|⟨x,h1,h2⟩
   · rw [zcR h1]
     exact ih (j + 1) s' (by simp at hj;omega) (fun i z hz=>by have:=hm (i + 1) z (by simpa using hz);rwa [show j + (i + 1)=j + 1 + i by omega] at this) h2
   · rw [show zas body (y::m) j s=some (.rt x) by unfold zas;rw [h1],bdR_rt]
     exact h2
 exact key xs 0 s0 (by simp) (by simp) h0
theorem cnt_m {σ T X B:Type} (mk:σ→Int→T) {n:Nat} {body:T→Option (Lp T X)} {a:Nat} {t0:T} {k:T→Option B} {lx:X→Option B} {R:B→Prop} (I:Nat→σ→Prop) {s0:σ} (ht:t0=mk s0 (a:Int)) (ha:a≤n) (h0:I a s0)
 (h:∀ (i:Nat) s,a≤i→i < n→I i s→(∃ s',body (mk s (i:Int))=some (.nx (mk s' ((i + 1:Nat):Int)))∧I (i + 1) s')∨(∃ y,body (mk s (i:Int))=some (.rt y)∧∃ r,lx y=some r∧R r))
 (he:∀ s,I n s→body (mk s (n:Int))=some (.bk (mk s (n:Int)))) (hk:∀ s,I n s→∃ r,k (mk s (n:Int))=some r∧R r):∃ r,bdR (iter body t0) k lx=some r∧R r:=by
 subst ht
 have key:∀ (d i:Nat) (s:σ),a≤i→i + d=n→I i s→∃ r,bdR (iter body (mk s (i:Int))) k lx=some r∧R r:=by
  intro d
  induction d with
  | zero =>
   intro i s hi hd hI
   have e:i=n:=by omega
   subst e
   rw [zaP (he s hI),za3]
   exact hk s hI
  | succ d ih =>
   intro i s hi hd hI
   rcases h i s hi (by omega) hI with ⟨s',h1,h2⟩|⟨x,h1,h2⟩
   · rw [zbq h1];exact ih (i + 1) s' (by omega) (by omega) h2
   · rw [iter_rt h1,bdR_rt];exact h2
 exact key (n - a) a s0 (Nat.le_refl _) (by omega) h0
theorem bd_ex {A B:Type} {x:Option A} {k:A→Option B} {Q:A→Prop} {R:B→Prop} (h:∃ r,x=some r∧Q r) (hk:∀ r,Q r→∃ q,k r=some q∧R q):∃ q,bd x k=some q∧R q:=by
 obtain ⟨r,e,q⟩:=h
 rw [e,zaa]
 exact hk r q
theorem wr_s {n:Int} (h0:-1000000000≤n) (h1:n≤1000000000):wr n=n:=wr_of n (by omega) (by omega)
end Go.PF
namespace Go.PF
open Go.Pu
theorem wrk16 (n:Nat) (h:n < 65536):wrk false 16 (n:Int)=(n:Int):=by
 unfold wrk
 have:((n:Int) % (2 ^ 16:Int))=(n:Int):=Int.emod_eq_of_lt (by omega) (by omega)
 rw [this]
 simp
theorem ofInt16 {n:Nat}:BitVec.ofInt 16 (n:Int)=BitVec.ofNat 16 n:=by
 apply BitVec.eq_of_toNat_eq
 simp
theorem and16 {a b:Nat} (ha:a < 65536) (hb:b < 65536):andK false 16 (a:Int) (b:Int)=((a &&& b:Nat):Int):=by
 unfold andK
 rw [ofInt16,ofInt16,BitVec.toNat_and,BitVec.toNat_ofNat,BitVec.toNat_ofNat,Nat.mod_eq_of_lt (by omega),Nat.mod_eq_of_lt (by omega)]
 exact wrk16 _ (Nat.lt_of_le_of_lt Nat.and_le_left ha)
theorem or16 {a b:Nat} (ha:a < 65536) (hb:b < 65536):orK false 16 (a:Int) (b:Int)=((a ||| b:Nat):Int):=by
 unfold orK
 rw [ofInt16,ofInt16,BitVec.toNat_or,BitVec.toNat_ofNat,BitVec.toNat_ofNat,Nat.mod_eq_of_lt (by omega),Nat.mod_eq_of_lt (by omega)]
 exact wrk16 _ (Nat.or_lt_two_pow (n:=16) ha hb)
def minusN (a b:Nat):Nat:=a ^^^ (a &&& b)
theorem minus_bit (a b j:Nat):(minusN a b).testBit j=(a.testBit j && !b.testBit j):=by
 unfold minusN
 rw [Nat.testBit_xor,Nat.testBit_and]
 cases a.testBit j <;> cases b.testBit j <;> rfl
theorem an16 {a b:Nat} (ha:a < 65536) (hb:b < 65536):anK false 16 (a:Int) (b:Int)=((minusN a b:Nat):Int):=by
 unfold anK
 have e:(BitVec.ofInt 16 (a:Int) &&& ~~~BitVec.ofInt 16 (b:Int)).toNat=minusN a b:=by
  rw [ofInt16,ofInt16]
  apply Nat.eq_of_testBit_eq
  intro j
  rw [minus_bit,BitVec.testBit_toNat,BitVec.getLsbD_and,BitVec.getLsbD_not,BitVec.getLsbD_ofNat,BitVec.getLsbD_ofNat]
  by_cases hj:j < 16
  · simp [hj]
  · have:a.testBit j=false:=Nat.testBit_lt_two_pow (Nat.lt_of_lt_of_le ha (Nat.pow_le_pow_right (n:=2) (i:=16) (by omega) (by omega)))
    simp [hj,this]
 rw [e]
 exact wrk16 _ (Nat.xor_lt_two_pow (n:=16) ha (Nat.lt_of_le_of_lt Nat.and_le_left ha))
theorem shl16 {a k:Nat} (hk:k≤16) (h:a <<< k < 65536):shlK false 16 (a:Int) (k:Int)=((a <<< k:Nat):Int):=by
 unfold shlK
 have h1:min ((k:Int)).toNat 16=k:=by simp;omega
 rw [h1]
 rw [← wrk16 _ h,Nat.shiftLeft_eq]
 simp
theorem shr16 {n k:Nat} (hk:k≤16):shrK 16 (n:Int) (k:Int)=((n >>> k:Nat):Int):=by
 unfold shrK
 have h1:min ((k:Int)).toNat 16=k:=by simp;omega
 rw [h1,Nat.shiftRight_eq_div_pow]
 rw [Int.fdiv_eq_ediv_of_nonneg _ (Int.le_of_lt (Int.pow_pos (by omega)))]
 simp
theorem bit_hi {n j k:Nat} (h:n < 2 ^ k) (hj:k≤j):n.testBit j=false:=Nat.testBit_lt_two_pow (Nat.lt_of_lt_of_le h (Nat.pow_le_pow_right (by omega) hj))
def swapN (y:Nat):Nat:=((y &&& 63) <<< 6) ||| (y >>> 6)
def bothN (x y:Nat):Nat:=((x &&& swapN y) ||| ((x &&& swapN y) >>> 6)) &&& 63
theorem and63 (y:Nat):y &&& 63 < 64:=Nat.lt_of_le_of_lt Nat.and_le_right (by omega)
theorem swap_lt {y:Nat} (hy:y < 4096):swapN y < 4096:=by
 unfold swapN
 apply Nat.or_lt_two_pow (n:=12)
 · have:=and63 y
   rw [Nat.shiftLeft_eq];omega
 · exact Nat.lt_of_le_of_lt (Nat.shiftRight_le y 6) hy
theorem swapped_eq {y:Nat} (hy:y < 4096):zbm (y:Int)=(swapN y:Int):=by
 unfold zbm swapN
 have h1:=and63 y
 have h2:(y &&& 63) <<< 6 < 65536:=by rw [Nat.shiftLeft_eq];omega
 have h3:y >>> 6≤y:=Nat.shiftRight_le y 6
 rw [show (63:Int)=((63:Nat):Int) from rfl,show (6:Int)=((6:Nat):Int) from rfl,and16 (by omega) (by omega),shl16 (by omega) h2,shr16 (by omega),or16 h2 (by omega)]
theorem both_lt (x y:Nat):bothN x y < 64:=and63 _
theorem bothOf_eq {x y:Nat} (hx:x < 4096) (hy:y < 4096):zaj (x:Int) (y:Int)=(bothN x y:Int):=by
 unfold zaj bothN
 have h0:=swap_lt hy
 have h1:x &&& swapN y < 4096:=Nat.lt_of_le_of_lt Nat.and_le_left hx
 have h2:(x &&& swapN y) >>> 6≤x &&& swapN y:=Nat.shiftRight_le _ 6
 have h3:(x &&& swapN y) ||| ((x &&& swapN y) >>> 6) < 4096:=Nat.or_lt_two_pow (n:=12) h1 (by omega)
 rw [swapped_eq hy,and16 (by omega) (by omega),show (63:Int)=((63:Nat):Int) from rfl,show (6:Int)=((6:Nat):Int) from rfl,shr16 (by omega),or16 (by omega) (by omega),and16 (by omega) (by omega)]
theorem bit63 (j:Nat):(63:Nat).testBit j=decide (j < 6):=Nat.testBit_two_pow_sub_one 6 j
theorem swap_bit {y:Nat} (hy:y < 4096) (j:Nat):(swapN y).testBit j=(bif decide (j < 6) then y.testBit (j + 6) else y.testBit (j - 6) && decide (j < 12)):=by
 unfold swapN
 rw [Nat.testBit_or,Nat.testBit_shiftLeft,Nat.testBit_and,bit63,Nat.testBit_shiftRight,Nat.add_comm 6 j]
 by_cases h:j < 6
 · have:¬ j ≥ 6:=by omega
   simp [h,this]
 · have h1:y.testBit (j + 6)=false:=bit_hi (k:=12) hy (by omega)
   have h2:j ≥ 6:=by omega
   by_cases h3:j < 12
   · have:j - 6 < 6:=by omega
     simp [h,h1,h2,h3,this]
   · have:¬ j - 6 < 6:=by omega
     simp [h,h1,h2,h3,this]
theorem both_bit {x y:Nat} (hx:x < 4096) (hy:y < 4096) {k:Nat} (hk:k < 6):(bothN x y).testBit k=(x.testBit k && y.testBit (k + 6) || x.testBit (k + 6) && y.testBit k):=by
 unfold bothN
 rw [Nat.testBit_and,bit63,Nat.testBit_or,Nat.testBit_shiftRight,Nat.testBit_and,Nat.testBit_and,swap_bit hy,swap_bit hy,Nat.add_comm 6 k]
 have h1:¬ k + 6 < 6:=by omega
 have h2:k + 6 - 6=k:=by omega
 have h3:k + 6 < 12:=by omega
 simp [hk,h1,h2,h3]
theorem one_tab:∀ m < 64,zcb ((m:Nat):Int)=(List.range 6).any fun k=>m == 2 ^ k:=by decide +kernel
theorem one_iff {m:Nat} (hm:m < 64):zcb (m:Int)=true↔∃ k,k < 6∧m=2 ^ k:=by
 rw [one_tab m hm,List.any_eq_true]
 constructor
 · rintro ⟨k,h1,h2⟩;exact ⟨k,List.mem_range.1 h1,by simpa using h2⟩
 · rintro ⟨k,h1,h2⟩;exact ⟨k,List.mem_range.2 h1,by simpa using h2⟩
def bi (l:Int):Nat:=if 0 < l then (l - 1).toNat else (5 - l).toNat
def mkN (c:List Int):Nat:=c.foldl (fun s l=>s ||| 2 ^ bi l) 0
theorem bi_inj {l k:Int} (h1:-6≤l) (h2:l≤6) (h3:l≠0) (h4:-6≤k) (h5:k≤6) (h6:k≠0):bi l=bi k↔l=k:=by
 unfold bi
 split <;> split <;> omega
theorem bi_lt {l:Int} (h1:-6≤l) (h2:l≤6) (h3:l≠0):bi l < 12:=by
 unfold bi
 split <;> omega
theorem mkN_fold (c:List Int):∀ (s j:Nat),(c.foldl (fun s l=>s ||| 2 ^ bi l) s).testBit j=(s.testBit j || c.any fun l=>bi l == j):=by
 induction c with
 | nil=>intro s j;simp
 | cons l c ih =>
  intro s j
  rw [List.foldl_cons,ih,Nat.testBit_or,Nat.testBit_two_pow,List.any_cons,Bool.or_assoc]
  congr 1
theorem mkN_bit (c:List Int) (j:Nat):(mkN c).testBit j=c.any fun l=>bi l == j:=by
 unfold mkN
 rw [mkN_fold];simp
structure IsS (V:Int) (c:List Int):Prop where
 c:IsC V c
 le:V≤6
theorem IsS.lit {V:Int} {c:List Int} (h:IsS V c):∀ l∈c,-6≤l∧l≤6∧l≠0:=by
 intro l hl
 have:=h.c.lit l hl
 have:=h.le
 omega
theorem zaZ {V:Int} {c:List Int} (h:IsS V c) {l:Int} (h1:-6≤l) (h2:l≤6) (h3:l≠0):(mkN c).testBit (bi l)=true↔l∈c:=by
 rw [mkN_bit,List.any_eq_true]
 constructor
 · rintro ⟨k,hk,e⟩
   obtain ⟨a,b,d⟩:=h.lit k hk
   have:=(bi_inj a b d h1 h2 h3).1 (by simpa using e)
   exact this ▸ hk
 · intro hl;exact ⟨l,hl,by simp⟩
theorem zaC {V:Int} {c:List Int} (h:IsS V c):mkN c < 4096:=by
 apply Nat.lt_pow_two_of_testBit (n:=12)
 intro j hj
 rw [mkN_bit,Bool.eq_false_iff]
 intro e
 rw [List.any_eq_true] at e
 obtain ⟨l,hl,e⟩:=e
 obtain ⟨a,b,d⟩:=h.lit l hl
 have:=bi_lt a b d
 have:bi l=j:=by simpa using e
 omega
theorem zbA {V:Int} {a b:List Int} (ha:IsS V a) (hb:IsS V b) (h:mkN a=mkN b):a=b:=by
 apply srt_unique ha.c.srt hb.c.srt
 intro x
 constructor
 · intro hx
   obtain ⟨p,q,r⟩:=ha.lit x hx
   exact (zaZ hb p q r).1 (h ▸ (zaZ ha p q r).2 hx)
 · intro hx
   obtain ⟨p,q,r⟩:=hb.lit x hx
   exact (zaZ ha p q r).1 (h ▸ (zaZ hb p q r).2 hx)
theorem maskOf_eq {V:Int} {c:List Int} (h:IsS V c):zcz c=some (mkN c:Int):=by
 have main:∃ r,zcz c=some r∧r=(mkN c:Int):=by
  unfold zcz
  refine zaA (I:=fun i s=>s=((mkN (c.take i):Nat):Int)) rfl ?_ (fun s hs=>⟨s,rfl,by rw [List.take_length] at hs;exact hs⟩)
  intro i y s hy hs
  obtain ⟨a,b,d⟩:=h.lit y (List.mem_of_getElem? hy)
  have hlt:mkN (c.take i) < 65536:=by
   have:mkN (c.take i) < 4096:=by
    apply Nat.lt_pow_two_of_testBit (n:=12)
    intro j hj
    rw [mkN_bit,Bool.eq_false_iff]
    intro e
    rw [List.any_eq_true] at e
    obtain ⟨l,hl,e⟩:=e
    obtain ⟨a,b,d⟩:=h.lit l (List.mem_of_mem_take hl)
    have:=bi_lt a b d
    have:bi l=j:=by simpa using e
    omega
   omega
  have hb:=bi_lt a b d
  have hsh:1 <<< bi y < 65536:=by
   rw [Nat.one_shiftLeft]
   exact Nat.lt_of_le_of_lt (Nat.pow_le_pow_right (n:=2) (by omega) (show bi y≤11 by omega)) (by omega)
  have hm:mkN (c.take (i + 1))=mkN (c.take i) ||| 1 <<< bi y:=by
   rw [List.take_add_one,hy,Nat.one_shiftLeft]
   unfold mkN
   rw [List.foldl_append];rfl
  refine .inl ⟨_,?_,rfl⟩
  rw [hm,hs]
  by_cases hp:0 < y
  · rw [decide_eq_true hp,cond_true,wr_s (by omega) (by omega)]
    have e:y - 1=((bi y:Nat):Int):=by unfold bi;rw [if_pos hp];omega
    rw [e]
    have:nn ((bi y:Nat):Int)=some ():=by unfold nn;rw [if_neg (by omega)]
    rw [this,zaa,show (1:Int)=((1:Nat):Int) from rfl,shl16 (by omega) hsh,or16 hlt hsh]
  · rw [decide_eq_false hp,cond_false,wr_s (n:=6 - y) (by omega) (by omega),wr_s (by omega) (by omega)]
    have e:6 - y - 1=((bi y:Nat):Int):=by unfold bi;rw [if_neg hp];omega
    rw [e]
    have:nn ((bi y:Nat):Int)=some ():=by unfold nn;rw [if_neg (by omega)]
    rw [this,zaa,show (1:Int)=((1:Nat):Int) from rfl,shl16 (by omega) hsh,or16 hlt hsh]
 obtain ⟨r,e,hr⟩:=main
 rw [e,hr]
def litsM (m:Nat):List Int:=[1,-1,2,-2,3,-3,4,-4,5,-5,6,-6].filter fun l=>m.testBit (bi l)
theorem litsM_mk {V:Int} {c:List Int} (h:IsS V c):litsM (mkN c)=c:=by
 have hm:∀ x,x∈litsM (mkN c)↔x∈c:=by
  intro x
  unfold litsM
  rw [List.mem_filter]
  constructor
  · rintro ⟨h1,h2⟩
    have:-6≤x∧x≤6∧x≠0:=by
     simp only [List.mem_cons,List.not_mem_nil,or_false] at h1
     omega
    exact (zaZ h this.1 this.2.1 this.2.2).1 h2
  · intro hx
    obtain ⟨a,b,d⟩:=h.lit x hx
    refine ⟨?_,(zaZ h a b d).2 hx⟩
    simp only [List.mem_cons,List.not_mem_nil,or_false]
    omega
 refine srt_unique ?_ h.c.srt hm
 have hd:(litsM (mkN c)).Pairwise fun a b=>a.natAbs < b.natAbs∨a=-b:=by
  unfold litsM
  apply List.Pairwise.filter
  decide
 have hs:(litsM (mkN c)).Pairwise fun a b=>a∈c∧b∈c:=by
  apply List.pairwise_of_forall_mem_list
  intro a ha b hb
  exact ⟨(hm a).1 ha,(hm b).1 hb⟩
 refine (hd.and hs).imp ?_
 rintro a b ⟨h1|h1,h2,h3⟩
 · exact h1
 · exfalso
   have:=srt_one h.c h2 h3 (by omega)
   have:=(h.lit b h3).2.2
   omega
theorem bit16 {m k:Nat} (hm:m < 65536) (hk:k≤16):(andK false 16 (shrK 16 (m:Int) (k:Int)) 1 == 1)=m.testBit k:=by
 rw [shr16 hk,show (1:Int)=((1:Nat):Int) from rfl,and16 (Nat.lt_of_le_of_lt (Nat.shiftRight_le m k) hm) (by omega)]
 unfold Nat.testBit
 rw [Nat.and_comm]
 have hb:1 &&& m >>> k=0∨1 &&& m >>> k=1:=by
  have:1 &&& m >>> k≤1:=Nat.and_le_left
  omega
 rcases hb with h|h <;> rw [h] <;> rfl
end Go.PF
namespace Go.PF
open Go.Pu
def lits0 (i:Nat):List Int:=(List.range' 1 (i - 1)).flatMap fun (k:Nat)=>[(k:Int),-(k:Int)]
theorem lits0_7:lits0 7=[1,-1,2,-2,3,-3,4,-4,5,-5,6,-6]:=by decide
theorem lits0_s {i:Nat} (h:1≤i):lits0 (i + 1)=lits0 i++[(i:Int),-(i:Int)]:=by
 unfold lits0
 rw [show i + 1 - 1=(i - 1) + 1 by omega,List.range'_1_concat,List.flatMap_append,show 1 + (i - 1)=i by omega]
 simp
theorem mask_clause_eq {m:Nat} (hm:m < 65536):zcc (m:Int)=some (litsM m):=by
 have main:∃ r,zcc (m:Int)=some r∧r=litsM m:=by
  unfold zcc
  refine cnt_m (σ:=List Int) (fun s i=>(s,i)) (n:=7) (a:=1) (I:=fun i s=>s=(lits0 i).filter fun l=>m.testBit (bi l)) rfl (by omega) rfl ?_ ?_ ?_
  · intro i s h1 h2 hs
    have e1:wr ((i:Int) - 1)=((i - 1:Nat):Int):=by rw [wr_s (by omega) (by omega)];omega
    have e2:wr (wr (6 + (i:Int)) - 1)=((5 + i:Nat):Int):=by rw [wr_s (n:=6 + (i:Int)) (by omega) (by omega),wr_s (by omega) (by omega)];omega
    have e3:wr (-(i:Int))=-(i:Int):=wr_s (by omega) (by omega)
    have e4:wr ((i:Int) + 1)=((i + 1:Nat):Int):=by rw [wr_s (by omega) (by omega)];omega
    have n1:∀ k:Nat,nn (k:Int)=some ():=fun k=>by unfold nn;rw [if_neg (by omega)]
    have b1:bi (i:Int)=i - 1:=by unfold bi;rw [if_pos (by omega)];omega
    have b2:bi (-(i:Int))=5 + i:=by unfold bi;rw [if_neg (by omega)];omega
    have hlen:(lits0 i).length≤12:=by
     have:i=1∨i=2∨i=3∨i=4∨i=5∨i=6:=by omega
     rcases this with rfl|rfl|rfl|rfl|rfl|rfl <;> decide
    have hl:s.length≤12:=by rw [hs];exact Nat.le_trans (List.length_filter_le _ _) hlen
    have ha:∀ x:Int,app s [x]=some (s++[x]):=fun x=>by unfold app;rw [if_pos (by simp [lim];omega)]
    have ha2:∀ x y:Int,app (s++[x]) [y]=some (s++[x]++[y]):=fun x y=>by unfold app;rw [if_pos (by simp [lim];omega)]
    refine .inl ⟨(lits0 (i + 1)).filter fun l=>m.testBit (bi l),?_,rfl⟩
    rw [lits0_s h1,List.filter_append,← hs]
    simp only [e1,e2,e3,e4,n1,zaa,bit16 hm (show i - 1≤16 by omega),bit16 hm (show 5 + i≤16 by omega),ha,ha2]
    rw [decide_eq_true (by omega),cond_true]
    rw [List.filter_cons,List.filter_cons,b1,b2]
    cases m.testBit (i - 1) <;> cases m.testBit (5 + i) <;> simp
  · intro s hs
    simp
  · intro s hs
    refine ⟨s,rfl,?_⟩
    rw [hs]
    unfold litsM
    rw [lits0_7]
 obtain ⟨r,e,hr⟩:=main
 rw [e,hr]
def zd8 (a0:Int):Option Int :=
 bdR (iterC (S:=(Int×Int)) (X:=Empty) 14 (fun s21=>(bif (!(s21.1 == 0)) then some (Lp.nx ((andK false 16 s21.1 (wrk false 16 (s21.1 - 1))),(wr (s21.2 + 1)))) else some (Lp.bk (s21.1,s21.2)))) (a0,0)) (fun s21=>some s21.2) (fun x21=>nomatch x21)
theorem count_le (a:Int):Le (zd8 a) (zbX a):=by
 unfold zd8 zbX
 exact bdR_le (iterC_le (fun s=>Le.rfl' _) _ _) (fun _=>Le.rfl' _) (fun x=>nomatch x)
theorem count_tab:(List.range 4096).all (fun m=>zd8 (m:Int) == some ((litsM m).length:Int))=true:=by decide +kernel
theorem mask_count_eq {m:Nat} (hm:m < 4096):zbX (m:Int)=some ((litsM m).length:Int):=by
 have:=List.all_eq_true.1 count_tab m (List.mem_range.2 hm)
 exact (count_le _).le _ (by simpa using this)
theorem count_mk {V:Int} {c:List Int} (h:IsS V c):zbX (mkN c:Int)=some (len c):=by
 rw [mask_count_eq (zaC h),litsM_mk h];rfl
theorem clause_mk {V:Int} {c:List Int} (h:IsS V c):zcc (mkN c:Int)=some c:=by
 rw [mask_clause_eq (by have:=zaC h;omega),litsM_mk h]
theorem za0 {v:Int} (h1:1≤v):bi v=(v - 1).toNat:=by unfold bi;rw [if_pos (by omega)]
theorem bi_neg {v:Int} (h1:1≤v):bi (-v)=(v - 1).toNat + 6:=by unfold bi;rw [if_neg (by omega)];omega
theorem both_mem {V:Int} {a b:List Int} (ha:IsS V a) (hb:IsS V b) {v:Int} (h1:1≤v) (h2:v≤6):(bothN (mkN a) (mkN b)).testBit (bi v)=true↔(v∈a∧-v∈b)∨(-v∈a∧v∈b):=by
 have hk:bi v < 6:=by rw [za0 h1];omega
 have e:bi v + 6=bi (-v):=by rw [za0 h1,bi_neg h1]
 rw [both_bit (zaC ha) (zaC hb) hk,e,Bool.or_eq_true,Bool.and_eq_true,Bool.and_eq_true,zaZ ha (by omega) (by omega) (by omega),zaZ hb (by omega) (by omega) (by omega),zaZ ha (by omega) (by omega) (by omega),zaZ hb (by omega) (by omega) (by omega)]
theorem both_comm {V:Int} {a b:List Int} (ha:IsS V a) (hb:IsS V b):bothN (mkN a) (mkN b)=bothN (mkN b) (mkN a):=by
 apply Nat.eq_of_testBit_eq
 intro j
 by_cases hj:j < 6
 · rw [both_bit (zaC ha) (zaC hb) hj,both_bit (zaC hb) (zaC ha) hj]
   cases (mkN a).testBit j <;> cases (mkN b).testBit j <;> cases (mkN a).testBit (j + 6) <;> cases (mkN b).testBit (j + 6) <;> rfl
 · rw [bit_hi (k:=6) (both_lt _ _) (by omega),bit_hi (k:=6) (both_lt _ _) (by omega)]
theorem zcr {V:Int} {a b:List Int} (ha:IsS V a) (hb:IsS V b) {v:Int} (h1:1≤v) (h2:v≤V):(res a b v).2=true↔v∈a∧bothN (mkN a) (mkN b)=2 ^ bi v:=by
 have hV:=ha.le
 rw [(res_iff ha.c hb.c h1 h2).1]
 constructor
 · rintro ⟨m1,m2,m3⟩
   refine ⟨m1,Nat.eq_of_testBit_eq fun j=>?_⟩
   rw [Nat.testBit_two_pow]
   by_cases hj:j < 6
   · have e:j=bi ((j:Int) + 1):=by rw [za0 (by omega)];omega
     rw [Bool.eq_iff_iff,decide_eq_true_iff]
     rw [show (bothN (mkN a) (mkN b)).testBit j=(bothN (mkN a) (mkN b)).testBit (bi ((j:Int) + 1)) by rw [← e],both_mem ha hb (by omega) (by omega)]
     constructor
     · rintro (⟨p,q⟩|⟨p,q⟩)
       · have:=m3 _ p q
         rw [e,← this]
       · have:=m3 _ p (by simpa using q)
         omega
     · intro g
       have:v=(j:Int) + 1:=by rw [za0 h1] at g;omega
       rw [← this]
       exact .inl ⟨m1,m2⟩
   · rw [bit_hi (k:=6) (both_lt _ _) (by omega)]
     have:bi v < 6:=by rw [za0 h1];omega
     symm
     rw [decide_eq_false_iff_not]
     omega
 · rintro ⟨m1,m2⟩
   have key:∀ w:Int,1≤w→w≤6→((w∈a∧-w∈b)∨(-w∈a∧w∈b))→w=v:=by
    intro w hw1 hw2 hw
    have:=(both_mem ha hb hw1 hw2).2 hw
    rw [m2,Nat.testBit_two_pow,decide_eq_true_iff,za0 hw1,za0 h1] at this
    omega
   have hn:-v ∉ a:=fun h=>by have:=srt_one ha.c m1 h (by omega);omega
   refine ⟨m1,?_,?_⟩
   · have:=(both_mem ha hb h1 (by omega)).1 (by rw [m2,Nat.testBit_two_pow];simp)
     rcases this with h|h
     · exact h.2
     · exact absurd h.1 hn
   · intro x hx hx2
     obtain ⟨l1,l2,l3⟩:=ha.lit x hx
     by_cases hp:0 < x
     · exact key x (by omega) (by omega) (.inl ⟨hx,hx2⟩)
     · have:=key (-x) (by omega) (by omega) (.inr ⟨by simpa using hx,hx2⟩)
       exact absurd (by rw [← this];simpa using hx) hn
theorem res_mkN {V:Int} {a b:List Int} (ha:IsS V a) (hb:IsS V b) {v:Int} (h1:1≤v) (h2:v≤V) (h:(res a b v).2=true) :
 mkN (res a b v).1=minusN (mkN a ||| mkN b) (2 ^ bi v ||| 2 ^ bi v <<< 6):=by
 have hV:=ha.le
 have hc:IsS V (res a b v).1:=⟨zaY ha.c hb.c h,hV⟩
 have hm:=(res_iff ha.c hb.c h1 h2).2 h
 have hbv:bi v < 6:=by rw [za0 h1];omega
 apply Nat.eq_of_testBit_eq
 intro j
 rw [minus_bit,Nat.testBit_or,Nat.testBit_or,Nat.testBit_shiftLeft,Nat.testBit_two_pow,Nat.testBit_two_pow]
 by_cases hj:j < 12
 · obtain ⟨l,e,l1,l2,l3⟩:∃ l,j=bi l∧-6≤l∧l≤6∧l≠0:=by
    by_cases hj6:j < 6
    · exact ⟨(j:Int) + 1,by rw [za0 (by omega)];omega,by omega,by omega,by omega⟩
    · exact ⟨5 - (j:Int),by unfold bi;rw [if_neg (by omega)];omega,by omega,by omega,by omega⟩
   subst e
   have e2:(decide (bi v=bi l) || (decide (bi l ≥ 6) && decide (bi v=bi l - 6)))=decide (l.natAbs=v.natAbs):=by
    rw [Bool.eq_iff_iff]
    simp only [Bool.or_eq_true,Bool.and_eq_true,decide_eq_true_iff]
    rw [za0 h1]
    unfold bi
    split <;> omega
   rw [e2,Bool.eq_iff_iff,Bool.and_eq_true,Bool.or_eq_true,zaZ hc l1 l2 l3,zaZ ha l1 l2 l3,zaZ hb l1 l2 l3,hm]
   simp
 · rw [bit_hi (k:=12) (zaC hc) (by omega),bit_hi (k:=12) (zaC ha) (by omega),bit_hi (k:=12) (zaC hb) (by omega)]
   rfl
def hitM (x y:Int):Bool:=zcb (zaj x y)
def rsvM (x y:Int):Int:=anK false 16 (orK false 16 x y) (orK false 16 (zaj x y) (shlK false 16 (zaj x y) 6))
theorem hit_iff {V:Int} {a b:List Int} (ha:IsS V a) (hb:IsS V b):hitM (mkN a) (mkN b)=true↔∃ v,1≤v∧v≤V∧((res a b v).2=true∨(res b a v).2=true):=by
 have hV:=ha.le
 unfold hitM
 rw [bothOf_eq (zaC ha) (zaC hb),one_iff (both_lt _ _)]
 constructor
 · rintro ⟨k,hk,e⟩
   have eb:k=bi ((k:Int) + 1):=by rw [za0 (by omega)];omega
   have hb1:(bothN (mkN a) (mkN b)).testBit (bi ((k:Int) + 1))=true:=by rw [← eb,e,Nat.testBit_two_pow];simp
   rw [both_mem ha hb (by omega) (by omega)] at hb1
   rcases hb1 with ⟨p,q⟩|⟨p,q⟩
   · refine ⟨(k:Int) + 1,by omega,(ha.c.lit _ p).2.1,.inl ((zcr ha hb (by omega) (ha.c.lit _ p).2.1).2 ⟨p,by rw [← eb];exact e⟩)⟩
   · refine ⟨(k:Int) + 1,by omega,(hb.c.lit _ q).2.1,.inr ((zcr hb ha (by omega) (hb.c.lit _ q).2.1).2 ⟨q,by rw [← eb,← both_comm ha hb];exact e⟩)⟩
 · rintro ⟨v,h1,h2,h|h⟩
   · exact ⟨bi v,by rw [za0 h1];omega,((zcr ha hb h1 h2).1 h).2⟩
   · exact ⟨bi v,by rw [za0 h1];omega,by rw [both_comm ha hb];exact ((zcr hb ha h1 h2).1 h).2⟩
theorem rsv_pow {x y k:Nat} (hx:x < 4096) (hy:y < 4096) (hk:k < 6) (h:bothN x y=2 ^ k):rsvM (x:Int) (y:Int)=((minusN (x ||| y) (2 ^ k ||| 2 ^ k <<< 6):Nat):Int):=by
 unfold rsvM
 have h1:2 ^ k < 64:=Nat.pow_lt_pow_right (a:=2) (n:=6) (by omega) hk
 have h2:2 ^ k <<< 6 < 4096:=by rw [Nat.shiftLeft_eq];omega
 rw [bothOf_eq hx hy,h,show (6:Int)=((6:Nat):Int) from rfl,shl16 (by omega) (by omega),or16 (by omega) (by omega),or16 (by omega) (by omega),an16 (Nat.or_lt_two_pow (n:=16) (by omega) (by omega)) (Nat.or_lt_two_pow (n:=16) (by omega) (by omega))]
theorem rsv_left {V:Int} {a b:List Int} (ha:IsS V a) (hb:IsS V b) {v:Int} (h1:1≤v) (h2:v≤V) (h:(res a b v).2=true) :
 hitM (mkN a) (mkN b)=true∧rsvM (mkN a) (mkN b)=(mkN (res a b v).1:Int)∧zaj (mkN a) (mkN b)=((2 ^ bi v:Nat):Int):=by
 have hV:=ha.le
 have e:=((zcr ha hb h1 h2).1 h).2
 refine ⟨(hit_iff ha hb).2 ⟨v,h1,h2,.inl h⟩,?_,?_⟩
 · rw [rsv_pow (zaC ha) (zaC hb) (by rw [za0 h1];omega) e,res_mkN ha hb h1 h2 h]
 · rw [bothOf_eq (zaC ha) (zaC hb),e]
theorem rsv_right {V:Int} {a b:List Int} (ha:IsS V a) (hb:IsS V b) {v:Int} (h1:1≤v) (h2:v≤V) (h:(res b a v).2=true) :
 hitM (mkN a) (mkN b)=true∧rsvM (mkN a) (mkN b)=(mkN (res b a v).1:Int):=by
 have hV:=ha.le
 have e:=((zcr hb ha h1 h2).1 h).2
 refine ⟨(hit_iff ha hb).2 ⟨v,h1,h2,.inr h⟩,?_⟩
 rw [rsv_pow (k:=bi v) (zaC ha) (zaC hb) (by rw [za0 h1];omega) (by rw [both_comm ha hb];exact e),res_mkN hb ha h1 h2 h,Nat.or_comm]
end Go.PF
namespace Go.PF
open Go.Pu
def Mk (F:Cnf) (w:Int) (a b:List Int) (v:Int) (c:List Int):Prop:=1≤v∧v≤F.vars∧(res a b v).2=true∧(res a b v).1=c∧len c≤w
def Kn (F:Cnf) (w:Int):Nat→List Int→Prop
 | 0,_=>False
 | n + 1,c=>(c∈F.clauses∧len c≤w)∨Kn F w n c∨∃ a b v,Kn F w n a∧Kn F w n b∧Mk F w a b v c
def Rk (F:Cnf) (w:Int) (n:Nat) (c:List Int):Prop:=Kn F w (n + 1) c∧¬ Kn F w n c
structure Nar (F:Cnf):Prop where
 cnf:cnfB F=true
 le:F.vars≤6
theorem Nar.ax {F:Cnf} (h:Nar F) {c:List Int} (hc:c∈F.clauses):IsS F.vars c:=by
 have:=h.cnf
 unfold cnfB at this
 simp only [Bool.and_eq_true] at this
 exact ⟨clauseB_iff.1 (List.all_eq_true.1 this.2 c hc),h.le⟩
theorem Nar.kn {F:Cnf} (h:Nar F) {w:Int}:∀ {n:Nat} {c:List Int},Kn F w n c→IsS F.vars c
 | 0,_,h'=>h'.elim
 | n + 1,c,h'=>by
  rcases h' with ⟨h1,_⟩|h1|⟨a,b,v,h1,h2,h3,h4,h5,h6,_⟩
  · exact h.ax h1
  · exact h.kn h1
  · exact ⟨h6 ▸ zaY (h.kn h1).c (h.kn h2).c h5,h.le⟩
theorem Kn.up {F:Cnf} {w:Int} {n m:Nat} (h:n≤m) {c:List Int} (hc:Kn F w n c):Kn F w m c:=by
  induction m with
  | zero => have:n=0:=by omega
            subst this;exact hc
  | succ m ih =>
    by_cases e:n=m + 1
    · subst e;exact hc
    · exact .inr (.inl (ih (by omega)))
theorem Kn.rk {F:Cnf} {w:Int}:∀ {n:Nat} {c:List Int},Kn F w n c→∃ q,q < n∧Rk F w q c
 | 0,_,h=>h.elim
 | n + 1,c,h=>by
  by_cases h':Kn F w n c
  · obtain ⟨q,h1,h2⟩:=h'.rk
    exact ⟨q,by omega,h2⟩
  · exact ⟨n,by omega,h,h'⟩
theorem Kn.stop {F:Cnf} {w:Int} {r:Nat} (h:∀ c,Kn F w (r + 1) c→Kn F w r c):∀ {n:Nat} {c:List Int},Kn F w n c→Kn F w r c
 | 0,_,h'=>h'.elim
 | n + 1,c,h'=>by
  apply h
  rcases h' with h2|h2|⟨a,b,v,h2,h3,h4⟩
  · exact .inl h2
  · exact .inr (.inl (Kn.stop h h2))
  · exact .inr (.inr ⟨a,b,v,Kn.stop h h2,Kn.stop h h3,h4⟩)
theorem Mk.ne {F:Cnf} {w:Int} (hF:Nar F) {a b:List Int} {v:Int} {c:List Int} (ha:IsS F.vars a) (hb:IsS F.vars b) (h:Mk F w a b v c):a≠b:=by
 intro e
 subst e
 obtain ⟨h1,h2,h3,h4,h5⟩:=h
 obtain ⟨m1,m2,_⟩:=(res_iff ha.c hb.c h1 h2).1.1 h3
 have:=srt_one ha.c m1 m2 (by omega)
 omega
theorem Mk.hit {F:Cnf} {w:Int} {a b:List Int} {v:Int} {c:List Int} (ha:IsS F.vars a) (hb:IsS F.vars b) (h:Mk F w a b v c∨Mk F w b a v c) :
 hitM (mkN a) (mkN b)=true∧rsvM (mkN a) (mkN b)=(mkN c:Int):=by
 rcases h with ⟨h1,h2,h3,h4,h5⟩|⟨h1,h2,h3,h4,h5⟩
 · have:=rsv_left ha hb h1 h2 h3
   rw [h4] at this
   exact ⟨this.1,this.2.1⟩
 · have:=rsv_right ha hb h1 h2 h3
   rw [h4] at this
   exact this
theorem hit_mk {F:Cnf} {w:Int} (hF:Nar F) {a b:List Int} (ha:IsS F.vars a) (hb:IsS F.vars b) (h:hitM (mkN a) (mkN b)=true) :
 ∃ c,IsS F.vars c∧rsvM (mkN a) (mkN b)=(mkN c:Int)∧(len c≤w→∃ v,Mk F w a b v c∨Mk F w b a v c):=by
 obtain ⟨v,h1,h2,h3|h3⟩:=(hit_iff ha hb).1 h
 · exact ⟨_,⟨zaY ha.c hb.c h3,hF.le⟩,(rsv_left ha hb h1 h2 h3).2.1,fun hl=>⟨v,.inl ⟨h1,h2,h3,rfl,hl⟩⟩⟩
 · exact ⟨_,⟨zaY hb.c ha.c h3,hF.le⟩,(rsv_right ha hb h1 h2 h3).2,fun hl=>⟨v,.inr ⟨h1,h2,h3,rfl,hl⟩⟩⟩
theorem few {V:Int} {cl:List (List Int)} (hn:cl.Nodup) (hc:∀ c∈cl,IsS V c):cl.length≤4096:=by
 let xs:List Int:=(cl.map fun c=>((mkN c:Nat):Int)).mergeSort fun a b=>decide (a≤b)
 have hp:xs.Perm (cl.map fun c=>((mkN c:Nat):Int)):=List.mergeSort_perm _ _
 have hnd:(cl.map fun c=>((mkN c:Nat):Int)).Nodup:=by
  rw [List.nodup_iff_pairwise_ne,List.pairwise_map]
  have:=List.Pairwise.and_mem.1 (List.nodup_iff_pairwise_ne.1 hn)
  refine this.imp ?_
  rintro a b ⟨ha,hb,hne⟩ e
  exact hne (zbA (hc a ha) (hc b hb) (by omega))
 have hx:xs.Nodup:=hp.nodup_iff.2 hnd
 have hs:xs.Pairwise fun a b=>a≤b:=by
  have:=List.pairwise_mergeSort (le:=fun a b:Int=>decide (a≤b)) (by intro a b c;simp;omega) (by intro a b;simp;omega) (cl.map fun c=>((mkN c:Nat):Int))
  exact this.imp (fun h=>by simpa using h)
 have hasc:Asc xs:=(hs.and (List.nodup_iff_pairwise_ne.1 hx)).imp (fun ⟨h1,h2⟩=>by omega)
 have hl:=asc_len (lo:=-1) (hi:=4095) hasc (by
  intro x hx
  have:x∈cl.map fun c=>((mkN c:Nat):Int):=hp.mem_iff.1 hx
  obtain ⟨c,hcl,e⟩:=List.mem_map.1 this
  have:=zaC (hc c hcl)
  omega)
 have:xs.length=cl.length:=by rw [hp.length_eq,List.length_map]
 omega
theorem zcY {V:Type} (p:Int×V) (m:List (Int×V)) (j:Int):mget (p::m) j=if j=p.1 then some p.2 else mget m j:=by
 simp only [mget]
 by_cases h:j=p.1
 · rw [if_pos h,beq_iff_eq.2 h,cond_true]
 · rw [if_neg h,beq_eq_false_iff_ne.2 h,cond_false]
theorem mget_mput {V:Type}:∀ (m:List (Int×V)) (k:Int) (v:V) (j:Int),mget (mput m k v) j=if j=k then some v else mget m j
 | [],k,v,j=>by simp only [mput];rw [zcY]
 | p::m,k,v,j=>by
  simp only [mput]
  by_cases hk:k=p.1
  · rw [beq_iff_eq.2 hk,cond_true,zcY,zcY,← hk]
    by_cases h:j=k
    · rw [if_pos h,if_pos h]
    · rw [if_neg h,if_neg h,if_neg h]
  · rw [beq_eq_false_iff_ne.2 hk,cond_false,zcY,zcY,mget_mput m k v j]
    by_cases h:j=k
    · subst h
      rw [if_neg hk,if_pos rfl,if_pos rfl]
    · rw [if_neg h,if_neg h]
end Go.PF
