/- Helpers of the walks and plain laws. -/
import Derived.Test.YtkaikagbfoadpaaGreatFcPA
import Derived.Test.YtkaikagbfoadpaaGreatFcLB
set_option linter.unusedVariables false
namespace Go.PF
open Go.Pu
abbrev Asc (c:List Int):Prop:=c.Pairwise fun a b=>a < b
def prem (x:zaa):List Int:=bif decide (x.left < 0) then [] else bif decide (0≤x.left) && decide (0≤x.right) then [x.left,x.right] else [x.left]
theorem prem_len (x:zaa):(prem x).length≤2:=by
 unfold prem
 cases decide (x.left < 0) <;> cases (decide (0≤x.left) && decide (0≤x.right)) <;> simp
end Go.PF
namespace Go.PF
open Go.Pu
theorem chk_len {A:Type} {xs:List A} (h:xs.length≤2):chk (len xs)=some xs.length:=by
 unfold chk;rw [if_pos (by rw [zai];omega),zai];simp
def proofB (F:Cnf) (S:List zaa):Bool:=derB F S && decide (0 < len S)
theorem impl_isProof_eq {F:Cnf} {S:List zaa} (hF:okCnf F) (hS:okL zaE S):zdc F S=some (proofB F S):=by
 unfold zdc proofB
 rw [zdp hF hS,zad]
 cases derB F S <;> simp
structure IsPv (n:Nat) (out:List (List Int)):Prop where
 len:out.length=n
 asc:∀ y∈out,Asc y
 sm:∀ y∈out,∀ z∈y,1≤z∧z≤12
end Go.PF
namespace Go.PF
open Go.Pu
theorem take_rev {α:Type} {xs:List α} {k:Nat} {x:α} (hx:xs[k]?=some x):(xs.take (k + 1)).zipIdx.reverse=(x,k)::(xs.take k).zipIdx.reverse:=by
 obtain ⟨hk,he⟩:=List.getElem?_eq_some_iff.1 hx
 rw [← he,List.take_succ_eq_append_getElem hk,List.zipIdx_append]
 simp [Nat.min_eq_left (Nat.le_of_lt hk)]
theorem iter_down {σ α X:Type} {xs:List α} {body:σ×Int→Option (Lp (σ×Int) X)} {F:σ→α×Nat→σ} (I:Nat→σ→Prop) {s0:σ} (h0:I xs.length s0)
 (h:∀ (i:Nat) x s,xs[i]?=some x→I (i + 1) s→body (s,(i:Int))=some (.nx (F s (x,i),(i:Int) - 1))∧I i (F s (x,i))) (he:∀ s,body (s,-1)=some (.bk (s,-1))) :
 iter body (s0,len xs - 1)=some (.go (xs.zipIdx.reverse.foldl F s0,-1))∧I 0 (xs.zipIdx.reverse.foldl F s0):=by
 have key:∀ (k:Nat) (s:σ),k≤xs.length→I k s→iter body (s,(k:Int) - 1)=some (.go ((xs.take k).zipIdx.reverse.foldl F s,-1))∧I 0 ((xs.take k).zipIdx.reverse.foldl F s):=by
  intro k
  induction k with
  | zero=>intro s _ hI;exact ⟨za9 (he s),hI⟩
  | succ k ih =>
   intro s hk hI
   obtain ⟨x,hx⟩:∃ x,xs[k]?=some x:=⟨_,List.getElem?_eq_getElem (by omega)⟩
   obtain ⟨h1,h2⟩:=h k x s hx hI
   rw [take_rev hx,List.foldl_cons,show ((k + 1:Nat):Int) - 1=(k:Int) by omega,zbq h1]
   exact ih _ (by omega) h2
 have:=key xs.length s0 (Nat.le_refl _) h0
 rwa [List.take_length] at this
theorem bdR_down {σ α X β:Type} {xs:List α} {body:σ×Int→Option (Lp (σ×Int) X)} {k:σ×Int→Option β} {l:X→Option β} {r:Option β} (F:σ→α×Nat→σ) (I:Nat→σ→Prop) {s0:σ} (h0:I xs.length s0)
 (h:∀ (i:Nat) x s,xs[i]?=some x→I (i + 1) s→body (s,(i:Int))=some (.nx (F s (x,i),(i:Int) - 1))∧I i (F s (x,i))) (he:∀ s,body (s,-1)=some (.bk (s,-1)))
 (hk:∀ s,I 0 s→k (s,-1)=r):bdR (iter body (s0,len xs - 1)) k l=r:=by
 obtain ⟨h1,h2⟩:=iter_down I h0 h he
 rw [h1,zau];exact hk _ h2
def bAt (M:List Bool) (i:Nat):Bool:=(M[i]?).getD false
def setT (M:List Bool) (ks:List Int):List Bool:=ks.foldl (fun M k=>M.set k.toNat true) M
theorem setT_len:∀ {ks:List Int} {M:List Bool},(setT M ks).length=M.length:=by
 intro ks
 induction ks with
 | nil=>intro M;rfl
 | cons k ks ih=>intro M;unfold setT at ih ⊢;rw [List.foldl_cons,ih];simp
theorem setT_out:∀ {ks:List Int} {M:List Bool} {i j:Nat},(∀ k∈ks,0≤k∧k < j)→j≤i→(setT M ks)[i]?=M[i]?:=by
 intro ks
 induction ks with
 | nil=>intro M i j _ _;rfl
 | cons k ks ih =>
  intro M i j h hi
  have h1:=h k (by simp)
  have:=ih (M:=M.set k.toNat true) (i:=i) (fun z hz=>h z (by simp [hz])) hi
  unfold setT at this ⊢
  rw [List.foldl_cons,this,List.getElem?_set_ne (by omega)]
theorem setT_in:∀ {ks:List Int} {M:List Bool} {k:Int},(∀ k∈ks,0≤k∧k < M.length)→(k∈ks∨bAt M k.toNat=true)→bAt (setT M ks) k.toNat=true:=by
  intro ks
  induction ks with
  | nil => intro M k _ hk;rcases hk with h|h;· cases h
           · exact h
  | cons z ks ih =>
    intro M k h hk
    have h1:=h z (by simp)
    have h2:=ih (M:=M.set z.toNat true) (k:=k) (fun y hy=>by have:=h y (by simp [hy]);simpa using this) (by
      rcases hk with hk|hk
      · rcases List.mem_cons.1 hk with rfl|hk
        · right;unfold bAt;rw [List.getElem?_set_self (by omega)];rfl
        · exact .inl hk
      · right
        unfold bAt at hk ⊢
        rw [List.getElem?_set]
        split
        · rw [if_pos (by omega)];rfl
        · exact hk)
    unfold setT at h2 ⊢
    rw [List.foldl_cons];exact h2
def nst (M:List Bool) (p:zaa×Nat):List Bool:=bif bAt M p.2 then setT M (prem p.1) else M
theorem nst_len {M:List Bool} {p:zaa×Nat}:(nst M p).length=M.length:=by unfold nst;cases bAt M p.2 <;> simp [setT_len]
def rem (S:List zaa) (k:Nat) (M:List Bool):List Bool:=(S.take k).zipIdx.reverse.foldl nst M
def mask (S:List zaa):List Bool:=rem S S.length ((List.replicate S.length false).set (S.length - 1) true)
theorem rem_succ {S:List zaa} {k:Nat} {x:zaa} (hx:S[k]?=some x) (M:List Bool):rem S (k + 1) M=rem S k (nst M (x,k)):=by
 unfold rem;rw [take_rev hx,List.foldl_cons]
theorem rem_len {S:List zaa}:∀ {k:Nat} {M:List Bool},k≤S.length→(rem S k M).length=M.length:=by
 intro k
 induction k with
 | zero=>intro M _;rfl
 | succ k ih =>
  intro M hk
  obtain ⟨x,hx⟩:∃ x,S[k]?=some x:=⟨_,List.getElem?_eq_getElem (by omega)⟩
  rw [rem_succ hx,ih (by omega),nst_len]
theorem mask_len (S:List zaa):(mask S).length=S.length:=by unfold mask;rw [rem_len (Nat.le_refl _)];simp
theorem uses_loop {us:List Int} {M:List Bool} {i:Nat} (hi:i < M.length) (hu:∀ k∈us,0≤k∧k < i) (hl:us.length≤2) {f:List Bool×Int→Option (Lp (List Bool×Int) Empty)}
 (hf:∀ s,f s=bd (bif decide (s.2 < len us) then bd (ix s.1 (i:Int)) (fun x=>some x) else some false) (fun t=>bif t then bd (ix us s.2) (fun x=>bd (ix s.1 x) (fun _=>bd (put s.1 x true) (fun xs=>some (.nx (xs,wr (s.2 + 1)))))) else some (.bk (s.1,s.2)))) :
 ∃ k,iter f (M,0)=some (.go (bif bAt M i then setT M us else M,k)):=by
 have hat:∀ {M:List Bool},i < M.length→ix M (i:Int)=some (bAt M i):=fun {M} h=>by rw [zaR];unfold bAt;rw [List.getElem?_eq_getElem h];rfl
 cases hb:bAt M i with
 | false =>
  refine ⟨0,za9 ?_⟩
  rw [hf]
  simp only [hat hi,hb]
  cases decide ((0:Int) < len us) <;> rfl
 | true =>
  refine ⟨us.length,?_⟩
  have:=iter_foldI (X:=Empty) (xs:=us) (body:=f) (F:=fun M k=>M.set k.toNat true) (s0:=M) (fun _ N=>N.length=M.length∧bAt N i=true) ⟨rfl,hb⟩ (fun j k N hk hN=>by
   have hj:=(List.getElem?_eq_some_iff.1 hk).1
   have hkb:=hu k (List.mem_of_getElem? hk)
   rw [hf]
   have hd:decide ((j:Int) < len us)=true:=by rw [zai];simp;omega
   obtain ⟨y,hy,_⟩:=ix_of (xs:=N) hkb.1 (by omega)
   have hp:put N k true=some (N.set k.toNat true):=by
    have:=put_ok (xs:=N) (i:=k.toNat) (x:=true) (by omega)
    rwa [show ((k.toNat:Nat):Int)=k by omega] at this
   simp only [hd,cond_true,hat (show i < N.length by omega),hN.2,zad,zaR,hk,hy,hp]
   rw [wr_succ hj (by omega)]
   refine ⟨rfl,by simpa using hN.1,?_⟩
   have h2:=hN.2
   unfold bAt at h2 ⊢
   rw [List.getElem?_set_ne (by omega)];exact h2) (fun N=>by
   rw [hf]
   have hd:decide ((us.length:Int) < len us)=false:=by rw [zai];simp
   simp only [hd,cond_false,zad])
  simp only [cond_true]
  exact this.1
theorem wr_down {i n:Nat} (h:i < n) (hn:n≤9223372036854775807):wr ((i:Int) - 1)=(i:Int) - 1:=wr_of _ (by omega) (by omega)
theorem ix_len {A:Type} {M:List A} {i:Nat} (h:i < M.length):∃ y,ix M (i:Int)=some y:=⟨_,by rw [zaR,List.getElem?_eq_getElem h]⟩
end Go.PF
namespace Go.PF
open Go.Pu
structure Rv (xs:List Int) (i:Nat) (ys:List Int):Prop where
 len:ys.length=xs.length
 at_:∀ m,m < xs.length→ys[m]?=if m < i∨xs.length≤m + i then xs[xs.length - 1 - m]? else xs[m]?
def need (S:List zaa):List Nat:=(List.range S.length).filter (bAt (mask S))
theorem need_le (S:List zaa):(need S).length≤S.length:=by
 have:=List.length_filter_le (bAt (mask S)) (List.range S.length);unfold need;simpa using this
end Go.PF
namespace Go.PF
open Go.Pu
def za1 (S:List zaa) (k:Nat):List Nat:=(List.range k).filter (bAt (mask S))
theorem needTo_succ (S:List zaa) (k:Nat):za1 S (k + 1)=bif bAt (mask S) k then za1 S k++[k] else za1 S k:=by
 unfold za1
 rw [List.range_succ,List.filter_append]
 cases h:bAt (mask S) k <;> simp [h]
theorem needTo_le (S:List zaa) (k:Nat):(za1 S k).length≤k:=by
 have:=List.length_filter_le (bAt (mask S)) (List.range k);unfold za1;simpa using this
theorem mask_ix {S:List zaa} {i:Nat} {x:zaa} (hx:S[i]?=some x):ix (mask S) (i:Int)=some (bAt (mask S) i):=by
 have hi:=(List.getElem?_eq_some_iff.1 hx).1
 rw [zaR];unfold bAt;rw [List.getElem?_eq_getElem (by rw [mask_len];exact hi)];rfl
end Go.PF
namespace Go.PF
open Go.Pu
def posN (S:List zaa) (k:Int):Int:=(((za1 S k.toNat).length:Nat):Int)
def trimX (S:List zaa) (x:zaa):zaa:=bif decide (0≤x.left) then (bif decide (0≤x.right) then ⟨x.clause,posN S x.left,posN S x.right,x.pivot⟩ else ⟨x.clause,posN S x.left,x.right,x.pivot⟩) else x
def trimAt (S:List zaa) (i:Nat):Option zaa:=(S[i]?).map (trimX S)
def trimL (S:List zaa) (l:List Nat):List zaa:=l.filterMap (trimAt S)
theorem trimL_len {S:List zaa}:∀ {l:List Nat},(∀ i∈l,i < S.length)→(trimL S l).length=l.length:=by
 intro l
 induction l with
 | nil=>intro _;rfl
 | cons i l ih =>
  intro h
  have hi:=h i (by simp)
  have:=ih fun j hj=>h j (by simp [hj])
  unfold trimL at this ⊢
  have e:trimAt S i=some (trimX S S[i]):=by unfold trimAt;rw [List.getElem?_eq_getElem hi];rfl
  rw [List.filterMap_cons_some e,List.length_cons,List.length_cons,this]
theorem needTo_lt {S:List zaa} {k:Nat}:∀ i∈za1 S k,i < k:=fun i hi=>by
 unfold za1 at hi;rw [List.mem_filter,List.mem_range] at hi;exact hi.1
theorem prem_left {x:zaa} (h:0≤x.left):x.left∈prem x:=by
 unfold prem
 have e:decide (x.left < 0)=false:=by simp;omega
 rw [e];simp only [cond_false]
 cases decide (0≤x.left) && decide (0≤x.right) <;> simp
theorem prem_right {x:zaa} (h:0≤x.left) (h2:0≤x.right):x.right∈prem x:=by
 unfold prem
 have e:decide (x.left < 0)=false:=by simp;omega
 rw [e];simp [h,h2]
end Go.PF
namespace Go.PF
open Go.Pu
structure IsX (V:Int) (S:List zaa):Prop where
 le:S.length≤200
 clause:∀ {x:zaa},x∈S→IsC V x.clause
 nums:∀ {i:Nat} {x:zaa},S[i]?=some x→(x.left=-1∧True)∨(0≤x.left∧x.left < i∧x.right=-1∧True)∨(0≤x.left∧x.left < i∧0≤x.right∧x.right < i∧True)
theorem IsX.before {V:Int} {S:List zaa} (h:IsX V S) {i:Nat} {x:zaa} (hx:S[i]?=some x) (hl:0≤x.left):x.left < i∧(0≤x.right→x.right < i):=by
 rcases h.nums hx with h|h|h <;> omega
theorem IsX.prem {V:Int} {S:List zaa} (h:IsX V S) {i:Nat} {x:zaa} (hx:S[i]?=some x):∀ k∈prem x,0≤k∧k < i:=by
 intro k hk
 unfold PF.prem at hk
 have hb:=h.before hx
 by_cases h1:x.left < 0
 · simp [h1] at hk
 · have h0:0≤x.left:=by omega
   obtain ⟨b1,b2⟩:=hb h0
   by_cases h2:0≤x.right
   · simp only [h1,decide_false,cond_false,h0,h2,decide_true,Bool.and_true,cond_true,List.mem_cons,List.not_mem_nil,or_false] at hk
     rcases hk with rfl|rfl
     · omega
     · have:=b2 h2;omega
   · simp only [h1,decide_false,cond_false,h0,h2,decide_true,Bool.and_false,List.mem_cons,List.not_mem_nil,or_false] at hk
     rw [hk];omega
theorem rem_outX {V:Int} {S:List zaa} (h:IsX V S):∀ {k i:Nat} {M:List Bool},k≤S.length→k≤i + 1→(rem S k M)[i]?=M[i]?:=by
 intro k
 induction k with
 | zero=>intro i M _ _;rfl
 | succ k ih =>
  intro i M hk hi
  obtain ⟨x,hx⟩:∃ x,S[k]?=some x:=⟨_,List.getElem?_eq_getElem (by omega)⟩
  rw [rem_succ hx,ih (by omega) (by omega)]
  unfold nst
  cases bAt M k with
  | true=>exact setT_out (h.prem hx) (by omega)
  | false=>rfl
theorem mask_premX {V:Int} {S:List zaa} (h:IsX V S) {i:Nat} {x:zaa} (hx:S[i]?=some x) (hm:bAt (mask S) i=true):∀ k∈prem x,bAt (mask S) k.toNat=true:=by
  intro k hk
  have hi:=(List.getElem?_eq_some_iff.1 hx).1
  have key:∀ (m:Nat) (M:List Bool),M.length=S.length→m≤S.length→(i < m∨bAt M k.toNat=true)→bAt (rem S m M) i=true→bAt (rem S m M) k.toNat=true:=by
    intro m
    induction m with
    | zero => intro M hM _ h1 _;rcases h1 with h1|h1;· omega
              · exact h1
    | succ m ih =>
      intro M hM hm' h1 h2
      obtain ⟨y,hy⟩:∃ y,S[m]?=some y:=⟨_,List.getElem?_eq_getElem (by omega)⟩
      rw [rem_succ hy] at h2 ⊢
      refine ih _ (by rw [nst_len,hM]) (by omega) ?_ h2
      by_cases e:i=m
      · subst e
        rw [hx] at hy;cases hy
        right
        have h3:bAt M i=true:=by
          have:=rem_outX h (k:=i) (i:=i) (M:=nst M (x,i)) (by omega) (by omega)
          unfold bAt at h2 ⊢
          rw [this] at h2
          unfold nst at h2
          cases hb:bAt M i with
          | true=>exact hb
          | false=>rw [hb] at h2;exact h2
        unfold nst
        simp only [h3,cond_true]
        exact setT_in (fun z hz=>by have:=h.prem hx z hz;omega) (.inl hk)
      · rcases h1 with h1|h1
        · exact .inl (by omega)
        · right
          unfold nst
          cases bAt M m with
          | true=>exact setT_in (fun z hz=>by have:=h.prem hy z hz;omega) (.inr h1)
          | false=>exact h1
  have hk1:=h.prem hx k hk
  exact key _ _ (by simp) (Nat.le_refl _) (.inl hi) hm
theorem uses_premX {V:Int} {S:List zaa} (h:IsX V S) {i:Nat} {x:zaa} (hx:S[i]?=some x):za8 x=prem x:=by
 unfold za8 prem
 rcases h.nums hx with ⟨h1,_⟩|⟨h1,h2,h3,_⟩|⟨h1,h2,h3,h4,_⟩
 · simp [h1]
 · have e1:(x.left == -1)=false:=by rw [beq_eq_false_iff_ne];omega
   have e2:decide (x.left < 0)=false:=by simp;omega
   have e3:(x.right == -1)=true:=by rw [beq_iff_eq];exact h3
   have e4:decide (0≤x.right)=false:=by simp;omega
   simp [e1,e2,e3,e4]
 · have e1:(x.left == -1)=false:=by rw [beq_eq_false_iff_ne];omega
   have e2:decide (x.left < 0)=false:=by simp;omega
   have e3:(x.right == -1)=false:=by rw [beq_eq_false_iff_ne];omega
   have e4:decide (0≤x.left)=true:=by simp;omega
   have e5:decide (0≤x.right)=true:=by simp;omega
   simp [e1,e2,e3,e4,e5]
theorem spec_l7Needed_eqX {V:Int} {S:List zaa} (h:IsX V S):zcO S=some (mask S):=by
 have hS:=h.le
 unfold zcO
 rw [show len S=((S.length:Nat):Int) from rfl,mk2_ok (by unfold lim;omega),zad]
 rw [show wr (((S.length:Nat):Int) - 1)=len S - 1 from wr_len (by omega)]
 have hI:∀ M,(M.length=S.length∧rem S 0 (bif (0 == S.length) then M.set (S.length - 1) true else M)=mask S)→M=mask S:=fun M hM=>by
  have h2:=hM.2
  by_cases h0:S.length=0
  · have e:S=[]:=List.eq_nil_of_length_eq_zero h0
    subst e
    have:M=[]:=List.eq_nil_of_length_eq_zero hM.1
    subst this;rfl
  · rw [show (0 == S.length)=false by rw [beq_eq_false_iff_ne];omega] at h2
    exact h2
 refine bdR_down (X:=Empty) (xs:=S) (fun M p=>nst (bif p.2 == S.length - 1 then M.set p.2 true else M) p) (s0:=List.replicate S.length false)
  (fun k M=>M.length=S.length∧rem S k (bif (k == S.length) then M.set (S.length - 1) true else M)=mask S) ⟨by simp,by simp [mask]⟩ ?hh ?he ?hk
 case hk=>intro M hM;rw [hI M hM]
 case he=>intro M;rfl
 case hh =>
  intro i x M hx ⟨hM,hr⟩
  have hi:=(List.getElem?_eq_some_iff.1 hx).1
  have hd:decide ((0:Int)≤(i:Int))=true:=by simp
  have hix:ix S (i:Int)=some x:=by rw [zaR];exact hx
  have hcmp:((i:Int) == len S - 1)=(i == S.length - 1):=by
   rw [zai,Bool.eq_iff_iff,beq_iff_eq,beq_iff_eq];omega
  have hwd:wr ((i:Int) - 1)=(i:Int) - 1:=wr_down hi (by omega)
  have key2:∀ N:List Bool,N.length=S.length→∃ k,iter (S:=List Bool×Int) (X:=Empty) (fun s=>bd (bif decide (s.2 < len (za8 x)) then bd (ix s.1 (i:Int)) (fun x=>some x) else some false) (fun t=>bif t then bd (ix (za8 x) s.2) (fun z=>bd (ix s.1 z) (fun _=>bd (put s.1 z true) (fun xs=>some (.nx (xs,wr (s.2 + 1)))))) else some (.bk (s.1,s.2)))) (N,0)=some (.go (nst N (x,i),k)):=fun N hN=>by
   rw [uses_premX h hx]
   exact uses_loop (us:=prem x) (M:=N) (i:=i) (by omega) (h.prem hx) (prem_len x) (fun s=>rfl)
  have hstep:rem S i (nst (bif i == S.length - 1 then M.set i true else M) (x,i))=mask S:=by
   rw [← rem_succ hx]
   by_cases e:i=S.length - 1
   · have e1:(i == S.length - 1)=true:=by rw [beq_iff_eq];exact e
     have e2:(i + 1 == S.length)=true:=by rw [beq_iff_eq];omega
     rw [e2] at hr
     rw [e1]
     simp only [cond_true] at hr ⊢
     rw [e];rw [e] at hr;exact hr
   · have e1:(i == S.length - 1)=false:=by rw [beq_eq_false_iff_ne];exact e
     have e2:(i + 1 == S.length)=false:=by rw [beq_eq_false_iff_ne];omega
     rw [e2] at hr
     rw [e1]
     exact hr
  have hlen:(nst (bif i == S.length - 1 then M.set i true else M) (x,i)).length=S.length:=by
   rw [nst_len];cases (i == S.length - 1) <;> simp [hM]
  refine ⟨?_,hlen,?_⟩
  · simp only [hd,cond_true,hcmp]
    obtain ⟨y,hy⟩:=ix_len (M:=M) (i:=i) (by omega)
    cases hc:(i == S.length - 1) with
    | true =>
     simp only [cond_true,hy,zad,put_ok (show i < M.length by omega),hix]
     obtain ⟨k,hk⟩:=key2 (M.set i true) (by simpa using hM)
     rw [hk,zau,hwd]
    | false =>
     simp only [cond_false,hix,zad]
     obtain ⟨k,hk⟩:=key2 M hM
     rw [hk,zau,hwd]
  · rw [show (i == S.length)=false by rw [beq_eq_false_iff_ne];omega]
    exact hstep
theorem spec_moved_trimX {V:Int} {S:List zaa} (h:IsX V S) {i:Nat} {x:zaa} (hx:S[i]?=some x) {to:List Int} (ht:∀ k:Int,k∈prem x→ix to k=some (posN S k)):zbl x to=some (trimX S x):=by
 have hc:=(h.clause (List.mem_of_getElem? hx)).len
 unfold zbl trimX
 rw [zb8 (by unfold lim;omega),zad]
 cases hl:decide (0≤x.left) with
 | false=>rfl
 | true =>
  have h0:=of_decide_eq_true hl
  simp only [cond_true]
  rw [ht _ (prem_left h0),zad]
  cases hr:decide (0≤x.right) with
  | false=>rfl
  | true =>
   simp only [cond_true]
   rw [ht _ (prem_right h0 (of_decide_eq_true hr)),zad]
theorem spec_l7Trim_eqX {V:Int} {S:List zaa} (hD:IsX V S):za7 S=some (trimL S (need S)):=by
 have hSl:=hD.le
 unfold za7
 rw [spec_l7Needed_eqX hD,zad,show len S=((S.length:Nat):Int) from rfl,mk2_ok (by unfold lim;omega),zad]
 obtain ⟨⟨out,to⟩,h1,h2,h3⟩:=zb5 (X:=Empty) (l:=S) (s:=([],List.replicate S.length 0)) (body:=fun i4445 y4444 s4445=>bd (ix (mask S) ((i4445:Nat):Int)) (fun x4630=>(bif x4630 then bd (ix s4445.2 ((i4445:Nat):Int)) (fun x4639=>bd (put s4445.2 ((i4445:Nat):Int) (len s4445.1)) (fun xs4644=>bd (PF.zbl y4444 xs4644) (fun r4662=>bd (app s4445.1 [r4662]) (fun xs4679=>some (Lp.nx (xs4679,xs4644)))))) else some (Lp.nx (s4445.1,s4445.2)))))
  (fun i s=>s.1=trimL S (za1 S i)∧s.2.length=S.length∧∀ k,k < i→bAt (mask S) k=true→s.2[k]?=some (((za1 S k).length:Nat):Int)) ⟨rfl,by simp,fun k hk=>by omega⟩ (fun i x s hx ⟨hs,hl,ht⟩=>by
   obtain ⟨out,to⟩:=s
   dsimp only at hs hl ht ⊢
   subst hs
   have hi:=(List.getElem?_eq_some_iff.1 hx).1
   rw [mask_ix hx,zad,needTo_succ]
   cases hm:bAt (mask S) i with
   | false =>
    refine ⟨_,rfl,rfl,hl,fun k hk hmk=>ht k ?_ hmk⟩
    rcases Nat.lt_or_ge k i with h|h
    · exact h
    · have:k=i:=by omega
      subst this;rw [hm] at hmk;cases hmk
   | true =>
    obtain ⟨y,hy⟩:=ix_len (M:=to) (i:=i) (by omega)
    have hlen:len (trimL S (za1 S i))=(((za1 S i).length:Nat):Int):=by rw [zai,trimL_len (fun j hj=>by have:=needTo_lt j hj;omega)]
    have hto:∀ k,k < i + 1→bAt (mask S) k=true→(to.set i (((za1 S i).length:Nat):Int))[k]?=some (((za1 S k).length:Nat):Int):=fun k hk hmk=>by
     by_cases e:k=i
     · subst e;rw [List.getElem?_set_self (by omega)]
     · rw [List.getElem?_set_ne (by omega)];exact ht k (by omega) hmk
    simp only [cond_true,hy,zad,put_ok (show i < to.length by omega),hlen]
    rw [spec_moved_trimX hD hx (fun k hk=>by
     have hb:=hD.prem hx k hk
     have hmk:=mask_premX hD hx hm k hk
     have:=hto k.toNat (by omega) hmk
     unfold ix
     rw [if_pos hb.1,this];rfl),zad]
    have hle:=needTo_le S i
    rw [zaD (by rw [trimL_len (fun j hj=>by have:=needTo_lt j hj;omega)];simp;unfold lim;omega),zad]
    refine ⟨_,rfl,?_,by simpa using hl,hto⟩
    show _=trimL S (za1 S i++[i])
    unfold trimL
    rw [List.filterMap_append]
    have e:trimAt S i=some (trimX S x):=by unfold trimAt;rw [hx];rfl
    rw [List.filterMap_cons_some e];rfl)
 rw [h1,zau]
 exact congrArg some h2
end Go.PF
namespace Go.PF
open Go.Pu
theorem res_isC {V:Int} {a b:List Int} {v:Int} (ha:IsC V a) (hb:IsC V b):IsC V (res a b v).1:=by
  have hnil:IsC V []:=⟨ha.lo,ha.hi,nofun,.nil⟩
  unfold res
  cases !a.contains v || !b.contains (wr (-v)) with
  | true=>exact hnil
  | false =>
    simp only [cond_false]
    have key:∀ c,IsC V c→IsC V (zaJ c v):=fun c hc=>⟨hc.lo,hc.hi,fun l hl=>hc.lit l (List.mem_filter.1 hl).1,hc.srt.filter _⟩
    have wa:=key a ha;have wb:=key b hb
    have h:=joinL_spec (b:=zaJ b v) (s:=zaJ a v) wa.srt wa.sm wb.srt wb.sm
    unfold joined
    by_cases hx:∃ y∈zaJ b v,-y∈zaJ a v
    · rw [if_pos hx] at h;rw [h];exact hnil
    · rw [if_neg hx] at h
      obtain ⟨t,ht,hs,hm⟩:=h
      rw [ht]
      exact ⟨ha.lo, ha.hi, fun l hl => by rcases (hm l).1 hl with h|h;· exact wa.lit l h
                                          · exact wb.lit l h,hs⟩
structure WvOk (F:Cnf) (i:Nat) (w:List Int×List zaa):Prop where
 len:w.1.length=i
 le:w.2.length≤i
 inr:∀ k∈w.1,0≤k∧k < w.2.length
 isC:∀ s∈w.2,IsC F.vars s.clause
end Go.PF
namespace Go.PF
open Go.Pu
structure okC (n:Nat) (c:l1Cur):Prop where
 code:okL okU8 c.code
 lo:0≤c.at_
 hi:c.at_ + n≤4611686018427387904
theorem okC.le {n m:Nat} {c:l1Cur} (h:okC n c) (hm:m≤n:=by omega):okC m c:=⟨h.code,h.lo,by have:=h.hi;omega⟩
def Dr {A:Type} (n:Nat) (x:Option (A×l1Cur)) (Q:A→Prop):Prop:=∃ a c,x=some (a,c)∧okC n c∧Q a
theorem wrk_nn {n:Int} (h0:0≤n) (h1:n < 9223372036854775808):wrk true 64 n=n:=by
 unfold wrk
 have h2:(n % (2 ^ 64:Int))=n:=Int.emod_eq_of_lt h0 (by omega)
 rw [h2]
 simp only [Bool.true_and]
 rw [if_neg]
 simp
 omega
theorem andK_small (x:Int):0≤andK false 64 x 255∧andK false 64 x 255≤255:=by
 unfold andK
 have h:((BitVec.ofInt 64 x &&& BitVec.ofInt 64 255).toNat:Int)≤255:=by
  rw [BitVec.toNat_and]
  have:(BitVec.ofInt 64 x).toNat &&& (BitVec.ofInt 64 255).toNat≤(BitVec.ofInt 64 255).toNat:=Nat.and_le_right
  have e:(BitVec.ofInt 64 255).toNat=255:=by decide
  omega
 generalize hk:((BitVec.ofInt 64 x &&& BitVec.ofInt 64 255).toNat:Int)=k at *
 have h0:0≤k:=by rw [← hk];exact Int.natCast_nonneg _
 unfold wrk
 simp only [Bool.false_and,Bool.false_eq_true,if_false]
 rw [Int.emod_eq_of_lt h0 (by omega)]
 exact ⟨h0,h⟩
theorem dr_next {n:Nat} {c:l1Cur} (h:okC (n + 1) c):Dr n (zcb c) fun b=>0≤b∧b≤255:=by
 have hl:=h.lo;have hh:=h.hi
 have hw:wr (c.at_ + 1)=c.at_ + 1:=wr_of _ (by omega) (by omega)
 have tail:∀ s:Int,0≤s→s≤255→Dr n (bif (decide ((wr (c.at_ + 1))≤(len c.code))) then some (s,(l1Cur.mk c.code (wr (c.at_ + 1)) (wrk false 64 ((wrk false 64 ((wrk false 64 (c.seed * 6364136223846793005)) + (wrk false 64 s))) + 337411)))) else some ((wrk true 64 (andK false 64 (shrK 64 (wrk false 64 ((wrk false 64 ((wrk false 64 (c.seed * 6364136223846793005)) + (wrk false 64 s))) + 337411)) 40) 255)),(l1Cur.mk c.code (wr (c.at_ + 1)) (wrk false 64 ((wrk false 64 ((wrk false 64 (c.seed * 6364136223846793005)) + (wrk false 64 s))) + 337411))))) (fun b=>0≤b∧b≤255):=by
  intro s h0 h1
  rw [hw]
  cases decide (c.at_ + 1≤len c.code)
  · have:=andK_small (shrK 64 (wrk false 64 ((wrk false 64 ((wrk false 64 (c.seed * 6364136223846793005)) + (wrk false 64 s))) + 337411)) 40)
    refine ⟨_,_,rfl,⟨h.code,by show 0≤c.at_ + 1;omega,by show c.at_ + 1 + _≤_;omega⟩,?_⟩
    show 0≤wrk true 64 _∧wrk true 64 _≤255
    rw [wrk_nn this.1 (by omega)];exact this
  · exact ⟨_,_,rfl,⟨h.code,by show 0≤c.at_ + 1;omega,by show c.at_ + 1 + _≤_;omega⟩,h0,h1⟩
 unfold zcb
 cases hd:decide (c.at_ < len c.code) with
 | false=>exact tail 0 (by omega) (by omega)
 | true =>
  have h2:c.at_ < c.code.length:=of_decide_eq_true hd
  obtain ⟨x,hx,hg⟩:=ix_of h.lo h2
  have hm:=h.code.2 x (List.mem_of_getElem? hg)
  simp only [cond_true]
  rw [hx,zad,zau,wrk_nn hm.1 (by have:=hm.2;omega)]
  exact tail x hm.1 hm.2
theorem Dr.bind {A B:Type} {n m:Nat} {x:Option (A×l1Cur)} {Q:A→Prop} {k:A×l1Cur→Option (B×l1Cur)} {R:B→Prop} (h:Dr n x Q) (hk:∀ a c,okC n c→Q a→Dr m (k (a,c)) R):Dr m (bd x k) R:=by
 obtain ⟨a,c,rfl,hc,hq⟩:=h
 exact hk a c hc hq
theorem za2 {n:Nat} {c:l1Cur} (h:okC (n + 2) c) (k:Int):Dr n (zaI c k) fun x=>0≤x∧x≤65535∧(x=0∨x < k):=by
 unfold zaI
 cases hd:decide (k≤1) with
 | true=>exact ⟨_,_,rfl,h.le,by omega,by omega,.inl rfl⟩
 | false =>
  have hk:1 < k:=by have:=of_decide_eq_false hd;omega
  have hz:nz k=some ():=by unfold nz;rw [if_neg (by omega)]
  simp only [cond_false]
  have small:∀ x:Int,0≤x→x≤65535→0≤x.tmod k∧x.tmod k≤65535∧(x.tmod k=0∨x.tmod k < k):=fun x h0 h1=>by
   rw [Int.tmod_eq_emod_of_nonneg h0]
   have g1:=Int.emod_nonneg x (show k≠0 by omega)
   have g2:=Int.emod_lt_of_pos x (show 0 < k by omega)
   have g3:x % k≤x:=by
    have e:=Int.mul_ediv_add_emod x k
    have:=Int.mul_nonneg (show 0≤k by omega) (Int.ediv_nonneg h0 (show 0≤k by omega))
    omega
   exact ⟨g1,by omega,.inr g2⟩
  refine (dr_next (n:=n + 1) h).bind fun b c1 hc1 hb=>?_
  cases decide (200 < k) with
  | true =>
   simp only [cond_true]
   refine (dr_next (n:=n) hc1).bind fun b2 c2 hc2 hb2=>?_
   rw [hz,zad]
   have e1:wr (b * 256)=b * 256:=wr_of _ (by omega) (by omega)
   have e2:wr (b * 256 + b2)=b * 256 + b2:=wr_of _ (by omega) (by omega)
   exact ⟨_,_,rfl,hc2,by show 0≤(wr (wr (b * 256) + b2)).tmod k∧_;rw [e1,e2];exact small _ (by omega) (by omega)⟩
  | false =>
   simp only [cond_false]
   rw [hz,zad]
   exact ⟨_,_,rfl,hc1.le,small b hb.1 (by omega)⟩
theorem zbj {n:Nat} {c:l1Cur} (h:okC (n + 2) c) (k:Int):Dr n (zaK c k) fun _=>True:=by
 unfold zaK
 exact (za2 h k).bind fun a c1 h1 _=>⟨_,_,rfl,h1,trivial⟩
theorem dr_ix {A:Type} {l:List A} (h:l≠[]) {x:Int} (h0:0≤x) (h1:x=0∨x < len l):∃ y,ix l x=some y∧y∈l:=by
 have hl:0 < l.length:=List.length_pos_iff.2 h
 rw [zai] at h1
 obtain ⟨y,hy,hg⟩:=ix_of (xs:=l) h0 (by omega)
 exact ⟨y,hy,List.mem_of_getElem? hg⟩
theorem zbs {n:Nat} {c:l1Cur} (h:okC (n + 2) c) {l:List Int} (hl:l≠[]):Dr n (zaV c l) fun x=>x∈l:=by
 unfold zaV
 refine (za2 h (len l)).bind fun a c1 h1 hq=>?_
 obtain ⟨y,hy,hm⟩:=dr_ix hl hq.1 hq.2.2
 show Dr n (bd (ix l a) _) _
 rw [hy]
 exact ⟨_,_,rfl,h1,hm⟩
theorem dr_of {n:Nat} {c:l1Cur} (h:okC (n + 2) c) {l:List ByteArray} (hl:l≠[]):Dr n (zcG c l) fun x=>x∈l:=by
 unfold zcG
 refine (za2 h (len l)).bind fun a c1 h1 hq=>?_
 obtain ⟨y,hy,hm⟩:=dr_ix hl hq.1 hq.2.2
 show Dr n (bd (ix l a) _) _
 rw [hy]
 exact ⟨_,_,rfl,h1,hm⟩
theorem zbt {T X:Type} {body:T→Option (Lp T X)} (m:T→Nat) (I:T→Prop) (P:Rs T X→Prop)
 (h:∀ s,I s→(∃ s',body s=some (.nx s')∧I s'∧m s' < m s)∨(∃ s',body s=some (.bk s')∧P (.go s'))∨∃ x,body s=some (.rt x)∧P (.rt x)):∀ s,I s→∃ q,iter body s=some q∧P q:=by
 have key:∀ k s,m s < k→I s→∃ q,iter body s=some q∧P q:=by
  intro k
  induction k with
  | zero=>intro s hk;omega
  | succ k ih =>
   intro s hk hi
   rcases h s hi with ⟨s',hb,hi',hm⟩|⟨s',hb,hp⟩|⟨x,hb,hp⟩
   · obtain ⟨q,hq,hp⟩:=ih s' (by omega) hi'
     exact ⟨q,(zbq hb).trans hq,hp⟩
   · exact ⟨_,za9 hb,hp⟩
   · exact ⟨_,iter_rt hb,hp⟩
 intro s hi
 exact key _ s (Nat.lt_succ_self _) hi
theorem dr_loop {T B:Type} {body:T→Option (Lp T Empty)} {s0:T} {k:T→Option (B×l1Cur)} {lx:Empty→Option (B×l1Cur)} {n:Nat} {R:B→Prop} (m:T→Nat) (I:T→Prop) (J:T→Prop)
 (h0:I s0) (h:∀ s,I s→(∃ s',body s=some (.nx s')∧I s'∧m s' < m s)∨(∃ s',body s=some (.bk s')∧J s')) (hk:∀ s,J s→Dr n (k s) R):Dr n (bdR (iter body s0) k lx) R:=by
 obtain ⟨q,hq,hp⟩:=zbt (body:=body) m I (fun q=>match q with|.go s=>J s|.rt x=>x.elim) (fun s hs=>by
  rcases h s hs with g|g
  · exact .inl g
  · exact .inr (.inl g)) s0 h0
 rw [hq]
 cases q with
 | go s=>exact hk s hp
 | rt x=>exact x.elim
theorem loop_ex {T B:Type} {body:T→Option (Lp T Empty)} {s0:T} {k:T→Option B} {lx:Empty→Option B} {R:B→Prop} (m:T→Nat) (I:T→Prop) (J:T→Prop)
 (h0:I s0) (h:∀ s,I s→(∃ s',body s=some (.nx s')∧I s'∧m s' < m s)∨(∃ s',body s=some (.bk s')∧J s')) (hk:∀ s,J s→∃ r,k s=some r∧R r):∃ r,bdR (iter body s0) k lx=some r∧R r:=by
 obtain ⟨q,hq,hp⟩:=zbt (body:=body) m I (fun q=>match q with|.go s=>J s|.rt x=>x.elim) (fun s hs=>by
  rcases h s hs with g|g
  · exact .inl g
  · exact .inr (.inl g)) s0 h0
 rw [hq]
 cases q with
 | go s=>exact hk s hp
 | rt x=>exact x.elim
theorem nx_of {T X:Type} {x:Option (Lp T X)} {P:T→Prop} (h:∃ r,x=some r∧∃ s',r=.nx s'∧P s'):∃ s',x=some (.nx s')∧P s':=by
 obtain ⟨r,e,s',rfl,hp⟩:=h;exact ⟨s',e,hp⟩
def okIs (c:List Int):Prop:=∀ x∈c,okI x
theorem zbk (n:Int):okI (wr n):=wr_bd n
theorem zdO {c:List Int} {v x:Int} (h:x∈zaJ c v):x∈c:=(List.mem_filter.1 h).1
theorem zcE {n:Nat} {c:l1Cur} (h:okC (n + 30) c) (v:Int):Dr n (zbD c v) fun x=>x.length≤4∧okIs x:=by
 unfold zbD
 refine (zbs (n:=n + 28) h (by simp)).bind fun k c1 h1 hk=>?_
 have hk4:0≤k∧k≤4:=by simp only [List.mem_cons,List.not_mem_nil,or_false] at hk;omega
 refine dr_loop (fun s=>s.2.2.2.2.toNat) (fun s=>okC (n + 4 * s.2.2.2.2.toNat) (l1Cur.mk s.1 s.2.1 s.2.2.1)∧0≤s.2.2.2.2∧s.2.2.2.1.length + s.2.2.2.2≤4∧okIs s.2.2.2.1) (fun s=>okC n (l1Cur.mk s.1 s.2.1 s.2.2.1)∧s.2.2.2.1.length≤4∧okIs s.2.2.2.1)
  ⟨h1.le (by show n + 4 * k.toNat≤_;omega),hk4.1,by show (([]:List Int).length:Int) + k≤4;simp;omega,fun x hx=>by cases hx⟩ ?_ (fun s hs=>⟨_,_,rfl,hs⟩)
 rintro ⟨cd,at_,sd,out,j⟩ ⟨g1,g2,g3,g4⟩
 simp only at g1 g2 g3 g4 ⊢
 cases hd:(bif decide (0 < j) then decide (0 < v) else false) with
 | false =>
  simp only [cond_false]
  exact .inr ⟨_,rfl,g1.le,by show out.length≤4;omega,g4⟩
 | true =>
  have hj:0 < j:=by
   cases hx:decide (0 < j) with
   | true=>exact of_decide_eq_true hx
   | false=>rw [hx] at hd;cases hd
  have hlim:lim=4294967296:=rfl
  have hw:wr (j - 1)=j - 1:=wr_of _ (by omega) (by omega)
  left
  simp only [cond_true]
  have e0:n + 4 * j.toNat=(n + 4 * (j - 1).toNat + 2) + 2:=by omega
  rw [e0] at g1
  obtain ⟨r,c2,e1,k1,k2⟩:=za2 g1 v
  rw [e1,zad]
  have hwl:=List.length_filter_le (fun y => !(vr y == wr (1 + r))) out
  rw [zdK (by omega),zad]
  obtain ⟨b,c3,e2,k3,_⟩:=zbj k1 2
  simp only
  rw [e2,zad]
  have hlen:(zaJ out (wr (1 + r))).length≤out.length:=hwl
  have fin:∀ y,okI y→(putL (zaJ out (wr (1 + r))) y).length + (j - 1)≤4∧okIs (putL (zaJ out (wr (1 + r))) y):=fun y hy=>by
   rw [zcD]
   refine ⟨by omega,fun x hx=>?_⟩
   rcases zbI.1 hx with rfl|hx
   · exact hy
   · exact g4 x (zdO hx)
  cases b with
  | true =>
   simp only [cond_true]
   rw [zcC (by omega),zad]
   have f:=fin (wr (-(wr (1 + r)))) (zbk _)
   exact ⟨_,rfl,⟨by rw [hw];exact k3,by dsimp only;rw [hw];omega,by rw [hw];exact f.1,f.2⟩,by dsimp only;rw [hw];omega⟩
  | false =>
   simp only [cond_false]
   rw [zcC (by omega),zad]
   have f:=fin (wr (1 + r)) (zbk _)
   exact ⟨_,rfl,⟨by rw [hw];exact k3,by dsimp only;rw [hw];omega,by rw [hw];exact f.1,f.2⟩,by dsimp only;rw [hw];omega⟩
end Go.PF
namespace Go.PF
open Go.Pu
structure Le {A:Type} (x y:Option A):Prop where
 le:∀ r,x=some r→y=some r
theorem Le.rfl' {A:Type} (x:Option A):Le x x:=⟨fun _ h=>h⟩
def iterC {S X:Type}:Nat→(S→Option (Lp S X))→S→Option (Rs S X)
 | 0,_,_=>none
 | n + 1,b,s=>match b s with
  | none=>none
  | some (.nx s')=>iterC n b s'
  | some (.bk s')=>some (.go s')
  | some (.rt x)=>some (.rt x)
theorem iterC_le {S X:Type} {f g:S→Option (Lp S X)} (h:∀ s,Le (f s) (g s)) (n:Nat) (s:S):Le (iterC n f s) (iter g s):=by
 constructor
 induction n generalizing s with
 | zero=>intro r e;cases e
 | succ n ih =>
  intro r e
  unfold iterC at e
  split at e
  · cases e
  · rename_i s' hb;rw [zbq ((h s).le _ hb)];exact ih _ _ e
  · rename_i s' hb;cases e;exact za9 ((h s).le _ hb)
  · rename_i x hb;cases e;exact iter_rt ((h s).le _ hb)
theorem bd_le {A B:Type} {x y:Option A} {k l:A→Option B} (h:Le x y) (hk:∀ a,Le (k a) (l a)):Le (bd x k) (bd y l):=by
 constructor
 intro r e
 obtain ⟨a,h1,h2⟩:=bnd e
 rw [h.le _ h1,zad];exact (hk a).le _ h2
theorem bdR_le {S X B:Type} {x y:Option (Rs S X)} {k k':S→Option B} {l l':X→Option B} (h:Le x y) (hk:∀ a,Le (k a) (k' a)) (hl:∀ a,Le (l a) (l' a)):Le (bdR x k l) (bdR y k' l'):=by
 unfold bdR
 refine bd_le h fun a=>?_
 cases a with
 | go s=>exact hk s
 | rt x=>exact hl x
theorem bif_le {A:Type} {c:Bool} {x x' y y':Option A} (h:Le x x') (h':Le y y'):Le (bif c then x else y) (bif c then x' else y'):=by
 cases c
 · exact h'
 · exact h
theorem forFrom_le {S X:Type} {f g:Nat→S→Option (Lp S X)} (h:∀ i s,Le (f i s) (g i s)):∀ (n i:Nat) (s:S),Le (zbp f n i s) (zbp g n i s):=by
 intro n
 induction n with
 | zero=>intro i s;exact Le.rfl' _
 | succ n ih =>
  intro i s
  constructor
  intro r e
  unfold zbp at e ⊢
  split at e
  · cases e
  · rename_i s' hb;rw [(h i s).le _ hb];exact (ih _ _).le _ e
  · rename_i s' hb;rw [(h i s).le _ hb];exact e
  · rename_i x hb;rw [(h i s).le _ hb];exact e
theorem forR_le {S X:Type} {f g:Nat→S→Option (Lp S X)} (h:∀ i s,Le (f i s) (g i s)) (a n:Nat) (s:S):Le (forR a n f s) (forR a n g s):=forFrom_le h _ _ _
end Go.PF
namespace Go.PF
open Go.Pu
def zdP (a0:Int) (a1:ByteArray):Option ((List Int)×Bool) :=
 (bif (a1.toList == (ByteArray.mk #[110,111,110,101]).toList) then some ([],(PF.zaZ a0)) else bd (PF.zcc a1 32) (fun r30=>bdR (iterC 70 (S:=((List Int)×Int)) (X:=((List Int)×Bool)) (fun s40=>(bif (bif (decide (s40.2 < (len r30))) then (decide (s40.2≤12)) else false) then bd (ix r30 s40.2) (fun x134=>bd (PF.zcd x134) (fun r136=>(bif (!r136.2) then some (Lp.rt ([],false)) else bd (app s40.1 [r136.1]) (fun xs152=>some (Lp.nx (xs152,(wr (s40.2 + 1)))))))) else some (Lp.bk (s40.1,s40.2)))) ([],0)) (fun s40=>bd (bif (decide (12 < (len r30))) then some true else bd (PF.zbC a0 s40.1) (fun r195=>some (!r195))) (fun t183=>bd (bif t183 then some true else bd (PF.zce s40.1) (fun r225=>some (!(r225.toList == a1.toList)))) (fun t213=>(bif t213 then some ([],false) else some (s40.1,true))))) (fun x40=>some x40)))
theorem c_spec_l2Parse_le:∀ (a0:Int) (a1:ByteArray),Le (zdP a0 a1) (zcH a0 a1):=by
 intro a0 a1
 unfold zdP zcH
 repeat' first|with_reducible exact Le.rfl' _  | with_reducible apply iterC_le|with_reducible apply bdR_le|with_reducible apply bd_le|with_reducible apply forR_le|with_reducible apply bif_le|exact Empty.elim (by assumption)|intro _
def zdQ (a0:Cnf):Option ByteArray :=
 bd (PF.zbS a0.vars) (fun r29=>bdR (iterC 70 (S:=(ByteArray×Int)) (X:=Empty) (fun s34=>(bif (decide (s34.2 < (len a0.clauses))) then bd (catS s34.1 (ByteArray.mk #[59,32])) (fun z72=>bd (ix a0.clauses s34.2) (fun x80=>bd (PF.zce x80) (fun r84=>bd (catS z72 r84) (fun z89=>some (Lp.nx (z89,(wr (s34.2 + 1)))))))) else some (Lp.bk (s34.1,s34.2)))) (r29,0)) (fun s34=>some s34.1) (fun x34=>nomatch x34))
theorem c_spec_l2TextOf_le:∀ (a0:Cnf),Le (zdQ a0) (zcI a0):=by
 intro a0
 unfold zdQ zcI
 repeat' first|with_reducible exact Le.rfl' _  | with_reducible apply iterC_le|with_reducible apply bdR_le|with_reducible apply bd_le|with_reducible apply forR_le|with_reducible apply bif_le|exact Empty.elim (by assumption)|intro _
def zdR (a0:ByteArray):Option (Cnf×Bool) :=
 bd (PF.zcc a0 59) (fun r25=>bd (ix r25 0) (fun x41=>bd (PF.zcd x41) (fun r43=>(bif (bif (bif (!r43.2) then true else (!(PF.zaZ r43.1))) then true else (decide (61 < (len r25)))) then some ((Cnf.mk 0 []),false) else bdR (iterC 70 (S:=((List (List Int))×Int×Int)) (X:=(Cnf×Bool)) (fun s94=>(bif (decide (s94.2.2 < (len r25))) then bd (ix r25 s94.2.2) (fun x334=>bd (bif (decide ((x334.size:Int) < 2)) then some true else bd (ix r25 s94.2.2) (fun x359=>bd (ixS x359 0) (fun z361=>some (!(z361 == 32))))) (fun t346=>(bif t346 then some (Lp.rt ((Cnf.mk 0 []),false)) else bd (ix r25 s94.2.2) (fun x380=>bd (cutS x380 1 (x380.size:Int)) (fun z382=>bd (PF.zdP r43.1 z382) (fun r384=>(bif (!r384.2) then some (Lp.rt ((Cnf.mk 0 []),false)) else bd (app s94.1 [r384.1]) (fun xs409=>some (Lp.nx (xs409,s94.2.1,(wr (s94.2.2 + 1)))))))))))) else some (Lp.bk (s94.1,s94.2.1,s94.2.2)))) ([],r43.1,1)) (fun s94=>bd (PF.zdQ (Cnf.mk s94.2.1 s94.1)) (fun r439=>(bif (!(r439.toList == a0.toList)) then some ((Cnf.mk 0 []),false) else some ((Cnf.mk s94.2.1 s94.1),true)))) (fun x94=>some x94)))))
theorem c_spec_ParseCnf_le:∀ (a0:ByteArray),Le (zdR a0) (zcJ a0):=by
 intro a0
 have h_spec_l2Parse:=c_spec_l2Parse_le
 have h_spec_l2TextOf:=c_spec_l2TextOf_le
 unfold zdR zcJ
 repeat' first|with_reducible exact Le.rfl' _|with_reducible exact h_spec_l2Parse _ _|with_reducible exact h_spec_l2TextOf _|with_reducible apply iterC_le|with_reducible apply bdR_le|with_reducible apply bd_le|with_reducible apply forR_le|with_reducible apply bif_le|exact Empty.elim (by assumption)|intro _
def zdq (a0:ByteArray):Option Cnf :=
 bd (PF.zdR a0) (fun r25=>some r25.1)
theorem c_spec_l2Known_le:∀ (a0:ByteArray),Le (zdq a0) (zbT a0):=by
 intro a0
 have h_spec_ParseCnf:=c_spec_ParseCnf_le
 unfold zdq zbT
 repeat' first|with_reducible exact Le.rfl' _|with_reducible exact h_spec_ParseCnf _|with_reducible apply iterC_le|with_reducible apply bdR_le|with_reducible apply bd_le|with_reducible apply forR_le|with_reducible apply bif_le|exact Empty.elim (by assumption)|intro _
def knownB (t:ByteArray):Bool:=match zdq t with
 | some f=>cnfB f && decide (f.vars≤4)
 | none=>false
theorem knownB_all:(zbB.all knownB)=true:=by decide +kernel
theorem known_ok {t:ByteArray} (h:t∈zbB):∃ f,zbT t=some f∧cnfB f=true∧f.vars≤4:=by
 have h1:=List.all_eq_true.1 knownB_all t h
 unfold knownB at h1
 cases hc:zdq t with
 | none=>rw [hc] at h1;cases h1
 | some f =>
  rw [hc] at h1
  simp only [Bool.and_eq_true,decide_eq_true_eq] at h1
  exact ⟨f,(c_spec_l2Known_le t).le _ hc,h1.1,h1.2⟩
end Go.PF
namespace Go.PF
open Go.Pu
structure SmC (N M:Nat) (f:Cnf):Prop where
 vars:okI f.vars
 len:f.clauses.length≤N
 cl:∀ c∈f.clauses,c.length≤M∧okIs c
theorem SmC.ok {N M:Nat} {f:Cnf} (h:SmC N M f) (hN:N≤1000000:=by decide) (hM:M≤1000000:=by decide):okCnf f:=by
 refine ⟨h.vars,?_,fun c hc=>⟨?_,(h.cl c hc).2⟩⟩
 · have:=h.len;omega
 · have:=(h.cl c hc).1;omega
theorem dr_lit {n:Nat} {c:l1Cur} (h:okC (n + 8) c) (v:Int):Dr n (zcM c v) okI:=by
 unfold zcM
 have tail:∀ (t:Bool) (c1:l1Cur),okC (n + 4) c1→Dr n (bif t then bd (zaV c1 [0,(wr (v + 1)),(wr ((wr (-v)) - 1))]) (fun r=>some (r.1,r.2)) else bd (zaI c1 v) (fun r=>bd (zaK r.2 2) (fun s=>(bif s.1 then some ((wr (-(wr (1 + r.1)))),s.2) else some ((wr (1 + r.1)),s.2))))) okI:=by
  intro t c1 h1
  cases t with
  | true =>
   refine (zbs (n:=n) h1.le (by simp)).bind fun x c2 h2 hx=>⟨_,_,rfl,h2,?_⟩
   simp only [List.mem_cons,List.not_mem_nil,or_false] at hx
   show okI x
   rcases hx with rfl|rfl|rfl
   · unfold okI;omega
   · exact zbk _
   · exact zbk _
  | false =>
   refine (za2 (n:=n + 2) h1.le v).bind fun x c2 h2 hx=>?_
   refine (zbj (n:=n) h2 2).bind fun b c3 h3 _=>?_
   cases b
   · exact ⟨_,_,rfl,h3,zbk _⟩
   · exact ⟨_,_,rfl,h3,zbk _⟩
 cases decide (v < 1) with
 | true =>
  simp only [cond_true,zad]
  exact tail true c h.le
 | false =>
  simp only [cond_false]
  obtain ⟨b,c1,e,h1,_⟩:=zbj (n:=n + 4) (c:=c) h.le 40
  rw [e,zad,zad]
  exact tail b c1 h1
theorem ix0 {A:Type} {l:List A} (h:0 < l.length):∃ x,ix l 0=some x∧x∈l:=by
 obtain ⟨x,hx,hg⟩:=ix_of (xs:=l) (i:=0) (by omega) (by omega)
 exact ⟨x,hx,List.mem_of_getElem? hg⟩
theorem put_mem {l ys:List Int} {i x:Int} (h:put l i x=some ys) (hl:okIs l) (hx:okI x):ys.length=l.length∧okIs ys:=by
 obtain ⟨_,_,rfl⟩:=put_some h
 exact ⟨List.length_set,fun y hy=>by
  rcases List.mem_or_eq_of_mem_set hy with g|rfl
  · exact hl y g
  · exact hx⟩
theorem put_is {A:Type} {l:List A} {i:Int} (x:A) (h0:0≤i) (h1:i < l.length):∃ ys,put l i x=some ys:=⟨_,by unfold put;rw [if_pos ⟨h0,h1⟩]⟩
theorem dr_anyClause {n:Nat} {c:l1Cur} (h:okC (n + 50) c) (v:Int):Dr n (zbV c v) fun x=>x.length≤5∧okIs x:=by
 unfold zbV
 refine (zcE (n:=n + 20) h.le v).bind fun l c1 h1 hl=>?_
 refine (za2 (n:=n + 18) h1 32).bind fun k c2 h2 _=>?_
 have hlim:lim=4294967296:=rfl
 show Dr n (bif (k == 0) then _ else _) _
 cases k == 0 with
 | true =>
  refine (dr_lit (n:=n) (c:=c2) h2.le v).bind fun x c3 h3 hx=>?_
  rw [zaD (by simp;omega)]
  exact ⟨_,_,rfl,h3,by simp;omega,fun y hy=>by
   rcases List.mem_append.1 hy with g|g
   · exact hl.2 y g
   · rw [List.mem_singleton] at g;subst g;exact hx⟩
 | false =>
 show Dr n (bif (k == 1) then _ else _) _
 cases k == 1 with
 | true =>
  simp only [cond_true]
  cases hd:decide (0 < len l) with
  | false=>exact ⟨_,_,rfl,h2.le,by show l.length≤5;omega,hl.2⟩
  | true =>
   simp only [cond_true]
   have hl0:0 < l.length:=by have:=of_decide_eq_true hd;rw [zai] at this;omega
   refine (zbs (n:=n) (c:=c2) h2.le (by simp)).bind fun x c3 h3 hx=>?_
   obtain ⟨y,hy,_⟩:=ix0 hl0
   obtain ⟨ys,hys⟩:=put_is (l:=l) (i:=0) x (by omega) (by omega)
   rw [hy,zad]
   show Dr n (bd (put l 0 x) _) _
   rw [hys]
   have hx':okI x:=by
    simp only [List.mem_cons,List.not_mem_nil,or_false] at hx
    rcases hx with rfl|rfl|rfl|rfl
    · unfold okI;omega
    · exact zbk _
    · exact zbk _
    · unfold okI;omega
   have:=put_mem hys hl.2 hx'
   exact ⟨_,_,rfl,h3,by show ys.length≤5;omega,this.2⟩
 | false =>
 show Dr n (bif (k == 2) then _ else _) _
 cases k == 2 with
 | false=>exact ⟨_,_,rfl,h2.le,by show l.length≤5;omega,hl.2⟩
 | true =>
  simp only [cond_true]
  cases hd:decide (1 < len l) with
  | false=>exact ⟨_,_,rfl,h2.le,by show l.length≤5;omega,hl.2⟩
  | true =>
   simp only [cond_true]
   have hl0:1 < l.length:=by have:=of_decide_eq_true hd;rw [zai] at this;omega
   obtain ⟨x,hx,hxm⟩:=ix0 (l:=l) (by omega)
   obtain ⟨y,hy,hg⟩:=ix_of (xs:=l) (i:=1) (by omega) (by omega)
   obtain ⟨ys,hys⟩:=put_is (l:=l) (i:=0) y (by omega) (by omega)
   have p1:=put_mem hys hl.2 (hl.2 y (List.mem_of_getElem? hg))
   obtain ⟨z,hz,_⟩:=ix_of (xs:=ys) (i:=1) (by omega) (by omega)
   obtain ⟨zs,hzs⟩:=put_is (l:=ys) (i:=1) x (by omega) (by omega)
   have p2:=put_mem hzs p1.2 (hl.2 x hxm)
   rw [hx,zad,hy,zad,zad,hys,zad,hz,zad,hzs]
   exact ⟨_,_,rfl,h2.le,by show zs.length≤5;omega,p2.2⟩
theorem rename_ok {f:Cnf} {N:Nat} (hf:cnfB f=true) (hN:f.clauses.length≤N) (hN2:N≤60) {to:List Int} (ht:okIs to) (hl:to.length≤1000):∃ r,zcL f to=some r∧SmC N 12 r.1:=by
 have hlim:lim=4294967296:=rfl
 have hv:0≤f.vars∧f.vars≤12:=by
  unfold cnfB at hf
  simp only [Bool.and_eq_true] at hf
  exact varsB_iff.1 hf.1.1
 have hc:∀ c∈f.clauses,IsC f.vars c:=fun c hc=>by
  unfold cnfB at hf
  simp only [Bool.and_eq_true] at hf
  exact zbc.1 (List.all_eq_true.1 hf.2 c hc)
 have hok:okCnf f:=⟨by unfold okI;omega,⟨by omega,fun c h=>(hc c h).ok⟩⟩
 have bad:SmC N 12 (Cnf.mk 0 []):=⟨by unfold okI;decide,by simp,fun c h=>by cases h⟩
 unfold zcL
 rw [zdm hok,zad,hf]
 simp only [Bool.not_true,cond_false]
 cases hlen:(len to == f.vars) with
 | false=>exact ⟨_,rfl,bad⟩
 | true =>
 have hlen':(to.length:Int)=f.vars:=by rw [← zai];exact eq_of_beq hlen
 simp only [Bool.not_true,cond_false]
 -- the test of the new names: whatever it comes to
 have test:∀ {body:Nat→Int→Unit→Option (Lp Unit (Cnf×Bool))},(∀ i y u,i < to.length→∃ q,body i y u=some q∧(q=.nx ()∨q=.rt (Cnf.mk 0 [],false)))→∃ q,forL to body ()=some q∧(q=.go ()∨q=.rt (Cnf.mk 0 [],false)):=by
  intro body hb
  have key:∀ (l:List Int) (i:Nat),i + l.length≤to.length→∃ q,zaL body l i ()=some q∧(q=.go ()∨q=.rt (Cnf.mk 0 [],false)):=by
   intro l
   induction l with
   | nil=>intro i _;exact ⟨_,rfl,.inl rfl⟩
   | cons y l ih =>
    intro i hi
    simp only [List.length_cons] at hi
    obtain ⟨q,hq,h⟩:=hb i y () (by omega)
    unfold zaL
    rw [hq]
    rcases h with rfl|rfl
    · exact ih (i + 1) (by omega)
    · exact ⟨_,rfl,.inr rfl⟩
  exact key to 0 (by omega)
 obtain ⟨q,hq,hq2⟩:=test (body:=fun i54 y53 s54=>bd (bif (!(PF.zbf f.vars y53)) then some true else bd (cut to 0 ((i54:Nat):Int)) (fun xs190=>bd (PF.zaX xs190 y53) (fun r201=>some r201))) (fun t183=>bd (bif t183 then some true else bd (cut to 0 ((i54:Nat):Int)) (fun xs228=>bd (PF.zaX xs228 (wr (-y53))) (fun r239=>some r239))) (fun t221=>(bif t221 then some (Lp.rt ((Cnf.mk 0 []),false)) else some (Lp.nx ()))))) (by
  intro i y u hi
  rw [show (0:Int)=((0:Nat):Int) from rfl,cut_ok (Nat.zero_le _) (by omega),zad,zbH,zad,zad,zbH,zad]
  cases PF.zbf f.vars y with
  | false=>exact ⟨_,rfl,.inr rfl⟩
  | true =>
   simp only [Bool.not_true,cond_false,zad]
   cases ((to.take i).drop 0).contains y with
   | true=>exact ⟨_,rfl,.inr rfl⟩
   | false =>
    simp only [cond_false,zad]
    cases ((to.take i).drop 0).contains (wr (-y)) with
    | true=>exact ⟨_,rfl,.inr rfl⟩
    | false=>exact ⟨_,rfl,.inl rfl⟩)
 rw [hq]
 rcases hq2 with rfl|rfl
 rotate_left
 · exact ⟨_,rfl,bad⟩
 simp only [zau]
 -- the clauses
 refine loop_ex
  (fun s=>f.clauses.length - s.2.2.toNat) (fun s=>0≤s.2.2∧s.2.2≤f.clauses.length∧s.1.length=s.2.2.toNat∧s.2.1=f.vars∧∀ c∈s.1,c.length≤12∧okIs c)
  (fun s=>s.2.1=f.vars∧s.1.length≤N∧∀ c∈s.1,c.length≤12∧okIs c) ⟨by show (0:Int)≤0;omega,by show (0:Int)≤_;omega,rfl,rfl,fun c h=>by cases h⟩ (by
   rintro ⟨out,v,k⟩ ⟨g1,g2,g3,g4,g5⟩
   simp only at g1 g2 g3 g4 g5 ⊢
   subst g4
   cases hd:decide (k < len f.clauses) with
   | false=>exact .inr ⟨_,rfl,rfl,by show out.length≤N;omega,g5⟩
   | true =>
    have hk:k < f.clauses.length:=by have:=of_decide_eq_true hd;rwa [zai] at this
    obtain ⟨c,hcx,hcg⟩:=ix_of (xs:=f.clauses) g1 hk
    have hC:=hc c (List.mem_of_getElem? hcg)
    have hcl:=hC.len
    have hw:wr (k + 1)=k + 1:=wr_of _ (by omega) (by omega)
    simp only [cond_true,hcx,zad]
    left
    refine nx_of (loop_ex
     (fun s=>c.length - s.2.toNat) (fun s=>0≤s.2∧s.2≤c.length∧s.1.length=s.2.toNat∧okIs s.1) (fun s=>s.1.length≤12∧okIs s.1) ⟨by show (0:Int)≤0;omega,by show (0:Int)≤_;omega,rfl,fun x h=>by cases h⟩ (by
      rintro ⟨cs,j⟩ ⟨k1,k2,k3,k4⟩
      simp only at k1 k2 k3 k4 ⊢
      cases hd2:decide (j < len c) with
      | false=>exact .inr ⟨_,rfl,by show cs.length≤12;omega,k4⟩
      | true =>
       have hj:j < c.length:=by have:=of_decide_eq_true hd2;rwa [zai] at this
       obtain ⟨x,hx,hxg⟩:=ix_of (xs:=c) k1 hj
       have hX:=hC.lit x (List.mem_of_getElem? hxg)
       have hw2:wr (j + 1)=j + 1:=wr_of _ (by omega) (by omega)
       have hvr:zaq x=x.natAbs:=by rw [zdF];exact vr_abs (by omega) (by omega)
       have hw3:wr (zaq x - 1)=x.natAbs - 1:=by rw [hvr];exact wr_of _ (by omega) (by omega)
       obtain ⟨y,hy,hyg⟩:=ix_of (xs:=to) (i:=(x.natAbs:Int) - 1) (by omega) (by omega)
       have hY:=ht y (List.mem_of_getElem? hyg)
       left
       simp only [cond_true,hx,zad,hw3,hy]
       have fin:∀ z,okI z→okIs (putL cs z):=fun z hz w hw=>by
        rcases zbI.1 hw with rfl|hw
        · exact hz
        · exact k4 w hw
       cases decide (x < 0) with
       | true =>
        simp only [cond_true]
        rw [zcC (by omega),zad]
        exact ⟨_,rfl,⟨by dsimp only;rw [hw2];omega,by dsimp only;rw [hw2];omega,by dsimp only;rw [zcD,hw2];omega,fin _ (zbk _)⟩,by dsimp only;rw [hw2];omega⟩
       | false =>
        simp only [cond_false]
        rw [zcC (by omega),zad]
        exact ⟨_,rfl,⟨by dsimp only;rw [hw2];omega,by dsimp only;rw [hw2];omega,by dsimp only;rw [zcD,hw2];omega,fin _ hY⟩,by dsimp only;rw [hw2];omega⟩) (fun s e2=>?_))
    · have e3:s.1.length≤12∧okIs s.1:=e2
      rw [zaD (by simp;omega),zad]
      refine ⟨_,rfl,_,rfl,⟨by dsimp only;rw [hw];omega,by dsimp only;rw [hw];omega,by dsimp only;rw [hw,List.length_append,List.length_singleton];omega,rfl,fun x hx=>?_⟩,by dsimp only;rw [hw];omega⟩
      rcases List.mem_append.1 hx with g|g
      · exact g5 x g
      · rw [List.mem_singleton] at g;subst g;exact e3) (fun s h4=>?_)
 have h4:s.2.1=f.vars∧s.1.length≤N∧∀ c∈s.1,c.length≤12∧okIs c:=h4
 exact ⟨_,rfl,by show okI s.2.1;rw [h4.1];unfold okI;omega,h4.2.1,h4.2.2⟩
end Go.PF
