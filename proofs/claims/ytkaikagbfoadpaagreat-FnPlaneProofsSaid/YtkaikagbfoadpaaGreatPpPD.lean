/- Helpers of the walks and plain laws. -/
import Derived.Test.YtkaikagbfoadpaaGreatPpPC
import Derived.Test.YtkaikagbfoadpaaGreatPpPA
import Derived.Test.YtkaikagbfoadpaaGreatPpPB
set_option linter.unusedVariables false
namespace Go.PF
open Go.Pu
structure IsX (V:Int) (S:List zae):Prop where
 le:S.length≤200
 clause:∀ {x:zae},x∈S→IsC V x.clause
 nums:∀ {i:Nat} {x:zae},S[i]?=some x→(x.left=-1∧True)∨(0≤x.left∧x.left < i∧x.right=-1∧True)∨(0≤x.left∧x.left < i∧0≤x.right∧x.right < i∧True)
theorem IsX.before {V:Int} {S:List zae} (h:IsX V S) {i:Nat} {x:zae} (hx:S[i]?=some x) (hl:0≤x.left):x.left < i∧(0≤x.right→x.right < i):=by
 rcases h.nums hx with h|h|h <;> omega
theorem IsX.prem {V:Int} {S:List zae} (h:IsX V S) {i:Nat} {x:zae} (hx:S[i]?=some x):∀ k∈prem x,0≤k∧k < i:=by
 intro k hk
 unfold PF.prem at hk
 have hb:=h.before hx
 by_cases h1:x.left < 0
 · simp [h1] at hk
 · have h0:0≤x.left:=by omega
   obtain ⟨b1,b2⟩:=hb h0
   by_cases h2:0≤x.right
   · simp only [h1,decide_false,cond_false,h0,h2,decide_true,Bool.and_true,cond_true,List.mem_cons,List.not_mem_nil,or_false] at hk
     rcases hk with rfl|rfl
     · omega
     · have:=b2 h2;omega
   · simp only [h1,decide_false,cond_false,h0,h2,decide_true,Bool.and_false,List.mem_cons,List.not_mem_nil,or_false] at hk
     rw [hk];omega
theorem rem_outX {V:Int} {S:List zae} (h:IsX V S):∀ {k i:Nat} {M:List Bool},k≤S.length→k≤i + 1→(rem S k M)[i]?=M[i]?:=by
 intro k
 induction k with
 | zero=>intro i M _ _;rfl
 | succ k ih =>
  intro i M hk hi
  obtain ⟨x,hx⟩:∃ x,S[k]?=some x:=⟨_,List.getElem?_eq_getElem (by omega)⟩
  rw [rem_succ hx,ih (by omega) (by omega)]
  unfold nst
  cases bAt M k with
  | true=>exact setT_out (h.prem hx) (by omega)
  | false=>rfl
theorem mask_premX {V:Int} {S:List zae} (h:IsX V S) {i:Nat} {x:zae} (hx:S[i]?=some x) (hm:bAt (mask S) i=true):∀ k∈prem x,bAt (mask S) k.toNat=true:=by
  intro k hk
  have hi:=(List.getElem?_eq_some_iff.1 hx).1
  have key:∀ (m:Nat) (M:List Bool),M.length=S.length→m≤S.length→(i < m∨bAt M k.toNat=true)→bAt (rem S m M) i=true→bAt (rem S m M) k.toNat=true:=by
    intro m
    induction m with
    | zero => intro M hM _ h1 _;rcases h1 with h1|h1;· omega
              · exact h1
    | succ m ih =>
      intro M hM hm' h1 h2
      obtain ⟨y,hy⟩:∃ y,S[m]?=some y:=⟨_,List.getElem?_eq_getElem (by omega)⟩
      rw [rem_succ hy] at h2 ⊢
      refine ih _ (by rw [nst_len,hM]) (by omega) ?_ h2
      by_cases e:i=m
      · subst e
        rw [hx] at hy;cases hy
        right
        have h3:bAt M i=true:=by
          have:=rem_outX h (k:=i) (i:=i) (M:=nst M (x,i)) (by omega) (by omega)
          unfold bAt at h2 ⊢
          rw [this] at h2
          unfold nst at h2
          cases hb:bAt M i with
          | true=>exact hb
          | false=>rw [hb] at h2;exact h2
        unfold nst
        simp only [h3,cond_true]
        exact setT_in (fun z hz=>by have:=h.prem hx z hz;omega) (.inl hk)
      · rcases h1 with h1|h1
        · exact .inl (by omega)
        · right
          unfold nst
          cases bAt M m with
          | true=>exact setT_in (fun z hz=>by have:=h.prem hy z hz;omega) (.inr h1)
          | false=>exact h1
  have hk1:=h.prem hx k hk
  exact key _ _ (by simp) (Nat.le_refl _) (.inl hi) hm
theorem uses_premX {V:Int} {S:List zae} (h:IsX V S) {i:Nat} {x:zae} (hx:S[i]?=some x):zbz x=prem x:=by
 unfold zbz prem
 rcases h.nums hx with ⟨h1,_⟩|⟨h1,h2,h3,_⟩|⟨h1,h2,h3,h4,_⟩
 · simp [h1]
 · have e1:(x.left == -1)=false:=by rw [beq_eq_false_iff_ne];omega
   have e2:decide (x.left < 0)=false:=by simp;omega
   have e3:(x.right == -1)=true:=by rw [beq_iff_eq];exact h3
   have e4:decide (0≤x.right)=false:=by simp;omega
   simp [e1,e2,e3,e4]
 · have e1:(x.left == -1)=false:=by rw [beq_eq_false_iff_ne];omega
   have e2:decide (x.left < 0)=false:=by simp;omega
   have e3:(x.right == -1)=false:=by rw [beq_eq_false_iff_ne];omega
   have e4:decide (0≤x.left)=true:=by simp;omega
   have e5:decide (0≤x.right)=true:=by simp;omega
   simp [e1,e2,e3,e4,e5]
theorem spec_l7Needed_eqX {V:Int} {S:List zae} (h:IsX V S):zdU S=some (mask S):=by
 have hS:=h.le
 unfold zdU
 rw [show len S=((S.length:Nat):Int) from rfl,mk2_ok (by unfold lim;omega),zaa]
 rw [show wr (((S.length:Nat):Int) - 1)=len S - 1 from zbQ (by omega)]
 have hI:∀ M,(M.length=S.length∧rem S 0 (bif (0 == S.length) then M.set (S.length - 1) true else M)=mask S)→M=mask S:=fun M hM=>by
  have h2:=hM.2
  by_cases h0:S.length=0
  · have e:S=[]:=List.eq_nil_of_length_eq_zero h0
    subst e
    have:M=[]:=List.eq_nil_of_length_eq_zero hM.1
    subst this;rfl
  · rw [show (0 == S.length)=false by rw [beq_eq_false_iff_ne];omega] at h2
    exact h2
 refine bdR_down (X:=Empty) (xs:=S) (fun M p=>nst (bif p.2 == S.length - 1 then M.set p.2 true else M) p) (s0:=List.replicate S.length false)
  (fun k M=>M.length=S.length∧rem S k (bif (k == S.length) then M.set (S.length - 1) true else M)=mask S) ⟨by simp,by simp [mask]⟩ ?hh ?he ?hk
 case hk=>intro M hM;rw [hI M hM]
 case he=>intro M;rfl
 case hh =>
  intro i x M hx ⟨hM,hr⟩
  have hi:=(List.getElem?_eq_some_iff.1 hx).1
  have hd:decide ((0:Int)≤(i:Int))=true:=by simp
  have hix:ix S (i:Int)=some x:=by rw [zaA];exact hx
  have hcmp:((i:Int) == len S - 1)=(i == S.length - 1):=by
   rw [zak,Bool.eq_iff_iff,beq_iff_eq,beq_iff_eq];omega
  have hwd:wr ((i:Int) - 1)=(i:Int) - 1:=wr_down hi (by omega)
  have key2:∀ N:List Bool,N.length=S.length→∃ k,iter (S:=List Bool×Int) (X:=Empty) (fun s=>bd (bif decide (s.2 < len (zbz x)) then bd (ix s.1 (i:Int)) (fun x=>some x) else some false) (fun t=>bif t then bd (ix (zbz x) s.2) (fun z=>bd (ix s.1 z) (fun _=>bd (put s.1 z true) (fun xs=>some (.nx (xs,wr (s.2 + 1)))))) else some (.bk (s.1,s.2)))) (N,0)=some (.go (nst N (x,i),k)):=fun N hN=>by
   rw [uses_premX h hx]
   exact uses_loop (us:=prem x) (M:=N) (i:=i) (by omega) (h.prem hx) (prem_len x) (fun s=>rfl)
  have hstep:rem S i (nst (bif i == S.length - 1 then M.set i true else M) (x,i))=mask S:=by
   rw [← rem_succ hx]
   by_cases e:i=S.length - 1
   · have e1:(i == S.length - 1)=true:=by rw [beq_iff_eq];exact e
     have e2:(i + 1 == S.length)=true:=by rw [beq_iff_eq];omega
     rw [e2] at hr
     rw [e1]
     simp only [cond_true] at hr ⊢
     rw [e];rw [e] at hr;exact hr
   · have e1:(i == S.length - 1)=false:=by rw [beq_eq_false_iff_ne];exact e
     have e2:(i + 1 == S.length)=false:=by rw [beq_eq_false_iff_ne];omega
     rw [e2] at hr
     rw [e1]
     exact hr
  have hlen:(nst (bif i == S.length - 1 then M.set i true else M) (x,i)).length=S.length:=by
   rw [nst_len];cases (i == S.length - 1) <;> simp [hM]
  refine ⟨?_,hlen,?_⟩
  · simp only [hd,cond_true,hcmp]
    obtain ⟨y,hy⟩:=ix_len (M:=M) (i:=i) (by omega)
    cases hc:(i == S.length - 1) with
    | true =>
     simp only [cond_true,hy,zaa,zbH (show i < M.length by omega),hix]
     obtain ⟨k,hk⟩:=key2 (M.set i true) (by simpa using hM)
     rw [hk,zaE,hwd]
    | false =>
     simp only [cond_false,hix,zaa]
     obtain ⟨k,hk⟩:=key2 M hM
     rw [hk,zaE,hwd]
  · rw [show (i == S.length)=false by rw [beq_eq_false_iff_ne];omega]
    exact hstep
theorem spec_moved_trimX {V:Int} {S:List zae} (h:IsX V S) {i:Nat} {x:zae} (hx:S[i]?=some x) {to:List Int} (ht:∀ k:Int,k∈prem x→ix to k=some (posN S k)):zc6 x to=some (trimX S x):=by
 have hc:=(h.clause (List.mem_of_getElem? hx)).len
 unfold zc6 trimX
 rw [zeh (by unfold lim;omega),zaa]
 cases hl:decide (0≤x.left) with
 | false=>rfl
 | true =>
  have h0:=of_decide_eq_true hl
  simp only [cond_true]
  rw [ht _ (prem_left h0),zaa]
  cases hr:decide (0≤x.right) with
  | false=>rfl
  | true =>
   simp only [cond_true]
   rw [ht _ (prem_right h0 (of_decide_eq_true hr)),zaa]
theorem spec_l7Trim_eqX {V:Int} {S:List zae} (hD:IsX V S):zbs S=some (trimL S (need S)):=by
 have hSl:=hD.le
 unfold zbs
 rw [spec_l7Needed_eqX hD,zaa,show len S=((S.length:Nat):Int) from rfl,mk2_ok (by unfold lim;omega),zaa]
 obtain ⟨⟨out,to⟩,h1,h2,h3⟩:=forL_inv (X:=Empty) (l:=S) (s:=([],List.replicate S.length 0)) (body:=fun i4445 y4444 s4445=>bd (ix (mask S) ((i4445:Nat):Int)) (fun x4630=>(bif x4630 then bd (ix s4445.2 ((i4445:Nat):Int)) (fun x4639=>bd (put s4445.2 ((i4445:Nat):Int) (len s4445.1)) (fun xs4644=>bd (PF.zc6 y4444 xs4644) (fun r4662=>bd (app s4445.1 [r4662]) (fun xs4679=>some (Lp.nx (xs4679,xs4644)))))) else some (Lp.nx (s4445.1,s4445.2)))))
  (fun i s=>s.1=trimL S (zbe S i)∧s.2.length=S.length∧∀ k,k < i→bAt (mask S) k=true→s.2[k]?=some (((zbe S k).length:Nat):Int)) ⟨rfl,by simp,fun k hk=>by omega⟩ (fun i x s hx ⟨hs,hl,ht⟩=>by
   obtain ⟨out,to⟩:=s
   dsimp only at hs hl ht ⊢
   subst hs
   have hi:=(List.getElem?_eq_some_iff.1 hx).1
   rw [mask_ix hx,zaa,needTo_succ]
   cases hm:bAt (mask S) i with
   | false =>
    refine ⟨_,rfl,rfl,hl,fun k hk hmk=>ht k ?_ hmk⟩
    rcases Nat.lt_or_ge k i with h|h
    · exact h
    · have:k=i:=by omega
      subst this;rw [hm] at hmk;cases hmk
   | true =>
    obtain ⟨y,hy⟩:=ix_len (M:=to) (i:=i) (by omega)
    have hlen:len (trimL S (zbe S i))=(((zbe S i).length:Nat):Int):=by rw [zak,trimL_len (fun j hj=>by have:=needTo_lt j hj;omega)]
    have hto:∀ k,k < i + 1→bAt (mask S) k=true→(to.set i (((zbe S i).length:Nat):Int))[k]?=some (((zbe S k).length:Nat):Int):=fun k hk hmk=>by
     by_cases e:k=i
     · subst e;rw [List.getElem?_set_self (by omega)]
     · rw [List.getElem?_set_ne (by omega)];exact ht k (by omega) hmk
    simp only [cond_true,hy,zaa,zbH (show i < to.length by omega),hlen]
    rw [spec_moved_trimX hD hx (fun k hk=>by
     have hb:=hD.prem hx k hk
     have hmk:=mask_premX hD hx hm k hk
     have:=hto k.toNat (by omega) hmk
     unfold ix
     rw [if_pos hb.1,this];rfl),zaa]
    have hle:=needTo_le S i
    rw [zaB (by rw [trimL_len (fun j hj=>by have:=needTo_lt j hj;omega)];simp;unfold lim;omega),zaa]
    refine ⟨_,rfl,?_,by simpa using hl,hto⟩
    show _=trimL S (zbe S i++[i])
    unfold trimL
    rw [List.filterMap_append]
    have e:trimAt S i=some (trimX S x):=by unfold trimAt;rw [hx];rfl
    rw [List.filterMap_cons_some e];rfl)
 rw [h1,zaE]
 exact congrArg some h2
end Go.PF
namespace Go.PF
open Go.Pu
theorem res_isC {V:Int} {a b:List Int} {v:Int} (ha:IsC V a) (hb:IsC V b):IsC V (res a b v).1:=by
  have hnil:IsC V []:=⟨ha.lo,ha.hi,nofun,.nil⟩
  unfold res
  cases !a.contains v || !b.contains (wr (-v)) with
  | true=>exact hnil
  | false =>
    simp only [cond_false]
    have key:∀ c,IsC V c→IsC V (zaW c v):=fun c hc=>⟨hc.lo,hc.hi,fun l hl=>hc.lit l (List.mem_filter.1 hl).1,hc.srt.filter _⟩
    have wa:=key a ha;have wb:=key b hb
    have h:=joinL_spec (b:=zaW b v) (s:=zaW a v) wa.srt wa.sm wb.srt wb.sm
    unfold joined
    by_cases hx:∃ y∈zaW b v,-y∈zaW a v
    · rw [if_pos hx] at h;rw [h];exact hnil
    · rw [if_neg hx] at h
      obtain ⟨t,ht,hs,hm⟩:=h
      rw [ht]
      exact ⟨ha.lo, ha.hi, fun l hl => by rcases (hm l).1 hl with h|h;· exact wa.lit l h
                                          · exact wb.lit l h,hs⟩
def toA (to:List Int) (k:Int):Int:=(to[k.toNat]?).getD 0
structure WvOk (F:Cnf) (i:Nat) (w:List Int×List zae):Prop where
 len:w.1.length=i
 le:w.2.length≤i
 inr:∀ k∈w.1,0≤k∧k < w.2.length
 isC:∀ s∈w.2,IsC F.vars s.clause
def wv (w:List Int×List zae) (x:zae):List Int×List zae :=
 bif decide (x.left < 0) then (w.1++[len w.2],w.2++[x])
 else bif decide (x.right < 0) then (w.1++[toA w.1 x.left],w.2)
 else bif !(clAt w.2 (toA w.1 x.left)).contains x.pivot then (w.1++[toA w.1 x.left],w.2)
 else bif !(clAt w.2 (toA w.1 x.right)).contains (wr (-x.pivot)) then (w.1++[toA w.1 x.right],w.2)
 else (w.1++[len w.2],w.2++[⟨(res (clAt w.2 (toA w.1 x.left)) (clAt w.2 (toA w.1 x.right)) x.pivot).1,toA w.1 x.left,toA w.1 x.right,x.pivot⟩])
end Go.PF
namespace Go.PF
open Go.Pu
structure Sat (V:Int) (S:List zae):Prop where
 clause:∀ x∈S,IsC V x.clause
 nums:∀ (i:Nat) (x:zae),S[i]?=some x→(x.left=-1∧0≤x.right∧x.right≤100∧x.pivot=0)∨(0≤x.left∧x.left < i∧0≤x.right∧x.right < i∧0≤x.pivot∧x.pivot≤12)
theorem Sat.X {V:Int} {S:List zae} (h:Sat V S) (hl:S.length≤200):IsX V S :=
 ⟨hl,fun hx=>h.clause _ hx,fun hx=>by
  rcases h.nums _ _ hx with g|g
  · exact .inl ⟨g.1,trivial⟩
  · exact .inr (.inr ⟨g.1,g.2.1,g.2.2.1,g.2.2.2.1,trivial⟩)⟩
theorem Sat.add {V:Int} {S:List zae} (h:Sat V S) {x:zae} (hc:IsC V x.clause) (hn:(x.left=-1∧0≤x.right∧x.right≤100∧x.pivot=0)∨(0≤x.left∧x.left < S.length∧0≤x.right∧x.right < S.length∧0≤x.pivot∧x.pivot≤12)):Sat V (S++[x]):=by
 refine ⟨fun y hy=>?_,fun i y hy=>?_⟩
 · rcases List.mem_append.1 hy with g|g
   · exact h.clause y g
   · rw [List.mem_singleton] at g;subst g;exact hc
 · rcases Nat.lt_or_ge i S.length with g|g
   · rw [List.getElem?_append_left g] at hy;exact h.nums i y hy
   · have hi:=(List.getElem?_eq_some_iff.1 hy).1
     rw [List.length_append,List.length_singleton] at hi
     have e:i=S.length:=by omega
     subst e
     rw [List.getElem?_append_right (Nat.le_refl _),Nat.sub_self] at hy
     cases hy;exact hn
def okR (S:List zae):Prop:=S.length≤200∧∀ x∈S,zcw x
theorem okR.okL {S:List zae} (h:okR S):okL zcw S:=⟨by have:=h.1;omega,h.2⟩
theorem Sat.okR {V:Int} {S:List zae} (h:Sat V S) (hl:S.length≤200):okR S:=by
 refine ⟨hl,fun x hx=>?_⟩
 obtain ⟨i,hi,rfl⟩:=List.getElem_of_mem hx
 have hn:=h.nums i _ (List.getElem?_eq_getElem hi)
 exact ⟨(h.clause _ hx).ok,by unfold okI;omega,by unfold okI;omega,by unfold okI;omega⟩
theorem Sat.trim {V:Int} {S:List zae} (h:Sat V S) (hl:S.length≤200):∃ R,zbs S=some R∧PF.okR R:=by
 have hX:=h.X hl
 have hlt:∀ i∈need S,i < S.length:=fun i hi=>needTo_lt (S:=S) i hi
 have hle:=need_le S
 refine ⟨_,spec_l7Trim_eqX hX,by rw [trimL_len hlt];omega,fun y hy=>?_⟩
 unfold trimL at hy
 obtain ⟨i,hi,hy⟩:=List.mem_filterMap.1 hy
 unfold trimAt at hy
 cases hx:S[i]? with
 | none=>rw [hx] at hy;cases hy
 | some x =>
  rw [hx] at hy
  have e:trimX S x=y:=by simpa using hy
  subst e
  have hn:=h.nums i x hx
  have hc:=(h.clause x (List.mem_of_getElem? hx)).ok
  have hi:=(List.getElem?_eq_some_iff.1 hx).1
  have hp:∀ k:Int,k≤200→0≤posN S k∧posN S k≤200:=fun k hk=>by
   unfold posN
   have:=needTo_le S k.toNat
   omega
  have hl:=hp x.left (by omega);have hr:=hp x.right (by omega)
  unfold trimX
  cases decide (0≤x.left) <;> cases decide (0≤x.right) <;> simp only [cond_true,cond_false] <;> exact ⟨hc,by unfold okI;(try dsimp only);omega,by unfold okI;(try dsimp only);omega,by unfold okI;(try dsimp only);omega⟩
theorem sat_step {F:Cnf} (hV:0≤F.vars∧F.vars≤12) {out:List zae} (h:Sat F.vars out) (hl:out.length≤199) {a b v:Int} (ha:0≤a∧a < out.length) (hb:0≤b∧b < out.length) (hv:1≤v∧v≤12) {r:List Int×Bool} (hr:r.2=true→IsC F.vars r.1) :
 ∃ q,(bdR (iter (S:=(Bool×Int)) (X:=Empty) (fun s343220=>(bif (bif (decide (s343220.2 < (len out))) then s343220.1 else false) then bd (ix out s343220.2) (fun x343319=>bd (PF.zbr x343319.clause r.1) (fun r343328=>some (Lp.nx ((!r343328),(wr (s343220.2 + 1)))))) else some (Lp.bk (s343220.1,s343220.2)))) (r.2,0)) (fun s343220=>(bif s343220.1 then bd (app out [(zae.mk r.1 a b v)]) (fun xs343361=>(bif ((len r.1) == 0) then bd (PF.zbs xs343361) (fun r343380=>some (Lp.rt (Lp.rt (Lp.rt r343380)))) else some (Lp.nx (xs343361,(wr (v + 1)))))) else some (Lp.nx (out,(wr (v + 1)))))) (fun x343220=>nomatch x343220))=(some q:Option (Lp (List zae×Int) (Lp (List zae×Int) (Lp (List zae×Int) (List zae)))))∧((∃ out',q=.nx (out',v + 1)∧Sat F.vars out'∧out.length≤out'.length∧out'.length≤out.length + 1)∨∃ R,q=.rt (.rt (.rt R))∧okR R):=by
 have hlim:lim=4294967296:=rfl
 have hw:wr (v + 1)=v + 1:=wr_of _ (by omega) (by omega)
 rw [hw]
 refine loop_ex (T:=Bool×Int) (B:=(Lp (List zae×Int) (Lp (List zae×Int) (Lp (List zae×Int) (List zae))))) (fun s=>out.length - s.2.toNat) (fun s=>0≤s.2∧s.2≤out.length∧(s.1=true→r.2=true)) (fun s=>s.1=true→r.2=true) ⟨Int.le_refl _,by dsimp only;omega,id⟩ ?_ ?_
 · rintro ⟨c,i⟩ ⟨s1,s2,s3⟩
   dsimp only at s1 s2 s3 ⊢
   cases hd:decide (i < len out) with
   | false=>exact .inr ⟨_,rfl,s3⟩
   | true =>
   cases c with
   | false=>exact .inr ⟨_,rfl,s3⟩
   | true =>
    have hi:i < out.length:=by have:=of_decide_eq_true hd;rwa [zak] at this
    obtain ⟨y,hy,hg⟩:=ix_of (xs:=out) (i:=i) s1 hi
    left
    simp only [cond_true]
    rw [hy,zaa,spec_l2Sub_eq,zaa,wr_of (i + 1) (by omega) (by omega)]
    exact ⟨_,rfl,⟨by dsimp only;omega,by dsimp only;omega,fun _=>s3 rfl⟩,by dsimp only;omega⟩
 · rintro ⟨c,i⟩ hc
   dsimp only at hc ⊢
   cases c with
   | false=>exact ⟨_,rfl,.inl ⟨_,rfl,h,Nat.le_refl _,Nat.le_succ _⟩⟩
   | true =>
    have hC:=hr (hc rfl)
    have h2:Sat F.vars (out++[zae.mk r.1 a b v]):=h.add hC (.inr ⟨ha.1,ha.2,hb.1,hb.2,by dsimp only;omega,by dsimp only;omega⟩)
    have hl2:(out++[zae.mk r.1 a b v]).length=out.length + 1:=by simp
    simp only [cond_true]
    rw [zaB (by simp;omega),zaa]
    cases (len r.1 == 0) with
    | false=>exact ⟨_,rfl,.inl ⟨_,rfl,h2,by omega,by omega⟩⟩
    | true =>
     obtain ⟨R,hR,hok⟩:=h2.trim (by omega)
     simp only [cond_true]
     rw [hR,zaa]
     exact ⟨_,rfl,.inr ⟨_,rfl,hok⟩⟩
theorem res_ok2 {V:Int} {a b:List Int} (ha:IsC V a) (hb:IsC V b) (v:Int):zbq a b v=some (res a b v)∧((res a b v).2=true→IsC V (res a b v).1):=by
 have h1:=ha.len;have h2:=hb.len
 have h3:=ha.hi
 exact ⟨zfe (by unfold lim;omega),fun _=>res_isC ha hb⟩
theorem sat_v {F:Cnf} (hV:0≤F.vars∧F.vars≤12) {out:List zae} (h:Sat F.vars out) (hl:out.length≤119) {a b:Int} (ha:0≤a∧a < out.length) (hb:0≤b∧b < out.length) :
 ∃ q,iter (S:=((List zae)×Int)) (X:=(Lp (List zae×Int) (Lp (List zae×Int) (List zae)))) (fun s171834=>(bif (decide (s171834.2≤F.vars)) then bd (ix s171834.1 b) (fun x286190=>bd (PF.zaY x286190.clause (wr (-s171834.2))) (fun r286194=>(bif r286194 then bd (ix s171834.1 a) (fun x295206=>bd (ix s171834.1 b) (fun x310206=>bd (PF.zbq x295206.clause x310206.clause s171834.2) (fun r322200=>bdR (iter (S:=(Bool×Int)) (X:=Empty) (fun s343220=>(bif (bif (decide (s343220.2 < (len s171834.1))) then s343220.1 else false) then bd (ix s171834.1 s343220.2) (fun x343319=>bd (PF.zbr x343319.clause r322200.1) (fun r343328=>some (Lp.nx ((!r343328),(wr (s343220.2 + 1)))))) else some (Lp.bk (s343220.1,s343220.2)))) (r322200.2,0)) (fun s343220=>(bif s343220.1 then bd (app s171834.1 [(zae.mk r322200.1 a b s171834.2)]) (fun xs343361=>(bif ((len r322200.1) == 0) then bd (PF.zbs xs343361) (fun r343380=>some (Lp.rt (Lp.rt (Lp.rt r343380)))) else some (Lp.nx (xs343361,(wr (s171834.2 + 1)))))) else some (Lp.nx (s171834.1,(wr (s171834.2 + 1)))))) (fun x343220=>nomatch x343220)))) else bd (ix s171834.1 b) (fun x352400=>bd (ix s171834.1 a) (fun x367400=>bd (PF.zbq x352400.clause x367400.clause s171834.2) (fun r379394=>bdR (iter (S:=(Bool×Int)) (X:=Empty) (fun s400414=>(bif (bif (decide (s400414.2 < (len s171834.1))) then s400414.1 else false) then bd (ix s171834.1 s400414.2) (fun x400513=>bd (PF.zbr x400513.clause r379394.1) (fun r400522=>some (Lp.nx ((!r400522),(wr (s400414.2 + 1)))))) else some (Lp.bk (s400414.1,s400414.2)))) (r379394.2,0)) (fun s400414=>(bif s400414.1 then bd (app s171834.1 [(zae.mk r379394.1 b a s171834.2)]) (fun xs400555=>(bif ((len r379394.1) == 0) then bd (PF.zbs xs400555) (fun r400574=>some (Lp.rt (Lp.rt (Lp.rt r400574)))) else some (Lp.nx (xs400555,(wr (s171834.2 + 1)))))) else some (Lp.nx (s171834.1,(wr (s171834.2 + 1)))))) (fun x400414=>nomatch x400414))))))) else some (Lp.bk (s171834.1,s171834.2)))) (out,1)=some q∧((∃ out' v,q=.go (out',v)∧Sat F.vars out'∧out.length≤out'.length∧out'.length≤131)∨∃ R,q=.rt (.rt (.rt R))∧okR R):=by
 refine zcP (T:=List zae×Int) (X:=(Lp (List zae×Int) (Lp (List zae×Int) (List zae)))) (fun s=>(13 - s.2).toNat) (fun s=>Sat F.vars s.1∧1≤s.2∧s.2≤13∧out.length≤s.1.length∧(s.1.length:Int)≤119 + (s.2 - 1)) _ ?_ _ ⟨h,Int.le_refl _,by dsimp only;omega,Nat.le_refl _,by dsimp only;omega⟩
 rintro ⟨os,v⟩ ⟨s1,s2,s3,s4,s5⟩
 dsimp only at s1 s2 s3 s4 s5 ⊢
 cases hd:decide (v≤F.vars) with
 | false=>exact .inr (.inl ⟨_,rfl,.inl ⟨_,_,rfl,s1,s4,by omega⟩⟩)
 | true =>
  have hv:=of_decide_eq_true hd
  obtain ⟨x,hx,hgx⟩:=ix_of (xs:=os) (i:=b) hb.1 (by omega)
  obtain ⟨y,hy,hgy⟩:=ix_of (xs:=os) (i:=a) ha.1 (by omega)
  have cx:=s1.clause x (List.mem_of_getElem? hgx)
  have cy:=s1.clause y (List.mem_of_getElem? hgy)
  simp only [cond_true]
  rw [hx,hy]
  simp only [zaa]
  rw [zbI,zaa]
  cases x.clause.contains (wr (-v)) with
  | true =>
   obtain ⟨e1,e2⟩:=res_ok2 cy cx v
   simp only [cond_true]
   rw [e1,zaa]
   obtain ⟨q,hq,hp⟩:=sat_step hV s1 (by omega) (a:=a) (b:=b) (v:=v) ⟨ha.1,by omega⟩ ⟨hb.1,by omega⟩ ⟨s2,by omega⟩ (r:=res y.clause x.clause v) e2
   rcases hp with ⟨o',rfl,g1,g2,g3⟩|⟨R,rfl,hR⟩
   · exact .inl ⟨_,hq,⟨g1,by dsimp only;omega,by dsimp only;omega,by dsimp only;omega,by dsimp only;omega⟩,by dsimp only;omega⟩
   · exact .inr (.inr ⟨_,hq,.inr ⟨R,rfl,hR⟩⟩)
  | false =>
   obtain ⟨e1,e2⟩:=res_ok2 cx cy v
   simp only [cond_false]
   rw [e1,zaa]
   obtain ⟨q,hq,hp⟩:=sat_step hV s1 (by omega) (a:=b) (b:=a) (v:=v) ⟨hb.1,by omega⟩ ⟨ha.1,by omega⟩ ⟨s2,by omega⟩ (r:=res x.clause y.clause v) e2
   rcases hp with ⟨o',rfl,g1,g2,g3⟩|⟨R,rfl,hR⟩
   · exact .inl ⟨_,hq,⟨g1,by dsimp only;omega,by dsimp only;omega,by dsimp only;omega,by dsimp only;omega⟩,by dsimp only;omega⟩
   · exact .inr (.inr ⟨_,hq,.inr ⟨R,rfl,hR⟩⟩)
theorem sat_a {F:Cnf} (hV:0≤F.vars∧F.vars≤12) {out:List zae} (h:Sat F.vars out) (hl:out.length≤131) {b:Int} (hb:0≤b∧b < out.length) :
 ∃ q,iter (S:=((List zae)×Int)) (X:=(Lp (List zae×Int) (List zae))) (fun s57421=>(bif (bif (decide (s57421.2 < b)) then (decide ((len s57421.1) < 120)) else false) then bdR (iter (S:=((List zae)×Int)) (X:=(Lp ((List zae)×Int) (Lp ((List zae)×Int) (List zae)))) (fun s171834=>(bif (decide (s171834.2≤F.vars)) then bd (ix s171834.1 b) (fun x286190=>bd (PF.zaY x286190.clause (wr (-s171834.2))) (fun r286194=>(bif r286194 then bd (ix s171834.1 s57421.2) (fun x295206=>bd (ix s171834.1 b) (fun x310206=>bd (PF.zbq x295206.clause x310206.clause s171834.2) (fun r322200=>bdR (iter (S:=(Bool×Int)) (X:=Empty) (fun s343220=>(bif (bif (decide (s343220.2 < (len s171834.1))) then s343220.1 else false) then bd (ix s171834.1 s343220.2) (fun x343319=>bd (PF.zbr x343319.clause r322200.1) (fun r343328=>some (Lp.nx ((!r343328),(wr (s343220.2 + 1)))))) else some (Lp.bk (s343220.1,s343220.2)))) (r322200.2,0)) (fun s343220=>(bif s343220.1 then bd (app s171834.1 [(zae.mk r322200.1 s57421.2 b s171834.2)]) (fun xs343361=>(bif ((len r322200.1) == 0) then bd (PF.zbs xs343361) (fun r343380=>some (Lp.rt (Lp.rt (Lp.rt r343380)))) else some (Lp.nx (xs343361,(wr (s171834.2 + 1)))))) else some (Lp.nx (s171834.1,(wr (s171834.2 + 1)))))) (fun x343220=>nomatch x343220)))) else bd (ix s171834.1 b) (fun x352400=>bd (ix s171834.1 s57421.2) (fun x367400=>bd (PF.zbq x352400.clause x367400.clause s171834.2) (fun r379394=>bdR (iter (S:=(Bool×Int)) (X:=Empty) (fun s400414=>(bif (bif (decide (s400414.2 < (len s171834.1))) then s400414.1 else false) then bd (ix s171834.1 s400414.2) (fun x400513=>bd (PF.zbr x400513.clause r379394.1) (fun r400522=>some (Lp.nx ((!r400522),(wr (s400414.2 + 1)))))) else some (Lp.bk (s400414.1,s400414.2)))) (r379394.2,0)) (fun s400414=>(bif s400414.1 then bd (app s171834.1 [(zae.mk r379394.1 b s57421.2 s171834.2)]) (fun xs400555=>(bif ((len r379394.1) == 0) then bd (PF.zbs xs400555) (fun r400574=>some (Lp.rt (Lp.rt (Lp.rt r400574)))) else some (Lp.nx (xs400555,(wr (s171834.2 + 1)))))) else some (Lp.nx (s171834.1,(wr (s171834.2 + 1)))))) (fun x400414=>nomatch x400414))))))) else some (Lp.bk (s171834.1,s171834.2)))) (s57421.1,1)) (fun s171834=>some (Lp.nx (s171834.1,(wr (s57421.2 + 1))))) (fun x171834=>some x171834) else some (Lp.bk (s57421.1,s57421.2)))) (out,0)=some q∧((∃ out' a,q=.go (out',a)∧Sat F.vars out'∧out.length≤out'.length∧out'.length≤131)∨∃ R,q=.rt (.rt R)∧okR R):=by
 refine zcP (T:=List zae×Int) (X:=(Lp (List zae×Int) (List zae))) (fun s=>(b - s.2).toNat) (fun s=>Sat F.vars s.1∧0≤s.2∧s.2≤b∧out.length≤s.1.length∧s.1.length≤131) _ ?_ _ ⟨h,Int.le_refl _,by dsimp only;omega,Nat.le_refl _,hl⟩
 rintro ⟨os,a⟩ ⟨s1,s2,s3,s4,s5⟩
 dsimp only at s1 s2 s3 s4 s5 ⊢
 cases hd:decide (a < b) with
 | false=>exact .inr (.inl ⟨_,rfl,.inl ⟨_,_,rfl,s1,s4,s5⟩⟩)
 | true =>
 cases he:decide (len os < 120) with
 | false=>exact .inr (.inl ⟨_,rfl,.inl ⟨_,_,rfl,s1,s4,s5⟩⟩)
 | true =>
  have h1:=of_decide_eq_true hd;have h2:=of_decide_eq_true he
  rw [zak] at h2
  have hw:wr (a + 1)=a + 1:=wr_of _ (by omega) (by omega)
  simp only [cond_true]
  obtain ⟨q,hq,hp⟩:=sat_v hV s1 (by omega) (a:=a) (b:=b) ⟨s2,by omega⟩ ⟨hb.1,by omega⟩
  rcases hp with ⟨o',v,rfl,g1,g2,g3⟩|⟨R,rfl,hR⟩
  · refine .inl ⟨(o',a + 1),(congrArg (fun z=>bdR z _ _) hq).trans ?_,⟨g1,by dsimp only;omega,by dsimp only;omega,by dsimp only;omega,g3⟩,by dsimp only;omega⟩
    rw [zaE,hw]
  · refine .inr (.inr ⟨_,(congrArg (fun z=>bdR z _ _) hq).trans ?_,.inr ⟨R,rfl,hR⟩⟩)
    rw [bdR_rt]
theorem sat_b {F:Cnf} (hV:0≤F.vars∧F.vars≤12) {out:List zae} (h:Sat F.vars out) (hl:out.length≤131) :
 ∃ q,iter (S:=((List zae)×Int)) (X:=(List zae)) (fun s123=>(bif (decide (s123.2 < (len s123.1))) then bdR (iter (S:=((List zae)×Int)) (X:=(Lp ((List zae)×Int) (List zae))) (fun s57421=>(bif (bif (decide (s57421.2 < s123.2)) then (decide ((len s57421.1) < 120)) else false) then bdR (iter (S:=((List zae)×Int)) (X:=(Lp ((List zae)×Int) (Lp ((List zae)×Int) (List zae)))) (fun s171834=>(bif (decide (s171834.2≤F.vars)) then bd (ix s171834.1 s123.2) (fun x286190=>bd (PF.zaY x286190.clause (wr (-s171834.2))) (fun r286194=>(bif r286194 then bd (ix s171834.1 s57421.2) (fun x295206=>bd (ix s171834.1 s123.2) (fun x310206=>bd (PF.zbq x295206.clause x310206.clause s171834.2) (fun r322200=>bdR (iter (S:=(Bool×Int)) (X:=Empty) (fun s343220=>(bif (bif (decide (s343220.2 < (len s171834.1))) then s343220.1 else false) then bd (ix s171834.1 s343220.2) (fun x343319=>bd (PF.zbr x343319.clause r322200.1) (fun r343328=>some (Lp.nx ((!r343328),(wr (s343220.2 + 1)))))) else some (Lp.bk (s343220.1,s343220.2)))) (r322200.2,0)) (fun s343220=>(bif s343220.1 then bd (app s171834.1 [(zae.mk r322200.1 s57421.2 s123.2 s171834.2)]) (fun xs343361=>(bif ((len r322200.1) == 0) then bd (PF.zbs xs343361) (fun r343380=>some (Lp.rt (Lp.rt (Lp.rt r343380)))) else some (Lp.nx (xs343361,(wr (s171834.2 + 1)))))) else some (Lp.nx (s171834.1,(wr (s171834.2 + 1)))))) (fun x343220=>nomatch x343220)))) else bd (ix s171834.1 s123.2) (fun x352400=>bd (ix s171834.1 s57421.2) (fun x367400=>bd (PF.zbq x352400.clause x367400.clause s171834.2) (fun r379394=>bdR (iter (S:=(Bool×Int)) (X:=Empty) (fun s400414=>(bif (bif (decide (s400414.2 < (len s171834.1))) then s400414.1 else false) then bd (ix s171834.1 s400414.2) (fun x400513=>bd (PF.zbr x400513.clause r379394.1) (fun r400522=>some (Lp.nx ((!r400522),(wr (s400414.2 + 1)))))) else some (Lp.bk (s400414.1,s400414.2)))) (r379394.2,0)) (fun s400414=>(bif s400414.1 then bd (app s171834.1 [(zae.mk r379394.1 s123.2 s57421.2 s171834.2)]) (fun xs400555=>(bif ((len r379394.1) == 0) then bd (PF.zbs xs400555) (fun r400574=>some (Lp.rt (Lp.rt (Lp.rt r400574)))) else some (Lp.nx (xs400555,(wr (s171834.2 + 1)))))) else some (Lp.nx (s171834.1,(wr (s171834.2 + 1)))))) (fun x400414=>nomatch x400414))))))) else some (Lp.bk (s171834.1,s171834.2)))) (s57421.1,1)) (fun s171834=>some (Lp.nx (s171834.1,(wr (s57421.2 + 1))))) (fun x171834=>some x171834) else some (Lp.bk (s57421.1,s57421.2)))) (s123.1,0)) (fun s57421=>some (Lp.nx (s57421.1,(wr (s123.2 + 1))))) (fun x57421=>some x57421) else some (Lp.bk (s123.1,s123.2)))) (out,0)=some q∧((∃ out' b,q=.go (out',b)∧okR out')∨∃ R,q=.rt R∧okR R):=by
 refine zcP (T:=List zae×Int) (X:=(List zae)) (fun s=>(200 - s.2).toNat) (fun s=>Sat F.vars s.1∧0≤s.2∧s.2≤199∧s.1.length≤131) _ ?_ _ ⟨h,Int.le_refl _,by dsimp only;omega,hl⟩
 rintro ⟨os,b⟩ ⟨s1,s2,s3,s5⟩
 dsimp only at s1 s2 s3 s5 ⊢
 cases hd:decide (b < len os) with
 | false=>exact .inr (.inl ⟨_,rfl,.inl ⟨_,_,rfl,s1.okR (by omega)⟩⟩)
 | true =>
  have h1:=of_decide_eq_true hd
  rw [zak] at h1
  have hw:wr (b + 1)=b + 1:=wr_of _ (by omega) (by omega)
  simp only [cond_true]
  obtain ⟨q,hq,hp⟩:=sat_a hV s1 s5 (b:=b) ⟨s2,h1⟩
  rcases hp with ⟨o',v,rfl,g1,g2,g3⟩|⟨R,rfl,hR⟩
  · refine .inl ⟨(o',b + 1),(congrArg (fun z=>bdR z _ _) hq).trans ?_,⟨g1,by dsimp only;omega,by dsimp only;omega,g3⟩,by dsimp only;omega⟩
    rw [zaE,hw]
  · refine .inr (.inr ⟨_,(congrArg (fun z=>bdR z _ _) hq).trans ?_,.inr ⟨R,rfl,hR⟩⟩)
    rw [bdR_rt]
theorem saturate_ok {F:Cnf} (hF:cnfB F=true):∃ R,zdV F 120=some R∧okR R:=by
 have hV:=zbD hF
 have hC:=cnfB_isC hF
 have hN:=zcv hF
 have hlim:lim=4294967296:=rfl
 unfold zdV
 refine loop_ix (T:=List zae×Int) (fun s i=>(s,i)) (xs:=F.clauses) (s0:=([]:List zae)) (fun i s=>Sat F.vars s∧s.length=i) rfl ⟨⟨fun x hx=>(by cases hx),fun i x hx=>(by simp at hx)⟩,rfl⟩ (fun i c s hx hI=>?_) (fun s hI=>?_) (fun s hI=>?_)
 · have hi:=(List.getElem?_eq_some_iff.1 hx).1
   have hc:=hC c (List.mem_of_getElem? hx)
   have hcl:=hc.len;have hc2:=hc.hi
   have hd:decide ((i:Int) < len F.clauses)=true:=decide_eq_true (by rw [zak];omega)
   dsimp only
   unfold zer
   simp only [hd,cond_true]
   rw [zaA,hx,zaa,zeh (by omega),zaa,zaa,zaB (by simp;omega),zaa,wr_of ((i:Int) + 1) (by omega) (by omega)]
   exact ⟨_,rfl,hI.1.add hc (.inl ⟨rfl,by dsimp only;omega,by dsimp only;omega,rfl⟩),by simp;omega⟩
 · have hd:decide ((F.clauses.length:Int) < len F.clauses)=false:=decide_eq_false (by rw [zak];omega)
   dsimp only
   rw [hd];rfl
 · obtain ⟨q,hq,hp⟩:=sat_b hV hI.1 (by omega)
   rcases hp with ⟨o',b,rfl,g⟩|⟨R,rfl,hR⟩
   · exact ⟨o',(congrArg (fun z=>bdR z _ _) hq).trans (by rw [zaE]),g⟩
   · exact ⟨R,(congrArg (fun z=>bdR z _ _) hq).trans (by rw [bdR_rt]),hR⟩
theorem dr_refutation {n:Nat} {c:l1Cur} (h:okC n c) {F:Cnf} (hF:okCnf F):Dr n (zdW c F) okR:=by
 unfold zdW
 rw [zdh hF,zaa]
 cases hC:cnfB F with
 | false=>exact ⟨_,_,rfl,h,by simp,fun x hx=>by cases hx⟩
 | true =>
  obtain ⟨R,hR,hok⟩:=saturate_ok hC
  simp only [Bool.not_true,cond_false]
  rw [hR,zaa]
  exact ⟨_,_,rfl,h,hok⟩
end Go.PF
namespace Go.PF
open Go.Pu
def gA (at_:List Int) (k:Int):Int:=(at_[k.toNat]?).getD 0
abbrev PW:=List Int×List zab
def stp (V:Int) (S:List zae) (w:PW) (x:zae):PW :=
  if x.left < 0 then (w.1++[len w.2],w.2++[⟨plI V.toNat (cfA x.clause) (bC x.clause),1,x.right,0,0⟩])
  else if x.right < 0 then
    (w.1++[((mor x.clause (clAt S x.left)).foldl (lstp V.toNat) (w.2,gA w.1 x.left)).2],((mor x.clause (clAt S x.left)).foldl (lstp V.toNat) (w.2,gA w.1 x.left)).1)
  else
    (w.1++[len ((one x.clause (clAt S x.left) (clAt S x.right)).foldl (lstp V.toNat) (w.2++[⟨addQ (gI w.2 (gA w.1 x.left)) (gI w.2 (gA w.1 x.right)),4,gA w.1 x.left,gA w.1 x.right,0⟩],len w.2)).1],
     ((one x.clause (clAt S x.left) (clAt S x.right)).foldl (lstp V.toNat) (w.2++[⟨addQ (gI w.2 (gA w.1 x.left)) (gI w.2 (gA w.1 x.right)),4,gA w.1 x.left,gA w.1 x.right,0⟩],len w.2)).1 ++
       [⟨halfQ (gI ((one x.clause (clAt S x.left) (clAt S x.right)).foldl (lstp V.toNat) (w.2++[⟨addQ (gI w.2 (gA w.1 x.left)) (gI w.2 (gA w.1 x.right)),4,gA w.1 x.left,gA w.1 x.right,0⟩],len w.2)).1
          ((one x.clause (clAt S x.left) (clAt S x.right)).foldl (lstp V.toNat) (w.2++[⟨addQ (gI w.2 (gA w.1 x.left)) (gI w.2 (gA w.1 x.right)),4,gA w.1 x.left,gA w.1 x.right,0⟩],len w.2)).2),6,
          ((one x.clause (clAt S x.left) (clAt S x.right)).foldl (lstp V.toNat) (w.2++[⟨addQ (gI w.2 (gA w.1 x.left)) (gI w.2 (gA w.1 x.right)),4,gA w.1 x.left,gA w.1 x.right,0⟩],len w.2)).2,0,2⟩])
structure Pv (V:Int) (S:List zae) (i:Nat) (w:PW):Prop where
 len:w.1.length=i
 sz:w.2.length≤26 * i
 at_:∀ (j:Nat) x,j < i→S[j]?=some x→AtP V.toNat (13 * i) w.2 (gA w.1 j) (cfA x.clause)
theorem Pv.nil {V:Int} {S:List zae}:Pv V S 0 ([],[]):=⟨rfl,Nat.le_refl _,fun j x h=>absurd h (by omega)⟩
theorem mor_ok {F:Cnf} {c d:List Int} (hc:IsC F.vars c):(∀ l∈mor c d,-F.vars≤l∧l≤F.vars∧l≠0)∧(mor c d).length≤12 :=
 ⟨fun l hl=>hc.lit l (mem_mor.1 hl).1,Nat.le_trans (List.length_filter_le _ _) hc.len⟩
theorem one_ok {F:Cnf} {c d e:List Int} (hc:IsC F.vars c):(∀ l∈one c d e,-F.vars≤l∧l≤F.vars∧l≠0)∧(one c d e).length≤12 :=
 ⟨fun l hl=>hc.lit l (mem_one.1 hl).1,Nat.le_trans (List.length_filter_le _ _) hc.len⟩
theorem gA_old {at_:List Int} {y:Int} {j:Nat} (h:j < at_.length):gA (at_++[y]) j=gA at_ j:=by
 unfold gA;rw [Int.toNat_natCast,List.getElem?_append_left h]
theorem gA_new {at_:List Int} {y:Int}:gA (at_++[y]) at_.length=y:=by
 unfold gA;rw [Int.toNat_natCast,List.getElem?_append_right (Nat.le_refl _),Nat.sub_self];rfl
theorem Pv.add {F:Cnf} {S:List zae} {i:Nat} {x:zae} (hx:S[i]?=some x) {w:PW} (hw:Pv F.vars S i w) {t:List zab} {k:Int} (hs:(w.2++t).length≤26 * (i + 1)) (hA:AtP F.vars.toNat (13 * (i + 1:Nat)) (w.2++t) k (cfA x.clause)):Pv F.vars S (i + 1) (w.1++[k],w.2++t):=by
 refine ⟨by simp [hw.len],hs,fun j y hj hy=>?_⟩
 by_cases hji:j=i
 · subst hji
   rw [hx] at hy;cases hy
   have e:gA (w.1++[k]) (j:Int)=k:=by
    have:=gA_new (at_:=w.1) (y:=k)
    rwa [hw.len] at this
   simp only
   rw [e];exact hA
 · simp only
   rw [gA_old (by rw [hw.len];omega)]
   exact ((hw.at_ j y (by omega) hy).app t).mono (by omega)
section
variable {F:Cnf} {S:List zae} (hD:IsD F S)
include hD
theorem clAt_of {i:Nat} {k:Int} (hi:i < S.length) (h0:0≤k) (h1:k < i):∃ y,ix S k=some y∧S[k.toNat]?=some y∧clAt S k=y.clause∧IsC F.vars y.clause:=by
 obtain ⟨y,h2,h3⟩:=ix_of (xs:=S) (i:=k) h0 (by omega)
 exact ⟨y,h2,h3,by unfold clAt;rw [h3],hD.clause (List.mem_of_getElem? h3)⟩
theorem Pv.place {i:Nat} {w:PW} (hw:Pv F.vars S i w) (hi:i < S.length) {k:Int} (h0:0≤k) (h1:k < i):ix w.1 k=some (gA w.1 k)∧AtP F.vars.toNat (13 * i) w.2 (gA w.1 k) (cfA (clAt S k)):=by
 obtain ⟨y,y1,y2,y3,y4⟩:=clAt_of hD hi h0 h1
 obtain ⟨a,a1,a2⟩:=ix_of (xs:=w.1) (i:=k) h0 (by rw [hw.len];omega)
 refine ⟨by rw [a1];unfold gA;rw [a2];rfl,?_⟩
 have:=hw.at_ k.toNat y (by omega) y2
 rw [y3]
 rwa [show ((k.toNat:Nat):Int)=k by omega] at this
theorem res_at {i:Nat} {x:zae} (hx:S[i]?=some x) {w:PW} (hw:Pv F.vars S i w) (hl:0≤x.left) (hr:0≤x.right) :
 AtP F.vars.toNat (26 * i) (w.2++[⟨addQ (gI w.2 (gA w.1 x.left)) (gI w.2 (gA w.1 x.right)),4,gA w.1 x.left,gA w.1 x.right,0⟩]) (Pu.len w.2) (fun k=>cfA (clAt S x.left) k + cfA (clAt S x.right) k) ∧
 AtP F.vars.toNat (26 * i + 12) ((one x.clause (clAt S x.left) (clAt S x.right)).foldl (lstp F.vars.toNat) (w.2++[⟨addQ (gI w.2 (gA w.1 x.left)) (gI w.2 (gA w.1 x.right)),4,gA w.1 x.left,gA w.1 x.right,0⟩],Pu.len w.2)).1
  ((one x.clause (clAt S x.left) (clAt S x.right)).foldl (lstp F.vars.toNat) (w.2++[⟨addQ (gI w.2 (gA w.1 x.left)) (gI w.2 (gA w.1 x.right)),4,gA w.1 x.left,gA w.1 x.right,0⟩],Pu.len w.2)).2 (fun k=>2 * cfA x.clause k):=by
 have hi:=(List.getElem?_eq_some_iff.1 hx).1
 have hb:=hD.before hx hl
 obtain ⟨c1,c2,c3,c4⟩:=hD.resv hx hl hr
 have hcl:=hD.clause (List.mem_of_getElem? hx)
 obtain ⟨_,p2⟩:=hw.place hD hi hl hb.1
 obtain ⟨_,q2⟩:=hw.place hD hi hr (hb.2 hr)
 obtain ⟨b,b1,b2,b3⟩:=p2.ex
 obtain ⟨d,d1,d2,d3⟩:=q2.ex
 have h1:AtP F.vars.toNat (26 * i) (w.2++[⟨addQ (gI w.2 (gA w.1 x.left)) (gI w.2 (gA w.1 x.right)),4,gA w.1 x.left,gA w.1 x.right,0⟩]) (Pu.len w.2) (fun k=>cfA (clAt S x.left) k + cfA (clAt S x.right) k):=by
  refine ⟨by rw [zak];omega,by rw [zak];simp;omega,b + d,?_,by omega,by omega⟩
  rw [gI_last,b1,d1];exact addQ_pl
 refine ⟨h1,?_⟩
 have ho:=one_ok (F:=F) (c:=x.clause) (d:=clAt S x.left) (e:=clAt S x.right) hcl
 obtain ⟨g1,_,_⟩:=lits_at (ls:=one x.clause (clAt S x.left) (clAt S x.right)) (w:=(w.2++[⟨addQ (gI w.2 (gA w.1 x.left)) (gI w.2 (gA w.1 x.right)),4,gA w.1 x.left,gA w.1 x.right,0⟩],Pu.len w.2)) h1
 exact (g1.mono (by have:=ho.2;omega)).congr fun k hk=>res_id c1 c2 hcl c3 c4 k
theorem weak_at {i:Nat} {x:zae} (hx:S[i]?=some x) {w:PW} (hw:Pv F.vars S i w) (hl:0≤x.left) (hr:x.right < 0) :
 AtP F.vars.toNat (13 * i + 12) ((mor x.clause (clAt S x.left)).foldl (lstp F.vars.toNat) (w.2,gA w.1 x.left)).1 ((mor x.clause (clAt S x.left)).foldl (lstp F.vars.toNat) (w.2,gA w.1 x.left)).2 (cfA x.clause) ∧
 ((mor x.clause (clAt S x.left)).foldl (lstp F.vars.toNat) (w.2,gA w.1 x.left)).1.length≤w.2.length + 24∧∃ t,((mor x.clause (clAt S x.left)).foldl (lstp F.vars.toNat) (w.2,gA w.1 x.left)).1=w.2++t:=by
 have hi:=(List.getElem?_eq_some_iff.1 hx).1
 have hb:=hD.before hx hl
 have hcl:=hD.clause (List.mem_of_getElem? hx)
 obtain ⟨c1,c2⟩:=hD.weak hx hl hr
 obtain ⟨_,p2⟩:=hw.place hD hi hl hb.1
 have ho:=mor_ok (F:=F) (c:=x.clause) (d:=clAt S x.left) hcl
 obtain ⟨g1,g2,g3⟩:=lits_at (ls:=mor x.clause (clAt S x.left)) (w:=(w.2,gA w.1 x.left)) p2
 exact ⟨(g1.mono (by have:=ho.2;omega)).congr fun k hk=>weak_id hcl c2 k,by rw [g2];have:=ho.2;simp only;omega,g3⟩
theorem stp_ok {i:Nat} {x:zae} (hx:S[i]?=some x) {w:PW} (hw:Pv F.vars S i w):Pv F.vars S (i + 1) (stp F.vars S w x):=by
 have hi:=(List.getElem?_eq_some_iff.1 hx).1
 have hcl:=hD.clause (List.mem_of_getElem? hx)
 have hsz:=hw.sz
 have hlen:=hcl.len
 unfold stp
 by_cases hl:x.left < 0
 · rw [if_pos hl]
   refine hw.add hx (by simp;omega) ⟨by rw [zak];omega,by rw [zak];simp;omega,bC x.clause,gI_last _ _,?_,?_⟩
   · unfold bC;have:=negs_bd x.clause;omega
   · unfold bC;have:=negs_bd x.clause;omega
 · rw [if_neg hl]
   by_cases hr:x.right < 0
   · rw [if_pos hr]
     obtain ⟨h1,h2,t,h3⟩:=weak_at hD hx hw (by omega) hr
     rw [h3] at h1 h2 ⊢
     exact hw.add hx (by omega) (h1.mono (by omega))
   · rw [if_neg hr]
     obtain ⟨h0,h1⟩:=res_at hD hx hw (by omega) (by omega)
     have ho:=one_ok (F:=F) (c:=x.clause) (d:=clAt S x.left) (e:=clAt S x.right) hcl
     obtain ⟨_,g2,u,g3⟩:=lits_at (ls:=one x.clause (clAt S x.left) (clAt S x.right)) (w:=(w.2++[⟨addQ (gI w.2 (gA w.1 x.left)) (gI w.2 (gA w.1 x.right)),4,gA w.1 x.left,gA w.1 x.right,0⟩],Pu.len w.2)) h0
     generalize (one x.clause (clAt S x.left) (clAt S x.right)).foldl (lstp F.vars.toNat) (w.2++[⟨addQ (gI w.2 (gA w.1 x.left)) (gI w.2 (gA w.1 x.right)),4,gA w.1 x.left,gA w.1 x.right,0⟩],Pu.len w.2)=r at h1 g2 g3 ⊢
     obtain ⟨b,b1,b2,b3⟩:=h1.ex
     simp only [List.length_append,List.length_singleton] at g2
     have e:r.1++[(⟨halfQ (gI r.1 r.2),6,r.2,0,2⟩:zab)]=w.2++([⟨addQ (gI w.2 (gA w.1 x.left)) (gI w.2 (gA w.1 x.right)),4,gA w.1 x.left,gA w.1 x.right,0⟩]++u++[⟨halfQ (gI r.1 r.2),6,r.2,0,2⟩]):=by
      rw [g3];simp only [List.append_assoc]
     have hA:AtP F.vars.toNat (13 * (i + 1:Nat)) (r.1++[⟨halfQ (gI r.1 r.2),6,r.2,0,2⟩]) (Pu.len r.1) (cfA x.clause):=by
      refine ⟨by rw [zak];omega,by rw [zak];simp;omega,upH b,?_,?_,?_⟩
      · rw [gI_last,b1];exact halfQ_pl
      · unfold upH;omega
      · unfold upH;omega
     have hs:(r.1++[(⟨halfQ (gI r.1 r.2),6,r.2,0,2⟩:zab)]).length≤26 * (i + 1):=by have:=ho.2;simp;omega
     show Pv F.vars S (i + 1) (w.1++[Pu.len r.1],r.1++[⟨halfQ (gI r.1 r.2),6,r.2,0,2⟩])
     rw [e] at hA hs ⊢
     exact hw.add hx hs hA
end
end Go.PF
namespace Go.PF
open Go.Pu
def finL (V:Int) (S:List zae):List zae→PW→Option PW
 | [],w=>some w
 | x::r,w=>bif decide (400 < len (stp V S w x).2) then none else finL V S r (stp V S w x)
section
variable {F:Cnf} {S:List zae} (hD:IsD F S)
include hD
theorem spec_pl_loop (hF:0≤F.vars∧F.vars≤12) {lb:List Int→List zab×Int×Int→Option (Lp (List zab×Int×Int) Empty)} {l1 l2:Empty→Option (List zab×Int)} {body:List Int×List zab×Int→Option (Lp (List Int×List zab×Int) Empty)}
 (hlb:∀ ls st now (i:Int),lb ls (st,now,i)=bif decide (i < len ls) then bd (ix ls i) (fun x=>bif decide (x < 0) then bd (ix ls i) (fun x1=>bd (ix ls i) fun x2=>bd (zbt F.vars x2) fun q=>bd (zaD st 3 (zaH x1) 0 0 q) fun r=>bd (ix r now) fun y=>bd (ix r (wr (len r - 1))) fun z=>bd (zaZ y.ineq z.ineq) fun a=>bd (zaD r 4 now (wr (len r - 1)) 0 a) fun t=>some (.nx (t,wr (len t - 1),wr (i + 1))))
  else bd (ix ls i) (fun x1=>bd (ix ls i) fun x2=>bd (zbt F.vars x2) fun q=>bd (zaD st 2 (zaH x1) 0 0 q) fun r=>bd (ix r now) fun y=>bd (ix r (wr (len r - 1))) fun z=>bd (zaZ y.ineq z.ineq) fun a=>bd (zaD r 4 now (wr (len r - 1)) 0 a) fun t=>some (.nx (t,wr (len t - 1),wr (i + 1))))) else some (.bk (st,now,i)))
 (hb:∀ at_ st (i:Int),body (at_,st,i)=bif (bif decide (i < len S) then decide (len st≤400) else false) then bd (ix S i) (fun x=>bif zbK x then bd (zcf F.vars x.clause) (fun q=>bd (zaD st 1 x.right 0 0 q) fun r=>bd (app at_ [wr (len r - 1)]) fun xs=>some (.nx (xs,r,wr (i + 1))))
  else bif !zbL x then bd (ix at_ x.left) (fun a=>bd (ix S x.left) fun y=>bd (zcI x.clause y.clause) fun ls=>bd (β:=_) (bdR (iter (lb ls) (st,a,0)) (fun s=>some (s.1,s.2.1)) l1:Option (List zab×Int)) fun s=>bd (app at_ [s.2]) fun xs=>some (.nx (xs,s.1,wr (i + 1))))
  else bd (ix at_ x.left) (fun a=>bd (ix at_ x.right) fun b=>bd (ix at_ x.left) fun a2=>bd (ix st a2) fun y=>bd (ix at_ x.right) fun b2=>bd (ix st b2) fun z=>bd (zaZ y.ineq z.ineq) fun q=>bd (zaD st 4 a b 0 q) fun r=>bd (ix S x.left) fun u=>bd (ix S x.right) fun v=>bd (zcJ x.clause u.clause v.clause) fun ls =>
   bd (β:=_) (bdR (iter (lb ls) (r,wr (len r - 1),0)) (fun s=>some (s.1,s.2.1)) l2:Option (List zab×Int)) fun s=>bd (ix s.1 s.2) fun y=>bd (zbF y.ineq 2) fun q=>bd (zaD s.1 6 s.2 0 2 q.1) fun t=>bd (app at_ [wr (len t - 1)]) fun xs=>some (.nx (xs,t,wr (i + 1))))) else some (.bk (at_,st,i))) :
 ∀ (rest:List zae) (k:Nat) (w:PW),k + rest.length=S.length→(∀ i y,rest[i]?=some y→S[k + i]?=some y)→Pv F.vars S k w→len w.2≤400 →
  ∃ z,iter body (w.1,w.2,(k:Int))=some (.go z)∧(∀ u,finL F.vars S rest w=some u→z.1=u.1∧z.2.1=u.2∧len u.2≤400∧Pv F.vars S S.length u)∧(finL F.vars S rest w=none→400 < len z.2.1):=by
 intro rest
 have hlim:lim=4294967296:=rfl
 have hle:=hD.le
 induction rest with
 | nil =>
  intro k w hk _ hw h400
  simp only [List.length_nil,Nat.add_zero] at hk
  subst hk
  refine ⟨(w.1,w.2,(S.length:Int)),zbc ?_,fun u hu=>?_,nofun⟩
  · rw [hb,show decide ((S.length:Int) < len S)=false by rw [decide_eq_false_iff_not,zak];omega];rfl
  · cases hu;exact ⟨rfl,rfl,h400,hw⟩
 | cons x rest ih =>
  intro k w hk hm hw h400
  simp only [List.length_cons] at hk
  have hx:S[k]?=some x:=by have:=hm 0 x rfl;simpa using this
  have hcl:=hD.clause (List.mem_of_getElem? hx)
  have hcn:=hcl.len
  have hsz:=hw.sz
  have w1:wr ((k:Int) + 1)=((k + 1:Nat):Int):=by rw [wr_of _ (by omega) (by omega)];omega
  have hok:=stp_ok hD hx hw
  have e:body (w.1,w.2,(k:Int))=some (.nx ((stp F.vars S w x).1,(stp F.vars S w x).2,((k + 1:Nat):Int))):=by
   rw [hb,show decide ((k:Int) < len S)=true by rw [decide_eq_true_eq,zak];omega,show decide (len w.2≤400)=true from decide_eq_true h400]
   simp only [cond_true,zaA,hx,zaa,w1]
   unfold stp
   by_cases hl:x.left < 0
   · rw [if_pos hl,show zbK x=true by unfold zbK;simpa using hl,cond_true,zeR hcl,zaa]
     unfold zaD
     rw [zaB (by simp;omega),zaa,zaa,zaB (by simp;rw [hw.len];omega),zaa,zak,List.length_append,List.length_singleton,wr_of _ (by omega) (by omega),zak]
     rw [show (((w.2.length + 1:Nat):Int) - 1)=(w.2.length:Int) by omega]
   · have hb1:=hD.before hx (by omega)
     obtain ⟨p1,p2⟩:=hw.place hD (by omega) (by omega:0≤x.left) hb1.1
     obtain ⟨y,y1,y2,y3,y4⟩:=clAt_of hD (i:=k) (by omega) (by omega:0≤x.left) hb1.1
     rw [if_neg hl,show zbK x=false by unfold zbK;simp;omega,cond_false]
     by_cases hr:x.right < 0
     · have ho:=mor_ok (F:=F) (c:=x.clause) (d:=clAt S x.left) hcl
       have hq:=spec_lits hF ho.1 ho.2 (hlb _) (mor x.clause (clAt S x.left)) 0 w.2 (gA w.1 x.left) _ _ (by omega) (fun i z hz=>by rw [Nat.zero_add];exact hz) p2 (by omega) (fun j _=>by have:=cfA_bd (clAt S x.left) j;omega) (by omega)
       rw [show ((0:Nat):Int)=0 from rfl] at hq
       rw [if_pos hr,show zbL x=false by unfold zbL;simp;omega,Bool.not_false,cond_true,p1,zaa,y1,zaa,spec_l17Extra_eq (by omega),zaa,← y3,
        hq,zaE,zaa,
        zaB (by simp;rw [hw.len];omega),zaa]
     · obtain ⟨q1,q2⟩:=hw.place hD (by omega) (by omega:0≤x.right) (hb1.2 (by omega))
       obtain ⟨z,z1,z2,z3,z4⟩:=clAt_of hD (i:=k) (by omega) (by omega:0≤x.right) (hb1.2 (by omega))
       obtain ⟨h0,h1⟩:=res_at hD hx hw (by omega) (by omega)
       have ho:=one_ok (F:=F) (c:=x.clause) (d:=clAt S x.left) (e:=clAt S x.right) hcl
       obtain ⟨s,s1,s2⟩:=p2.ix
       obtain ⟨t,t1,t2⟩:=q2.ix
       obtain ⟨b,b1,b2,b3⟩:=p2.ex
       obtain ⟨d,d1,d2,d3⟩:=q2.ex
       have hadd:zaZ s.ineq t.ineq=some (addQ (gI w.2 (gA w.1 x.left)) (gI w.2 (gA w.1 x.right))):=by
        rw [s2,t2,b1,d1,zeS (by omega) (fun k hk=>by have:=cfA_bd (clAt S x.left) k;omega) (fun k hk=>by have:=cfA_bd (clAt S x.right) k;omega) (by omega) (by omega),addQ_pl]
       have hw3:wr (len (w.2++[(⟨addQ (gI w.2 (gA w.1 x.left)) (gI w.2 (gA w.1 x.right)),4,gA w.1 x.left,gA w.1 x.right,0⟩:zab)]) - 1)=len w.2:=by
        rw [zak,zak,List.length_append,List.length_singleton,wr_of _ (by omega) (by omega)];omega
       rw [if_neg hr,show zbL x=true by unfold zbL;simp;omega,Bool.not_true,cond_false,p1,zaa,q1,zaa,zaa,s1,zaa,zaa,t1,zaa,hadd,zaa]
       have hq:=spec_lits hF ho.1 ho.2 (hlb _) (one x.clause (clAt S x.left) (clAt S x.right)) 0 _ (len w.2) _ _ (by omega) (fun i z hz=>by rw [Nat.zero_add];exact hz) h0 (by omega) (fun j _=>by have:=cfA_bd (clAt S x.left) j;have:=cfA_bd (clAt S x.right) j;omega) (by simp;omega)
       rw [show ((0:Nat):Int)=0 from rfl] at hq
       unfold zaD
       rw [zaB (by simp;omega),zaa,zaa,y1,zaa,z1,zaa,spec_l17Single_eq (by omega),zaa,← y3,← z3,hw3,
        hq,zaE,zaa]
       obtain ⟨_,g2,_⟩:=lits_at (ls:=one x.clause (clAt S x.left) (clAt S x.right)) (w:=(w.2++[⟨addQ (gI w.2 (gA w.1 x.left)) (gI w.2 (gA w.1 x.right)),4,gA w.1 x.left,gA w.1 x.right,0⟩],len w.2)) h0
       generalize (one x.clause (clAt S x.left) (clAt S x.right)).foldl (lstp F.vars.toNat) (w.2++[⟨addQ (gI w.2 (gA w.1 x.left)) (gI w.2 (gA w.1 x.right)),4,gA w.1 x.left,gA w.1 x.right,0⟩],len w.2)=r at h1 g2 ⊢
       simp only [List.length_append,List.length_singleton] at g2
       obtain ⟨c,c1,c2,c3⟩:=h1.ex
       obtain ⟨v,v1,v2⟩:=h1.ix
       have hfin:wr (len (r.1++[(⟨plI F.vars.toNat (cfA x.clause) (upH c),6,r.2,0,2⟩:zab)]) - 1)=len r.1:=by
        have:=ho.2
        rw [zak,zak,List.length_append,List.length_singleton,wr_of _ (by omega) (by omega)];omega
       rw [v1,zaa,v2,c1,spec_l16Divide_eq (by omega) (fun k hk=>by have:=cfA_bd x.clause k;omega) (by omega),zaa,zaB (by have:=ho.2;simp;omega),zaa,zaa,hfin,zaB (by simp;rw [hw.len];omega),zaa,halfQ_pl]
  by_cases h4:400 < len (stp F.vars S w x).2
  · refine ⟨((stp F.vars S w x).1,(stp F.vars S w x).2,((k + 1:Nat):Int)),(zbn e).trans (zbc ?_),?_,fun _=>h4⟩
    · rw [hb,show decide (len (stp F.vars S w x).2≤400)=false by rw [decide_eq_false_iff_not];omega]
      cases decide (((k + 1:Nat):Int) < len S) <;> rfl
    · intro u hu
      simp only [finL,show decide (400 < len (stp F.vars S w x).2)=true from decide_eq_true h4,cond_true] at hu
      cases hu
  · obtain ⟨z,i1,i2,i3⟩:=ih (k + 1) (stp F.vars S w x) (by omega) (fun i y hy=>by have:=hm (i + 1) y (by simpa using hy);rwa [show k + (i + 1)=k + 1 + i by omega] at this) hok (by omega)
    have hfin:finL F.vars S (x::rest) w=finL F.vars S rest (stp F.vars S w x):=by
     simp only [finL,show decide (400 < len (stp F.vars S w x).2)=false from decide_eq_false h4,cond_false]
    rw [hfin]
    exact ⟨z,(zbn e).trans i1,i2,i3⟩
end
end Go.PF
namespace Go.PF
open Go.Pu
def plV (F:Cnf) (S:List zae):List zab×Bool :=
 bif derB F S && decide (0 < len S) then (match finL F.vars S S ([],[]) with|some u=>(u.2.take ((gA u.1 ((S.length:Int) - 1)) + 1).toNat,true)|none=>([],false)) else ([],false)
theorem cnfB_vars {F:Cnf} (h:cnfB F=true):0≤F.vars∧F.vars≤12:=by
 unfold cnfB at h
 rw [Bool.and_eq_true,Bool.and_eq_true] at h
 exact zdg.1 h.1.1
theorem fin_last {F:Cnf} {S:List zae} (h0:0 < S.length) {u:PW} (hu:Pv F.vars S S.length u):ix u.1 ((S.length:Int) - 1)=some (gA u.1 ((S.length:Int) - 1))∧0≤gA u.1 ((S.length:Int) - 1)∧gA u.1 ((S.length:Int) - 1) < u.2.length:=by
 obtain ⟨a,a1,a2⟩:=ix_of (xs:=u.1) (i:=(S.length:Int) - 1) (by omega) (by rw [hu.len];omega)
 have e:gA u.1 ((S.length:Int) - 1)=a:=by unfold gA;rw [a2];rfl
 have hx:S[S.length - 1]?=some S[S.length - 1]:=List.getElem?_eq_getElem (by omega)
 have hA:=hu.at_ (S.length - 1) _ (by omega) hx
 rw [show ((S.length - 1:Nat):Int)=(S.length:Int) - 1 by omega] at hA
 exact ⟨by rw [a1,e],hA.k0,hA.k1⟩
theorem finL_ok {F:Cnf} {S:List zae} (hD:IsD F S) {u:PW}:∀ (rest:List zae) (k:Nat) (w:PW),k + rest.length=S.length→(∀ i y,rest[i]?=some y→S[k + i]?=some y)→Pv F.vars S k w→len w.2≤400→finL F.vars S rest w=some u→Pv F.vars S S.length u∧len u.2≤400
 | [],k,w,hk,_,hw,h4,h=>by
  cases h
  simp only [List.length_nil,Nat.add_zero] at hk
  subst hk;exact ⟨hw,h4⟩
 | x::rest,k,w,hk,hm,hw,h4,h=>by
  have hx:S[k]?=some x:=by have:=hm 0 x rfl;simpa using this
  simp only [finL] at h
  cases hd:decide (400 < len (stp F.vars S w x).2) with
  | true=>rw [hd] at h;cases h
  | false =>
   rw [hd] at h
   have hd:=of_decide_eq_false hd
   simp only [List.length_cons] at hk
   exact finL_ok hD rest (k + 1) _ (by omega) (fun i y hy=>by have:=hm (i + 1) y (by simpa using hy);rwa [show k + (i + 1)=k + 1 + i by omega] at this) (stp_ok hD hx hw) (by omega) h
theorem spec_pl_fin {F:Cnf} {S:List zae} (hD:IsD F S) {lb:List Int→List zab×Int×Int→Option (Lp (List zab×Int×Int) Empty)} {l1 l2:Empty→Option (List zab×Int)} {lx:Empty→Option (List zab×List Int)} {body:List Int×List zab×Int→Option (Lp (List Int×List zab×Int) Empty)}
 (hb:∀ at_ st (i:Int),body (at_,st,i)=bif (bif decide (i < len S) then decide (len st≤400) else false) then bd (ix S i) (fun x=>bif zbK x then bd (zcf F.vars x.clause) (fun q=>bd (zaD st 1 x.right 0 0 q) fun r=>bd (app at_ [wr (len r - 1)]) fun xs=>some (.nx (xs,r,wr (i + 1))))
  else bif !zbL x then bd (ix at_ x.left) (fun a=>bd (ix S x.left) fun y=>bd (zcI x.clause y.clause) fun ls=>bd (β:=_) (bdR (iter (lb ls) (st,a,0)) (fun s=>some (s.1,s.2.1)) l1:Option (List zab×Int)) fun s=>bd (app at_ [s.2]) fun xs=>some (.nx (xs,s.1,wr (i + 1))))
  else bd (ix at_ x.left) (fun a=>bd (ix at_ x.right) fun b=>bd (ix at_ x.left) fun a2=>bd (ix st a2) fun y=>bd (ix at_ x.right) fun b2=>bd (ix st b2) fun z=>bd (zaZ y.ineq z.ineq) fun q=>bd (zaD st 4 a b 0 q) fun r=>bd (ix S x.left) fun u=>bd (ix S x.right) fun v=>bd (zcJ x.clause u.clause v.clause) fun ls =>
   bd (β:=_) (bdR (iter (lb ls) (r,wr (len r - 1),0)) (fun s=>some (s.1,s.2.1)) l2:Option (List zab×Int)) fun s=>bd (ix s.1 s.2) fun y=>bd (zbF y.ineq 2) fun q=>bd (zaD s.1 6 s.2 0 2 q.1) fun t=>bd (app at_ [wr (len t - 1)]) fun xs=>some (.nx (xs,t,wr (i + 1))))) else some (.bk (at_,st,i)))
 (hlb:∀ ls st now (i:Int),lb ls (st,now,i)=bif decide (i < len ls) then bd (ix ls i) (fun x=>bif decide (x < 0) then bd (ix ls i) (fun x1=>bd (ix ls i) fun x2=>bd (zbt F.vars x2) fun q=>bd (zaD st 3 (zaH x1) 0 0 q) fun r=>bd (ix r now) fun y=>bd (ix r (wr (len r - 1))) fun z=>bd (zaZ y.ineq z.ineq) fun a=>bd (zaD r 4 now (wr (len r - 1)) 0 a) fun t=>some (.nx (t,wr (len t - 1),wr (i + 1))))
  else bd (ix ls i) (fun x1=>bd (ix ls i) fun x2=>bd (zbt F.vars x2) fun q=>bd (zaD st 2 (zaH x1) 0 0 q) fun r=>bd (ix r now) fun y=>bd (ix r (wr (len r - 1))) fun z=>bd (zaZ y.ineq z.ineq) fun a=>bd (zaD r 4 now (wr (len r - 1)) 0 a) fun t=>some (.nx (t,wr (len t - 1),wr (i + 1))))) else some (.bk (st,now,i))) :
 ∃ z,bdR (iter body ([],[],0)) (fun s=>some (s.2.1,s.1)) lx=some z∧(∀ u,finL F.vars S S ([],[])=some u→z.2=u.1∧z.1=u.2∧len u.2≤400∧Pv F.vars S S.length u)∧(finL F.vars S S ([],[])=none→400 < len z.1):=by
 obtain ⟨z,z1,z2,z3⟩:=spec_pl_loop hD (cnfB_vars hD.cnf) hlb hb S 0 ([],[]) (by omega) (fun i y hy=>by rw [Nat.zero_add];exact hy) Pv.nil (by decide)
 rw [show ((0:Nat):Int)=0 from rfl] at z1
 simp only at z1
 rw [z1,zaE]
 exact ⟨_,rfl,z2,z3⟩
theorem cut_take {A:Type} {xs:List A} {k:Int} (h0:0≤k) (h1:k < xs.length) (hl:xs.length≤1000000):cut xs 0 (wr (k + 1))=some (xs.take (k + 1).toNat):=by
 obtain ⟨n,rfl⟩:∃ n:Nat,k=n:=⟨k.toNat,by omega⟩
 rw [wr_of _ (by omega) (by omega),show ((n:Int) + 1)=((n + 1:Nat):Int) by omega]
 have:=cut_ok (xs:=xs) (a:=0) (b:=n + 1) (Nat.zero_le _) (by omega)
 rw [List.drop_zero] at this
 exact this
theorem zfK {F:Cnf} {S:List zae} (hF:okCnf F) (hS:okL zcw S):zd1 F S=some (plV F S):=by
 unfold zd1 plV zet
 cases h0:decide (0 < len S) with
 | false=>simp
 | true =>
  have hl:=of_decide_eq_true h0
  rw [zak] at hl
  simp only [cond_true,spec_l7Good_eq hF hS,zaa,Bool.and_true]
  cases hd:derB F S with
  | false=>rfl
  | true =>
   have hD:=derB_iff.1 hd
   have hle:=hD.le
   obtain ⟨z,z1,z2,z3⟩:∃ z,zd0 F S=some z∧(∀ u,finL F.vars S S ([],[])=some u→z.2=u.1∧z.1=u.2∧len u.2≤400∧Pv F.vars S S.length u)∧(finL F.vars S S ([],[])=none→400 < len z.1):=by
    unfold zd0
    exact spec_pl_fin hD (fun _ _ _=>by rfl) (fun _ _ _ _=>by rfl)
   simp only [Bool.not_true,cond_false,cond_true]
   rw [z1,zaa]
   cases hf:finL F.vars S S ([],[]) with
   | none =>
    rw [show decide (400 < len z.1)=true from decide_eq_true (z3 hf)];rfl
   | some u =>
    obtain ⟨e1,e2,e3,e4⟩:=z2 u hf
    obtain ⟨f1,f2,f3⟩:=fin_last (by omega) e4
    rw [e1,e2,show decide (400 < len u.2)=false by rw [decide_eq_false_iff_not];omega,cond_false,zak u.1,e4.len,wr_of _ (by omega) (by omega),f1,zaa,cut_take f2 f3 (by rw [zak] at e3;omega),zaa]
def S12 (st:List zab):Prop:=∀ s∈st,s.ineq.coeffs.length≤12
theorem gI_12 {st:List zab} (h:S12 st) (k:Int):(gI st k).coeffs.length≤12:=by
 unfold gI
 cases hx:st[k.toNat]? with
 | none=>exact Nat.zero_le _
 | some s=>exact h s (List.mem_of_getElem? hx)
theorem S12.app {st:List zab} (h:S12 st) {s:zab} (hs:s.ineq.coeffs.length≤12):S12 (st++[s]):=fun x hx=>by
 rcases List.mem_append.1 hx with hx|hx
 · exact h x hx
 · rw [List.mem_singleton.1 hx];exact hs
theorem addQ_12 {q r:zaf} (h:r.coeffs.length≤12):(addQ q r).coeffs.length≤12:=by
 unfold addQ;simp only [List.length_zipWith];omega
theorem plI_12 {V:Nat} (hV:V≤12) (φ:Nat→Int) (b:Int):(plI V φ b).coeffs.length≤12:=by
 unfold plI;simpa using hV
theorem lits_12 {V:Nat} (hV:V≤12):∀ {ls:List Int} {w:List zab×Int},S12 w.1→S12 (ls.foldl (lstp V) w).1
 | [],_,h=>h
 | l::ls,w,h=>lits_12 hV (ls:=ls) (w:=lstp V w l) (by
  unfold lstp
  exact (h.app (plI_12 hV _ _)).app (addQ_12 (plI_12 hV _ _)))
theorem stp_12 {V:Int} (hV:V.toNat≤12) {S:List zae} {w:PW} {x:zae} (h:S12 w.2):S12 (stp V S w x).2:=by
 unfold stp
 by_cases hl:x.left < 0
 · rw [if_pos hl];exact h.app (plI_12 hV _ _)
 · rw [if_neg hl]
   by_cases hr:x.right < 0
   · rw [if_pos hr];exact lits_12 hV (w:=(w.2,gA w.1 x.left)) h
   · rw [if_neg hr]
     have h1:S12 (w.2++[⟨addQ (gI w.2 (gA w.1 x.left)) (gI w.2 (gA w.1 x.right)),4,gA w.1 x.left,gA w.1 x.right,0⟩]):=h.app (addQ_12 (gI_12 h _))
     have h2:=lits_12 hV (ls:=one x.clause (clAt S x.left) (clAt S x.right)) (w:=(w.2++[⟨addQ (gI w.2 (gA w.1 x.left)) (gI w.2 (gA w.1 x.right)),4,gA w.1 x.left,gA w.1 x.right,0⟩],len w.2)) h1
     refine h2.app ?_
     unfold halfQ
     simp only [List.length_map]
     exact gI_12 h2 _
theorem finL_12 {V:Int} (hV:V.toNat≤12) {S:List zae} {u:PW}:∀ (rest:List zae) (w:PW),S12 w.2→finL V S rest w=some u→S12 u.2
 | [],w,hw,h=>by cases h;exact hw
 | x::rest,w,hw,h=>by
  simp only [finL] at h
  cases hd:decide (400 < len (stp V S w x).2) with
  | true=>rw [hd] at h;cases h
  | false=>rw [hd] at h;exact finL_12 hV rest _ (stp_12 hV hw) h
def mPl (a:zab):Nat:=a.ineq.coeffs.length + 5
theorem plV_small {F:Cnf} {S:List zae}:tot mPl (plV F S).1≤7000:=by
 unfold plV
 cases h:derB F S && decide (0 < len S) with
 | false=>exact Nat.zero_le _
 | true =>
  have h1:=(Bool.and_eq_true _ _).mp h
  have hD:=derB_iff.1 h1.1
  have hV:=cnfB_vars hD.cnf
  simp only [cond_true]
  cases hf:finL F.vars S S ([],[]) with
  | none=>exact Nat.zero_le _
  | some u =>
   obtain ⟨_,e3⟩:=finL_ok hD S 0 ([],[]) (by omega) (fun i y hy=>by rw [Nat.zero_add];exact hy) Pv.nil (by decide) hf
   have h12:=finL_12 (by omega) S ([],[]) nofun hf
   rw [zak] at e3
   have key:∀ l:List zab,S12 l→tot mPl l≤17 * l.length:=by
    intro l
    induction l with
    | nil=>intro _;exact Nat.le_refl _
    | cons c l ih =>
     intro h
     have:=h c (by simp);have:=ih fun d hd=>h d (by simp [hd])
     simp only [tot,mPl,List.length_cons];omega
   have h2:S12 (u.2.take ((gA u.1 ((S.length:Int) - 1)) + 1).toNat):=fun s hs=>h12 s (List.mem_of_mem_take hs)
   have:=key _ h2
   have hl:(u.2.take ((gA u.1 ((S.length:Int) - 1)) + 1).toNat).length≤u.2.length:=by rw [List.length_take];omega
   simp only
   omega
end Go.PF
namespace Go.PF
open Go.Pu
theorem tot_len {S:List zab}:S.length≤tot mPl S:=by
 induction S with
 | nil=>exact Nat.le_refl _
 | cons x S ih=>simp only [tot,List.length_cons,mPl];omega
theorem zfj {F:Cnf} {S:List zab} (hF:okCnf F) (hS:okPl S):zc2 F S=some (zaG F S,zaL F S):=by
 unfold zc2 zaL
 rw [ze2 hF hS,zaa,zcO hF,zaa,bif_ff]
theorem zfL {F:Cnf} {S:List zab} (hF:okCnf F) (hS:okPl S):zdI F S=some (zaG F S,zaL F S):=by
 unfold zdI
 rw [zel hF,zaa]
 cases ht:zaL F S with
 | false=>unfold zaG;rw [ht];rfl
 | true =>
  simp only [Bool.not_true,cond_false]
  rw [ze1 hF hS,zaa]
def firstV (F:Cnf) (S:List zab):Int:=bif zaL F S then wrongW F S else 0
theorem le_no {a b:Int}:decide (a < b)=!decide (b≤a):=by
 by_cases h:a < b
 · rw [decide_eq_true h,decide_eq_false (by omega)];rfl
 · rw [decide_eq_false h,decide_eq_true (by omega)];rfl
theorem impl_First_eq {F:Cnf} {S:List zab} (hF:okCnf F) (hS:okPl S):zdJ F S=some (firstV F S,zaL F S):=by
 unfold zdJ firstV zaL
 rw [zcO hF,zaa,le_no]
 cases hC:cnfB F with
 | false=>rfl
 | true =>
  cases decide (len S≤400) with
  | false=>rfl
  | true =>
   simp only [Bool.not_true,cond_false,Bool.true_and,cond_true]
   rw [zfi hC hS,zaa]
theorem spec_First_eq {F:Cnf} {S:List zab} (hF:okCnf F) (hS:okPl S):zdK F S=some (firstV F S,zaL F S):=by
 unfold zdK firstV
 rw [zel hF,zaa]
 cases ht:zaL F S with
 | false=>rfl
 | true =>
  simp only [Bool.not_true,cond_false,cond_true]
  rw [zfh (zem ht).1 hS,zaa]
theorem zfk (a b:List Int):zdR a b=some (a == b):=same_eq a b
theorem laws_rPlanes_self (a:List zab):zdS a a=some true:=by
 unfold zdS
 rw [beq_self_eq_true]
 simp only [Bool.not_true,cond_false]
 refine (congrArg (fun z=>bdR z _ _) (forL_fold (fun (s:Unit) (y:zab)=>s) fun i x s hx=>?_)).trans (by rw [zaE])
 simp only [zaA,hx,zaa,beq_self_eq_true,Bool.not_true,cond_false,zfk]
theorem bdR_atW {S X β:Type} {x:Option (Rs S X)} {s:S} {k:S→Option β} {l:X→Option β} {r:Option β} (h:x=some (.go s)) (hk:k s=r):bdR x k l=r:=by rw [h,zaE];exact hk
theorem bd_atW {A B:Type} {x:Option A} {a:A} {k:A→Option B} {r:Option B} (h:x=some a) (hk:k a=r):bd x k=r:=by rw [h,zaa];exact hk
theorem draw_first {cs:List Int} (h:okL okU8 cs):∃ F S,zcW cs=some (F,S)∧okCnf F∧okPl S:=by
 obtain ⟨F,c1,e1,h1,hF⟩:=dr_cnf (n:=100000) ((okC_begin h 0).le (by omega))
 obtain ⟨S,c2,e2,h2,hS⟩:=dr_planes (n:=10) (c:=c1) h1.le hF.ok
 unfold zcW
 rw [e1,zaa]
 dsimp only
 rw [e2,zaa]
 exact ⟨_,_,rfl,hF.ok,by have:S.length≤402:=hS;show S.length≤100000;omega⟩
theorem draw_proof {cs:List Int} (h:okL okU8 cs):∃ F S,zdx cs=some (F,S)∧okCnf F∧okPl S:=by
 obtain ⟨F,S,e,h1,h2⟩:=draw_first h
 unfold zdx
 rw [e,zaa]
 exact ⟨_,_,rfl,h1,h2⟩
theorem draw_planeRef {cs:List Int} (h:okL okU8 cs):∃ F S,zd2 cs=some (F,S)∧okCnf F∧okPl S:=by
 obtain ⟨b,c1,e1,h1,_⟩:=dr_one (n:=100000) ((okC_begin h 0).le (by omega)) 3
 unfold zd2
 rw [e1,zaa]
 dsimp only
 cases b with
 | true =>
  obtain ⟨F,S,e,h1,h2⟩:=draw_first h
  simp only [cond_true]
  rw [e,zaa]
  exact ⟨_,_,rfl,h1,h2⟩
 | false =>
  obtain ⟨F,c2,e2,h2,hF⟩:=dr_hard (n:=50000) (c:=c1) h1.le
  obtain ⟨R,c3,e3,h3,hR⟩:=dr_refutation (n:=50000) (c:=c2) h2 hF.ok
  have hs:=plV_small (F:=F) (S:=R)
  have hl:=tot_len (S:=(plV F R).1)
  have hok:okPl (plV F R).1:=by unfold okPl;omega
  simp only [cond_false]
  rw [e2,zaa]
  dsimp only
  rw [e3,zaa]
  dsimp only
  rw [zfK hF.ok hR.okL,zaa]
  obtain ⟨t,ht,hc,hz⟩:∃ t:List Int×Int×Int×Bool,(bif (decide (0 < (len (plV F R).1))) then bd (PF.zbo c3 4) (fun r36103=>some (r36103.2.code,r36103.2.at_,r36103.2.seed,r36103.1)) else some (c3.code,c3.at_,c3.seed,false))=some t∧okC 1000 (l1Cur.mk t.1 t.2.1 t.2.2.1)∧(t.2.2.2=true→0 < (plV F R).1.length):=by
   cases hd:decide (0 < len (plV F R).1) with
   | false=>exact ⟨_,rfl,h3.le,nofun⟩
   | true =>
    obtain ⟨b,c4,e4,h4,_⟩:=dr_one (n:=1000) (c:=c3) h3.le 4
    have:=of_decide_eq_true hd
    rw [zak] at this
    simp only [cond_true]
    rw [e4,zaa]
    exact ⟨_,rfl,h4,fun _=>by omega⟩
  rw [ht,zaa]
  cases hb:t.2.2.2 with
  | false=>exact ⟨_,_,rfl,hF.ok,hok⟩
  | true =>
   have hpos:=hz hb
   obtain ⟨k,c5,e5,h5,hk⟩:=zaX (n:=10) hc.le (len (plV F R).1)
   rw [zak] at hk
   obtain ⟨y,hy,_⟩:=ix_of (xs:=(plV F R).1) (i:=k) hk.1 (by omega)
   simp only [cond_true]
   rw [show (len (plV F R).1)=(((plV F R).1.length:Nat):Int) from rfl] at e5 ⊢
   rw [e5,zaa]
   dsimp only
   rw [hy,zaa,zaa,put_at hk.1 (by omega),zaa]
   exact ⟨_,_,rfl,hF.ok,by unfold okPl at hok ⊢;rw [List.length_set];exact hok⟩
theorem plain_FnPlaneProofs (a0:List Int) (o0:okL okU8 a0):zew a0=some true:=by
 unfold zew
 cases zdm a0 with
 | true=>rfl
 | false =>
 simp only [cond_false]
 obtain ⟨F,S,e,hF,hS⟩:=draw_proof o0
 obtain ⟨G,L,e2,hG,hL⟩:=draw_planeRef o0
 rw [e,zaa]
 dsimp only
 rw [zfj hF hS,zaa,zfL hF hS,zaa,impl_First_eq hF hS,zaa,spec_First_eq hF hS,zaa]
 have hcond:(bif (bif zaL F S then decide (0 < len S) else false) then !(zaG F S == (firstV F S == -1)) else false)=false:=by
  unfold firstV zaG
  cases zaL F S with
  | false=>rfl
  | true =>
   cases decide (0 < len S) with
   | false=>rfl
   | true=>simp only [cond_true,Bool.true_and,wrongW_one,beq_self_eq_true,Bool.not_true]
 simp only [beq_self_eq_true,Bool.not_true,cond_false,hcond]
 refine bdR_atW (s:=()) ?_ ?_
 · cases hp:zaG F S with
   | false=>cases zaL F S <;> rfl
   | true =>
   cases ht:zaL F S with
   | false=>rfl
   | true =>
    obtain ⟨hC,h1,h2,h3⟩:=zcc hp
    have hU:=proofW_W hp
    simp only [cond_true]
    obtain ⟨q,hq,s,rfl⟩:∃ q,iter (S:=Int) (X:=(Rs Unit Bool)) (fun s61077=>(bif (bif (decide (s61077 < (len S))) then (decide (s61077 < 60)) else false) then bd (ix S s61077) (fun x61158=>bd (PF.zc5 F x61158.ineq) (fun r61162=>(bif (bif (!r61162.2) then true else (!r61162.1)) then some (Lp.rt (Rs.rt false)) else some (Lp.nx (wr (s61077 + 1)))))) else some (Lp.bk s61077))) 0=some q∧∃ s,q=.go s:=by
     refine zcP (fun s=>(60 - s).toNat) (fun s=>0≤s) _ ?_ _ (Int.le_refl _)
     intro s hs
     cases hd:decide (s < len S) with
     | false=>exact .inr (.inl ⟨_,rfl,_,rfl⟩)
     | true =>
     cases hd2:decide (s < 60) with
     | false=>exact .inr (.inl ⟨_,rfl,_,rfl⟩)
     | true =>
      have g1:=of_decide_eq_true hd;have g2:=of_decide_eq_true hd2
      rw [zak] at g1
      obtain ⟨y,hy,hg⟩:=ix_of (xs:=S) (i:=s) hs g1
      obtain ⟨p1,_⟩:=zdl (h3 _ y hg)
      left
      simp only [cond_true]
      rw [hy,zaa,zfJ hC p1 (fun n hm=>plane_sound hp hm _ y hg),zaa,wr_of (s + 1) (by omega) (by omega)]
      exact ⟨_,rfl,by omega,by omega⟩
    refine (congrArg (fun z=>bdR z _ _) hq).trans ?_
    rw [zaE]
    refine bd_atW (impl_trimW_eq hF hS) ?_
    have hT:=trim_rightW hp
    obtain ⟨_,t1,t2,_⟩:=zcc hT
    have hTo:okPl (zas S (needW S)):=by unfold okPl;omega
    obtain ⟨x,y,hx,_,_,hy,hxy⟩:=trim_lastW hU h2
    obtain ⟨x',i1,hx'⟩:=last_W hS h2
    obtain ⟨y',i2,hy'⟩:=last_W hTo t2
    rw [hx] at hx';cases hx'
    rw [hy] at hy';cases hy'
    have hv:trimVW F S=(zas S (needW S),true):=by unfold trimVW;rw [hp];rfl
    have c1:(len (zas S (needW S)) == 0)=false:=by rw [beq_eq_false_iff_ne,zak];omega
    have hT2:zaL F (zas S (needW S))=true:=by unfold zaG at hT;rw [Bool.and_eq_true] at hT;exact hT.1
    rw [spec_TrimPlanes_eq hF hS,zaa,hv]
    simp only [beq_self_eq_true,Bool.not_true,cond_false,laws_rPlanes_self,zaa,c1]
    rw [zfj hF hTo,zaa,i1,zaa,i2,zaa,hT,hT2,hxy]
    simp only [beq_self_eq_true,Bool.not_true,cond_false,zfk,zaa]
 rw [e2,zaa]
 dsimp only
 rw [impl_Ref_eq hG hL,zaa,spec_Ref_eq hG hL,zaa]
 simp only [beq_self_eq_true,Bool.not_true,cond_false]
 cases ht:zaL G L with
 | false=>rfl
 | true =>
 cases hr:(zaG G L && lastZ L) with
 | false=>rfl
 | true =>
  rw [Bool.and_eq_true] at hr
  have hC:=(zem ht).1
  simp only [cond_true]
  rw [zfH hC,zaa,refutedW hr.1 hr.2];rfl
end Go.PF
