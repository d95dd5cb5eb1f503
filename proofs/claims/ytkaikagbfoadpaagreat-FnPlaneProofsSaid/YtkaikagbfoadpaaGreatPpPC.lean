/- Helpers of the walks and plain laws. -/
import Derived.Test.YtkaikagbfoadpaaGreatPpPB
set_option linter.unusedVariables false
namespace Go.PF
open Go.Pu
structure Rv (xs:List Int) (i:Nat) (ys:List Int):Prop where
 len:ys.length=xs.length
 at_:∀ m,m < xs.length→ys[m]?=if m < i∨xs.length≤m + i then xs[xs.length - 1 - m]? else xs[m]?
theorem Rv.step {xs ys:List Int} {i:Nat} (h:Rv xs i ys) (hi:i + i + 1 < xs.length) {a b:Int} (ha:ys[i]?=some a) (hb:ys[xs.length - 1 - i]?=some b) :
 Rv xs (i + 1) ((ys.set i b).set (xs.length - 1 - i) a):=by
 have hl:=h.len
 refine ⟨by simp [hl],fun m hm=>?_⟩
 have h1:=h.at_ i (by omega);rw [ha,if_neg (by omega)] at h1
 have h2:=h.at_ (xs.length - 1 - i) (by omega);rw [hb,if_neg (by omega)] at h2
 rw [List.getElem?_set]
 by_cases e:xs.length - 1 - i=m
 · rw [if_pos e,if_pos (by simp [hl];omega),if_pos (by omega),show xs.length - 1 - m=i by omega];exact h1
 · rw [if_neg e,List.getElem?_set]
   by_cases e2:i=m
   · subst e2;rw [if_pos rfl,if_pos (by omega),if_pos (by omega)];exact h2
   · rw [if_neg e2,h.at_ m hm]
     by_cases c:m < i∨xs.length≤m + i
     · rw [if_pos c,if_pos (by omega)]
     · rw [if_neg c,if_neg (by omega)]
theorem Rv.fin {xs ys:List Int} {i:Nat} (h:Rv xs i ys) (hi:¬ i + i + 1 < xs.length):ys=xs.reverse:=by
 have hl:=h.len
 apply List.ext_getElem?
 intro m
 by_cases hm:m < xs.length
 · rw [h.at_ m hm,List.getElem?_reverse hm]
   split
   · rfl
   · congr 1;omega
 · rw [List.getElem?_eq_none (by omega),List.getElem?_eq_none (by simp;omega)]
theorem bdR_rev {β:Type} {xs:List Int} {body:List Int×Int×Int→Option (Lp (List Int×Int×Int) Empty)} {k:List Int×Int×Int→Option β} {l:Empty→Option β} {r:Option β}
 (h1:∀ (i:Nat) ys a b,i + i + 1 < xs.length→ys.length=xs.length→ys[i]?=some a→ys[xs.length - 1 - i]?=some b→body (ys,(i:Int),len xs - 1 - i)=some (.nx ((ys.set i b).set (xs.length - 1 - i) a,((i + 1:Nat):Int),len xs - 1 - ((i + 1:Nat):Int))))
 (h2:∀ (i:Nat) ys,¬ i + i + 1 < xs.length→∃ p,body (ys,(i:Int),len xs - 1 - i)=some (.bk (ys,p))) (hk:∀ p,k (xs.reverse,p)=r):bdR (iter body (xs,0,len xs - 1)) k l=r:=by
 have key:∀ (k i:Nat) ys,xs.length - i - i≤k→Rv xs i ys→∃ p,iter body (ys,(i:Int),len xs - 1 - i)=some (.go (xs.reverse,p)):=by
  intro k
  induction k with
  | zero =>
   intro i ys hk hR
   obtain ⟨p,hp⟩:=h2 i ys (by omega)
   refine ⟨p,?_⟩
   rw [zbc hp,hR.fin (by omega)]
  | succ k ih =>
   intro i ys hk hR
   by_cases hi:i + i + 1 < xs.length
   · obtain ⟨a,ha⟩:∃ a,ys[i]?=some a:=⟨_,List.getElem?_eq_getElem (by rw [hR.len];omega)⟩
     obtain ⟨b,hb⟩:∃ b,ys[xs.length - 1 - i]?=some b:=⟨_,List.getElem?_eq_getElem (by rw [hR.len];omega)⟩
     rw [zbn (h1 i ys a b hi hR.len ha hb)]
     exact ih _ _ (by omega) (hR.step hi ha hb)
   · obtain ⟨p,hp⟩:=h2 i ys hi
     exact ⟨p,by rw [zbc hp,hR.fin hi]⟩
 obtain ⟨p,hp⟩:=key xs.length 0 xs (by omega) ⟨rfl,fun m hm=>by rw [if_neg (by omega)]⟩
 rw [show len xs - 1 - ((0:Nat):Int)=len xs - 1 by omega,show ((0:Nat):Int)=0 from rfl] at hp
 rw [hp,zaE];exact hk p
theorem slices_Reverse_eq {xs:List Int} (hl:xs.length≤lim):zcn xs=some xs.reverse:=by
 unfold zcn
 rw [zbQ (by unfold lim at hl;omega)]
 refine bdR_rev ?ha ?hb (fun p=>rfl)
 case ha =>
  intro i ys a b hi hy h1 h2
  have hc:decide ((i:Int) < len xs - 1 - i)=true:=by rw [zak];simp;omega
  have hj:len xs - 1 - (i:Int)=((xs.length - 1 - i:Nat):Int):=by rw [zak];omega
  have h3:(ys.set i b)[xs.length - 1 - i]?=some b:=by rw [List.getElem?_set_ne (by omega)];exact h2
  unfold lim at hl
  simp only [hc,cond_true]
  rw [hj]
  simp only [zaA,h1,h2,zaa,zbH (show i < ys.length by omega),h3,zbH (show xs.length - 1 - i < (ys.set i b).length by simp;omega)]
  rw [wr_of _ (by omega) (by omega),wr_of _ (by omega) (by omega)]
  have e1:((xs.length - 1 - i:Nat):Int) - 1=len xs - 1 - ((i + 1:Nat):Int):=by rw [zak];omega
  rw [e1];rfl
 case hb =>
  intro i ys hi
  have hc:decide ((i:Int) < len xs - 1 - i)=false:=by rw [zak];simp;omega
  simp only [hc,cond_false]
  exact ⟨_,rfl⟩
def need (S:List zae):List Nat:=(List.range S.length).filter (bAt (mask S))
theorem need_le (S:List zae):(need S).length≤S.length:=by
 have:=List.length_filter_le (bAt (mask S)) (List.range S.length);unfold need;simpa using this
end Go.PF
namespace Go.PF
open Go.Pu
def zbe (S:List zae) (k:Nat):List Nat:=(List.range k).filter (bAt (mask S))
theorem needTo_succ (S:List zae) (k:Nat):zbe S (k + 1)=bif bAt (mask S) k then zbe S k++[k] else zbe S k:=by
 unfold zbe
 rw [List.range_succ,List.filter_append]
 cases h:bAt (mask S) k <;> simp [h]
theorem needTo_le (S:List zae) (k:Nat):(zbe S k).length≤k:=by
 have:=List.length_filter_le (bAt (mask S)) (List.range k);unfold zbe;simpa using this
theorem mask_ix {S:List zae} {i:Nat} {x:zae} (hx:S[i]?=some x):ix (mask S) (i:Int)=some (bAt (mask S) i):=by
 have hi:=(List.getElem?_eq_some_iff.1 hx).1
 rw [zaA];unfold bAt;rw [List.getElem?_eq_getElem (by rw [mask_len];exact hi)];rfl
theorem chk_lem {A:Type} {xs:List A} (h:xs.length≤1000000):chk (len xs)=some xs.length:=by
 unfold chk;rw [if_pos (by rw [zak];omega),zak];simp
end Go.PF
namespace Go.PF
open Go.Pu
theorem index_at {v:Int}:∀ {a b:List Int},v ∉ a→zbi (a++v::b) v=some ((a.length:Nat):Int):=by
 intro a b hv
 unfold zbi
 have key:∀ (a:List Int) (k:Nat),v ∉ a→zaU (S:=Unit) (X:=Int) (fun i22 y21 s22=>(bif (v == y21) then some (Lp.rt ((i22:Nat):Int)) else some (Lp.nx ()))) (a++v::b) k ()=some (.rt (((k + a.length:Nat):Nat):Int)):=by
  intro a
  induction a with
  | nil=>intro k _;simp [zaU]
  | cons x a ih =>
   intro k h
   rw [List.mem_cons,not_or] at h
   rw [List.cons_append]
   unfold zaU
   rw [show (v == x)=false by rw [beq_eq_false_iff_ne];exact h.1]
   simp only [cond_false]
   rw [ih (k + 1) h.2]
   simp;omega
 unfold forL
 rw [key a 0 hv]
 simp
def posN (S:List zae) (k:Int):Int:=(((zbe S k.toNat).length:Nat):Int)
def trimX (S:List zae) (x:zae):zae:=bif decide (0≤x.left) then (bif decide (0≤x.right) then ⟨x.clause,posN S x.left,posN S x.right,x.pivot⟩ else ⟨x.clause,posN S x.left,x.right,x.pivot⟩) else x
def trimAt (S:List zae) (i:Nat):Option zae:=(S[i]?).map (trimX S)
def trimL (S:List zae) (l:List Nat):List zae:=l.filterMap (trimAt S)
theorem trimL_len {S:List zae}:∀ {l:List Nat},(∀ i∈l,i < S.length)→(trimL S l).length=l.length:=by
 intro l
 induction l with
 | nil=>intro _;rfl
 | cons i l ih =>
  intro h
  have hi:=h i (by simp)
  have:=ih fun j hj=>h j (by simp [hj])
  unfold trimL at this ⊢
  have e:trimAt S i=some (trimX S S[i]):=by unfold trimAt;rw [List.getElem?_eq_getElem hi];rfl
  rw [List.filterMap_cons_some e,List.length_cons,List.length_cons,this]
theorem needTo_lt {S:List zae} {k:Nat}:∀ i∈zbe S k,i < k:=fun i hi=>by
 unfold zbe at hi;rw [List.mem_filter,List.mem_range] at hi;exact hi.1
theorem prem_left {x:zae} (h:0≤x.left):x.left∈prem x:=by
 unfold prem
 have e:decide (x.left < 0)=false:=by simp;omega
 rw [e];simp only [cond_false]
 cases decide (0≤x.left) && decide (0≤x.right) <;> simp
theorem prem_right {x:zae} (h:0≤x.left) (h2:0≤x.right):x.right∈prem x:=by
 unfold prem
 have e:decide (x.left < 0)=false:=by simp;omega
 rw [e];simp [h,h2]
end Go.PF
namespace Go.PF
open Go.Pu
def premW (x:zab):List Int:=bif x.kind == 4 then [x.a,x.b] else bif x.kind == 5 || x.kind == 6 then [x.a] else []
structure IsW (S:List zab):Prop where
 le:S.length≤400
 kind:∀ {x:zab},x∈S→x.kind=1∨x.kind=2∨x.kind=3∨x.kind=4∨x.kind=5∨x.kind=6
 cf:∀ {x:zab},x∈S→x.ineq.coeffs.length≤12
 prem:∀ {i:Nat} {x:zab},S[i]?=some x→∀ k∈premW x,0≤k∧k < i
theorem premW_len (x:zab):(premW x).length≤2:=by
 unfold premW;cases x.kind == 4 <;> cases (x.kind == 5 || x.kind == 6) <;> simp
def nstW (M:List Bool) (p:zab×Nat):List Bool:=bif bAt M p.2 then setT M (premW p.1) else M
theorem nst_lenW {M:List Bool} {p:zab×Nat}:(nstW M p).length=M.length:=by unfold nstW;cases bAt M p.2 <;> simp [setT_len]
def remW (S:List zab) (k:Nat) (M:List Bool):List Bool:=(S.take k).zipIdx.reverse.foldl nstW M
def maskW (S:List zab):List Bool:=remW S S.length ((List.replicate S.length false).set (S.length - 1) true)
theorem zdj {S:List zab} {k:Nat} {x:zab} (hx:S[k]?=some x) (M:List Bool):remW S (k + 1) M=remW S k (nstW M (x,k)):=by
 unfold remW;rw [take_rev hx,List.foldl_cons]
theorem rem_outW {S:List zab} (h:IsW S):∀ {k i:Nat} {M:List Bool},k≤S.length→k≤i + 1→(remW S k M)[i]?=M[i]?:=by
 intro k
 induction k with
 | zero=>intro i M _ _;rfl
 | succ k ih =>
  intro i M hk hi
  obtain ⟨x,hx⟩:∃ x,S[k]?=some x:=⟨_,List.getElem?_eq_getElem (by omega)⟩
  rw [zdj hx,ih (by omega) (by omega)]
  unfold nstW
  cases bAt M k with
  | true=>exact setT_out (h.prem hx) (by omega)
  | false=>rfl
theorem rem_lenW {S:List zab}:∀ {k:Nat} {M:List Bool},k≤S.length→(remW S k M).length=M.length:=by
 intro k
 induction k with
 | zero=>intro M _;rfl
 | succ k ih =>
  intro M hk
  obtain ⟨x,hx⟩:∃ x,S[k]?=some x:=⟨_,List.getElem?_eq_getElem (by omega)⟩
  rw [zdj hx,ih (by omega),nst_lenW]
theorem mask_lenW (S:List zab):(maskW S).length=S.length:=by unfold maskW;rw [rem_lenW (Nat.le_refl _)];simp
theorem mask_premW {S:List zab} (h:IsW S) {i:Nat} {x:zab} (hx:S[i]?=some x) (hm:bAt (maskW S) i=true):∀ k∈premW x,bAt (maskW S) k.toNat=true:=by
  intro k hk
  have hi:=(List.getElem?_eq_some_iff.1 hx).1
  have key:∀ (m:Nat) (M:List Bool),M.length=S.length→m≤S.length→(i < m∨bAt M k.toNat=true)→bAt (remW S m M) i=true→bAt (remW S m M) k.toNat=true:=by
    intro m
    induction m with
    | zero => intro M hM _ h1 _;rcases h1 with h1|h1;· omega
              · exact h1
    | succ m ih =>
      intro M hM hm' h1 h2
      obtain ⟨y,hy⟩:∃ y,S[m]?=some y:=⟨_,List.getElem?_eq_getElem (by omega)⟩
      rw [zdj hy] at h2 ⊢
      refine ih _ (by rw [nst_lenW,hM]) (by omega) ?_ h2
      by_cases e:i=m
      · subst e
        rw [hx] at hy;cases hy
        right
        have h3:bAt M i=true:=by
          have:=rem_outW h (k:=i) (i:=i) (M:=nstW M (x,i)) (by omega) (by omega)
          unfold bAt at h2 ⊢
          rw [this] at h2
          unfold nstW at h2
          cases hb:bAt M i with
          | true=>exact hb
          | false=>rw [hb] at h2;exact h2
        unfold nstW
        simp only [h3,cond_true]
        exact setT_in (fun z hz=>by have:=h.prem hx z hz;omega) (.inl hk)
      · rcases h1 with h1|h1
        · exact .inl (by omega)
        · right
          unfold nstW
          cases bAt M m with
          | true=>exact setT_in (fun z hz=>by have:=h.prem hy z hz;omega) (.inr h1)
          | false=>exact h1
  have hk1:=h.prem hx k hk
  exact key _ _ (by simp) (Nat.le_refl _) (.inl hi) hm
def needW (S:List zab):List Nat:=(List.range S.length).filter (bAt (maskW S))
def za3 (S:List zab):List Int:=(needW S).map fun i=>((i:Nat):Int)
theorem need_leW (S:List zab):(needW S).length≤S.length:=by
 have:=List.length_filter_le (bAt (maskW S)) (List.range S.length);unfold needW;simpa using this
def zby (S:List zab) (k:Nat):List Int:=(((List.range' k (S.length - k)).filter (bAt (maskW S))).reverse).map fun i=>((i:Nat):Int)
theorem tailN_stepW {S:List zab} {k:Nat} (hk:k < S.length):zby S k=bif bAt (maskW S) k then zby S (k + 1)++[((k:Nat):Int)] else zby S (k + 1):=by
 unfold zby
 rw [show S.length - k=(S.length - (k + 1)) + 1 by omega,List.range'_succ,List.filter_cons]
 cases bAt (maskW S) k <;> simp
def zaw (S:List zab) (k:Nat):List Nat:=(List.range k).filter (bAt (maskW S))
theorem zeZ (S:List zab):zaw S S.length=needW S:=rfl
theorem zdk (S:List zab) (k:Nat):zaw S (k + 1)=bif bAt (maskW S) k then zaw S k++[k] else zaw S k:=by
 unfold zaw
 rw [List.range_succ,List.filter_append]
 cases h:bAt (maskW S) k <;> simp [h]
theorem needTo_leW (S:List zab) (k:Nat):(zaw S k).length≤k:=by
 have:=List.length_filter_le (bAt (maskW S)) (List.range k);unfold zaw;simpa using this
theorem mask_ixW {S:List zab} {i:Nat} {x:zab} (hx:S[i]?=some x):ix (maskW S) (i:Int)=some (bAt (maskW S) i):=by
 have hi:=(List.getElem?_eq_some_iff.1 hx).1
 rw [zaA];unfold bAt;rw [List.getElem?_eq_getElem (by rw [mask_lenW];exact hi)];rfl
theorem needI_atW {S:List zab} {j:Nat} {k:Int} (hj:(za3 S)[j]?=some k):∃ i x,(needW S)[j]?=some i∧k=((i:Nat):Int)∧S[i]?=some x∧bAt (maskW S) i=true:=by
 unfold za3 at hj
 rw [List.getElem?_map] at hj
 cases hn:(needW S)[j]? with
 | none=>rw [hn] at hj;cases hj
 | some i =>
  rw [hn] at hj
  have hm:=List.mem_of_getElem? hn
  unfold needW at hm
  rw [List.mem_filter,List.mem_range] at hm
  exact ⟨i,S[i],rfl,by simpa using hj.symm,List.getElem?_eq_getElem hm.1,hm.2⟩
theorem needI_lengthW (S:List zab):(za3 S).length=(needW S).length:=by unfold za3;simp
def posNW (S:List zab) (k:Int):Int:=(((zaw S k.toNat).length:Nat):Int)
def zbf (S:List zab) (x:zab):zab:=bif x.kind == 4 then ⟨x.ineq,x.kind,posNW S x.a,posNW S x.b,x.k⟩ else bif x.kind == 5 || x.kind == 6 then ⟨x.ineq,x.kind,posNW S x.a,x.b,x.k⟩ else x
def zca (S:List zab) (i:Nat):Option zab:=(S[i]?).map (zbf S)
def zas (S:List zab) (l:List Nat):List zab:=l.filterMap (zca S)
theorem zbJ {S:List zab}:∀ {l:List Nat},(∀ i∈l,i < S.length)→(zas S l).length=l.length:=by
 intro l
 induction l with
 | nil=>intro _;rfl
 | cons i l ih =>
  intro h
  have hi:=h i (by simp)
  have:=ih fun j hj=>h j (by simp [hj])
  unfold zas at this ⊢
  have e:zca S i=some (zbf S S[i]):=by unfold zca;rw [List.getElem?_eq_getElem hi];rfl
  rw [List.filterMap_cons_some e,List.length_cons,List.length_cons,this]
theorem zcb {S:List zab} {k:Nat}:∀ i∈zaw S k,i < k:=fun i hi=>by
 unfold zaw at hi;rw [List.mem_filter,List.mem_range] at hi;exact hi.1
theorem ze0 {S:List zab} {k:Nat} (hk:k < S.length) (hm:bAt (maskW S) k=true):∃ r,needW S=zaw S k++k::r:=by
 refine ⟨(List.range' (k + 1) (S.length - (k + 1))).filter (bAt (maskW S)),?_⟩
 unfold needW zaw
 have e:List.range S.length=List.range k++k::List.range' (k + 1) (S.length - (k + 1)):=by
  have h1:=List.range'_append_1 (s:=0) (m:=k) (n:=S.length - k)
  rw [Nat.zero_add,show k + (S.length - k)=S.length by omega] at h1
  rw [List.range_eq_range',List.range_eq_range',← List.range'_succ,show S.length - (k + 1) + 1=S.length - k by omega]
  exact h1.symm
 rw [e,List.filter_append,List.filter_cons,if_pos hm]
theorem index_needW {S:List zab} {k:Int} (h0:0≤k) (hk:k < S.length) (hm:bAt (maskW S) k.toNat=true):zbi (za3 S) k=some (posNW S k):=by
 obtain ⟨r,hr⟩:=ze0 (S:=S) (k:=k.toNat) (by omega) hm
 unfold za3
 rw [hr,List.map_append,List.map_cons,show ((k.toNat:Nat):Int)=k by omega,index_at,List.length_map]
 · rfl
 · intro hc
   obtain ⟨i,hi,he⟩:=List.mem_map.1 hc
   have:=zcb i hi;omega
end Go.PF
namespace Go.PF
open Go.Pu
def wrongW (F:Cnf) (S:List zab):Int:=match findI (fun i s=>!za4 F S i s) S 0 with|none=>-1|some z=>(z.1:Int)
section
variable {F:Cnf} {S:List zab}
theorem zfh (hF:cnfB F=true) (hS:okPl S):zc3 F S=some (wrongW F S):=by
 unfold zc3 wrongW
 rw [zdd (p:=fun i s=>!za4 F S i s) (v:=fun i _=>(i:Int)) (fun i y hy=>by rw [spec_l16Correct_eq hF hS hy,zaa])]
 cases findI (fun i s=>!za4 F S i s) S 0 <;> rfl
theorem zfi (hF:cnfB F=true) (hS:okPl S):zc1 F S=some (wrongW F S):=by
 unfold zc1 wrongW
 rw [zdd (p:=fun i s=>!za4 F S i s) (v:=fun i _=>(i:Int)) (fun i y hy=>by rw [zfI hF hS hy,zaa])]
 cases findI (fun i s=>!za4 F S i s) S 0 <;> rfl
theorem wrongW_lt:decide (wrongW F S < 0)=!anyI (fun i s=>!za4 F S i s) S 0:=by
 unfold wrongW
 cases hf:findI (fun i s=>!za4 F S i s) S 0 with
 | none=>rw [zde.1 hf];rfl
 | some z=>rw [(zdf hf).2.2.2];simp
theorem wrongW_one:(wrongW F S == -1)=!anyI (fun i s=>!za4 F S i s) S 0:=by
 unfold wrongW
 cases hf:findI (fun i s=>!za4 F S i s) S 0 with
 | none=>rw [zde.1 hf];rfl
 | some z=>rw [(zdf hf).2.2.2,Bool.not_true,beq_eq_false_iff_ne];show (z.1:Int)≠-1;omega
def zaL (F:Cnf) (S:List zab):Bool:=cnfB F && decide (len S≤400)
def zaG (F:Cnf) (S:List zab):Bool:=zaL F S && (decide (0 < len S) && !anyI (fun i s=>!za4 F S i s) S 0)
theorem zel (hF:okCnf F):zcl F S=some (zaL F S):=by
 unfold zcl zaL
 rw [zdh hF,zaa,bif_ff]
theorem zem (h:zaL F S=true):cnfB F=true∧S.length≤400:=by
 unfold zaL at h
 rw [Bool.and_eq_true] at h
 have:=of_decide_eq_true h.2
 rw [zak] at this
 exact ⟨h.1,by omega⟩
theorem ze1 (hF:okCnf F) (hS:okPl S):zcG F S=some (zaG F S):=by
 unfold zcG zaG
 rw [zel hF,zaa]
 cases ht:zaL F S with
 | false=>rfl
 | true =>
 cases hl:decide (0 < len S) with
 | false=>rfl
 | true =>
  simp only [cond_true,Bool.true_and]
  rw [zfh (zem ht).1 hS,zaa,zaa,wrongW_lt]
theorem ze2 (hF:okCnf F) (hS:okPl S):zck F S=some (zaG F S):=by
 unfold zck zaG zaL
 rw [zcO hF,zaa,zb8]
 cases hc:cnfB F with
 | false=>rfl
 | true =>
 have e:inB (len S) 1 400=(decide (len S≤400) && decide (0 < len S)):=by
  unfold inB
  rw [Bool.and_comm]
  congr 1
 rw [e]
 cases decide (len S≤400) with
 | false=>rfl
 | true =>
 cases decide (0 < len S) with
 | false=>rfl
 | true =>
  simp only [cond_true,Bool.and_self,Bool.true_and]
  rw [zfi hc hS,zaa,zaa,wrongW_lt]
theorem zcc (h:zaG F S=true):cnfB F=true∧S.length≤400∧0 < S.length∧∀ i s,S[i]?=some s→za4 F S i s=true:=by
 unfold zaG at h
 rw [Bool.and_eq_true,Bool.and_eq_true,Bool.not_eq_true',zdc] at h
 obtain ⟨h1,h2⟩:=zem h.1
 have h3:=of_decide_eq_true h.2.1
 rw [zak] at h3
 refine ⟨h1,h2,by omega,fun i s hs=>?_⟩
 have:=h.2.2 i s hs
 rw [Nat.zero_add,Bool.not_eq_false'] at this
 exact this
theorem proofW_of (hF:cnfB F=true) (h1:S.length≤400) (h2:0 < S.length) (h:∀ i s,S[i]?=some s→za4 F S i s=true):zaG F S=true:=by
 unfold zaG zaL
 rw [hF,Bool.true_and,Bool.and_eq_true,Bool.and_eq_true,Bool.not_eq_true',zdc]
 refine ⟨decide_eq_true (by rw [zak];omega),decide_eq_true (by rw [zak];omega),fun i s hs=>?_⟩
 rw [Nat.zero_add,Bool.not_eq_false']
 exact h i s hs
theorem zdl {i:Nat} {s:zab} (h:za4 F S i s=true):IsPl F.vars s.ineq∧dueQ F S i s=some s.ineq:=by
 unfold za4 at h
 rw [Bool.and_eq_true] at h
 refine ⟨plB_iff.1 h.1,?_⟩
 have h2:=h.2
 cases hd:dueQ F S i s with
 | none=>rw [hd] at h2;cases h2
 | some q=>rw [hd] at h2;rw [sameQ_iff.1 h2]
theorem dueQ_kind {i:Nat} {s:zab} {q:zaf} (h:dueQ F S i s=some q) :
 (s.kind=1∧inB s.a 0 (len F.clauses - 1)=true∧q=plI F.vars.toNat (cfA (clF F s.a)) (bC (clF F s.a))) ∨
 (s.kind=2∧inB s.a 1 F.vars=true∧q=⟨(List.replicate F.vars.toNat 0).set (s.a - 1).toNat 1,0⟩) ∨
 (s.kind=3∧inB s.a 1 F.vars=true∧q=⟨(List.replicate F.vars.toNat 0).set (s.a - 1).toNat (-1),-1⟩) ∨
 (s.kind=4∧s.k=0∧preQ F.vars S i s.a=true∧preQ F.vars S i s.b=true∧q=addI F.vars (gI S s.a) (gI S s.b)) ∨
 (s.kind=5∧s.b=0∧preQ F.vars S i s.a=true∧inB s.k 1 1000=true∧q=scaI F.vars (gI S s.a) s.k) ∨
 (s.kind=6∧s.b=0∧preQ F.vars S i s.a=true∧inB s.k 2 1000=true∧divB (gI S s.a) s.k=true∧q=divI F.vars (gI S s.a) s.k):=by
 obtain ⟨p,kd,a,b,k⟩:=s
 unfold dueQ at h
 dsimp only at h ⊢
 have bf:∀ {c:Bool} {x y:zaf},(bif c then some x else none)=some y→c=true∧y=x:=by
  intro c x y h;cases c
  · cases h
  · exact ⟨rfl,(Option.some.inj h).symm⟩
 by_cases h1:kd=1
 · subst h1;obtain ⟨c,e⟩:=bf h;rw [Bool.and_eq_true] at c;exact .inl ⟨rfl,c.2,e⟩
 rw [beq_eq_false_iff_ne.2 h1] at h
 by_cases h2:kd=2
 · subst h2;obtain ⟨c,e⟩:=bf h;rw [Bool.and_eq_true] at c;exact .inr (.inl ⟨rfl,c.2,e⟩)
 rw [beq_eq_false_iff_ne.2 h2] at h
 by_cases h3:kd=3
 · subst h3;obtain ⟨c,e⟩:=bf h;rw [Bool.and_eq_true] at c;exact .inr (.inr (.inl ⟨rfl,c.2,e⟩))
 rw [beq_eq_false_iff_ne.2 h3] at h
 by_cases h4:kd=4
 · subst h4;obtain ⟨c,e⟩:=bf h
   simp only [Bool.and_eq_true,beq_iff_eq] at c
   exact .inr (.inr (.inr (.inl ⟨rfl,c.1,c.2.1,c.2.2,e⟩)))
 rw [beq_eq_false_iff_ne.2 h4] at h
 by_cases h5:kd=5
 · subst h5;obtain ⟨c,e⟩:=bf h
   simp only [Bool.and_eq_true,beq_iff_eq] at c
   exact .inr (.inr (.inr (.inr (.inl ⟨rfl,c.1.1,c.1.2,c.2,e⟩))))
 rw [beq_eq_false_iff_ne.2 h5] at h
 by_cases h6:kd=6
 · subst h6;obtain ⟨c,e⟩:=bf h
   simp only [Bool.and_eq_true,beq_iff_eq] at c
   exact .inr (.inr (.inr (.inr (.inr ⟨rfl,c.1.1.1,c.1.1.2,c.1.2,c.2,e⟩))))
 rw [beq_eq_false_iff_ne.2 h6] at h
 cases h
theorem proofW_W (h:zaG F S=true):IsW S:=by
 obtain ⟨hF,h1,h2,h3⟩:=zcc h
 have hV:=zbD hF
 have kn:∀ (i:Nat) (s:zab),S[i]?=some s→(s.kind=1∨s.kind=2∨s.kind=3∨s.kind=4∨s.kind=5∨s.kind=6)∧s.ineq.coeffs.length≤12∧∀ k∈premW s,0≤k∧k < i:=by
  intro i s hs
  obtain ⟨g1,g2⟩:=zdl (h3 i s hs)
  have g3:=g1.len
  have hp:∀ {a:Int},preQ F.vars S i a=true→0≤a∧a < i:=fun h=>(zbT h).1
  refine ⟨?_,by omega,?_⟩
  · rcases dueQ_kind g2 with h|h|h|h|h|h <;> simp [h.1]
  · unfold premW
    rcases dueQ_kind g2 with h|h|h|h|h|h
    · rw [h.1];intro k hk;cases hk
    · rw [h.1];intro k hk;cases hk
    · rw [h.1];intro k hk;cases hk
    · rw [h.1];intro k hk
      have hk2:k∈[s.a,s.b]:=hk
      simp only [List.mem_cons,List.not_mem_nil,or_false] at hk2
      rcases hk2 with rfl|rfl
      · exact hp h.2.2.1
      · exact hp h.2.2.2.1
    · rw [h.1];intro k hk
      have hk2:k∈[s.a]:=hk
      rw [List.mem_singleton] at hk2;subst hk2
      exact hp h.2.2.1
    · rw [h.1];intro k hk
      have hk2:k∈[s.a]:=hk
      rw [List.mem_singleton] at hk2;subst hk2
      exact hp h.2.2.1
 refine ⟨h1,fun hx=>?_,fun hx=>?_,fun hx=>(kn _ _ hx).2.2⟩
 · obtain ⟨i,hi,rfl⟩:=List.getElem_of_mem hx
   exact (kn i _ (List.getElem?_eq_getElem hi)).1
 · obtain ⟨i,hi,rfl⟩:=List.getElem_of_mem hx
   exact (kn i _ (List.getElem?_eq_getElem hi)).2.1
end
theorem spec_uses_eq (x:zab):zbp x=premW x:=by
 unfold zbp premW
 cases x.kind == 4 <;> cases x.kind == 5 <;> cases x.kind == 6 <;> rfl
theorem impl_uses_eq (x:zab):za7 x=premW x:=by
 unfold za7 premW
 cases x.kind == 4 <;> cases x.kind == 5 <;> cases x.kind == 6 <;> rfl
theorem needW_loop {S:List zab} (h:IsW S) {w:Int} (hw:w=len S - 1) {β:Type} {k:List Bool×Int→Option β} {l:Empty→Option β}:bdR (iter (S:=((List Bool)×Int)) (X:=Empty) (fun s30054=>(bif (decide (0≤s30054.2)) then bd (ix S s30054.2) (fun x30445=>bdR (iter (S:=((List Bool)×Int)) (X:=Empty) (fun s30457=>bd (bif (decide (s30457.2 < (len (PF.zbp x30445)))) then bd (ix s30457.1 s30054.2) (fun x30626=>some x30626) else some false) (fun t30613=>(bif t30613 then bd (ix (PF.zbp x30445) s30457.2) (fun x30642=>bd (ix s30457.1 x30642) (fun x30650=>bd (put s30457.1 x30642 true) (fun xs30655=>some (Lp.nx (xs30655,(wr (s30457.2 + 1))))))) else some (Lp.bk (s30457.1,s30457.2))))) (s30054.1,0)) (fun s30457=>some (Lp.nx (s30457.1,(wr (s30054.2 - 1))))) (fun x30457=>nomatch x30457)) else some (Lp.bk (s30054.1,s30054.2)))) ((List.replicate S.length false).set (S.length - 1) true,w)) k l=k (maskW S,-1):=by
 subst hw
 have hS:=h.le
 refine bdR_down (X:=Empty) (xs:=S) (fun M p=>nstW M p) (s0:=(List.replicate S.length false).set (S.length - 1) true)
  (fun k M=>M.length=S.length∧remW S k M=maskW S) ⟨by simp,rfl⟩ ?hh ?he ?hk
 case hk=>intro M hM;have:M=maskW S:=hM.2;rw [this]
 case he=>intro M;rfl
 case hh =>
  intro i x M hx ⟨hM,hr⟩
  have hi:=(List.getElem?_eq_some_iff.1 hx).1
  have hd:decide ((0:Int)≤(i:Int))=true:=by simp
  have hix:ix S (i:Int)=some x:=by rw [zaA];exact hx
  have hwd:wr ((i:Int) - 1)=(i:Int) - 1:=wr_down hi (by omega)
  have hstep:remW S i (nstW M (x,i))=maskW S:=by rw [← zdj hx];exact hr
  have hlen:(nstW M (x,i)).length=S.length:=by rw [nst_lenW,hM]
  refine ⟨?_,hlen,hstep⟩
  obtain ⟨k,hk⟩:∃ k,iter (S:=List Bool×Int) (X:=Empty) (fun s=>bd (bif decide (s.2 < len (zbp x)) then bd (ix s.1 (i:Int)) (fun x=>some x) else some false) (fun t=>bif t then bd (ix (zbp x) s.2) (fun z=>bd (ix s.1 z) (fun _=>bd (put s.1 z true) (fun xs=>some (.nx (xs,wr (s.2 + 1)))))) else some (.bk (s.1,s.2)))) (M,0)=some (.go (nstW M (x,i),k)):=by
   rw [spec_uses_eq]
   exact uses_loop (us:=premW x) (M:=M) (i:=i) (by omega) (h.prem hx) (premW_len x) (fun s=>rfl)
  simp only [hd,cond_true,hix,zaa]
  rw [hk,zaE,hwd]
theorem spec_l16Trim_eq {S:List zab} (hU:IsW S) (h0:0 < S.length):zdP S=some (zas S (needW S)):=by
 have hSl:=hU.le
 obtain ⟨y,hy⟩:=ix_len (M:=List.replicate S.length false) (i:=S.length - 1) (by simp;omega)
 have e1:(((S.length - 1:Nat)):Int)=(S.length:Int) - 1:=by omega
 unfold zdP
 rw [show wr ((len S) - 1)=len S - 1 from zbQ (by omega),show len S=((S.length:Nat):Int) from rfl,mk2_ok (by unfold lim;omega),zaa,mk2_ok (by unfold lim;omega),zaa,← e1,hy,zaa,zbH (by simp;omega),zaa]
 refine (needW_loop hU (by rw [zak];omega)).trans ?_
 dsimp only
 obtain ⟨⟨out,to⟩,h1,h2,h3⟩:=forL_inv (X:=Empty) (l:=S) (s:=([],List.replicate S.length 0)) (body:=fun i30685 y30684 s30685=>bd (ix (maskW S) ((i30685:Nat):Int)) (fun x109002=>(bif (!x109002) then some (Lp.nx (s30685.1,s30685.2)) else bd (app [] y30684.ineq.coeffs) (fun xs124020=>bdR (S:=((List Int)×Int×Int×Int×Int×Int)) (X:=Empty) ((bif (decide (0 < (len (PF.zbp (zab.mk (zaf.mk xs124020 y30684.ineq.bound) y30684.kind y30684.a y30684.b y30684.k))))) then bd (ix s30685.2 y30684.a) (fun x148067=>some (Rs.go (xs124020,y30684.ineq.bound,y30684.kind,x148067,y30684.b,y30684.k))) else some (Rs.go (xs124020,y30684.ineq.bound,y30684.kind,y30684.a,y30684.b,y30684.k)))) (fun s148055=>bdR (S:=((List Int)×Int×Int×Int×Int×Int)) (X:=Empty) ((bif (s148055.2.2.1 == 4) then bd (ix s30685.2 s148055.2.2.2.2.1) (fun x148107=>some (Rs.go (s148055.1,s148055.2.1,s148055.2.2.1,s148055.2.2.2.1,x148107,s148055.2.2.2.2.2))) else some (Rs.go (s148055.1,s148055.2.1,s148055.2.2.1,s148055.2.2.2.1,s148055.2.2.2.2.1,s148055.2.2.2.2.2)))) (fun s148095=>bd (ix s30685.2 ((i30685:Nat):Int)) (fun x148129=>bd (put s30685.2 ((i30685:Nat):Int) (len s30685.1)) (fun xs148134=>bd (app s30685.1 [(zab.mk (zaf.mk s148095.1 s148095.2.1) s148095.2.2.1 s148095.2.2.2.1 s148095.2.2.2.2.1 s148095.2.2.2.2.2)]) (fun xs148144=>some (Lp.nx (xs148144,xs148134)))))) (fun x148097=>nomatch x148097)) (fun x148057=>nomatch x148057)))))
  (fun i s=>s.1=zas S (zaw S i)∧s.2.length=S.length∧∀ k,k < i→bAt (maskW S) k=true→s.2[k]?=some (((zaw S k).length:Nat):Int)) ⟨rfl,by simp,fun k hk=>by omega⟩ (fun i x s hx ⟨hs,hl,ht⟩=>by
   obtain ⟨out,to⟩:=s
   dsimp only at hs hl ht ⊢
   subst hs
   have hi:=(List.getElem?_eq_some_iff.1 hx).1
   rw [mask_ixW hx,zaa,zdk]
   cases hm:bAt (maskW S) i with
   | false =>
    refine ⟨_,rfl,rfl,hl,fun k hk hmk=>ht k ?_ hmk⟩
    rcases Nat.lt_or_ge k i with h|h
    · exact h
    · have:k=i:=by omega
      subst this;rw [hm] at hmk;cases hmk
   | true =>
    obtain ⟨y,hy⟩:=ix_len (M:=to) (i:=i) (by omega)
    have hlen:len (zas S (zaw S i))=(((zaw S i).length:Nat):Int):=by rw [zak,zbJ (fun j hj=>by have:=zcb j hj;omega)]
    have hto:∀ k,k < i + 1→bAt (maskW S) k=true→(to.set i (((zaw S i).length:Nat):Int))[k]?=some (((zaw S k).length:Nat):Int):=fun k hk hmk=>by
     by_cases e:k=i
     · subst e;rw [List.getElem?_set_self (by omega)]
     · rw [List.getElem?_set_ne (by omega)];exact ht k (by omega) hmk
    have hpre:∀ k:Int,k∈premW x→ix to k=some (posNW S k):=fun k hk=>by
     have hb:=hU.prem hx k hk
     have hmk:=mask_premW hU hx hm k hk
     have:=ht k.toNat (by omega) hmk
     unfold ix
     rw [if_pos hb.1,this];rfl
    have hle:=needTo_leW S i
    have hc:=hU.cf (List.mem_of_getElem? hx)
    have hkd:=hU.kind (List.mem_of_getElem? hx)
    have fin:∀ z,bd (ix to (i:Int)) (fun _=>bd (put to (i:Int) (len (zas S (zaw S i)))) (fun xs=>bd (app (zas S (zaw S i)) [z]) (fun ys=>(some (Lp.nx (ys,xs)):Option (Lp (List zab×List Int) Empty)))))=some (Lp.nx (zas S (zaw S i)++[z],to.set i (((zaw S i).length:Nat):Int))):=fun z=>by
     rw [hy,zaa,zbH (show i < to.length by omega),zaa,zaB (by rw [zbJ (fun j hj=>by have:=zcb j hj;omega)];simp;unfold lim;omega),zaa,hlen]
    refine ⟨(zas S (zaw S i)++[zbf S x],to.set i (((zaw S i).length:Nat):Int)),?_,?_,by simpa using hl,hto⟩
    · simp only [Bool.not_true,cond_false]
      rw [zaB (by simp;unfold lim;omega),List.nil_append,zaa,spec_uses_eq]
      clear hx hto ht hy hlen hm hl
      obtain ⟨⟨cs,bo⟩,kd,a,b,kk⟩:=x
      unfold zbf
      unfold premW at hpre
      dsimp only at hkd hpre ⊢
      rcases hkd with rfl|rfl|rfl|rfl|rfl|rfl
      · exact fin _
      · exact fin _
      · exact fin _
      · have h1:=hpre a (by simp)
        have h2:=hpre b (by simp)
        show bdR (bd (ix to a) _) _ _=_
        rw [h1,zaa,zaE]
        show bdR (bd (ix to b) _) _ _=_
        rw [h2,zaa,zaE]
        exact fin _
      · have h1:=hpre a (by simp)
        show bdR (bd (ix to a) _) _ _=_
        rw [h1,zaa,zaE]
        exact fin _
      · have h1:=hpre a (by simp)
        show bdR (bd (ix to a) _) _ _=_
        rw [h1,zaa,zaE]
        exact fin _
    · show _=zas S (zaw S i++[i])
      unfold zas
      rw [List.filterMap_append]
      have e:zca S i=some (zbf S x):=by unfold zca;rw [hx];rfl
      rw [List.filterMap_cons_some e];rfl)
 refine (congrArg (fun z=>bdR z _ _) h1).trans ?_
 rw [zaE]
 exact congrArg some h2
def trimVW (F:Cnf) (S:List zab):List zab×Bool:=bif zaG F S then (zas S (needW S),true) else ([],false)
theorem spec_TrimPlanes_eq {F:Cnf} {S:List zab} (hF:okCnf F) (hS:okPl S):zdQ F S=some (trimVW F S):=by
 unfold zdQ trimVW
 rw [ze1 hF hS,zaa]
 cases hg:zaG F S with
 | false=>rfl
 | true =>
  simp only [Bool.not_true,cond_false,cond_true]
  rw [spec_l16Trim_eq (proofW_W hg) (zcc hg).2.2.1,zaa]
end Go.PF
namespace Go.PF
open Go.Pu
theorem bdR_downT {σ α T X β:Type} (mk:σ→Int→T) {xs:List α} {body:T→Option (Lp T X)} {k:T→Option β} {l:X→Option β} {r:Option β} (I:Nat→σ→Prop) {s0:σ} {t0:T} (ht:t0=mk s0 (len xs - 1)) (h0:I xs.length s0)
 (h:∀ (i:Nat) x s,xs[i]?=some x→I (i + 1) s→∃ s',body (mk s (i:Int))=some (.nx (mk s' ((i:Int) - 1)))∧I i s') (he:∀ s,I 0 s→body (mk s (-1))=some (.bk (mk s (-1)))) (hk:∀ s,I 0 s→k (mk s (-1))=r):bdR (iter body t0) k l=r:=by
 subst ht
 have key:∀ (k:Nat) (s:σ),k≤xs.length→I k s→∃ s',iter body (mk s ((k:Int) - 1))=some (.go (mk s' (-1)))∧I 0 s':=by
  intro k
  induction k with
  | zero=>intro s _ hI;exact ⟨s,zbc (he s hI),hI⟩
  | succ k ih =>
   intro s hk hI
   obtain ⟨x,hx⟩:∃ x,xs[k]?=some x:=⟨_,List.getElem?_eq_getElem (by omega)⟩
   obtain ⟨s',h1,h2⟩:=h k x s hx hI
   rw [show ((k + 1:Nat):Int) - 1=(k:Int) by omega,zbn h1]
   exact ih _ (by omega) h2
 obtain ⟨s',h1,h2⟩:=key xs.length s0 (Nat.le_refl _) h0
 have h1':iter body (mk s0 (len xs - 1))=some (.go (mk s' (-1))):=h1
 rw [h1',zaE];exact hk _ h2
theorem need_loopW {S:List zab} (h:IsW S) {β:Type} {k:List Bool×List Int×Int→Option β} {l:Empty→Option β} {r:Option β} (hk:∀ M,k (M,(za3 S).reverse,-1)=r):bdR (iter (S:=((List Bool)×(List Int)×Int)) (X:=Empty) (fun s1850=>(bif (decide (0≤s1850.2.2)) then bd (ix s1850.1 s1850.2.2) (fun x2240=>(bif (bif (!x2240) then (decide (s1850.2.2 < (wr ((len S) - 1)))) else false) then some (Lp.nx (s1850.1,s1850.2.1,(wr (s1850.2.2 - 1)))) else bd (app s1850.2.1 [s1850.2.2]) (fun xs2261=>bd (β:=_) (bd (ix S s1850.2.2) (fun x2301=>some (PF.za7 x2301)):Option (List Int)) (fun s2290=>bd (chk (len s2290)) (fun m2318=>bdR (forR (S:=(List Bool)) (X:=Empty) 0 m2318 (fun i2319 s2319=>bd (ix s2290 ((i2319:Nat):Int)) (fun x2417=>bd (ix s2319 x2417) (fun x2425=>bd (put s2319 x2417 true) (fun xs2430=>some (Lp.nx xs2430))))) s1850.1) (fun s2319=>some (Lp.nx (s2319,xs2261,(wr (s1850.2.2 - 1))))) (fun x2319=>nomatch x2319)))))) else some (Lp.bk (s1850.1,s1850.2.1,s1850.2.2)))) (List.replicate S.length false,[],(wr ((len S) - 1)))) k l=r:=by
 have hS:=h.le
 rw [show wr ((len S) - 1)=len S - 1 from zbQ (by omega)]
 refine bdR_downT (σ:=List Bool×List Int) (fun s i=>(s.1,s.2,i)) (xs:=S) (s0:=(List.replicate S.length false,[])) (fun k s=>s.1.length=S.length∧remW S k (s.1.set (S.length - 1) true)=maskW S∧s.2=zby S k) rfl ⟨by simp,by simp [maskW],by simp [zby]⟩ ?hh (fun s _=>rfl) ?hk
 case hk =>
  rintro ⟨M,out⟩ ⟨_,_,rfl⟩
  have e:zby S 0=(za3 S).reverse:=by unfold zby za3 needW;rw [List.map_reverse,List.range_eq_range'];simp
  show k (M,zby S 0,-1)=r
  rw [e];exact hk M
 case hh =>
  rintro i x ⟨M,out⟩ hx ⟨hM,hr,rfl⟩
  have hi:=(List.getElem?_eq_some_iff.1 hx).1
  dsimp only at hM hr ⊢
  have hp:=premW_len x
  have hb:=h.prem hx
  have hd:decide ((0:Int)≤(i:Int))=true:=by simp
  have hwd:wr ((i:Int) - 1)=(i:Int) - 1:=wr_down hi (by omega)
  have hwl:wr ((len S) - 1)=len S - 1:=zbQ (by omega)
  -- whether it is needed
  have hn:bAt (maskW S) i=bAt (M.set (S.length - 1) true) i:=by
   rw [← hr];unfold bAt;rw [rem_outW h (by omega) (by omega)]
  have hMi:ix M (i:Int)=some (bAt M i):=by rw [zaA];unfold bAt;rw [List.getElem?_eq_getElem (by omega)];rfl
  have hc:(bif !bAt M i then decide ((i:Int) < len S - 1) else false)=!bAt (maskW S) i:=by
   rw [hn]
   unfold bAt
   by_cases e:i=S.length - 1
   · have e1:decide ((i:Int) < len S - 1)=false:=by rw [zak];simp;omega
     rw [e1,← e,List.getElem?_set_self (by omega)];simp
   · have e1:decide ((i:Int) < len S - 1)=true:=by rw [zak];simp;omega
     rw [e1,List.getElem?_set_ne (by omega)];simp
  have hr2:=hr
  rw [zdj hx] at hr2
  have ht:=tailN_stepW hi
  have hix:ix S (i:Int)=some x:=by rw [zaA];exact hx
  simp only [hd,cond_true,hMi,zaa,hwd,hc]
  cases hm:bAt (maskW S) i with
  | false =>
   rw [hm] at ht hn
   simp only [Bool.not_false,cond_true,cond_false] at ht ⊢
   refine ⟨(M,zby S (i + 1)),rfl,hM,?_,ht.symm⟩
   rw [← hr2]
   unfold nstW
   dsimp only
   rw [← hn];rfl
  | true =>
   rw [hm] at ht hn
   simp only [Bool.not_true,cond_true,cond_false] at ht ⊢
   have hl:(zby S (i + 1)).length≤S.length:=by
    unfold zby;simp
    have:=List.length_filter_le (bAt (maskW S)) (List.range' (i + 1) (S.length - (i + 1)))
    simp at this;omega
   rw [zaB (by simp;unfold lim;omega),zaa,hix]
   simp only [zaa]
   rw [impl_uses_eq,chk_len hp,zaa]
   rw [forR_fold (X:=Empty) (xs:=premW x) (F:=fun M k=>M.set k.toNat true) (s0:=M) (fun _ N=>N.length=S.length) hM (fun j k N hk hN=>by
    have hkb:=hb k (List.mem_of_getElem? hk)
    obtain ⟨y,hy,_⟩:=ix_of (xs:=N) hkb.1 (by omega)
    have hput:put N k true=some (N.set k.toNat true):=by
     have:=zbH (xs:=N) (i:=k.toNat) (x:=true) (by omega)
     rwa [show ((k.toNat:Nat):Int)=k by omega] at this
    simp only [zaA,hk,zaa,hy,hput]
    exact ⟨trivial,by simpa using hN⟩),zaE]
   refine ⟨(setT M (premW x),zby S (i + 1)++[(i:Int)]),rfl,?_,?_,ht.symm⟩
   · exact (setT_len (ks:=premW x) (M:=M)).trans hM
   · rw [← hr2]
     unfold nstW
     dsimp only
     rw [← hn]
     simp only [cond_true]
     exact congrArg (remW S i) (setT_set (fun k hk=>by have:=hb k hk;omega))
theorem forR_inv {α σ X:Type} {xs:List α} {body:Nat→σ→Option (Lp σ X)} (I:Nat→σ→Prop) {s0:σ} (h0:I 0 s0) (h:∀ i x s,xs[i]?=some x→I i s→∃ s',body i s=some (.nx s')∧I (i + 1) s'):∃ s',forR 0 xs.length body s0=some (.go s')∧I xs.length s':=by
 have key:∀ (n i:Nat) (s:σ),i + n=xs.length→I i s→∃ s',zbm body n i s=some (.go s')∧I xs.length s':=by
  intro n
  induction n with
  | zero=>intro i s hi hI;rw [Nat.add_zero] at hi;subst hi;exact ⟨s,rfl,hI⟩
  | succ n ih =>
   intro i s hi hI
   obtain ⟨s',e,hI'⟩:=h i xs[i] s (List.getElem?_eq_getElem (by omega)) hI
   unfold zbm
   rw [e];exact ih (i + 1) s' (by omega) hI'
 exact key xs.length 0 s0 (by omega) h0
theorem trim_snocW {S:List zab} {l:List Nat} {i:Nat} {x:zab} (hx:S[i]?=some x):zas S (l++[i])=zas S l++[zbf S x]:=by
 unfold zas
 rw [List.filterMap_append]
 have e:zca S i=some (zbf S x):=by unfold zca;rw [hx];rfl
 rw [List.filterMap_cons_some e];rfl
theorem impl_trimW_eq {F:Cnf} {S:List zab} (hF:okCnf F) (hS:okPl S):(bd (PF.zck F S) (fun r61826=>(bif (!r61826) then some (false,[]) else bd (β:=_) (bd (β:=_) (bd (mk2 (false:Bool) (len S) (len S)) (fun xs62843=>bdR (iter (S:=((List Bool)×(List Int)×Int)) (X:=Empty) (fun s62853=>(bif (decide (0≤s62853.2.2)) then bd (ix s62853.1 s62853.2.2) (fun x63243=>(bif (bif (!x63243) then (decide (s62853.2.2 < (wr ((len S) - 1)))) else false) then some (Lp.nx (s62853.1,s62853.2.1,(wr (s62853.2.2 - 1)))) else bd (app s62853.2.1 [s62853.2.2]) (fun xs63264=>bd (β:=_) (bd (ix S s62853.2.2) (fun x63304=>some (PF.za7 x63304)):Option (List Int)) (fun s63293=>bd (chk (len s63293)) (fun m63321=>bdR (forR (S:=(List Bool)) (X:=Empty) 0 m63321 (fun i63322 s63322=>bd (ix s63293 ((i63322:Nat):Int)) (fun x63420=>bd (ix s63322 x63420) (fun x63428=>bd (put s63322 x63420 true) (fun xs63433=>some (Lp.nx xs63433))))) s62853.1) (fun s63322=>some (Lp.nx (s63322,xs63264,(wr (s62853.2.2 - 1))))) (fun x63322=>nomatch x63322)))))) else some (Lp.bk (s62853.1,s62853.2.1,s62853.2.2)))) (xs62843,[],(wr ((len S) - 1)))) (fun s62853=>bd (PF.zcn s62853.2.1) (fun r63469=>some r63469)) (fun x62853=>nomatch x62853)):Option (List Int)) (fun s62838=>bd (chk (len s62838)) (fun m63483=>bdR (forR (S:=(List zab)) (X:=Empty) 0 m63483 (fun i63484 s63484=>bd (ix s62838 ((i63484:Nat):Int)) (fun x63649=>bd (ix S x63649) (fun x63657=>bd (PF.zcH x63657.ineq) (fun r63668=>(bif (decide (0 < (len (PF.za7 (zab.mk r63668 x63657.kind x63657.a x63657.b x63657.k))))) then bd (PF.zbi s62838 x63657.a) (fun r63694=>(bif ((len (PF.za7 (zab.mk r63668 x63657.kind x63657.a x63657.b x63657.k))) == 2) then bd (PF.zbi s62838 x63657.b) (fun r63708=>bd (app s63484 [(zab.mk r63668 x63657.kind r63694 r63708 x63657.k)]) (fun xs63726=>some (Lp.nx xs63726))) else bd (app s63484 [(zab.mk r63668 x63657.kind r63694 x63657.b x63657.k)]) (fun xs63744=>some (Lp.nx xs63744)))) else bd (app s63484 [(zab.mk r63668 x63657.kind x63657.a x63657.b x63657.k)]) (fun xs63762=>some (Lp.nx xs63762))))))) []) (fun s63484=>some s63484) (fun x63484=>nomatch x63484))):Option (List zab)) (fun s62420=>some (true,s62420)))):Option (Bool×(List zab)))=some ((trimVW F S).2,(trimVW F S).1):=by
 unfold trimVW
 rw [ze2 hF hS,zaa]
 cases hg:zaG F S with
 | false=>rfl
 | true =>
 have hU:=proofW_W hg
 have hSl:=hU.le
 have hn:=need_leW S
 have hl:(za3 S).length≤400:=by rw [needI_lengthW];omega
 simp only [Bool.not_true,cond_false,cond_true]
 have first:(bd (mk2 (false:Bool) (len S) (len S)) (fun xs62843=>bdR (iter (S:=((List Bool)×(List Int)×Int)) (X:=Empty) (fun s62853=>(bif (decide (0≤s62853.2.2)) then bd (ix s62853.1 s62853.2.2) (fun x63243=>(bif (bif (!x63243) then (decide (s62853.2.2 < (wr ((len S) - 1)))) else false) then some (Lp.nx (s62853.1,s62853.2.1,(wr (s62853.2.2 - 1)))) else bd (app s62853.2.1 [s62853.2.2]) (fun xs63264=>bd (β:=_) (bd (ix S s62853.2.2) (fun x63304=>some (PF.za7 x63304)):Option (List Int)) (fun s63293=>bd (chk (len s63293)) (fun m63321=>bdR (forR (S:=(List Bool)) (X:=Empty) 0 m63321 (fun i63322 s63322=>bd (ix s63293 ((i63322:Nat):Int)) (fun x63420=>bd (ix s63322 x63420) (fun x63428=>bd (put s63322 x63420 true) (fun xs63433=>some (Lp.nx xs63433))))) s62853.1) (fun s63322=>some (Lp.nx (s63322,xs63264,(wr (s62853.2.2 - 1))))) (fun x63322=>nomatch x63322)))))) else some (Lp.bk (s62853.1,s62853.2.1,s62853.2.2)))) (xs62843,[],(wr ((len S) - 1)))) (fun s62853=>bd (PF.zcn s62853.2.1) (fun r63469=>some r63469)) (fun x62853=>nomatch x62853)))=some (za3 S):=by
  rw [show len S=((S.length:Nat):Int) from rfl,mk2_ok (by unfold lim;omega),zaa]
  refine need_loopW hU fun M=>?_
  show bd (zcn (za3 S).reverse) _=_
  rw [slices_Reverse_eq (by rw [List.length_reverse];unfold lim;omega),zaa,List.reverse_reverse]
 refine (congrArg (fun z=>bd (bd z _) _) first).trans ?_
 rw [zaa,chk_lem (by omega),zaa]
 obtain ⟨s,h1,h2⟩:=forR_inv (X:=Empty) (xs:=za3 S) (s0:=([]:List zab)) (body:=(fun i63484 s63484=>bd (ix (za3 S) ((i63484:Nat):Int)) (fun x63649=>bd (ix S x63649) (fun x63657=>bd (PF.zcH x63657.ineq) (fun r63668=>(bif (decide (0 < (len (PF.za7 (zab.mk r63668 x63657.kind x63657.a x63657.b x63657.k))))) then bd (PF.zbi (za3 S) x63657.a) (fun r63694=>(bif ((len (PF.za7 (zab.mk r63668 x63657.kind x63657.a x63657.b x63657.k))) == 2) then bd (PF.zbi (za3 S) x63657.b) (fun r63708=>bd (app s63484 [(zab.mk r63668 x63657.kind r63694 r63708 x63657.k)]) (fun xs63726=>some (Lp.nx xs63726))) else bd (app s63484 [(zab.mk r63668 x63657.kind r63694 x63657.b x63657.k)]) (fun xs63744=>some (Lp.nx xs63744)))) else bd (app s63484 [(zab.mk r63668 x63657.kind x63657.a x63657.b x63657.k)]) (fun xs63762=>some (Lp.nx xs63762))))))))
  (fun j s=>s=zas S ((needW S).take j)) rfl (fun j k s hj hs=>by
   subst hs
   obtain ⟨i,x,g1,rfl,hx,hm⟩:=needI_atW hj
   have hjl:=(List.getElem?_eq_some_iff.1 g1).1
   have hmm:=List.mem_of_getElem? hx
   have hc:=hU.cf hmm
   have hkd:=hU.kind hmm
   have hi:=(List.getElem?_eq_some_iff.1 hx).1
   have hlt:∀ i∈(needW S).take j,i < S.length:=fun i hi=>zcb (S:=S) i (by rw [zeZ];exact List.mem_of_mem_take hi)
   have hix:∀ k,k∈premW x→zbi (za3 S) k=some (posNW S k):=fun k hk=>by
    have hb:=hU.prem hx k hk
    exact index_needW hb.1 (by omega) (mask_premW hU hx hm k hk)
   have fin:∀ y,app (zas S ((needW S).take j)) [y]=some (zas S ((needW S).take j)++[y]):=fun y=>zaB (by rw [zbJ hlt];simp;unfold lim;omega)
   have hcl:zcH x.ineq=some x.ineq:=by unfold zcH zeq;rw [zaB (by simp;unfold lim;omega)];rfl
   refine ⟨zas S ((needW S).take j)++[zbf S x],?_,by rw [List.take_add_one,g1];exact (trim_snocW (l:=(needW S).take j) hx).symm⟩
   rw [zaA,hj,zaa,zaA,hx,zaa,hcl,zaa,impl_uses_eq]
   clear hcl hc hmm hx
   obtain ⟨q,kd,a,b,kk⟩:=x
   unfold zbf
   unfold premW at hix
   dsimp only at hkd hix ⊢
   rcases hkd with rfl|rfl|rfl|rfl|rfl|rfl
   · show bd (app _ [zab.mk q 1 a b kk]) _=_
     rw [fin];rfl
   · show bd (app _ [zab.mk q 2 a b kk]) _=_
     rw [fin];rfl
   · show bd (app _ [zab.mk q 3 a b kk]) _=_
     rw [fin];rfl
   · have h1:=hix a (by simp)
     have h2:=hix b (by simp)
     show bd (zbi (za3 S) a) _=_
     rw [h1,zaa]
     show bd (zbi (za3 S) b) _=_
     rw [h2,zaa,fin];rfl
   · have h1:=hix a (by simp)
     show bd (zbi (za3 S) a) _=_
     rw [h1,zaa]
     show bd (app _ [zab.mk q 5 (posNW S a) b kk]) _=_
     rw [fin];rfl
   · have h1:=hix a (by simp)
     show bd (zbi (za3 S) a) _=_
     rw [h1,zaa]
     show bd (app _ [zab.mk q 6 (posNW S a) b kk]) _=_
     rw [fin];rfl)
 refine (congrArg (fun z=>bd (bdR z _ _) _) h1).trans ?_
 rw [zaE,zaa,h2,needI_lengthW,List.take_length]
end Go.PF
namespace Go.PF
open Go.Pu
theorem cf_pl {V:Nat} {φ:Nat→Int} {b:Int} {k:Nat} (h:k < V):cf (plI V φ b) k=φ k:=by
 unfold cf;rw [show (plI V φ b).coeffs[k]?=some (φ k) from pl_at φ h];rfl
theorem ev_pl {n V:Nat} {φ:Nat→Int} {b:Int}:evR n V (cf (plI V φ b))=evR n V φ:=evR_congr fun k hk=>cf_pl hk
theorem single_pl {V a n b:Int} (h0:0≤V) (ha:1≤a∧a≤V) (hn:n=1∨n=-1):(⟨(List.replicate V.toNat 0).set (a - 1).toNat n,b⟩:zaf)=plI V.toNat (cfA [n * a]) b:=by
 unfold plI
 congr 1
 rcases hn with rfl|rfl
 · have:=lit_set (V:=V.toNat) (l:=a) (by omega) (by omega)
   rw [if_pos (by omega),show a.natAbs - 1=(a - 1).toNat by omega] at this
   rw [Int.one_mul];exact this
 · have:=lit_set (V:=V.toNat) (l:=-a) (by omega) (by omega)
   rw [if_neg (by omega),show (-a).natAbs - 1=(a - 1).toNat by omega] at this
   rw [Int.neg_mul,Int.one_mul];exact this
theorem up_le {b c s:Int} (hc:0 < c) (h:b≤c * s):upK b c≤s:=by rw [← up_neg hc];exact dvd_up hc h
section
variable {F:Cnf} {S:List zab}
theorem gI_of {i:Nat} {s:zab} (h:S[i]?=some s):gI S (i:Int)=s.ineq:=by unfold gI;rw [Int.toNat_natCast,h];rfl
theorem plane_sound (h:zaG F S=true) {n:Nat} (hm:modB F.clauses n=true):∀ (i:Nat) (s:zab),S[i]?=some s→s.ineq.bound≤evR n F.vars.toNat (cf s.ineq):=by
 obtain ⟨hF,h1,h2,h3⟩:=zcc h
 have hV:=zbD hF
 intro i
 induction i using Nat.strongRecOn with
 | ind i ih =>
  intro s hs
  have hi:=(List.getElem?_eq_some_iff.1 hs).1
  obtain ⟨g1,g2⟩:=zdl (h3 i s hs)
  have pre:∀ {a:Int},preQ F.vars S i a=true→IsPl F.vars (gI S a)∧(gI S a).bound≤evR n F.vars.toNat (cf (gI S a)):=by
   intro a ha
   obtain ⟨⟨a1,a2⟩,a3⟩:=zbT ha
   refine ⟨a3,?_⟩
   have e:=List.getElem?_eq_getElem (l:=S) (i:=a.toNat) (by omega)
   have:=ih a.toNat (by omega) _ e
   have e2:=gI_of e
   rw [Int.toNat_of_nonneg a1] at e2
   rw [e2];exact this
  rcases dueQ_kind g2 with ⟨_,c1,e⟩|⟨_,c1,e⟩|⟨_,c1,e⟩|⟨_,_,c1,c2,e⟩|⟨_,_,c1,c2,e⟩|⟨_,_,c1,c2,c3,e⟩
  · obtain ⟨e1,e2⟩:=clF_at hF c1
    rw [e,ev_pl]
    have h0:=zaF.1 c1
    have hmem:clF F s.a∈F.clauses:=by
     have:F.clauses[s.a.toNat]?=some (clF F s.a):=by
      unfold ix at e1;rw [if_pos h0.1] at e1;exact e1
     exact List.mem_of_getElem? this
    exact ev_clause e2 (modB_iff.1 hm _ hmem)
  · have hb:=zaF.1 c1
    rw [single_pl hV.1 hb (.inl rfl)] at e
    rw [e,ev_pl,evR_lit (by omega)]
    show (0:Int)≤_
    unfold sg
    rw [if_pos (by omega)]
    cases decide ((1 * s.a).natAbs≤F.vars.toNat) <;> cases n.testBit ((1 * s.a).natAbs - 1) <;> decide
  · have hb:=zaF.1 c1
    rw [single_pl hV.1 hb (.inr rfl)] at e
    rw [e,ev_pl,evR_lit (by omega)]
    show (-1:Int)≤_
    unfold sg
    rw [if_neg (by omega)]
    cases decide ((-1 * s.a).natAbs≤F.vars.toNat) <;> cases n.testBit ((-1 * s.a).natAbs - 1) <;> decide
  · rw [e]
    unfold addI
    rw [ev_pl,evR_add]
    exact Int.add_le_add (pre c1).2 (pre c2).2
  · rw [e]
    unfold scaI
    rw [ev_pl,evR_mul]
    exact Int.mul_le_mul_of_nonneg_left (pre c1).2 (by have:=zaF.1 c2;omega)
  · rw [e]
    unfold divI
    rw [ev_pl]
    have hk:=zaF.1 c2
    obtain ⟨p1,p2⟩:=pre c1
    have hc:=c3
    rw [zbS p1] at hc
    have hz:=divB_pl.1 hc
    refine up_le (by omega) (Int.le_trans p2 ?_)
    rw [← evR_mul]
    refine Int.le_of_eq (evR_congr fun k hkV=>?_)
    have:=tmod_zero (by omega) (hz k hkV)
    have h4:=Int.mul_ediv_add_emod (cf (gI S s.a) k) s.k
    rw [this] at h4;omega
end
theorem impl_planeHolds_eq {V:Int} (hV:0≤V∧V≤12) {q:zaf} (hq:IsPl V q) {n:Nat} (hn:n < 9223372036854775808):zc4 q (n:Int)=some (decide (q.bound≤evR n V.toNat (cf q))):=by
 have hl:=hq.len
 unfold zc4
 have:=loop_l (X:=Empty) (B:=Bool) (xs:=q.coeffs) (s0:=(0:Int)) (k:=fun s30=>some (decide (q.bound≤s30))) (lx:=fun x30=>nomatch x30) (R:=fun r=>r=decide (q.bound≤evR n V.toNat (cf q))) (body:=fun i30 y29 s30=>bd (nn ((i30:Nat):Int)) (fun u69=>(bif ((andK true 64 (shrK 64 (n:Int) ((i30:Nat):Int)) 1) == 1) then some (Lp.nx (wr (s30 + y29))) else some (Lp.nx s30))))
  (fun i s=>s=evR n i (cf q)) rfl (fun i x s hx hI=>by
   have hi:=(List.getElem?_eq_some_iff.1 hx).1
   subst hI
   have hnn:nn ((i:Nat):Int)=some ():=by unfold nn;rw [if_neg (by omega)]
   have hb:=evR_bd (n:=n) (V:=i) (φ:=cf q) (B:=1000) fun k _=>by have:=cf_bd hq k;omega
   have hx2:cf q i=x:=by unfold cf;rw [hx];rfl
   have hc:=cf_bd hq i
   rw [hnn,zaa,bit_nat hn (by omega)]
   refine ⟨evR n (i + 1) (cf q),?_,rfl⟩
   rw [show evR n (i + 1) (cf q)=evR n i (cf q) + (bif n.testBit i then cf q i else 0) from rfl,hx2]
   rw [hx2] at hc
   cases n.testBit i with
   | false=>simp only [cond_false,Int.add_zero]
   | true=>simp only [cond_true];rw [wr_of _ (by omega) (by omega)])
  (fun s hs=>⟨_,rfl,by rw [hs,show V.toNat=q.coeffs.length by omega]⟩)
 obtain ⟨r,e,rfl⟩:=this
 exact e
theorem zfJ {F:Cnf} (hF:cnfB F=true) {q:zaf} (hq:IsPl F.vars q) (h:∀ n,modB F.clauses n=true→q.bound≤evR n F.vars.toNat (cf q)):zc5 F q=some (true,true):=by
 have hV:=zbD hF;have hC:=cnfB_isC hF;have hN:=zcv hF
 have hok:okCnf F:=⟨by unfold okI;omega,⟨by omega,fun c h=>(hC c h).ok⟩⟩
 obtain ⟨hs,hp,hnn,hck⟩:=shl_vars hF
 unfold zc5
 rw [zcO hok,zaa,hF,zeY hV,plB_iff.2 hq]
 simp only [Bool.not_true,cond_false,zaa]
 rw [hnn,zaa,hck,zaa]
 have:=forR_inv (X:=Bool) (xs:=List.range (2 ^ F.vars.toNat)) (s0:=true) (body:=fun i218 s218=>bd (PF.zcm F.clauses ((i218:Nat):Int)) (fun r338=>bd (bif r338 then bd (β:=_) (bd (PF.zc4 q ((i218:Nat):Int)) (fun r376=>some (r376,r376)):Option (Bool×Bool)) (fun s375=>some (s375.1,(!s375.2))) else some (s218,false)) (fun t365=>(bif t365.2 then some (Lp.rt t365.1) else some (Lp.nx t365.1)))))
  (fun _ s=>s=true) rfl (fun i x s hx hI=>by
   subst hI
   have hi:i < 2 ^ F.vars.toNat:=by have:=(List.getElem?_eq_some_iff.1 hx).1;simpa using this
   rw [zfg hC (by omega),zaa]
   cases hmi:modB F.clauses i with
   | false=>exact ⟨true,rfl,rfl⟩
   | true =>
    simp only [cond_true]
    rw [impl_planeHolds_eq hV hq (by omega),decide_eq_true (h i hmi)]
    exact ⟨true,rfl,rfl⟩)
 obtain ⟨s,e,rfl⟩:=this
 rw [List.length_range] at e
 refine (congrArg (fun z=>bd (bdR z _ _) _) e).trans rfl
def zeroB (q:zaf):Bool:=decide (1≤q.bound) && q.coeffs.all fun x=>x == 0
theorem impl_absurd_eq (q:zaf):zd3 q=some (zeroB q):=by
 unfold zd3 zeroB
 cases decide (1≤q.bound) with
 | false=>rfl
 | true =>
  simp only [cond_true,Bool.true_and]
  rw [zeg (g:=fun y=>!(y == 0)) (fun y _=>show some (zc8 y)=_ from rfl),zaa,zaa,List.all_eq_not_any_not]
theorem zero_rep {V:Int} {q:zaf} (h:(q.coeffs.length:Int)=V):(q.coeffs == List.replicate V.toNat 0)=q.coeffs.all fun x=>x == 0:=by
 rw [Bool.eq_iff_iff,beq_iff_eq,List.all_eq_true]
 constructor
 · intro e x hx;rw [e] at hx;rw [List.eq_of_mem_replicate hx];rfl
 · intro e
   refine List.eq_replicate_iff.2 ⟨by omega,fun x hx=>eq_of_beq (e x hx)⟩
def lastZ (S:List zab):Bool:=match S[S.length - 1]? with|some s=>zeroB s.ineq|none=>false
theorem last_W {S:List zab} (hS:okPl S) (h:0 < S.length):∃ x,ix S (wr (len S - 1))=some x∧S[S.length - 1]?=some x:=by
 unfold okPl at hS
 rw [show wr (len S - 1)=len S - 1 from zbQ (by omega),zak]
 obtain ⟨x,hx,hg⟩:=ix_of (xs:=S) (i:=(S.length:Int) - 1) (by omega) (by omega)
 refine ⟨x,hx,?_⟩
 rwa [show ((S.length:Int) - 1).toNat=S.length - 1 by omega] at hg
theorem spec_Ref_eq {F:Cnf} {S:List zab} (hF:okCnf F) (hS:okPl S):zd5 F S=some (zaG F S && lastZ S,zaL F S):=by
 unfold zd5
 rw [zel hF,zaa]
 cases ht:zaL F S with
 | false=>unfold zaG;rw [ht];rfl
 | true =>
  simp only [Bool.not_true,cond_false]
  unfold zev
  rw [ze1 hF hS,zaa]
  cases hp:zaG F S with
  | false=>rfl
  | true =>
   obtain ⟨hC,h1,h2,h3⟩:=zcc hp
   have hV:=zbD hC
   obtain ⟨x,x1,x2⟩:=last_W hS h2
   obtain ⟨g1,_⟩:=zdl (h3 _ _ x2)
   have e:F.vars=((F.vars.toNat:Nat):Int):=by omega
   have hm:mk2 (0:Int) F.vars F.vars=some (List.replicate F.vars.toNat 0):=by
    have:=mk2_ok (z:=(0:Int)) (n:=F.vars.toNat) (by unfold lim;omega)
    rw [← e] at this;exact this
   simp only [Bool.not_true,cond_false,Bool.true_and]
   rw [x1,zaa,hm,zaa,zef,zaa,zero_rep g1.len]
   unfold lastZ
   rw [x2]
   unfold zeroB
   dsimp only
   cases decide (1≤x.ineq.bound) <;> rfl
theorem impl_Ref_eq {F:Cnf} {S:List zab} (hF:okCnf F) (hS:okPl S):zd4 F S=some (zaG F S && lastZ S,zaL F S):=by
 unfold zd4
 rw [ze2 hF hS,zaa,zcO hF]
 have e:(bif cnfB F then decide (len S≤400) else false)=zaL F S:=by unfold zaL;rw [bif_ff]
 cases hp:zaG F S with
 | false=>simp only [cond_false,zaa,Bool.false_and,e]
 | true =>
  obtain ⟨hC,h1,h2,h3⟩:=zcc hp
  obtain ⟨x,x1,x2⟩:=last_W hS h2
  unfold zeu lastZ
  simp only [cond_true,Bool.true_and]
  rw [x1,zaa,zaa,impl_absurd_eq,zaa,zaa,zaa,x2,e]
theorem refutedW {F:Cnf} {S:List zab} (h:zaG F S=true) (hz:lastZ S=true):satB F.vars.toNat F.clauses=false:=by
 rw [Bool.eq_false_iff]
 intro hs
 unfold satB at hs
 obtain ⟨n,_,hm⟩:=List.any_eq_true.1 hs
 unfold lastZ at hz
 cases hx:S[S.length - 1]? with
 | none=>rw [hx] at hz;cases hz
 | some s =>
  rw [hx] at hz
  have h1:=plane_sound h hm _ s hx
  have hz2:zeroB s.ineq=true:=hz
  unfold zeroB at hz2
  rw [Bool.and_eq_true,List.all_eq_true] at hz2
  have h2:=of_decide_eq_true hz2.1
  rw [evR_zero fun k hk=>by
   unfold cf
   cases hc:s.ineq.coeffs[k]? with
   | none=>rfl
   | some y=>exact eq_of_beq (hz2.2 y (List.mem_of_getElem? hc))] at h1
  omega
end Go.PF
namespace Go.PF
open Go.Pu
theorem trim_atW {S:List zab} {i:Nat} {x:zab} (hx:S[i]?=some x) (hm:bAt (maskW S) i=true):(zas S (needW S))[(zaw S i).length]?=some (zbf S x):=by
 have hi:=(List.getElem?_eq_some_iff.1 hx).1
 obtain ⟨r,hr⟩:=ze0 hi hm
 have hlt:∀ j∈zaw S i,j < S.length:=fun j hj=>by have:=zcb j hj;omega
 have e:zas S (needW S)=zas S (zaw S i)++zbf S x::zas S r:=by
  rw [hr]
  unfold zas
  rw [List.filterMap_append,List.filterMap_cons_some (b:=zbf S x) (by unfold zca;rw [hx];rfl)]
 rw [e,List.getElem?_append_right (by rw [zbJ hlt];omega),zbJ hlt,Nat.sub_self]
 rfl
theorem trim_ofW {S:List zab} {j:Nat} {y:zab} (hy:(zas S (needW S))[j]?=some y):∃ (i:Nat) (x:zab),S[i]?=some x∧bAt (maskW S) i=true∧y=zbf S x∧j=(zaw S i).length:=by
 have hlt:∀ i∈needW S,i < S.length:=fun i hi=>zcb (S:=S) i hi
 have hj:=(List.getElem?_eq_some_iff.1 hy).1
 rw [zbJ hlt] at hj
 have hmem:=List.getElem_mem hj
 have hi:=hlt _ hmem
 generalize he:(needW S)[j]=i at *
 have hm:bAt (maskW S) i=true:=by
  have h2:=hmem
  unfold needW at h2
  exact (List.mem_filter.1 h2).2
 obtain ⟨r,hr⟩:=ze0 hi hm
 have hnd:(needW S).Nodup:=by unfold needW;exact List.nodup_range.filter _
 have e1:(needW S)[j]?=(needW S)[(zaw S i).length]?:=by
  rw [List.getElem?_eq_getElem hj,he,hr,List.getElem?_append_right (Nat.le_refl _),Nat.sub_self];rfl
 have hjj:=(List.getElem?_inj hj hnd).1 e1
 have:=trim_atW (List.getElem?_eq_getElem hi) hm
 rw [← hjj,hy] at this
 exact ⟨i,S[i],List.getElem?_eq_getElem hi,hm,Option.some.inj this,hjj⟩
theorem trimX_ineq (S:List zab) (x:zab):(zbf S x).ineq=x.ineq:=by
 unfold zbf;cases x.kind == 4 <;> cases (x.kind == 5 || x.kind == 6) <;> rfl
theorem needTo_monoW {S:List zab} {k i:Nat} (h:k < i) (hm:bAt (maskW S) k=true):(zaw S k).length < (zaw S i).length:=by
 have key:∀ d,(zaw S (k + 1)).length≤(zaw S (k + 1 + d)).length:=by
  intro d
  induction d with
  | zero=>exact Nat.le_refl _
  | succ d ih =>
   rw [show k + 1 + (d + 1)=(k + 1 + d) + 1 by omega,zdk S (k + 1 + d)]
   cases bAt (maskW S) (k + 1 + d)
   · exact ih
   · rw [cond_true,List.length_append];omega
 have h1:=key (i - (k + 1))
 rw [show k + 1 + (i - (k + 1))=i by omega,zdk,hm] at h1
 simp at h1
 omega
theorem mask_lastW {S:List zab} (hU:IsW S) (h:0 < S.length):bAt (maskW S) (S.length - 1)=true:=by
 unfold maskW bAt
 rw [rem_outW hU (Nat.le_refl _) (by omega),List.getElem?_set_self (by simp;omega)]
 rfl
theorem trim_rightW {F:Cnf} {S:List zab} (hd:zaG F S=true):zaG F (zas S (needW S))=true:=by
 have hU:=proofW_W hd
 obtain ⟨hF,h1,h2,h3⟩:=zcc hd
 have hlt:∀ i∈needW S,i < S.length:=fun i hi=>zcb (S:=S) i hi
 have hle:=need_leW S
 have hm0:=mask_lastW hU h2
 have hn:(needW S).length=(zaw S (S.length - 1)).length + 1:=by
  have:=zdk S (S.length - 1)
  rw [show S.length - 1 + 1=S.length by omega,hm0] at this
  rw [← zeZ,this];simp
 refine proofW_of hF (by rw [zbJ hlt];omega) (by rw [zbJ hlt];omega) fun j y hy=>?_
 obtain ⟨i,x,hx,hm,rfl,rfl⟩:=trim_ofW hy
 obtain ⟨g1,g2⟩:=zdl (h3 i x hx)
 have hi:=(List.getElem?_eq_some_iff.1 hx).1
 -- the places told
 have pos:∀ k,k∈premW x→gI (zas S (needW S)) (posNW S k)=gI S k∧(preQ F.vars S i k=true→preQ F.vars (zas S (needW S)) (zaw S i).length (posNW S k)=true):=fun k hk=>by
  have hb:=hU.prem hx k hk
  have hmk:=mask_premW hU hx hm k hk
  have hkx:=List.getElem?_eq_getElem (l:=S) (i:=k.toNat) (by omega)
  have ht:=trim_atW hkx hmk
  have hpos:(posNW S k).toNat=(zaw S k.toNat).length:=by unfold posNW;simp
  have e:gI (zas S (needW S)) (posNW S k)=gI S k:=by
   unfold gI
   rw [hpos,ht,hkx]
   exact trimX_ineq S _
  refine ⟨e,fun hp=>?_⟩
  unfold preQ at hp ⊢
  rw [Bool.and_eq_true] at hp ⊢
  refine ⟨zaF.2 ?_,by rw [e];exact hp.2⟩
  have:=needTo_monoW (k:=k.toNat) (i:=i) (by omega) hmk
  unfold posNW
  omega
 have due:dueQ F (zas S (needW S)) (zaw S i).length (zbf S x)=some x.ineq:=by
  have hk:=hU.kind (List.mem_of_getElem? hx)
  have bf:∀ {c:Bool} {x y:zaf},(bif c then some x else none)=some y→c=true∧x=y:=by
   intro c x y h;cases c
   · cases h
   · exact ⟨rfl,Option.some.inj h⟩
  have bt:∀ {c:Bool} {x y:zaf},c=true→x=y→(bif c then some x else none)=some y:=by
   rintro c x y rfl rfl;rfl
  clear hy hx h3 g1
  obtain ⟨q,kd,a,b,kk⟩:=x
  dsimp only at hk g2 pos ⊢
  rcases hk with rfl|rfl|rfl|rfl|rfl|rfl
  · exact g2
  · exact g2
  · exact g2
  · have pa:=pos a (by simp [premW])
    have pb:=pos b (by simp [premW])
    obtain ⟨c,e⟩:=bf g2
    dsimp only at c e
    simp only [Bool.and_eq_true] at c
    refine bt (c:=kk == 0 && (preQ F.vars (zas S (needW S)) (zaw S i).length (posNW S a) && preQ F.vars (zas S (needW S)) (zaw S i).length (posNW S b))) (x:=addI F.vars (gI (zas S (needW S)) (posNW S a)) (gI (zas S (needW S)) (posNW S b))) ?_ ?_
    · simp only [Bool.and_eq_true];exact ⟨c.1,pa.2 c.2.1,pb.2 c.2.2⟩
    · rw [pa.1,pb.1];exact e
  · have pa:=pos a (by simp [premW])
    obtain ⟨c,e⟩:=bf g2
    dsimp only at c e
    simp only [Bool.and_eq_true] at c
    refine bt (c:=(b == 0 && preQ F.vars (zas S (needW S)) (zaw S i).length (posNW S a)) && inB kk 1 1000) (x:=scaI F.vars (gI (zas S (needW S)) (posNW S a)) kk) ?_ ?_
    · simp only [Bool.and_eq_true];exact ⟨⟨c.1.1,pa.2 c.1.2⟩,c.2⟩
    · rw [pa.1];exact e
  · have pa:=pos a (by simp [premW])
    obtain ⟨c,e⟩:=bf g2
    dsimp only at c e
    simp only [Bool.and_eq_true] at c
    refine bt (c:=((b == 0 && preQ F.vars (zas S (needW S)) (zaw S i).length (posNW S a)) && inB kk 2 1000) && divB (gI (zas S (needW S)) (posNW S a)) kk) (x:=divI F.vars (gI (zas S (needW S)) (posNW S a)) kk) ?_ ?_
    · simp only [Bool.and_eq_true];exact ⟨⟨⟨c.1.1.1,pa.2 c.1.1.2⟩,c.1.2⟩,by rw [pa.1];exact c.2⟩
    · rw [pa.1];exact e
 unfold za4
 rw [trimX_ineq,plB_iff.2 g1,due,Bool.true_and]
 exact sameQ_iff.2 rfl
theorem trim_lastW {S:List zab} (hU:IsW S) (h:0 < S.length):∃ x y,S[S.length - 1]?=some x∧0 < (zas S (needW S)).length∧(zas S (needW S)).length≤S.length∧(zas S (needW S))[(zas S (needW S)).length - 1]?=some y∧y.ineq=x.ineq:=by
 have hlt:∀ i∈needW S,i < S.length:=fun i hi=>zcb (S:=S) i hi
 have hle:=need_leW S
 have hm:=mask_lastW hU h
 have hx:=List.getElem?_eq_getElem (l:=S) (i:=S.length - 1) (by omega)
 have ht:=trim_atW hx hm
 have hn:(needW S).length=(zaw S (S.length - 1)).length + 1:=by
  have:=zdk S (S.length - 1)
  rw [show S.length - 1 + 1=S.length by omega,hm] at this
  rw [← zeZ,this];simp
 refine ⟨_,_,hx,by rw [zbJ hlt];omega,by rw [zbJ hlt];omega,by rw [zbJ hlt,hn,Nat.add_sub_cancel];exact ht,trimX_ineq S _⟩
end Go.PF
namespace Go.PF
open Go.Pu
theorem put_at {S:List zab} {k:Int} (h0:0≤k) (h1:k < S.length) (s:zab):put S k s=some (S.set k.toNat s):=by unfold put;rw [if_pos ⟨h0,h1⟩]
theorem dr_planes {n:Nat} {c:l1Cur} (h:okC (n + 2000) c) {F:Cnf} (hF:okCnf F):Dr n (zdw c F) fun S=>S.length≤402:=by
 have hlim:lim=4294967296:=rfl
 unfold zdw
 rw [zdh hF,zaa]
 cases hC:cnfB F with
 | false=>exact ⟨_,_,rfl,h.le,by simp⟩
 | true =>
 have hV:=zbD hC
 have hCl:=cnfB_isC hC
 have hlN:=zcv hC
 simp only [Bool.not_true,cond_false]
 refine (zaX (n:=n + 1990) h.le 10).bind fun k c1 h1 hk=>?_
 refine zcu (fun s=>(s.2.2.2.2 + 1).toNat) (fun s=>okC (n + 1000 + 14 * (s.2.2.2.2 + 1).toNat) (l1Cur.mk s.2.1 s.2.2.1 s.2.2.2.1)∧-1≤s.2.2.2.2∧s.1.length + s.2.2.2.2 + 1≤10∧∀ y∈s.1,IsPl F.vars y.ineq)
  (fun s=>okC (n + 1000) (l1Cur.mk s.2.1 s.2.2.1 s.2.2.2.1)∧s.1.length≤10) ⟨h1.le (by dsimp only;omega),by dsimp only;omega,by dsimp only;simp;omega,fun s hs=>by cases hs⟩ ?_ ?_
 · rintro ⟨out,cd,at_,sd,j⟩ ⟨g1,g2,g3,g4⟩
   simp only at g1 g2 g3 g4 ⊢
   cases hd:decide (0≤j) with
   | false=>exact .inr ⟨_,rfl,g1.le,by dsimp only;omega⟩
   | true =>
   have hj:0≤j:=of_decide_eq_true hd
   have hw:wr (j - 1)=j - 1:=wr_of _ (by omega) (by omega)
   left
   simp only [cond_true]
   rw [hw]
   have e0:n + 1000 + 14 * (j + 1).toNat=(n + 1000 + 14 * (j - 1 + 1).toNat) + 14:=by omega
   rw [e0] at g1
   obtain ⟨M,hM⟩:∃ M,M=n + 1000 + 14 * (j - 1 + 1).toNat:=⟨_,rfl⟩
   rw [← hM] at g1
   let Q:(List zab×List Int×Int×Int×Int)→Prop:=fun s'=>(okC (n + 1000 + 14 * (s'.2.2.2.2 + 1).toNat) (l1Cur.mk s'.2.1 s'.2.2.1 s'.2.2.2.1)∧-1≤s'.2.2.2.2∧s'.1.length + s'.2.2.2.2 + 1≤10∧∀ y∈s'.1,IsPl F.vars y.ineq)∧(s'.2.2.2.2 + 1).toNat < (j + 1).toNat
   show ∃ s',_=some (Lp.nx s')∧Q s'
   have stay:∀ {c':l1Cur},okC M c'→Q (out,c'.code,c'.at_,c'.seed,j - 1):=fun hc=>⟨⟨by rw [hM] at hc;exact hc,by dsimp only;omega,by dsimp only;omega,g4⟩,by dsimp only;omega⟩
   have fin:∀ {cs:List Int} {bo kd a b k:Int} {c':l1Cur} {ok:Bool},okC M c'→∃ s',bdR (S:=((List Int)×Int×Int×Int×Int×Int×(List Int)×Int×Int×Bool)) (X:=(Rs Unit Empty)) (some (Rs.go (cs,bo,kd,a,b,k,c'.code,c'.at_,c'.seed,ok))) (fun s541064=>bd (bif s541064.2.2.2.2.2.2.2.2.2 then bd (PF.zbV F.vars (zaf.mk s541064.1 s541064.2.1)) (fun r862477=>some r862477) else some false) (fun t862470=>(bif t862470 then bd (app out [(zab.mk (zaf.mk s541064.1 s541064.2.1) s541064.2.2.1 s541064.2.2.2.1 s541064.2.2.2.2.1 s541064.2.2.2.2.2.1)]) (fun xs862494=>some (Lp.nx (xs862494,s541064.2.2.2.2.2.2.1,s541064.2.2.2.2.2.2.2.1,s541064.2.2.2.2.2.2.2.2.1,(j - 1)))) else some (Lp.nx (out,s541064.2.2.2.2.2.2.1,s541064.2.2.2.2.2.2.2.1,s541064.2.2.2.2.2.2.2.2.1,(j - 1)))))) (fun x541066=>el x541066 (fun s541071=>some (Lp.nx (out,c'.code,c'.at_,c'.seed,(j - 1)))) (fun x541066=>nomatch x541066))=(some (Lp.nx s'):Option (Lp (List zab×List Int×Int×Int×Int) Empty))∧Q s':=by
    intro cs bo kd a b k c' ok hc
    rw [zaE]
    dsimp only
    cases ok with
    | false=>exact ⟨_,rfl,stay hc⟩
    | true =>
     simp only [cond_true]
     rw [zeX hV,zaa,zaa]
     cases hp:plB F.vars (zaf.mk cs bo) with
     | false=>exact ⟨_,rfl,stay hc⟩
     | true =>
      simp only [cond_true]
      rw [zaB (by simp;omega),zaa]
      refine ⟨_,rfl,⟨by rw [hM] at hc;exact hc,by dsimp only;omega,by dsimp only;rw [List.length_append,List.length_singleton];omega,fun y hy=>?_⟩,by dsimp only;omega⟩
      rcases List.mem_append.1 hy with g|g
      · exact g4 y g
      · rw [List.mem_singleton] at g;subst g;exact plB_iff.1 hp
   obtain ⟨kd0,c2,e1,k1,hk1⟩:=zb1 (n:=M + 12) g1 (l:=[1,1,1,2,3,4,4,4,5,6]) (by simp)
   rw [e1,zaa]
   dsimp only
   obtain ⟨kd,hkd,hkr,hko⟩:∃ kd:Int,(bif (bif (len out == 0) then decide (3 < kd0) else false) then some (Rs.go (([]:List Int),(0:Int),(1:Int),(0:Int),(0:Int),(0:Int))) else some (Rs.go ([],0,kd0,0,0,0)))=(some (Rs.go ([],0,kd,0,0,0)):Option (Rs (List Int×Int×Int×Int×Int×Int) Empty))∧(kd=1∨kd=2∨kd=3∨kd=4∨kd=5∨kd=6)∧(3 < kd→0 < out.length):=by
    simp only [List.mem_cons,List.not_mem_nil,or_false] at hk1
    have hr:kd0=1∨kd0=2∨kd0=3∨kd0=4∨kd0=5∨kd0=6:=by omega
    cases hl:(len out == 0) with
    | false =>
     have:=ne_of_beq_false hl
     rw [zak] at this
     exact ⟨kd0,rfl,hr,fun _=>by omega⟩
    | true =>
     cases hd:decide (3 < kd0) with
     | true=>exact ⟨1,rfl,.inl rfl,fun h=>by omega⟩
     | false=>exact ⟨kd0,rfl,hr,fun h=>by have:=of_decide_eq_false hd;omega⟩
   rw [hkd,zaE]
   dsimp only
   have at_out:∀ i:Int,0 < out.length→0≤i→(i=0∨i < len out)→∃ y,ix out i=some y∧IsPl F.vars y.ineq:=fun i hl h0 h1=>by
    rw [zak] at h1
    obtain ⟨y,hy,hg⟩:=ix_of (xs:=out) (i:=i) h0 (by omega)
    exact ⟨y,hy,g4 y (List.mem_of_getElem? hg)⟩
   rcases hkr with rfl|rfl|rfl|rfl|rfl|rfl
   · simp only [show ((1:Int) == 1)=true from rfl,cond_true]
     cases hz:(len F.clauses == 0) with
     | true=>exact ⟨_,rfl,stay k1.le⟩
     | false =>
      have hl:=ne_of_beq_false hz
      rw [zak] at hl
      obtain ⟨i,c3,e2,k2,hi⟩:=zaX (n:=M + 4) (c:=c2) k1.le (len F.clauses)
      rw [zak] at hi
      obtain ⟨cl,hcl,hg⟩:=ix_of (xs:=F.clauses) (i:=i) hi.1 (by omega)
      simp only [cond_false]
      rw [show (len F.clauses)=((F.clauses.length:Nat):Int) from rfl] at e2 ⊢
      rw [e2,zaa]
      dsimp only
      rw [hcl,zaa,zeR (hCl cl (List.mem_of_getElem? hg)),zaa]
      exact fin k2.le
   · simp only [show ((2:Int) == 1)=false from rfl,show ((2:Int) == 2)=true from rfl,show ((2:Int) == 3)=false from rfl,cond_true,cond_false]
     cases hz:(F.vars == 0) with
     | true=>exact ⟨_,rfl,stay k1.le⟩
     | false =>
      have hl:=ne_of_beq_false hz
      obtain ⟨i,c3,e2,k2,hi⟩:=zaX (n:=M + 4) (c:=c2) k1.le F.vars
      have hw1:wr (1 + i)=1 + i:=wr_of _ (by omega) (by omega)
      simp only [cond_false]
      rw [e2,zaa]
      dsimp only
      rw [hw1]
      unfold zbk
      rw [zb0 hV (by omega),zaa]
      exact fin k2.le
   · simp only [show ((3:Int) == 1)=false from rfl,show ((3:Int) == 2)=false from rfl,show ((3:Int) == 3)=true from rfl,cond_true,cond_false]
     cases hz:(F.vars == 0) with
     | true=>exact ⟨_,rfl,stay k1.le⟩
     | false =>
      have hl:=ne_of_beq_false hz
      obtain ⟨i,c3,e2,k2,hi⟩:=zaX (n:=M + 4) (c:=c2) k1.le F.vars
      have hw1:wr (1 + i)=1 + i:=wr_of _ (by omega) (by omega)
      simp only [cond_false]
      rw [e2,zaa]
      dsimp only
      rw [hw1]
      unfold zbk
      rw [zb0 hV (by omega),zaa,zb0 hV (by omega),zaa]
      exact fin k2.le
   · have ho:=hko (by decide)
     simp only [show ((4:Int) == 1)=false from rfl,show ((4:Int) == 2)=false from rfl,show ((4:Int) == 3)=false from rfl,show ((4:Int) == 4)=true from rfl,cond_true,cond_false]
     obtain ⟨i,c3,e2,k2,hi⟩:=zaX (n:=M + 8) (c:=c2) k1.le (len out)
     obtain ⟨l,c4,e3,k3,hl⟩:=zaX (n:=M + 6) (c:=c3) k2 (len out)
     obtain ⟨y,hy,y1⟩:=at_out i ho hi.1 hi.2.2
     obtain ⟨z,hz,z1⟩:=at_out l ho hl.1 hl.2.2
     rw [e2,zaa]
     dsimp only
     rw [e3,zaa]
     dsimp only
     rw [hy,zaa,hz,zaa,spec_add_eq hV y1 z1,zaa]
     exact fin k3.le
   · have ho:=hko (by decide)
     simp only [show ((5:Int) == 1)=false from rfl,show ((5:Int) == 2)=false from rfl,show ((5:Int) == 3)=false from rfl,show ((5:Int) == 4)=false from rfl,show ((5:Int) == 5)=true from rfl,cond_true,cond_false]
     obtain ⟨i,c3,e2,k2,hi⟩:=zaX (n:=M + 8) (c:=c2) k1.le (len out)
     obtain ⟨l,c4,e3,k3,hl⟩:=zb1 (n:=M + 6) (c:=c3) k2 (l:=[1,2,3]) (by simp)
     simp only [List.mem_cons,List.not_mem_nil,or_false] at hl
     obtain ⟨y,hy,y1⟩:=at_out i ho hi.1 hi.2.2
     rw [e2,zaa]
     dsimp only
     rw [e3,zaa]
     dsimp only
     rw [hy,zaa,spec_sca_eq hV y1 (by omega),zaa]
     exact fin k3.le
   · have ho:=hko (by decide)
     simp only [show ((6:Int) == 1)=false from rfl,show ((6:Int) == 2)=false from rfl,show ((6:Int) == 3)=false from rfl,show ((6:Int) == 4)=false from rfl,show ((6:Int) == 5)=false from rfl,show ((6:Int) == 6)=true from rfl,cond_true,cond_false]
     obtain ⟨i,c3,e2,k2,hi⟩:=zaX (n:=M + 8) (c:=c2) k1.le (len out)
     obtain ⟨l,c4,e3,k3,hl⟩:=zb1 (n:=M + 6) (c:=c3) k2 (l:=[2,2,3]) (by simp)
     simp only [List.mem_cons,List.not_mem_nil,or_false] at hl
     obtain ⟨y,hy,y1⟩:=at_out i ho hi.1 hi.2.2
     rw [e2,zaa]
     dsimp only
     rw [e3,zaa]
     dsimp only
     rw [hy,zaa,spec_div_eq hV y1 (by omega),zaa]
     exact fin k3.le
 · rintro ⟨out,cd,at_,sd,j⟩ ⟨g1,g2⟩
   simp only at g1 g2 ⊢
   cases hz:(len out == 0) with
   | true=>exact ⟨_,_,rfl,g1.le,by omega⟩
   | false =>
   have ho:=ne_of_beq_false hz
   rw [zak] at ho
   simp only [cond_false]
   refine (zaX (n:=n + 998) g1 (len out)).bind fun k c2 h2 hk=>?_
   rw [zak] at hk
   refine (zaX (n:=n + 990) (c:=c2) h2.le 16).bind fun q c3 h3 _=>?_
   obtain ⟨y,hy,hg⟩:=ix_of (xs:=out) (i:=k) hk.1 (by omega)
   dsimp only
   have one:∀ {l:List Int} (hl:l≠[]) {f:Int→zab},Dr n (bd (PF.za5 c3 l) (fun r=>bd (put out k (f r.1)) (fun xs=>some (xs,r.2)))) fun S=>S.length≤402:=by
    intro l hl f
    obtain ⟨x,c4,e5,h5,_⟩:=zb1 (n:=n + 900) (c:=c3) h3.le hl
    rw [e5,zaa]
    dsimp only
    rw [put_at hk.1 (by omega),zaa]
    exact ⟨_,_,rfl,h5.le,by show (List.set _ _ _).length≤402;rw [List.length_set];omega⟩
   rw [hy]
   simp only [zaa]
   cases q == 0 with
   | true=>exact one (l:=[1,(-1),1099511627776]) (by simp) (f:=fun r=>zab.mk (zaf.mk y.ineq.coeffs (wr (y.ineq.bound + r))) y.kind y.a y.b y.k)
   | false =>
   simp only [cond_false]
   cases q == 1 with
   | true=>exact one (l:=[0,7,1,4]) (by simp) (f:=fun r=>zab.mk y.ineq r y.a y.b y.k)
   | false =>
   simp only [cond_false]
   cases q == 2 with
   | true=>exact one (l:=[(-1),k,(len out),0]) (by simp) (f:=fun r=>zab.mk y.ineq y.kind r y.b y.k)
   | false =>
   simp only [cond_false]
   cases q == 3 with
   | true=>exact one (l:=[(-1),k,1]) (by simp) (f:=fun r=>zab.mk y.ineq y.kind y.a r y.k)
   | false =>
   simp only [cond_false]
   cases q == 4 with
   | true=>exact one (l:=[(-1),1,1001]) (by simp) (f:=fun r=>zab.mk y.ineq y.kind y.a y.b r)
   | false =>
   simp only [cond_false]
   cases q == 5 with
   | false=>exact ⟨_,_,rfl,h3.le,by omega⟩
   | true =>
   simp only [cond_true]
   refine (zaX (n:=n + 980) (c:=c3) h3.le 3).bind fun z c4 h4 hz=>?_
   dsimp only
   have hw:wr (399 + z)=399 + z:=wr_of _ (by omega) (by omega)
   rw [hw]
   refine zcu (fun s=>402 - s.1.length) (fun s=>okC (n + 2 + 2 * (402 - s.1.length)) (l1Cur.mk s.2.1 s.2.2.1 s.2.2.2)∧out.length≤s.1.length∧s.1.length≤402) (fun s=>okC n (l1Cur.mk s.2.1 s.2.2.1 s.2.2.2)∧s.1.length≤402) ⟨h4.le (by dsimp only;omega),by dsimp only;omega,by dsimp only;omega⟩ ?_ (fun s hs=>⟨_,_,rfl,hs⟩)
   rintro ⟨os,cd,at_,sd⟩ ⟨k1,k2,k3⟩
   simp only at k1 k2 k3 ⊢
   have e0:n + 2 + 2 * (402 - os.length)=(n + 2 * (402 - os.length)) + 2:=by omega
   rw [e0] at k1
   obtain ⟨b,c5,e2,m3,hb⟩:=dr_one k1 2
   rw [e2,zaa]
   dsimp only
   cases b with
   | false=>exact .inr ⟨_,rfl,m3.le,k3⟩
   | true =>
   cases hd:decide (len os < 399 + z) with
   | false=>exact .inr ⟨_,rfl,m3.le,k3⟩
   | true =>
    have hlt:(os.length:Int) < 399 + z:=by have:=of_decide_eq_true hd;rwa [zak] at this
    left
    obtain ⟨u,hu,_⟩:=ix_of (xs:=os) (i:=k) hk.1 (by omega)
    simp only [cond_true]
    rw [hu,zaa,zaB (by simp;omega),zaa]
    have:=loop_ex (T:=List zab) (B:=Lp (List zab×List Int×Int×Int) Empty) (s0:=os++[zab.mk u.ineq 5 k 0 1]) (k:=fun s917007=>some (Lp.nx (s917007,c5.code,c5.at_,c5.seed))) (lx:=fun x917007=>nomatch x917007)
     (body:=fun s917007=>(bif (decide ((len s917007) < 399 + z)) then bd (ix s917007 (wr ((len s917007) - 1))) (fun x917064=>bd (app s917007 [x917064]) (fun xs917073=>some (Lp.nx xs917073))) else some (Lp.bk s917007)))
     (R:=fun r=>∃ s',r=.nx s'∧((okC (n + 2 + 2 * (402 - s'.1.length)) (l1Cur.mk s'.2.1 s'.2.2.1 s'.2.2.2)∧out.length≤s'.1.length∧s'.1.length≤402)∧402 - s'.1.length < 402 - os.length))
     (fun s=>402 - s.length) (fun s=>os.length + 1≤s.length∧s.length≤402) (fun s=>os.length + 1≤s.length∧s.length≤402) ⟨by simp,by simp;omega⟩ (fun s hs=>by
      cases hd:decide (len s < 399 + z) with
      | false=>exact .inr ⟨s,rfl,hs⟩
      | true =>
       have hlt:(s.length:Int) < 399 + z:=by have:=of_decide_eq_true hd;rwa [zak] at this
       left
       obtain ⟨u,hu,_⟩:=ix_of (xs:=s) (i:=(s.length:Int) - 1) (by omega) (by omega)
       simp only [cond_true]
       rw [show wr (len s - 1)=(s.length:Int) - 1 from zbQ (by omega),hu,zaa,zaB (by simp;omega),zaa]
       exact ⟨_,rfl,⟨by simp;omega,by simp;omega⟩,by simp;omega⟩)
     (fun s hs=>⟨_,rfl,_,rfl,⟨m3.le (by dsimp only;omega),by dsimp only;omega,by dsimp only;omega⟩,by dsimp only;omega⟩)
    exact nx_of this
end Go.PF
