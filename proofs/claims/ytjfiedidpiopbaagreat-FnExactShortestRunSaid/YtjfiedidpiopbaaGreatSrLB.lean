/- Helpers of the walks and plain laws. -/
import Derived.Test.YtjfiedidpiopbaaGreatSrLA
import Derived.ProofKit
import Derived.OpenShut
import Derived.WideKeyArgs
import Derived.Shelf.SlSortCmp.Kit1
import Derived.Sort.LotA
import Derived.Lib.SlicesCompact
import Derived.Shelf.SlicesE.Compact
import Derived.Ground.SlgnProg
import Derived.Shelf.Sort.Plain
import Derived.Shelf.Slices.In.SortNone
import Derived.RangeFuncRecord
import Derived.Shelf.SlicesE.Delete
import Derived.Laws.StructEq
import Derived.KernelRfl
import Derived.Lib.AppendZerosOnto
import Derived.Lib.ItoaNum
import Derived.Shelf.Strconv.Itoa3
import Derived.Lib.ItoaLen
import Derived.Laws.Slices
import Derived.OrdersIn
set_option linter.unusedVariables false
namespace Go.Pu
def okI (n:Int):Prop:=-9223372036854775808≤n∧n≤9223372036854775807
def okL {A:Type} (ok:A→Prop) (xs:List A):Prop:=xs.length≤9223372036854775807∧∀ x∈xs,ok x
section
variable {α β S X:Type}
theorem forL_inv {body:Nat→α→S→Option (Lp S X)} (I:Nat→S→Prop) {l:List α} {s:S} (h0:I 0 s)
 (hb:∀ i x s,l[i]?=some x→I i s→∃ s',body i x s=some (.nx s')∧I (i + 1) s'):∃ s',forL l body s=some (.go s')∧I l.length s':=by
 have key:∀ (m p:List α) (s:S),l=p++m→I p.length s→∃ s',zas body m p.length s=some (.go s')∧I l.length s':=by
  intro m
  induction m with
  | nil =>
   intro p s hm hi
   refine ⟨s,rfl,?_⟩
   rw [hm,List.append_nil];exact hi
  | cons x m ih =>
   intro p s hm hi
   have hx:l[p.length]?=some x:=by rw [hm];simp
   obtain ⟨s',h1,h2⟩:=hb p.length x s hx hi
   obtain ⟨s'',h3,h4⟩:=ih (p++[x]) s' (by rw [hm];simp) (by simpa using h2)
   refine ⟨s'',?_,h4⟩
   rw [zas,h1]
   simpa using h3
 exact key l [] s rfl h0
theorem forL_foldI {body:Nat→α→S→Option (Lp S X)} (g:S→α→S) {l:List α} {s:S} (I:Nat→S→Prop) (h0:I 0 s) (h:∀ i x t,l[i]?=some x→I i t→body i x t=some (.nx (g t x))∧I (i + 1) (g t x)):forL l body s=some (.go (l.foldl g s))∧I l.length (l.foldl g s):=by
 obtain ⟨s',h1,h2,h3⟩:=forL_inv (X:=X) (body:=body) (fun i t=>t=(l.take i).foldl g s∧I i t) (l:=l) (s:=s) ⟨by simp,h0⟩ (fun i x t hx ht=>⟨g t x,(h i x t hx ht.2).1,by
  obtain ⟨rfl,_⟩:=ht
  rw [List.take_add_one,hx]
  simp,(h i x t hx ht.2).2⟩)
 rw [List.take_length] at h2
 subst h2
 exact ⟨h1,h3⟩
def anyI (p:Nat→α→Bool):List α→Nat→Bool
 | [],_=>false
 | y::l,i=>p i y || anyI p l (i + 1)
theorem zbi (p:α→Bool) (l:List α) (i:Nat):anyI (fun _ y=>p y) l i=l.any p:=by
 induction l generalizing i with
 | nil=>rfl
 | cons y l ih=>simp [anyI,ih]
theorem anyI_false {p:Nat→α→Bool}:∀ {l:List α} {k:Nat},anyI p l k=false↔∀ i y,l[i]?=some y→p (k + i) y=false:=by
 intro l
 induction l with
 | nil=>intro k;simp [anyI]
 | cons y l ih =>
  intro k
  simp only [anyI,Bool.or_eq_false_iff,ih]
  constructor
  · rintro ⟨h1,h2⟩ i z hz
    cases i with
    | zero=>simp at hz;subst hz;simpa using h1
    | succ i=>have:=h2 i z (by simpa using hz);rwa [show k + 1 + i=k + (i + 1) by omega] at this
  · intro h
    refine ⟨by simpa using h 0 y rfl,fun i z hz=>?_⟩
    have:=h (i + 1) z (by simpa using hz);rwa [show k + (i + 1)=k + 1 + i by omega] at this
theorem zcn {body:Nat→α→Unit→Option (Lp Unit X)} {p:Nat→α→Bool} {v:X} {l:List α} {u:Unit} (h:∀ i y,l[i]?=some y→body i y ()=(bif p i y then some (.rt v) else some (.nx ()))) :
 forL l body u=some (bif anyI p l 0 then .rt v else .go ()):=by
 have key:∀ (m:List α) (k:Nat),(∀ i y,m[i]?=some y→body (k + i) y ()=(bif p (k + i) y then some (.rt v) else some (.nx ())))→zas body m k ()=some (bif anyI p m k then .rt v else .go ()):=by
  intro m
  induction m with
  | nil=>intro k _;rfl
  | cons y m ih =>
   intro k hm
   have h0:=hm 0 y rfl
   rw [Nat.add_zero] at h0
   rw [zas,h0]
   cases hp:p k y with
   | true=>simp [anyI,hp]
   | false =>
    simp only [cond_false,anyI,hp,Bool.false_or]
    exact ih (k + 1) fun i z hz=>by have:=hm (i + 1) z (by simpa using hz);rwa [show k + (i + 1)=k + 1 + i by omega] at this
 exact key l 0 fun i y hy=>by rw [Nat.zero_add];exact h i y hy
def findI (p:Nat→α→Bool):List α→Nat→Option (Nat×α)
 | [],_=>none
 | y::l,i=>bif p i y then some (i,y) else findI p l (i + 1)
theorem forL_find {body:Nat→α→Unit→Option (Lp Unit X)} {p:Nat→α→Bool} {v:Nat→α→X} {l:List α} {u:Unit} (h:∀ i y,l[i]?=some y→body i y ()=(bif p i y then some (.rt (v i y)) else some (.nx ()))) :
 forL l body u=some (match findI p l 0 with|some z=>.rt (v z.1 z.2)|none=>.go ()):=by
 have key:∀ (m:List α) (k:Nat),(∀ i y,m[i]?=some y→body (k + i) y ()=(bif p (k + i) y then some (.rt (v (k + i) y)) else some (.nx ())))→zas body m k ()=some (match findI p m k with|some z=>.rt (v z.1 z.2)|none=>.go ()):=by
  intro m
  induction m with
  | nil=>intro k _;rfl
  | cons y m ih =>
   intro k hm
   have h0:=hm 0 y rfl
   rw [Nat.add_zero] at h0
   rw [zas,h0]
   cases hp:p k y with
   | true=>simp [findI,hp]
   | false =>
    simp only [cond_false,findI,hp]
    exact ih (k + 1) fun i z hz=>by have:=hm (i + 1) z (by simpa using hz);rwa [show k + (i + 1)=k + 1 + i by omega] at this
 exact key l 0 fun i y hy=>by rw [Nat.zero_add];exact h i y hy
theorem zcP {p:Nat→α→Bool}:∀ {l:List α} {k:Nat},findI p l k=none↔anyI p l k=false:=by
 intro l
 induction l with
 | nil=>intro k;simp [findI,anyI]
 | cons y l ih =>
  intro k
  simp only [findI,anyI]
  cases p k y <;> simp [ih]
theorem zcQ {p:Nat→α→Bool}:∀ {l:List α} {k:Nat} {z:Nat×α},findI p l k=some z→k≤z.1∧l[z.1 - k]?=some z.2∧p z.1 z.2=true∧anyI p l k=true:=by
 intro l
 induction l with
 | nil=>intro k z h;simp [findI] at h
 | cons y l ih =>
  intro k z h
  simp only [findI] at h
  cases hp:p k y with
  | true=>rw [hp] at h;simp at h;subst h;simp [anyI,hp]
  | false =>
   rw [hp] at h
   simp only [cond_false] at h
   obtain ⟨h1,h2,h3,h4⟩:=ih h
   refine ⟨by omega,?_,h3,by simp [anyI,h4]⟩
   rw [show z.1 - k=(z.1 - (k + 1)) + 1 by omega,List.getElem?_cons_succ];exact h2
theorem iter_any {xs:List α} {body:Int→Option (Lp Int X)} {p:Nat→α→Bool} {v:X} (h:∀ (i:Nat) y,xs[i]?=some y→body (i:Int)=(bif p i y then some (.rt v) else some (.nx ((i:Int) + 1)))) (he:body (xs.length:Int)=some (.bk (xs.length:Int))) :
 iter body 0=some (bif anyI p xs 0 then .rt v else .go (xs.length:Int)):=by
 have key:∀ (m:List α) (k:Nat),k + m.length=xs.length→(∀ i y,m[i]?=some y→xs[k + i]?=some y)→iter body (k:Int)=some (bif anyI p m k then .rt v else .go (xs.length:Int)):=by
  intro m
  induction m with
  | nil =>
   intro k hk _
   simp only [List.length_nil,Nat.add_zero] at hk
   subst hk
   rw [zaP he];rfl
  | cons y m ih =>
   intro k hk hm
   have h0:=h k y (by have:=hm 0 y rfl;simpa using this)
   cases hp:p k y with
   | true=>rw [hp] at h0;rw [iter_rt h0];simp [anyI,hp]
   | false =>
    rw [hp] at h0
    rw [zbq h0]
    simp only [anyI,hp,Bool.false_or]
    exact ih (k + 1) (by simp at hk;omega) fun i z hz=>by have:=hm (i + 1) z (by simpa using hz);rwa [show k + (i + 1)=k + 1 + i by omega] at this
 have:=key xs 0 (by simp) (by simp)
 simpa using this
theorem iter_while {xs:List α} {body:Int→Option (Lp Int X)} {p:α→Bool} (h:∀ (i:Nat) y,xs[i]?=some y→body (i:Int)=(bif p y then some (.nx ((i:Int) + 1)) else some (.bk (i:Int)))) (he:body (xs.length:Int)=some (.bk (xs.length:Int))) :
 iter body 0=some (.go ((xs.takeWhile p).length:Int)):=by
 have key:∀ (m:List α) (k:Nat),k + m.length=xs.length→(∀ i y,m[i]?=some y→xs[k + i]?=some y)→iter body (k:Int)=some (.go ((k + (m.takeWhile p).length:Nat):Int)):=by
  intro m
  induction m with
  | nil =>
   intro k hk _
   simp only [List.length_nil,Nat.add_zero] at hk
   subst hk
   rw [zaP he];rfl
  | cons y m ih =>
   intro k hk hm
   have h0:=h k y (by have:=hm 0 y rfl;simpa using this)
   cases hp:p y with
   | true =>
    rw [hp] at h0
    rw [zbq h0,List.takeWhile_cons,if_pos hp]
    have:=ih (k + 1) (by simp at hk;omega) fun i z hz=>by have:=hm (i + 1) z (by simpa using hz);rwa [show k + (i + 1)=k + 1 + i by omega] at this
    rw [show ((k:Int) + 1)=((k + 1:Nat):Int) by simp,this]
    simp;omega
   | false =>
    rw [hp] at h0
    rw [zaP h0,List.takeWhile_cons,if_neg (by simp [hp])];simp
 have:=key xs 0 (by simp) (by simp)
 simpa using this
theorem zaE {xs:List α} {i:Nat}:ix xs (i:Int)=xs[i]?:=by simp [ix]
theorem ix_of {xs:List α} {i:Int} (h0:0≤i) (h1:i < xs.length):∃ x,ix xs i=some x∧xs[i.toNat]?=some x:=by
 refine ⟨xs[i.toNat]'(by omega),?_,List.getElem?_eq_getElem (by omega)⟩
 unfold ix;rw [if_pos h0];exact List.getElem?_eq_getElem (by omega)
theorem wr_pred {i n:Nat} (hi:0 < i) (h:i < n) (hn:n≤9223372036854775807):wr ((i:Int) - 1)=((i - 1:Nat):Int):=by rw [wr_of _ (by omega) (by omega)];omega
theorem wr_succ {i n:Nat} (h:i < n) (hn:n≤9223372036854775807):wr ((i:Int) + 1)=(i:Int) + 1:=wr_of _ (by omega) (by omega)
theorem zaX {xs ys:List α} (h:xs.length + ys.length≤lim):app xs ys=some (xs++ys):=by unfold app;rw [if_pos h]
theorem cut_ok {xs:List α} {a b:Nat} (h:a≤b) (hb:b≤xs.length):cut xs (a:Int) (b:Int)=some ((xs.take b).drop a):=by unfold cut;rw [if_pos (by omega)];simp
theorem put_ok {xs:List α} {i:Nat} {x:α} (h:i < xs.length):put xs (i:Int) x=some (xs.set i x):=by unfold put;rw [if_pos (by omega)];simp
theorem mk2_ok {z:α} {n:Nat} (h:n≤lim):mk2 z (n:Int) (n:Int)=some (List.replicate n z):=by unfold mk2;rw [if_pos (by unfold lim at h ⊢;omega)];simp
theorem zah (xs:List α):len xs=(xs.length:Int):=rfl
@[simp] theorem bif_ff {c d:Bool}:(bif c then d else false)=(c && d):=by cases c <;> rfl
@[simp] theorem bif_tt {c d:Bool}:(bif c then true else d)=(c || d):=by cases c <;> rfl
def adj (r:α→α→Bool):List α→Bool
 | a::b::l=>r a b && adj r (b::l)
 | _=>true
theorem anyI_adj {q:α→Bool} {r:α→α→Bool} {l:List α} {p:Nat→α→Bool} (h0:∀ y,l[0]?=some y→p 0 y=q y) (h:∀ (i:Nat) x y,l[i]?=some x→l[i + 1]?=some y→p (i + 1) y=(q y || !r x y)) :
 anyI p l 0 = !(l.all (fun y => !q y) && adj r l):=by
 have key:∀ (m:List α) (k:Nat) (x:α),l[k]?=some x→(∀ i y,m[i]?=some y→l[k + 1 + i]?=some y)→anyI p m (k + 1) = !(m.all (fun y => !q y) && adj r (x::m)):=by
  intro m
  induction m with
  | nil=>intro k x _ _;rfl
  | cons y m ih =>
   intro k x hx hm
   have hy:l[k + 1]?=some y:=by simpa using hm 0 y rfl
   simp only [anyI,List.all_cons,adj]
   rw [h k x y hx hy,ih (k + 1) y hy fun i z hz=>by have:=hm (i + 1) z (by simpa using hz);rwa [show k + 1 + (i + 1)=k + 1 + 1 + i by omega] at this]
   cases q y <;> cases r x y <;> cases m.all (fun y => !q y) <;> simp
 cases l with
 | nil=>rfl
 | cons x m =>
  simp only [anyI,List.all_cons]
  rw [h0 x rfl,Nat.zero_add,key m 0 x rfl (by intro i y hy;rw [show 0 + 1 + i=i + 1 by omega];simpa using hy)]
  cases q x <;> simp
def tot (wt:α→Nat):List α→Nat
 | []=>0
 | y::l=>wt y + tot wt l
theorem tot_mem {wt:α→Nat} {l:List α} {y:α} (h:y∈l):wt y≤tot wt l:=by
 induction l with
 | nil=>cases h
 | cons x l ih =>
  simp only [tot]
  rcases List.mem_cons.1 h with rfl|h
  · omega
  · have:=ih h;omega
theorem sz_loop {sz:α→Int→Option Int} {wt:α→Nat}:∀ {l:List α} {i:Nat} {s:Int},(∀ y∈l,∀ s:Int,0≤s→s≤1048576→∃ t,sz y s=some t∧(t < 0∨t + wt y=s))→0≤s→s≤1048576 →
 ∃ q,zas (X:=Int) (fun _ y s=>bd (sz y s) fun t=>bif decide (t < 0) then some (.rt (-1)) else some (.nx t)) l i s=some q∧match q with|.rt v=>v=-1|.go t=>0≤t∧t + tot wt l=s:=by
 intro l
 induction l with
 | nil=>intro i s _ h0 _;exact ⟨_,rfl,h0,by simp [tot]⟩
 | cons y l ih =>
  intro i s h h0 h1
  obtain ⟨t,h2,h3⟩:=h y (by simp) s h0 h1
  simp only [zas,h2,zaa]
  by_cases ht:t < 0
  · simp only [ht,decide_true,cond_true]
    exact ⟨_,rfl,rfl⟩
  · simp only [ht,decide_false,cond_false]
    obtain ⟨q,h4,h5⟩:=ih (i:=i + 1) (s:=t) (fun z hz=>h z (by simp [hz])) (by omega) (by omega)
    refine ⟨q,h4,?_⟩
    cases q with
    | rt v=>exact h5
    | go u=>exact ⟨h5.1,by simp only [tot];omega⟩
theorem sz_list {sz:α→Int→Option Int} {wt:α→Nat} {l:List α} {s:Int} {f:Nat→α→Int→Option (Lp Int Int)} (hf:∀ i y s,f i y s=bd (sz y s) fun t=>bif decide (t < 0) then some (.rt (-1)) else some (.nx t))
 (h:∀ y∈l,∀ s:Int,0≤s→s≤1048576→∃ t,sz y s=some t∧(t < 0∨t + wt y=s)) (hl:l.length≤9223372036854775807) (h0:0≤s) (h1:s≤1048576) :
 ∃ r,(bif (decide ((wr (s - (len l))) < 0)) then some (-1) else bdR (forL (S:=Int) (X:=Int) l f (wr (s - (len l)))) (fun s=>some s) (fun x=>some x))=some r∧(r < 0∨r + (l.length + tot wt l:Nat)=s):=by
 have e:f=fun _ y s=>bd (sz y s) fun t=>bif decide (t < 0) then some (.rt (-1)) else some (.nx t):=by funext i y s;exact hf i y s
 subst e
 rw [wr_of _ (by rw [zah];omega) (by rw [zah];omega)]
 by_cases hn:s - len l < 0
 · simp only [hn,decide_true,cond_true]
   exact ⟨_,rfl,.inl (by omega)⟩
 · simp only [hn,decide_false,cond_false]
   obtain ⟨q,h2,h3⟩:=sz_loop (l:=l) (i:=0) (s:=s - len l) h (by omega) (by rw [zah];omega)
   unfold forL
   rw [h2]
   cases q with
   | rt v=>simp only at h3;subst h3;exact ⟨-1,rfl,.inl (by omega)⟩
   | go t=>exact ⟨t,rfl,.inr (by rw [zah] at h3;omega)⟩
theorem to_list {f:Nat→α→List β→Option (Lp (List β) Empty)} {g:α→Option β} {h:α→β} {z:β} {l:List α} (hf:∀ i y s,f i y s=bd (g y) fun r=>bd (ix s (i:Int)) fun _=>bd (put s (i:Int) r) fun xs=>some (.nx xs)) (hg:∀ y∈l,g y=some (h y))
 (hl:l.length≤lim):bd (mk2 z (len l) (len l)) (fun xs=>bdR (forL (S:=List β) (X:=Empty) l f xs) (fun s=>some s) (fun x=>nomatch x))=some (l.map h):=by
 rw [zah,mk2_ok hl,zaa]
 obtain ⟨s',h1,h2,h3⟩:=forL_inv (X:=Empty) (body:=f) (fun i t=>t=(l.take i).map h++List.replicate (l.length - i) z∧i≤l.length) (l:=l) (s:=List.replicate l.length z) (by simp) (fun i x t hx ht=>by
  obtain ⟨rfl,_⟩:=ht
  have hi:=(List.getElem?_eq_some_iff.1 hx).1
  have hm:x∈l:=List.mem_of_getElem? hx
  have hlen:((l.take i).map h++List.replicate (l.length - i) z).length=l.length:=by simp;omega
  obtain ⟨u,hu,_⟩:=ix_of (xs:=(l.take i).map h++List.replicate (l.length - i) z) (i:=(i:Int)) (by omega) (by omega)
  refine ⟨_,by rw [hf,hg x hm,zaa,hu,zaa,put_ok (by omega)];rfl,?_,by omega⟩
  rw [List.set_append_right _ _ (by simp;omega),List.length_map,List.length_take,Nat.min_eq_left (by omega),Nat.sub_self]
  obtain ⟨m,hm'⟩:∃ m,l.length - i=m + 1:=⟨l.length - i - 1,by omega⟩
  rw [hm',List.replicate_succ,List.set_cons_zero,List.take_add_one,hx]
  simp [show l.length - (i + 1)=m by omega])
 rw [h1]
 simp only [za3,h2,List.take_length,Nat.sub_self,List.replicate_zero,List.append_nil]
theorem eq_list {f:Nat→α→Unit→Option (Lp Unit Bool)} {eq:α→α→Option Bool} {l:List α} (hf:∀ i y u,f i y u=bd (ix l (i:Int)) fun x=>bd (eq y x) fun r=>bif !r then some (.rt false) else some (.nx ())) (he:∀ y∈l,eq y y=some true) :
 (bif (!((len l) == (len l))) then some false else bdR (forL (S:=Unit) (X:=Bool) l f ()) (fun _=>some true) (fun x=>some x))=some true:=by
 rw [zcn (p:=fun _ _=>false) (v:=false) (fun i y hy=>by
  rw [hf,zaE,hy,zaa,he y (List.mem_of_getElem? hy),zaa];rfl)]
 have:anyI (fun _ _=>false) l 0=false:=anyI_false.2 fun _ _ _=>rfl
 rw [this];simp
theorem mark_end {F:α→Int→α×Int} {wt:α→Nat}:∀ {l:List α} {k:Int},(∀ y∈l,∀ k:Int,0≤k→k + wt y≤9223372036854775807→(F y k).2=k + wt y)→0≤k→k + tot wt l≤9223372036854775807→(zav F l k).2=k + tot wt l:=by
 intro l
 induction l with
 | nil=>intro k _ _ _;simp [zav,tot]
 | cons y l ih =>
  intro k h h0 h1
  simp only [tot] at h1 ⊢
  have e:=h y (by simp) k h0 (by omega)
  simp only [zav]
  rw [ih (fun z hz=>h z (by simp [hz])) (by omega) (by omega),e];omega
theorem held_list {F:α→Int→α×Int} {wt:α→Nat} {f:Nat→α→Int→Option (Lp Int Int)}:∀ {l:List α} {k:Int} {i:Nat},(∀ y∈l,∀ k:Int,0≤k→k + wt y≤9223372036854775807→(F y k).2=k + wt y∧∀ i,f i (F y k).1 k=some (.nx (F y k).2))→0≤k→k + tot wt l≤9223372036854775807 →
 zas f (zav F l k).1 i k=some (.go (zav F l k).2):=by
 intro l
 induction l with
 | nil=>intro k i _ _ _;rfl
 | cons y l ih =>
  intro k i h h0 h1
  simp only [tot] at h1
  obtain ⟨e,hb⟩:=h y (by simp) k h0 (by omega)
  simp only [zav,zas,hb]
  exact ih (fun z hz=>h z (by simp [hz])) (by omega) (by omega)
theorem zcR {α S X:Type} {body:Nat→α→S→Option (Lp S X)} {a:α} {l:List α} {i:Nat} {s s':S} (h:body i a s=some (.nx s')):zas body (a::l) i s=zas body l (i + 1) s':=by
 simp only [zas,h]
theorem zd0 {α S X:Type} {body:Nat→α→S→Option (Lp S X)} {i:Nat} {s:S}:zas body [] i s=some (.go s):=rfl
end
end Go.Pu
namespace Go.Mr
open Go.RowKit Go.Pu
def hpOf (w:World):GH:=fun b=>w.heap[b]?
theorem sl_hpOf (w:World):Sl (hpOf w) w:=fun _ _ h=>h
def RdT (P:Program) (w:World) (t:TypeId) {A:Type} (En:Enc A) (ok:A→Prop):Prop :=
 ∀ {H:Type} {enc:TypeId×Value→H} {base:Nat} {spare:Nat→Bool} {held:Bool} {fuel:Nat} {cs:List Value} {x:DataW H×List MemPlace},DataW.trod enc P w base spare held fuel t cs=some x→∃ a,En.rel (hpOf w) cs a∧ok a
section
variable {P:Program} {w:World} {t e k:Nat} {A:Type} {En:Enc A} {ok:A→Prop}
theorem okI_wf {n:Int} (h:(Lit.int .i64 n).wf=true):okI n:=by
 simp [Lit.wf,IntKind.min,IntKind.max,IntKind.signed,IntKind.bits] at h
 exact h
theorem RdT.int (ht:P.underlying t=some (.int .i64)):RdT P w t eI okI:=fun h=>by
 obtain ⟨n,rfl,_,hw⟩:=DataW.trod_int ht h;exact ⟨n,rfl,okI_wf hw⟩
theorem cell_block {p:Addr} {c:Value} (h:w.cell? p=some c):p.spot=Option.none∧∃ arr e fr,w.heap[p.block]?=some (.cells arr e fr)∧arr[p.off]?=some c:=by
 have hs:=World.cell?_spot h
 refine ⟨hs,?_⟩
 unfold World.cell? at h
 split at h
 · rename_i arr e fr hb
   split at h
   · cases h
   · exact ⟨arr,e,fr,hb,h⟩
 · cases h
theorem cat_of_cells {base:Nat} {p:Addr} {cs:List Value} (hk:0 < k) (h:w.cells? base p k=some cs):cs.length=k∧CAt (hpOf w) p cs:=by
 obtain ⟨_,hl,hc⟩:=World.cells?_some h
 refine ⟨hl,?_⟩
 obtain ⟨c0,h0⟩:∃ c0,cs[0]?=some c0:=⟨cs[0]'(by omega),List.getElem?_eq_getElem (by omega)⟩
 have:=hc 0 hk
 rw [h0,Addr.add_zero'] at this
 obtain ⟨hs,arr,e,fr,hb,_⟩:=cell_block this
 refine ⟨arr,e,fr,hb,hs,fun j c hj=>?_⟩
 have hjk:j < k:=by rw [← hl];exact (List.getElem?_eq_some_iff.1 hj).1
 have h2:=hc j hjk
 rw [hj] at h2
 obtain ⟨_,arr',e',fr',hb',hc'⟩:=cell_block h2
 have hbl:(p.add j).block=p.block:=by unfold Addr.add;split <;> rfl
 rw [hbl,hb] at hb'
 cases hb'
 rw [addr_eta hs] at hc'
 exact hc'
theorem RdT.slice (ht:P.underlying t=some (.slice e)) (hc:P.cellsOf e=k) (hk:0 < k) (he:RdT P w e En ok):RdT P w t (eL En k) (okL ok):=fun {H enc base spare held fuel cs x} h=>by
 rcases DataW.trod_slice ht h with ⟨rfl,_⟩|⟨a,len,cap,elems,rest,n,_,rfl,_,_,hle,hm,hlen,hel,_⟩
 · exact ⟨[],⟨_,rfl,RSl.nil _ _ _⟩,by simp,by simp⟩
 · rw [hc] at hel
   have key:∀ m,m≤len→∃ xs:List A,xs.length=m∧∀ i x,xs[i]?=some x→∃ cs,cs.length=k∧CAt (hpOf w) (a.add (i * k)) cs∧En.rel (hpOf w) cs x∧ok x:=by
    intro m
    induction m with
    | zero=>intro _;exact ⟨[],rfl,by simp⟩
    | succ m ih =>
     intro hlt
     obtain ⟨xs,h1,h2⟩:=ih (by omega)
     have h3:=hel m (by omega)
     rw [List.getElem?_eq_getElem (by omega)] at h3
     obtain ⟨cs',h4,h5⟩:=Option.bind_eq_some_iff.1 h3
     obtain ⟨y,hy,hok⟩:=he h5
     obtain ⟨h6,h7⟩:=cat_of_cells hk h4
     refine ⟨xs++[y],by simp [h1],fun i x hx=>?_⟩
     rcases Nat.lt_or_ge i xs.length with hi|hi
     · rw [List.getElem?_append_left hi] at hx;exact h2 i x hx
     · have:i=xs.length:=by have:=(List.getElem?_eq_some_iff.1 hx).1;simp at this;omega
       subst this
       simp at hx;subst hx
       rw [h1]
       exact ⟨cs',h6,h7,hy,hok⟩
   obtain ⟨xs,h1,h2⟩:=key len (Nat.le_refl _)
   subst h1
   refine ⟨xs,⟨_,rfl,some a,cap,rfl,⟨by omega,nofun,hle⟩,fun i x hx=>let ⟨cs,g1,g2,g3,_⟩:=h2 i x hx;⟨a,cs,rfl,g1,g2,g3⟩⟩,by simp only [maxLen] at hm;omega,fun x hx=>?_⟩
   obtain ⟨i,hi⟩:=List.mem_iff_getElem?.1 hx
   obtain ⟨_,_,_,_,h⟩:=h2 i x hi
   exact h
variable {H:Type} {enc:TypeId×Value→H} {base b0:Nat} {spare:Nat→Bool} {held:Bool} {r:Reach} {v:Value} {d:DataW H} {ps:List MemPlace}
theorem arg_struct {fs:Array Field} (ht:P.underlying t=some (.struct fs)) (he:RdT P w t En ok) (hval:Value.okWide P w r b0 t v) (h:DataW.Trod enc P w base spare held t v d ps):∃ (x:A) (cs:List Value),v=.agg cs.toArray∧En.rel (hpOf w) cs x∧ok x:=by
 obtain ⟨cs,rfl,_⟩:=WideShapes.okWide_struct ht hval
 obtain ⟨fuel,h⟩:=h
 obtain ⟨x,hx,ho⟩:=he h
 exact ⟨x,_,by simp [Value.cells],hx,ho⟩
theorem trod_stays {W W':World} (hl:laidOutB P=true) (hr:P.readableRec t=true) (hrow:t < P.types.size) (hb:Below W.heap.size W W') {ps:List MemPlace} (hp:∀ p∈ps,p.block < W.heap.size)
 (h:DataW.Trod enc P W base (fun _=>true) true t v d ps):DataW.Trod enc P W' base (fun b=>decide (b < W.heap.size)) true t v d ps :=
 WideElems.Trod_stays hl hr hrow h (fun p h=>hb.same (hp p h)) (fun p h=>by simpa using hp p h)
end
theorem post_law {H:Type} {enc:TypeId×Value→H} {P:Program} {f:Func} {s:ChangeSpec} {W W':World} {args:Array Value} {ds:List (DataW H)} {p:List MemPlace} {tb:TypeId}
 (hW:DataW.Whole enc P f.params.toList s.vars false W args.toList ds [] (p++[])) (hv:s.vars=[]) (hf:(s.fn H (ds++[]))={ results:=[.lit (.bool true)],args:=ds }) (hrt:f.resultTypes.toList=[tb]) (hrs:f.resultTypes.size=1)
 (htb:P.underlying tb=some .bool) (hA:DataW.TrodAll enc P W' 0 (fun b=>decide (b < W.heap.size)) true f.params.toList args.toList ds p) (hb:Below W.heap.size W W') :
 s.post enc P f false true false false W args (.bool true) W':=by
 refine ⟨ds,[],p++[],[],p,[],hW,?_,?_,?_,hb.frame _,fun h=>by cases h⟩
 · rw [hf,hrt,hrs]
   exact trodAll_cons_mk (shut_bool htb _) ChangeShapes.trodAll_mk0
 · rw [hf];exact hA
 · rw [hf,hv];rfl
end Go.Mr
namespace Go.Mr
open Go.RowKit Go.Pu Go.Sort
open Go.Proofs (OneCell CmpLays1 sortWorld ltOf)
section
variable {P:Program} {w w':World} {H0 H H':GH} {w0:World} {l:List MO} {e n:Nat} {v:Value} {A:Type} {En:Enc A}
def El1 {A:Type} (En:Enc A) (H:GH) (xs:List A):Type:={ p:Value×A // En.rel H [p.1] p.2∧p.2∈xs }
def El1.enc {H:GH} {xs:List A} (p:El1 En H xs):Value:=p.1.1
def El1.x {H:GH} {xs:List A} (p:El1 En H xs):A:=p.1.2
theorem El1.oneCell {H:GH} {xs:List A}:OneCell (El1.enc (En:=En) (H:=H) (xs:=xs)):=fun p=>Enc.one1 p.2.1
theorem els1_arr {H:GH} {cells:List Value} {xs:List A} (h:Els H En 1 cells xs) (ys:List A) (hs:∀ x∈xs,x∈ys):∃ d:List (El1 En H ys),d.map El1.enc=cells∧d.map El1.x=xs:=by
 induction h with
 | nil=>exact ⟨[],rfl,rfl⟩
 | snoc hp hc hx ih =>
  rename_i cells xs c x
  obtain ⟨d,h1,h2⟩:=ih (fun y hy=>hs y (by simp [hy]))
  match c,hc,hx with
  | [c0],_,hx=>exact ⟨d++[⟨(c0,x),hx,hs x (by simp)⟩],by rw [List.map_append,h1];rfl,by rw [List.map_append,h2];rfl⟩
theorem els1_of {H:GH} {ys:List A} (d:List (El1 En H ys)):Els H En 1 (d.map El1.enc) (d.map El1.x):=by
 rw [← List.reverse_reverse d]
 generalize d.reverse=d
 induction d with
 | nil=>exact .nil
 | cons p d ih=>rw [List.reverse_cons,List.map_append,List.map_append];exact .snoc ih rfl p.2.1
theorem heap_sorted1 {α:Type} [Inhabited α] {enc:α→Value} {w:World} {g m:Nat} {os:Array Obj} {cur:Array Value} {e:TypeId} {fr:Nat×Nat} (d:Array α) (hb:w.heap[g]?=some (.cells cur e fr)) :
 (sortWorld enc w g 0 m d os).heap[g]?=some (.cells (putCells enc 0 d cur) e fr):=by
 have hg:g < w.heap.size:=(Array.getElem?_eq_some_iff.1 hb).1
 unfold sortWorld
 rw [heap_grow_old _ _ (by simpa using hg)]
 simp [putRow,mapBlock,Sort.ahead,Array.getElem?_modify,hb,onCells]
theorem zek {α:Type} [Inhabited α] {enc:α→Value} {w:World} {g m:Nat} {os:Array Obj} (d:Array α):w.grownBy (sortWorld enc w g 0 m d os) (some g):=by
 unfold sortWorld
 refine ⟨rfl,rfl,rfl,by simp,fun k hk hne=>?_⟩
 rw [heap_grow_old _ _ (by simpa using hk)]
 have:g≠k:=fun e=>hne (by rw [e])
 simp [putRow,mapBlock,Sort.ahead,Array.getElem?_modify,this]
theorem take_putCells1 {α:Type} [Inhabited α] {enc:α→Value} (cur:Array Value) (ts:List α) (n:Nat) (hn:n≤ts.length) (h:ts.length≤cur.size):(putCells enc 0 ts.toArray cur).toList.take n=(ts.take n).map enc:=by
 apply List.ext_getElem?
 intro j
 by_cases hj:j < n
 · rw [List.getElem?_take_of_lt hj,Array.getElem?_toList]
   simp [putCells,hj,show j < cur.size by omega,show j < ts.length by omega]
 · rw [List.getElem?_take_eq_none (by omega),List.getElem?_eq_none (by simp;omega)]
theorem St.turned (h:St H0 w0 H w l) {i g cap m n':Nat} {cells:List Value} (hi:l[i]?=some (.row e 1 (.slice (some ⟨g,0,Option.none⟩) n cap) n cells)) {α:Type} [Inhabited α] {enc:α→Value} (h1:OneCell enc) (d:List α) (os:Array Obj)
 (hn:n'≤d.length) (hd:d.length≤n) :
 St H0 w0 H (sortWorld enc w g 0 m d.toArray os) (l.set i (.row e 1 (.slice (some ⟨g,0,Option.none⟩) n' cap) n' ((d.take n').map enc))):=by
 obtain ⟨⟨k1,k2⟩,k3⟩:=h.ok i _ hi
 rcases k2 with ⟨h3,_⟩|⟨g',cap',cur,hv,hg,hh,hle,hcm,hsz,htk⟩
 · cases h3
 cases hv
 refine h.upd hi (zek _) (by unfold sortWorld;simp [Sort.ahead,Go.Sort.grow]) ⟨⟨by simp;omega,.inr ⟨g,cap,_,rfl,hg,heap_sorted1 _ hh,by omega,hcm,by simp [putCells,hsz],?_⟩⟩,?_⟩ (fun b hb=>.inl hb)
 · rw [Nat.mul_one];exact take_putCells1 cur d n' hn (by omega)
 · intro u hu
   obtain ⟨y,_,rfl⟩:=List.mem_map.1 hu
   exact h1 y
theorem St.holds1 (h:St H0 w0 H w l) {i g cap:Nat} {cells:List Value} (hi:l[i]?=some (.row e 1 (.slice (some ⟨g,0,Option.none⟩) n cap) n cells)) {α:Type} [Inhabited α] {enc:α→Value} (d:List α) (hd:d.map enc=cells) :
 Holds enc w g 0 d.toArray∧g < w.heap.size∧d.length=n∧n≤cap∧cap≤maxLen:=by
 obtain ⟨⟨k1,k2⟩,k3⟩:=h.ok i _ hi
 rcases k2 with ⟨h3,_⟩|⟨g',cap',cur,hv,hg,hh,hle,hcm,hsz,htk⟩
 · cases h3
 cases hv
 have hl:d.length=n:=by rw [← hd] at k1;simpa using k1
 refine ⟨fun j hj=>?_,(Array.getElem?_eq_some_iff.1 hh).1,hl,hle,hcm⟩
 simp only [List.size_toArray] at hj
 have hc:cells[j]?=some (enc d[j]):=by rw [← hd];simp [hj]
 rw [Nat.zero_add]
 constructor
 · rw [cell_of_row w g _ _ _ _ hh]
   rw [← htk,List.getElem?_take] at hc
   split at hc
   · simpa [hj] using hc
   · cases hc
 · simp [World.frozen?,hh]
theorem St.sl_sorted (h:St H0 w0 H w l) {i g cap m:Nat} {cells:List Value} (hi:l[i]?=some (.row e 1 (.slice (some ⟨g,0,Option.none⟩) n cap) n cells)) {α:Type} [Inhabited α] {enc:α→Value} (d:Array α) (os:Array Obj) :
 Sl H (sortWorld enc w g 0 m d os):=fun b ob hb=>by
 have hw:=h.sl b ob hb
 have hne:some b≠some g:=fun e=>by cases e;rw [h.out i _ g hi rfl] at hb;cases hb
 rw [(zek (os:=os) (m:=m) d).block b (Array.getElem?_eq_some_iff.1 hw).1 hne];exact hw
theorem Run.grown {B:Nat} (hr:Run B H w H' w') (hB:B=w.heap.size):∃ q os',w'=grow (w.drewN q) os':=by
 obtain ⟨hb,_,_,_,hd⟩:=hr
 refine ⟨w'.drawn - w.drawn,w'.heap.extract w.heap.size w'.heap.size,?_⟩
 have h1:w'.heap=w.heap++w'.heap.extract w.heap.size w'.heap.size:=by
  apply Array.ext_getElem?
  intro k
  by_cases hk:k < w.heap.size
  · rw [hb.block k (by omega),Array.getElem?_append_left hk]
  · rw [Array.getElem?_append_right (by omega),Array.getElem?_extract]
    split
    · congr 1;omega
    · rw [Array.getElem?_eq_none (by omega)]
 have h2:w.drawn + (w'.drawn - w.drawn)=w'.drawn:=by omega
 cases w;cases w'
 have:=hb.os;have:=hb.tape;have:=hb.output
 simp only [Go.Sort.grow,World.drewN] at *
 subst_vars
 simp only [World.mk.injEq,and_true]
 exact ⟨h1,trivial,h2.symm⟩
theorem keeps_append {A:Type} [DecidableEq A] [Inhabited A] (xs:List A) (y:A) (j:Nat) (hj:j < xs.length):Go.Lib.keeps (xs++[y]).toArray j=Go.Lib.keeps xs.toArray j:=by
 have h1:(xs++[y]).toArray[j]! = xs.toArray[j]! := by
  rw [getElem!_pos _ j (by simp;omega),getElem!_pos _ j (by simpa using hj)];simp [List.getElem_append_left hj]
 have h2:(xs++[y]).toArray[j - 1]! = xs.toArray[j - 1]! := by
  rw [getElem!_pos _ (j - 1) (by simp;omega),getElem!_pos _ (j - 1) (by simp;omega)];simp [List.getElem_append_left (show j - 1 < xs.length by omega)]
 simp only [Go.Lib.keeps,h1,h2]
theorem compactUpTo_append {A:Type} [DecidableEq A] [Inhabited A] (xs:List A) (y:A) (m:Nat) (hm:m≤xs.length):Go.Lib.compactUpTo (xs++[y]).toArray m=Go.Lib.compactUpTo xs.toArray m:=by
 induction m with
 | zero=>rfl
 | succ m ih =>
  rw [Go.Lib.compactUpTo_succ,Go.Lib.compactUpTo_succ,ih (by omega),keeps_append xs y m (by omega)]
  have h1:(xs++[y]).toArray[m]! = xs.toArray[m]! := by
   rw [getElem!_pos _ m (by simp;omega),getElem!_pos _ m (by simp;omega)];simp [List.getElem_append_left (show m < xs.length by omega)]
  rw [h1]
theorem compactL_snoc {A:Type} [DecidableEq A]:∀ (xs:List A) (y:A),zar (xs++[y])=if xs.getLast?=some y then zar xs else zar xs++[y]
 | [],y=>by simp [zar]
 | [x],y=>by
  by_cases h:x=y
  · subst h;simp [zar]
  · simp [zar,h]
 | x::x'::xs,y=>by
  have ih:=compactL_snoc (x'::xs) y
  simp only [List.cons_append] at ih
  by_cases h:x=x'
  · simp only [List.cons_append,zar,h,if_true]
    rw [ih];simp [List.getLast?_cons_cons]
  · simp only [List.cons_append,zar,h,if_false]
    rw [ih]
    simp only [List.getLast?_cons_cons]
    split <;> simp
theorem compactL_eq {A:Type} [DecidableEq A] [Inhabited A] (xs:List A):Go.Lib.compactUpTo xs.toArray xs.length=zar xs:=by
 rw [← List.reverse_reverse xs]
 generalize xs.reverse=ys
 induction ys with
 | nil=>rfl
 | cons y ys ih =>
  rw [List.reverse_cons]
  generalize ys.reverse=xs at ih ⊢
  rw [compactL_snoc,List.length_append,List.length_singleton,Go.Lib.compactUpTo_succ,compactUpTo_append xs y _ (Nat.le_refl _),ih]
  have hy:(xs++[y]).toArray[xs.length]! = y:=by rw [getElem!_pos _ _ (by simp)];simp
  rw [hy]
  rcases Nat.eq_zero_or_pos xs.length with h0|h0
  · have:xs=[]:=List.eq_nil_of_length_eq_zero h0
    subst this;simp [Go.Lib.keeps]
  · have hp:(xs++[y]).toArray[xs.length - 1]! = xs[xs.length - 1]:=by rw [getElem!_pos _ _ (by simp;omega)];simp [List.getElem_append_left (show xs.length - 1 < xs.length by omega)]
    have hg:xs.getLast?=some xs[xs.length - 1]:=by rw [List.getLast?_eq_getElem?,List.getElem?_eq_getElem]
    simp only [Go.Lib.keeps,hy,hp,hg,Option.some.injEq]
    by_cases h:xs[xs.length - 1]=y
    · have:¬ xs.length=0:=by omega
      simp [h,this]
    · have:¬ y=xs[xs.length - 1]:=fun e=>h e.symm
      simp [h,this]
theorem compactL_le {A:Type} [DecidableEq A]:∀ (xs:List A),(zar xs).length≤xs.length
 | []=>by simp [zar]
 | [x]=>by simp [zar]
 | x::x'::xs=>by
  have ih:=compactL_le (x'::xs)
  by_cases h:x=x'
  · simp only [zar,h,if_true];simp at ih ⊢;omega
  · simp only [zar,h,if_false];simp at ih ⊢;omega
theorem sortF_some {f:A→A→Option Int} {xs r:List A} (h:sortF f xs=some r):(∃ cf,SortOk f xs cf)∧r=xs.mergeSort (leF f):=by
 unfold sortF at h
 split at h
 · rename_i hh;cases h;exact ⟨hh,rfl⟩
 · cases h
theorem St.sortF {G:GH} (hG:Inc G H) (h:St H0 w0 H w l) {i:Nat} {cells:List Value} (hi:l[i]?=some (.row e 1 v n cells)) {xs r:List A} (he:Els G En 1 cells xs) {fv:Value} {f:A→A→Option Int} {fid:Nat}
 (hf:∀ (H2:GH) (w2:World),Inc H H2→Sl H2 w2→∀ c x,En.rel H2 [c] x→∀ d y,En.rel H2 [d] y→∀ r,f x y=some r→∃ fi cs,fv=.func (.func fi) #[] cs∧(∀ args w,(callFunc fi args).run P w=.ok (.enter fi args) w)∧Calls P fi (#[c,d]++cs) w2 (Sc H2 w2 (.int .i64 r)))
 (k0:∀ (p:Option Addr) (cap:Nat) (fv:Value) (w:World),Calls P fid #[.slice p 0 cap,fv] w fun e w'=>e=.returned (.tuple #[])∧w'=w)
 (k1:∀ (α:Type) [Inhabited α] (enc:α→Value) (_:OneCell enc) (cf:α→α→Int) (_:SWO (ltOf cf)) (g:Nat) (cb:Array Value) (blk off cap:Nat) (d:Array α) (w:World)
  (_:∀ args w,(callFunc g args).run P w=.ok (.enter g args) w) (_:CmpLays1 P g cb enc cf blk off d.size w) (_:Holds enc w blk off d) (_:blk < w.heap.size) (_:d.size < 4611686018427387904),
  Calls P fid #[.slice (some ⟨blk,off,Option.none⟩) d.size cap,.func (.func g) #[] cb] w fun e w'=>e=.returned (.tuple #[])∧∃ d' n os,PermIn 0 d.size d d'∧SortedIn (ltOf cf) 0 d.size d'∧w'=sortWorld enc w blk off n d' os)
 (hr:Pu.sortF f xs=some r) :
 Calls P fid #[v,fv] w fun e' w'=>e'=.returned (.tuple #[])∧∃ cells',St H0 w0 H w' (l.set i (.row e 1 v n cells'))∧Els G En 1 cells' r∧cells'.Perm cells:=by
 obtain ⟨⟨cf,hlim,hc,hirr,htr,hntr,hanti⟩,rfl⟩:=sortF_some hr
 obtain ⟨⟨g1,g2⟩,g3⟩:=h.ok i _ hi
 have hlen:=he.length
 have hset:l.set i (.row e 1 v n cells)=l:=by
  apply List.ext_getElem?
  intro j
  rw [List.getElem?_set]
  split
  · rename_i hij;subst hij;rw [hi];simp [(List.getElem?_eq_some_iff.1 hi).1]
  · rfl
 rcases g2 with ⟨rfl,rfl⟩|⟨g,cap,cur,rfl,hg,hh,hle,hcm,hsz,htk⟩
 · have:xs=[]:=by rw [g1] at hlen;apply List.eq_nil_of_length_eq_zero;omega
   subst this
   refine (k0 Option.none 0 fv w).mono ?_
   rintro _ _ ⟨rfl,rfl⟩
   exact ⟨rfl,cells,by rw [hset];exact h,by simpa using he,List.Perm.refl _⟩
 · match xs,he,hlen,hlim,hc,hirr,htr,hntr,hanti with
   | [],he,hlen,_,_,_,_,_,_ =>
    have:n=0:=by rw [g1] at hlen;simpa using hlen
    subst this
    refine (k0 (some ⟨g,0,Option.none⟩) cap fv w).mono ?_
    rintro _ _ ⟨rfl,rfl⟩
    exact ⟨rfl,cells,by rw [hset];exact h,by simpa using he,List.Perm.refl _⟩
   | x0::xs0,he,hlen,hlim,hc,hirr,htr,hntr,hanti =>
    generalize hxs:x0::xs0=xs at *
    obtain ⟨d,hd1,hd2⟩:=els1_arr he xs (fun _ hx=>hx)
    have hx0:xs[0]?=some x0:=by rw [← hxs];rfl
    obtain ⟨c0,hc0,hr0⟩:=els1_some he hx0
    have hx0m:x0∈xs:=by rw [← hxs];simp
    haveI:Inhabited (El1 En G xs):=⟨⟨(c0,x0),hr0,hx0m⟩⟩
    obtain ⟨fi,cs,rfl,heg,_⟩:=hf H w (Inc.rfl H) h.sl c0 x0 (En.mono hG hr0) c0 x0 (En.mono hG hr0) _ (hc x0 hx0m x0 hx0m)
    obtain ⟨hH,hblk,hdl,hcap,hcm2⟩:=h.holds1 hi d hd1
    let cf':El1 En G xs→El1 En G xs→Int:=fun p q=>cf p.x q.x
    have hlt:∀ p q,ltOf cf' p q=decide (cf p.x q.x < 0):=fun p q=>rfl
    have hO:SWO (ltOf cf'):=⟨fun p=>by rw [hlt,decide_eq_false_iff_not];exact hirr _ p.2.2,
     fun p q s a b=>by rw [hlt,decide_eq_true_eq] at *;exact htr _ p.2.2 _ q.2.2 _ s.2.2 a b,
     fun p q s a b=>by rw [hlt,decide_eq_false_iff_not] at *;exact hntr _ p.2.2 _ q.2.2 _ s.2.2 a b⟩
    have hcmp:CmpLays1 P fi cs El1.enc cf' g 0 d.toArray.size w:=fun m os dk hs p q=>by
     have hsl:=h.sl_sorted hi (enc:=El1.enc) (m:=m) dk os
     obtain ⟨fi',cs',hfv,_,hcall⟩:=hf H _ (Inc.rfl H) hsl _ _ (En.mono hG p.2.1) _ _ (En.mono hG q.2.1) _ (hc _ p.2.2 _ q.2.2)
     cases hfv
     refine hcall.mono ?_
     rintro _ W' ⟨rfl,hrun⟩
     exact ⟨rfl,hrun.grown rfl⟩
    have hK:=k1 _ El1.enc El1.oneCell cf' hO fi cs g 0 cap d.toArray w heg hcmp hH hblk (by have hdx:=congrArg List.length hd2;simp only [List.length_map] at hdx;simp only [lim] at hlim;simp only [List.size_toArray];omega)
    simp only [List.size_toArray,hdl] at hK
    refine hK.mono ?_
    rintro _ _ ⟨rfl,d',m,os,hp,hso,rfl⟩
    have hd'l:d'.size=n:=by rw [hp.1];simp [hdl]
    have hT:=h.turned (m:=m) (n':=n) hi El1.oneCell d'.toList os (by simp [hd'l]) (by simp [hd'l])
    have hpm:d'.toList.Perm d:=by
     have:=hp.2.2
     rw [show (n:Nat)=d'.size from hd'l.symm] at this
     rw [Array.extract_size,hd'l] at this
     rw [show n=d.toArray.size by simp [hdl]] at this
     rw [Array.extract_size] at this
     simpa using this
    refine ⟨rfl,_,by simpa using hT,?_,by rw [List.take_of_length_le (by simp [hd'l]),← hd1];exact hpm.map El1.enc⟩
    have hE:Els G En 1 (d'.toList.map El1.enc) (d'.toList.map El1.x):=els1_of _
    rw [List.take_of_length_le (by simp [hd'l])]
    have:d'.toList.map El1.x=xs.mergeSort (leF f):=by
     have hpx:(d'.toList.map El1.x).Perm xs:=(hpm.map El1.x).trans (by rw [hd2])
     have hmem:∀ y∈d'.toList.map El1.x,y∈xs:=fun y hy=>hpx.mem_iff.1 hy
     have hms:(xs.mergeSort (leF f)).Perm xs:=List.mergeSort_perm _ _
     have hle:∀ x∈xs,∀ y∈xs,leF f x y = !decide (cf y x < 0):=fun x hx y hy=>by simp [leF,hc y hy x hx]
     refine List.Perm.eq_of_pairwise (le:=fun x y=>x∈xs∧y∈xs∧leF f x y=true) ?_ ?_ ?_ (hpx.trans hms.symm)
     · intro a b _ _ h1 h2
       obtain ⟨ha,hb,h1⟩:=h1
       obtain ⟨_,_,h2⟩:=h2
       rw [hle _ ha _ hb] at h1
       rw [hle _ hb _ ha] at h2
       simp only [Bool.not_eq_true',decide_eq_false_iff_not] at h1 h2
       exact hanti a ha b hb h2 h1
     · rw [List.pairwise_iff_getElem]
       intro a b ha hb hab
       refine ⟨hmem _ (List.getElem_mem _),hmem _ (List.getElem_mem _),?_⟩
       rw [hle _ (hmem _ (List.getElem_mem _)) _ (hmem _ (List.getElem_mem _))]
       simp only [List.length_map,Array.length_toList] at ha hb
       have:=hso a b (Nat.zero_le _) hab (by omega)
       rw [hlt,getElem!_pos d' b (by omega),getElem!_pos d' a (by omega)] at this
       simpa using this
     · have hpw:(xs.mergeSort (leF f)).Pairwise fun x y=>leF f x y=true:=by
        let le':El1 En G xs→El1 En G xs→Bool:=fun p q => !decide (cf q.x p.x < 0)
        have hm:=List.map_mergeSort (r:=le') (s:=leF f) (f:=El1.x) (l:=d) (fun a _ b _=>(hle _ a.2.2 _ b.2.2).symm)
        rw [hd2] at hm
        rw [← hm,List.pairwise_map]
        have hs':=List.pairwise_mergeSort (le:=le') ?_ ?_ d
        · refine hs'.imp ?_
          intro a b hab
          exact (hle a.x a.2.2 b.x b.2.2).trans hab
        · intro a b c h1 h2
          simp only [le',Bool.not_eq_true',decide_eq_false_iff_not] at h1 h2 ⊢
          exact hntr _ c.2.2 _ b.2.2 _ a.2.2 h2 h1
        · intro a b
          simp only [le',Bool.or_eq_true,Bool.not_eq_true',decide_eq_false_iff_not]
          by_cases h1:cf b.x a.x < 0
          · right
            intro h2
            exact hirr _ b.2.2 (htr _ b.2.2 _ a.2.2 _ b.2.2 h1 h2)
          · exact .inl h1
       rw [List.pairwise_iff_getElem] at hpw ⊢
       intro a b ha hb hab
       exact ⟨hms.mem_iff.1 (List.getElem_mem _),hms.mem_iff.1 (List.getElem_mem _),hpw a b ha hb hab⟩
    rw [← this]
    exact hE
theorem St.compactF {G:GH} [DecidableEq A] [Inhabited A] (h:St H0 w0 H w l) {i:Nat} {cells:List Value} (hi:l[i]?=some (.row e 1 v n cells)) {xs:List A} (he:Els G En 1 cells xs) {fid:Nat} {enc:A→Value} (h1:OneCell enc)
 (henc:∀ (H:GH) c x,En.rel H [c] x→c=enc x) (hrel:∀ (H:GH) x,En.rel H [enc x] x) (z:A)
 (k0:∀ (w:World),Calls P fid #[.slice Option.none 0 0] w fun e w'=>e=.returned (.slice Option.none 0 0)∧w'=w)
 (k1:∀ (blk off cap:Nat) (d:Array A) (w:World) (_:Holds enc w blk off d) (_:d.size≤9223372036854775807) (_:d.size≤cap),
  Calls P fid #[.slice (some ⟨blk,off,Option.none⟩) d.size cap] w fun e w'=>e=.returned (.slice (some ⟨blk,off,Option.none⟩) (Go.Lib.compactUpTo d d.size).length cap) ∧
   ∃ q,w'=Go.Sort.putRow enc (Sort.ahead w q) blk off (Go.Lib.compactUpTo d d.size++List.replicate (d.size - (Go.Lib.compactUpTo d d.size).length) z).toArray) :
 Calls P fid #[v] w fun e' w'=>∃ v' n' cells',e'=.returned v'∧St H0 w0 H w' (l.set i (.row e 1 v' n' cells'))∧Els G En 1 cells' (zar xs):=by
 obtain ⟨⟨g1,g2⟩,g3⟩:=h.ok i _ hi
 have hlen:=he.length
 have hset:l.set i (.row e 1 v n cells)=l:=by
  apply List.ext_getElem?
  intro j
  rw [List.getElem?_set]
  split
  · rename_i hij;subst hij;rw [hi];simp [(List.getElem?_eq_some_iff.1 hi).1]
  · rfl
 rcases g2 with ⟨rfl,rfl⟩|⟨g,cap,cur,rfl,hg,hh,hle,hcm,hsz,htk⟩
 · have:xs=[]:=by rw [g1] at hlen;apply List.eq_nil_of_length_eq_zero;omega
   subst this
   refine (k0 w).mono ?_
   rintro _ _ ⟨rfl,rfl⟩
   exact ⟨_,_,cells,rfl,by rw [hset];exact h,by simpa [zar] using he⟩
 · have hcells:xs.map enc=cells:=by
    clear hi g1 g3 hset htk hlen
    induction he with
    | nil=>rfl
    | snoc hp hc hx ih =>
     rename_i cells xs c x
     match c,hc,hx with
     | [c0],_,hx=>rw [List.map_append,ih,henc _ _ _ hx];rfl
   obtain ⟨hH,hblk,hdl,hcap,hcm2⟩:=h.holds1 hi xs hcells
   have hK:=k1 g 0 cap xs.toArray w hH (by simp [hdl];simp only [maxLen] at hcm;omega) (by simp [hdl];omega)
   simp only [List.size_toArray,hdl] at hK
   have hcl:Go.Lib.compactUpTo xs.toArray n=zar xs:=by rw [← hdl];exact compactL_eq xs
   rw [hcl] at hK
   refine hK.mono ?_
   rintro _ _ ⟨rfl,q,rfl⟩
   have hcle:(zar xs).length≤n:=by rw [← hdl];exact compactL_le xs
   have hT:=h.turned (m:=q) (n':=(zar xs).length) hi h1 (zar xs++List.replicate (n - (zar xs).length) z) #[] (by simp) (by simp;omega)
   unfold sortWorld at hT
   rw [grow_empty,List.take_left'  rfl] at hT
   refine ⟨_,_,_,rfl,hT,?_⟩
   generalize zar xs=ys
   rw [← List.reverse_reverse ys]
   generalize ys.reverse=ys
   induction ys with
   | nil=>exact .nil
   | cons y ys ih=>rw [List.reverse_cons,List.map_append];exact .snoc ih rfl (hrel _ _)
end
end Go.Mr
namespace Go.Proofs
open Go.Shelf Go.RowKit Go.Lib Go.Sort
theorem compact_none {P:Program} {ρ:Ren} (L:SlLaysE.n43 P ρ) (w:World) :
 Calls P (ρ.f 43) #[.slice none 0 0] w fun e w'=>e=.returned (.slice none 0 0)∧w'=w:=by
 have mixed:=L.mixed;have t0:=L.t0;have a0:=L.a0;have z0:=L.z0;have v0:=L.v0;have t3:=L.t3;have a3:=L.a3;have z3:=L.z3;have v3:=L.v3;have t4:=L.t4;have a4:=L.a4;have z4:=L.z4;have v4:=L.v4;have t22:=L.t22;have a22:=L.a22;have z22:=L.z22;have v22:=L.v22;have a23:=L.a23;have z23:=L.z23
 obtain ⟨_,_,FG⟩:=L.f43
 go_enter FG,SlBodyN.n43_ntmps ρ
 go_wp2
 go_ret
 exact ⟨rfl,rfl⟩
end Go.Proofs
namespace Go.Mr
open Go.RowKit Go.Pu
section
variable {P:Program} {w w':World} {H0 H Hs:GH} {w0:World} {l l0 T:List MO} {N:Nat} {f:Fm}
theorem putObj_grown (w:World) (b:Nat) (o:Obj):w.grownBy (w.putObj b o) (some b):=⟨rfl,rfl,rfl,by simp,fun k _ hk=>World.putObj_heap_other (fun e=>hk (by rw [e]))⟩
theorem St.rawPut {i b:Nat} {o:Obj} (o':Obj) (h:St H0 w0 H w l) (hi:l[i]?=some (.raw b o)):St H0 w0 H (w.putObj b o') (l.set i (.raw b o')):=by
 have hok:=h.ok i _ hi
 exact h.upd hi (putObj_grown w b o') (Nat.le_refl _) ⟨World.putObj_heap_same (Array.getElem?_eq_some_iff.1 hok.1).1,hok.2⟩ (fun b' hb=>.inl hb)
theorem St.rawAt {i b:Nat} {o:Obj} (h:St H0 w0 H w l) (hi:l[i]?=some (.raw b o)):w.heap[b]?=some o:=(h.ok i _ hi).1
variable {J:List MO→World→Prop}
@[reducible] def iterPost (K:Nat→World→Prop) (Kx:World→Prop) (n:Nat):Ending→World→Prop:=fun e W'=>(∃ v,e=.returned v)∧(K n W'∨Kx W')
@[reducible] def rndQ {S X:Type} (id:Nat) (J:List MO→S→World→Prop) (E:List MO→X→World→Prop) (T:List MO) (o:Lp S X):FQ:=fun e _ W =>
 match o with
 | .nx s=>e=.normal∧J T s W
 | .bk s=>e=.exit id∧J T s W
 | .rt x=>e=.ret∧E T x W
end
end Go.Mr
namespace Go.Mr
open Go.RowKit Go.Pu
section
variable {δ:List Nat} {P:Program} {N:Nat} {f:Fm} {w:World} {ops:Array Oper} {S:World→Prop} {M:Fm→World→Prop} {n:Nat} {ls l':Array Bool}
theorem E.asB {o:Oper} {a b:Bool} (h:(execOp (ev f) o).run P w=.ok (.value (.bool a)) w) (e:a=b):(execOp (ev f) o).run P w=.ok (.value (.bool b)) w:=e ▸ h
end
end Go.Mr
namespace Go.Mr
open Go.RowKit Go.Pu Go.Shelf Go.Sort
section
variable {P:Program} {H0 H:GH} {w0 w:World} {l:List MO} {e n:Nat} {v:Value} {A:Type} {En:Enc A}
theorem Els.delete {G:GH} {cells:List Value} {xs:List A} (he:Els G En 1 cells xs) (i j:Nat) (hij:i≤j) (hj:j≤xs.length):Els G En 1 (cells.take i++cells.drop j) (xs.take i++xs.drop j):=by
 have hl:=he.length
 refine els1_mk _ _ (by simp;omega) fun m u x hu hx=>?_
 rw [List.getElem?_append] at hu hx
 simp only [List.length_take] at hu hx
 have get:∀ (q:Nat),cells[q]?=some u→xs[q]?=some x→En.rel G [u] x:=fun q h1 h2=>by
  obtain ⟨c,hc,hr⟩:=els1_some he h2
  rw [h1] at hc;cases hc;exact hr
 by_cases hm:m < i
 · rw [if_pos (by omega),List.getElem?_take_of_lt hm] at hu hx
   exact get m hu hx
 · rw [if_neg (by omega),List.getElem?_drop] at hu hx
   have e1:j + (m - min i cells.length)=j + (m - min i xs.length):=by rw [Nat.min_eq_left (by omega),Nat.min_eq_left (by omega)]
   rw [e1] at hu
   exact get _ hu hx
abbrev OC:={ v:Value // v.oneCell'=true }
instance:Inhabited OC:=⟨⟨.int .i64 0,rfl⟩⟩
theorem St.deleteF {G:GH} (h:St H0 w0 H w l) {i:Nat} {cells:List Value} (hi:l[i]?=some (.row e 1 v n cells)) {xs r:List A} (he:Els G En 1 cells xs) {fid:Nat} (z:OC) {a b:Int} (hr:delL xs a b=some r)
 (k1:∀ (blk off cap i j:Nat) (d:Array OC) (w:World) (_:Holds (fun x:OC=>x.1) w blk off d) (_:d.size≤cap) (_:cap≤9223372036854775807) (_:i≤j) (_:j≤d.size),
  Calls P fid #[.slice (some ⟨blk,off,Option.none⟩) d.size cap,.int .i64 i,.int .i64 j] w fun e w'=>e=.returned (.slice (some ⟨blk,off,Option.none⟩) (d.size - (j - i)) cap) ∧
   ∃ q,w'=Go.Sort.putRow (fun x:OC=>x.1) (Sort.ahead w q) blk off (d.toList.take i++d.toList.drop j++List.replicate (j - i) z).toArray) :
 Calls P fid #[v,.int .i64 a,.int .i64 b] w fun e' w'=>∃ v' n' cells',e'=.returned v'∧St H0 w0 H w' (l.set i (.row e 1 v' n' cells'))∧Els G En 1 cells' r:=by
 obtain ⟨h0,hab,hb,rfl⟩:=delL_some hr
 obtain ⟨⟨g1,g2⟩,g3⟩:=h.ok i _ hi
 have hlen:=he.length
 rcases g2 with ⟨rfl,rfl⟩|⟨g,cap,cur,rfl,hg,hh,hle,hcm,hsz,htk⟩
 · exfalso;rw [g1] at hlen;omega
 · obtain ⟨d,hd⟩:∃ d:List OC,d.map (fun x=>x.1)=cells:=by
    clear hi htk hlen he g1
    induction cells with
    | nil=>exact ⟨[],rfl⟩
    | cons c cs ih =>
     obtain ⟨d,hd⟩:=ih (fun u hu=>g3 u (by simp [hu]))
     exact ⟨⟨c,g3 c (by simp)⟩::d,by simp [hd]⟩
   obtain ⟨hH,hblk,hdl,hcap,hcm2⟩:=h.holds1 hi d hd
   have ha':((a.toNat:Nat):Int)=a:=by omega
   have hb':((b.toNat:Nat):Int)=b:=by omega
   have hK:=k1 g 0 cap a.toNat b.toNat d.toArray w hH (by simp [hdl];omega) (by simp only [maxLen] at hcm;omega) (by omega) (by simp [hdl];omega)
   simp only [List.size_toArray,hdl,ha',hb'] at hK
   refine hK.mono ?_
   rintro _ _ ⟨rfl,q,rfl⟩
   have hT:=h.turned (m:=q) (n':=n - (b.toNat - a.toNat)) hi (enc:=fun x:OC=>x.1) (fun x=>x.2) (d.take a.toNat++d.drop b.toNat++List.replicate (b.toNat - a.toNat) z) #[] (by simp;omega) (by simp;omega)
   refine ⟨_,n - (b.toNat - a.toNat),((d.take a.toNat++d.drop b.toNat++List.replicate (b.toNat - a.toNat) z).take (n - (b.toNat - a.toNat))).map (fun x=>x.1),rfl,?_,?_⟩
   · unfold Go.Proofs.sortWorld at hT
     rw [grow_empty] at hT
     exact hT
   · have e2:(d.take a.toNat++d.drop b.toNat++List.replicate (b.toNat - a.toNat) z).take (n - (b.toNat - a.toNat))=d.take a.toNat++d.drop b.toNat:=by
      rw [List.take_append_of_le_length (by simp;omega),List.take_of_length_le (by simp;omega)]
     rw [e2,List.map_append,List.map_take,List.map_drop,hd]
     exact he.delete _ _ (by omega) (by omega)
variable {f:Fm} {d:Option Tmp} {ty:TypeId} {pos:String} {aft:Array Edge} {gd:Option (Nat×Bool)} {x:Operand} {k:Nat} {z:Value}
theorem PtrOf.uniq {i:Int} {p q:Addr} (h1:PtrOf k v i p) (h2:PtrOf k v i q):p=q:=by
 obtain ⟨a,m,c,rfl,_,_,rfl⟩:=h1
 obtain ⟨a',m',c',hv,_,_,rfl⟩:=h2
 cases hv;rfl
end
end Go.Mr
namespace Go.Mr
open Go.RowKit Go.Pu
section
variable {P:Program} {f:Fm} {w:World} {d:Option Tmp} {ty:TypeId} {pos:String} {aft:Array Edge} {gd:Option (Nat×Bool)} {x y:Operand}
variable {k yk:IntKind} {a b:Int} {t t':TypeId}
theorem wrk_eq (k:IntKind) (n:Int):k.wrap n=wrk k.signed k.bits n:=rfl
theorem E.addK (hx:ev f x=.int k a) (hy:ev f y=.int k b):(execOp (ev f) ⟨d,.binOp .add t x y t',ty,pos,aft,gd⟩).run P w=.ok (.value (.int k (wrk k.signed k.bits (a + b)))) w:=by
 simp [execOp,eqGuard,binOp,hx,hy,Op.intArith,wrk_eq]
theorem E.subK (hx:ev f x=.int k a) (hy:ev f y=.int k b):(execOp (ev f) ⟨d,.binOp .sub t x y t',ty,pos,aft,gd⟩).run P w=.ok (.value (.int k (wrk k.signed k.bits (a - b)))) w:=by
 simp [execOp,eqGuard,binOp,hx,hy,Op.intArith,wrk_eq]
theorem E.and (hx:ev f x=.int k a) (hy:ev f y=.int k b):(execOp (ev f) ⟨d,.binOp .and t x y t',ty,pos,aft,gd⟩).run P w=.ok (.value (.int k (andK k.signed k.bits a b))) w:=by
 simp [execOp,eqGuard,binOp,hx,hy,Op.intBits,andK,wrk_eq]
theorem E.or (hx:ev f x=.int k a) (hy:ev f y=.int k b):(execOp (ev f) ⟨d,.binOp .or t x y t',ty,pos,aft,gd⟩).run P w=.ok (.value (.int k (orK k.signed k.bits a b))) w:=by
 simp [execOp,eqGuard,binOp,hx,hy,Op.intBits,orK,wrk_eq]
theorem E.xor (hx:ev f x=.int k a) (hy:ev f y=.int k b):(execOp (ev f) ⟨d,.binOp .xor t x y t',ty,pos,aft,gd⟩).run P w=.ok (.value (.int k (xorK k.signed k.bits a b))) w:=by
 simp [execOp,eqGuard,binOp,hx,hy,Op.intBits,xorK,wrk_eq]
theorem E.andNot (hx:ev f x=.int k a) (hy:ev f y=.int k b):(execOp (ev f) ⟨d,.binOp .andNot t x y t',ty,pos,aft,gd⟩).run P w=.ok (.value (.int k (anK k.signed k.bits a b))) w:=by
 simp [execOp,eqGuard,binOp,hx,hy,Op.intBits,anK,wrk_eq]
theorem E.shl (hx:ev f x=.int k a) (hy:ev f y=.int yk b) (hb:¬ b < 0):(execOp (ev f) ⟨d,.binOp .shl t x y t',ty,pos,aft,gd⟩).run P w=.ok (.value (.int k (shlK k.signed k.bits a b))) w:=by
 simp [execOp,eqGuard,binOp,hx,hy,Op.shift,shlK,wrk_eq,hb]
theorem E.shr (hx:ev f x=.int k a) (hy:ev f y=.int yk b) (hb:¬ b < 0):(execOp (ev f) ⟨d,.binOp .shr t x y t',ty,pos,aft,gd⟩).run P w=.ok (.value (.int k (shrK k.bits a b))) w:=by
 simp [execOp,eqGuard,binOp,hx,hy,Op.shift,shrK,hb]
theorem E.nilCheck {p:Addr} (hx:ev f x=.pointer (some p)):(execOp (ev f) ⟨d,.nilCheck x,ty,pos,aft,gd⟩).run P w=.ok (.value (.pointer (some p))) w:=by simp [execOp,hx]
theorem E.conv {s:TypeDesc} (hs:∀ w,(underlying t).run P w=.ok s w) (ht:∀ w,(underlying t').run P w=.ok (.int k) w) (hx:ev f x=.int yk a) :
 (execOp (ev f) ⟨d,.convert t t' x,ty,pos,aft,gd⟩).run P w=.ok (.value (.int k (wrk k.signed k.bits a))) w:=by
 simp [execOp,convert,hs,ht,hx,Conv.intToInt,wrk_eq]
end
end Go.Mr
namespace Go.Mr
open Go.RowKit Go.Pu
@[reducible] def OP {α:Type} (R:Addr→α→Prop) (v:Value) (x:Option α):Prop:=match x with|none=>v=.pointer none|some y=>∃ q,v=.pointer (some q)∧R q y
def SX (H0:GH) (w0:World) (Hr:GH) (l0:List MO) (w:World):Prop:=∃ H,St H0 w0 H w l0∧Inc Hr H
section
variable {H0 Hr H:GH} {w0 w:World} {l0 l:List MO} {e k n:Nat} {v:Value}
theorem SX.sl (h:SX H0 w0 Hr l0 w):Sl Hr w:=let ⟨_,s,i⟩:=h;Sl.of_inc i s.sl
theorem SX.box_now (h:SX H0 w0 Hr l0 w) {i b t:Nat} {cs:List Value} (hi:l0[i]?=some (.box b t cs)):WAt w ⟨b,0,Option.none⟩ cs:=let ⟨_,s,_⟩:=h;s.box_now hi
theorem SX.use {Q:Prop} (h:SX H0 w0 Hr l0 w) (f:∀ H,St H0 w0 H w l0→Q):Q:=let ⟨_,s,_⟩:=h;f _ s
theorem St.row_atA {α:Type} {G:GH} {En:Enc α} {cells:List Value} {xs:List α} (h:St H0 w0 H w l) {i:Nat} (hi:l[i]?=some (.row e k v n cells)) (he:Els G En k cells xs) (hk:0 < k)
 {j:Int} {x:α} (hx:ix xs j=some x):∃ p c,PtrOf k v j p∧c.length=k∧WAt w p c∧En.rel G c x∧∀ (H':GH) (w':World) (l':List MO) (i':Nat),St H0 w0 H' w' l'→l'[i']?=some (.row e k v n cells)→WAt w' p c:=by
 obtain ⟨h0,h1,h2⟩:=ix_some hx
 obtain ⟨c,g1,g2,g3⟩:=he.get _ _ h2
 have key:∀ (H':GH) (w':World) (l':List MO) (i':Nat),St H0 w0 H' w' l'→l'[i']?=some (.row e k v n cells)→∃ p,PtrOf k v j p∧WAt w' p c:=by
  intro H' w' l' i' h' hi'
  obtain ⟨⟨k1,k2⟩,_⟩:=h'.ok i' _ hi'
  have hl:=he.length
  have hn:n=xs.length:=by
   rw [k1] at hl
   exact Nat.eq_of_mul_eq_mul_right hk hl
  rcases k2 with ⟨rfl,h3⟩|⟨g,cap,cur,rfl,hg,hh,hle,_,hsz,htk⟩
  · omega
  · refine ⟨_,⟨⟨g,0,Option.none⟩,_,cap,rfl,h0,by omega,rfl⟩,fun m u hu=>?_⟩
    rw [zcm,Addr.add_lit,Nat.zero_add,cell_of_row w' g _ _ _ _ hh]
    have:=g3 m u hu
    rw [← htk,List.getElem?_take] at this
    split at this
    · simpa using this
    · cases this
 obtain ⟨p,hp,hw⟩:=key H w l i h hi
 exact ⟨p,c,hp,g1,hw,g2,fun H' w' l' i' h' hi'=>by
  obtain ⟨q,hq,hw'⟩:=key H' w' l' i' h' hi'
  obtain rfl:=PtrOf.uniq hq hp
  exact hw'⟩
end
section
variable {f:Fm}
end
section
variable {P:Program} {f:Fm} {w:World} {d:Option Tmp} {ty:TypeId} {pos:String} {aft:Array Edge} {gd:Option (Nat×Bool)} {x y:Operand} {t t':TypeId}
end
end Go.Mr
namespace Go.Mr
open Go.RowKit Go.Pu
structure SP (B:World→Prop) (ps:List (List Nat×(World→Prop))) (ls:Array Bool) (w:World):Prop where
 base:B w
 ph:∀ p∈ps,(∀ h∈p.1,ls.getD h true=false)→p.2 w
theorem SP.nil {B:World→Prop} {ls:Array Bool} {w:World} (hB:B w):SP B [] ls w:=⟨hB,nofun⟩
theorem SP.on {B R:World→Prop} {Hs:List Nat} {ps:List (List Nat×(World→Prop))} {ls:Array Bool} {w:World} (hR:R w) (h:SP B ps ls w):SP B ((Hs,R)::ps) ls w :=
 ⟨h.base,fun p hp hn=>by
  rcases List.mem_cons.1 hp with rfl|hp
  · exact hR
  · exact h.ph p hp hn⟩
theorem SP.off {B R:World→Prop} {Hs:List Nat} {ps:List (List Nat×(World→Prop))} {ls:Array Bool} {w:World} (hH:(Hs.any fun h=>ls.getD h true)=true) (h:SP B ps ls w):SP B ((Hs,R)::ps) ls w :=
 ⟨h.base,fun p hp hn=>by
  rcases List.mem_cons.1 hp with rfl|hp
  · obtain ⟨k,hk,ht⟩:=List.any_eq_true.1 hH
    have:=hn k hk
    rw [this] at ht;cases ht
  · exact h.ph p hp hn⟩
theorem SP.iff {B:World→Prop} {ps:List (List Nat×(World→Prop))} {i:Nat} (hi:(ps.all fun p => !p.1.contains i)=true) {ls:Array Bool} {w:World}:SP B ps (ls.setIfInBounds i true) w↔SP B ps ls w:=by
 have key:∀ p∈ps,∀ h∈p.1,(ls.setIfInBounds i true).getD h true=ls.getD h true:=fun p hp h hh=>by
  refine getD_set_ne true fun e=>?_
  have:=List.all_eq_true.1 hi p hp
  rw [e] at this
  simp [hh] at this
 exact ⟨fun k=>⟨k.base,fun p hp hn=>k.ph p hp fun h hh=>by rw [key p hp h hh];exact hn h hh⟩,fun k=>⟨k.base,fun p hp hn=>k.ph p hp fun h hh=>by rw [← key p hp h hh];exact hn h hh⟩⟩
section
variable {P:Program} {ops:Array Oper} {Q:Exit→Act→World→Prop} {md:Region.Mode}
def zaQ (P:Program) (md:Region.Mode) (ops:Array Oper) (Q:Exit→Act→World→Prop) (S:Array Bool→World→Prop):Nat→Array Bool→Act→World→Prop
 | 0,ls,a,w=>Region.ready md ops ls=[]∧Q .normal a w
 | n + 1,ls,a,w=>(Region.ready md ops ls=[]→Q .normal a w) ∧
  ∀ i∈Region.ready md ops ls,wpOp P ops Q i (fun a w=>S (ls.setIfInBounds i true) w∧zaQ P md ops Q S n (ls.setIfInBounds i true) a w) a w
theorem zaQ.mono {S S':Array Bool→World→Prop} (hS:∀ ls w,S ls w→S' ls w):∀ (n:Nat) (ls:Array Bool) (a:Act) (w:World),zaQ P md ops Q S n ls a w→zaQ P md ops Q S' n ls a w
 | 0,_,_,_,h=>h
 | n + 1,_,_,_,h=>⟨h.1,fun i hi=>wpOp_mono (fun _ _ k=>⟨hS _ _ k.1,zaQ.mono hS n _ _ _ k.2⟩) (h.2 i hi)⟩
theorem zaQ.held {S:Array Bool→World→Prop}:∀ (n:Nat) (ls:Array Bool) (a:Act) (w:World),zaQ P md ops Q S n ls a w→wpAnyH P md ops Q (fun _=>True) n ls a w
 | 0,_,_,_,h=>h
 | n + 1,_,_,_,h=>⟨h.1,fun i hi=>wpOp_mono (fun _ _ k=>⟨trivial,zaQ.held n _ _ _ k.2⟩) (h.2 i hi)⟩
theorem zaQ.first {S:Array Bool→World→Prop} {i:Nat} {oi:Oper} {v:Value} (C:Nat→Prop) (hi:ops[i]?=some oi) (hsel:∀ (j:Nat) (o:Oper) cs b,ops[j]?=some o→o.op≠.select cs b)
 (hQ:∀ c a w,Q (.panic c) (a.put oi.dst v) w→Q (.panic c) a w) (hSi:∀ ls w,S (ls.setIfInBounds i true) w↔S ls w)
 (hC:∀ j,C j→∃ oj,ops[j]?=some oj∧∃ e∈oj.after,Region.binds md e=true∧(C e.on∨e.on=i)):∀ (n:Nat) (ls:Array Bool) (a:Act) (w:World),
  (∀ j oj,ops[j]?=some oj→j≠i→ls.getD j true=false→(∀ e∈oj.after,Region.binds md e=true→e.on≠i)→oi.apart ops oj=true) →
  i∈Region.ready md ops ls→(∀ j,C j→ls.getD j true=false)→YieldsIf P ops (fun w'=>∃ ls',(∀ j,C j→ls'.getD j true=false)∧S ls' w') oi v a→S ls w →
  zaQ P md ops Q S n (ls.setIfInBounds i true) (a.put oi.dst v) w→zaQ P md ops Q S (n + 1) ls a w:=by
 intro n
 induction n with
 | zero =>
  intro ls a w _ hr hn hy hS H
  refine ⟨fun h=>(by rw [h] at hr;cases hr),fun j hj=>?_⟩
  by_cases hji:j=i
  · subst hji;exact hy.wpOp hi ⟨ls,hn,hS⟩ ⟨(hSi ls w).2 hS,H⟩
  · have hm:=ready_mono hj hji
    rw [H.1] at hm
    cases hm
 | succ n ih =>
  intro ls a w hfree hr hn hy hS H
  refine ⟨fun h=>(by rw [h] at hr;cases hr),fun j hj=>?_⟩
  by_cases hji:j=i
  · subst hji;exact hy.wpOp hi ⟨ls,hn,hS⟩ ⟨(hSi ls w).2 hS,H⟩
  · have h1:=H.2 j (ready_mono hj hji)
    obtain ⟨hun,oj,hoj,hall⟩:=mem_ready.1 hj
    have hir:=(mem_ready.1 hr).1
    have off:∀ k,ls.getD k true=false→ls.getD k false=true→False:=fun k h0 h1=>by
     rcases Nat.lt_or_ge k ls.size with h'|h'
     · simp [h'] at h0 h1;rw [h0] at h1;cases h1
     · simp [Array.getElem?_eq_none h'] at h1
    have hno:∀ e∈oj.after,Region.binds md e=true→e.on≠i:=fun e he hb heq=>off i hir (heq ▸ hall e he hb)
    have hCj:¬ C j:=fun hc=>by
     obtain ⟨oj',ho',e,he,hb,hd⟩:=hC j hc
     rw [hoj] at ho';cases ho'
     rcases hd with hd|hd
     · exact off _ (hn _ hd) (hall e he hb)
     · exact hno e he hb hd
    have hn':∀ k,C k→(ls.setIfInBounds j true).getD k true=false:=fun k hk=>by
     rw [getD_set_ne true (fun (e:j=k)=>hCj (by rw [e];exact hk))];exact hn k hk
    have h2:=wpOp_putIf hoj (hfree j oj hoj hji hun hno) (fun cs b=>hsel i oi cs b hi) (fun cs b=>hsel j oj cs b hoj) hQ hy h1
    refine wpOp_mono (fun a' w' h3=>?_) h2
    have e:=Array.setIfInBounds_comm (xs:=ls) true true hji
    have hS':S (ls.setIfInBounds j true) w':=(hSi _ _).1 (by rw [e];exact h3.2.1)
    refine ⟨hS',ih (ls.setIfInBounds j true) a' w' (fun k ok hk hki hun' hno'=>?_) (ready_mono hr (Ne.symm hji)) hn' h3.1 hS' (by rw [e];exact h3.2.2)⟩
    refine hfree k ok hk hki ?_ hno'
    by_cases hjk:j=k
    · subst hjk;exact hun
    · rw [getD_set_ne true hjk] at hun';exact hun'
def certB (ops:Array Oper) (C:List Nat) (i:Nat) (ls:Array Bool) (ps:List (List Nat×(World→Prop))):Bool :=
 (C.all fun j => !ls.getD j true && match ops[j]? with|some oj=>oj.after.any fun e=>Region.binds .any e && (C.contains e.on || e.on == i)|none=>false) && ps.all fun p => !p.1.contains i
end
def FB {δ:List Nat} (P:Program) (N:Nat) (ops:Array Oper) (B:World→Prop) (M:Fm→World→Prop) (ps:List (List Nat×(World→Prop))) (n:Nat) (ls:Array Bool) (f:Fm) (w:World):Prop :=
 ∀ a,Fr (δ:=δ) N a f→zaQ P .any ops (lift (δ:=δ) N fun e f w=>e=.normal∧M f w) (SP B ps) n ls a w
def FC {δ:List Nat} (P:Program) (N:Nat) (ops:Array Oper) (B:World→Prop) (M:Fm→World→Prop) (ps:List (List Nat×(World→Prop))) (n:Nat) (ls:Array Bool) (i:Nat) (f:Fm) (w:World):Prop :=
 ∀ a,Fr (δ:=δ) N a f→wpOp P ops (lift (δ:=δ) N fun e f w=>e=.normal∧M f w) i (fun a w=>SP B ps (ls.setIfInBounds i true) w∧zaQ P .any ops (lift (δ:=δ) N fun e f w=>e=.normal∧M f w) (SP B ps) n (ls.setIfInBounds i true) a w) a w
section
variable {δ:List Nat} {P:Program} {N:Nat} {f:Fm} {w w':World} {ops:Array Oper} {B:World→Prop} {M:Fm→World→Prop} {ps:List (List Nat×(World→Prop))} {n:Nat} {ls l':Array Bool} {H:GH}
theorem FW.drawB {Q:FQ} {id:Nat} {l:List Oper} (B:World→Prop) (M:Fm→World→Prop) (hm:P.follows .mixedOrders=true) (hs:Sl H w)
 (h:∀ w1,Run w.heap.size H w H w1→FB (δ:=δ) P N l.toArray B M [] l.length (Array.replicate l.length false) f w1) (hQ:∀ f w,M f w→Q .normal f w):FW (ρ:=none) (δ:=δ) P N (.region id l.toArray true) Q f w:=by
 intro n a ha
 refine wpIn_wide.2 ?_
 refine Code.wp_mono (Q:=lift (δ:=δ) N fun e f w=>e=.normal∧M f w) (fun e a w ⟨f,hf,he,hM⟩=>he ▸ ⟨f,hf,hQ f w hM⟩) (wp_region_held (S:=fun _=>True) hm (zaQ.held (S:=SP B []) _ _ _ _ ?_))
 have:=h _ (zaI hs) a ha
 simpa using this
theorem FB.phase (Hs:List Nat) (R:World→Prop) (h:FB (δ:=δ) P N ops B M ((Hs,R)::ps) n ls f w):FB (δ:=δ) P N ops B M ps n ls f w :=
 fun a ha=>zaQ.mono (fun _ _ k=>⟨k.base,fun p hp=>k.ph p (by simp [hp])⟩) _ _ _ _ (h a ha)
theorem FB.take0 {S':World→Prop} {i d:Nat} {o:Oper} {v:Value} (C:List Nat) (hi:ops[i]?=some o) (hs:Region.noSelect ops=true) (hf:Region.free .any ops ls i=true) (hr:(Region.ready .any ops ls).contains i=true)
 (hl:ls.setIfInBounds i true=l') (hc:certB ops C i ls ps=true) (hS:SP B ps ls w) (hd:o.dst=some d) (hlt:Nat.blt d N=true)
 (hy:∀ a,Fr (δ:=δ) N a f→YieldsIf P ops S' o v a) (hS':∀ ls' w',(∀ j∈C,ls'.getD j true=false)→SP B ps ls' w'→S' w')
 (h:FB (δ:=δ) P N ops B M ps n l' (upd f d v) w):FB (δ:=δ) P N ops B M ps (n + 1) ls f w:=by
 subst hl
 intro a ha
 unfold certB at hc
 rw [Bool.and_eq_true] at hc
 have hC:=List.all_eq_true.1 hc.1
 refine zaQ.first (v:=v) (fun j=>j∈C) hi (Region.noSelect_spec hs) (fun c a w hq=>?_) (fun ls w=>SP.iff hc.2) (fun j hj=>?_) n ls a w (Region.free_spec hi hf) (by simpa using hr) (fun j hj=>?_) ?_ hS ?_
 · obtain ⟨_,_,h0,_⟩:=hq;cases h0
 · have:=hC j hj
   rw [Bool.and_eq_true] at this
   cases ho:ops[j]? with
   | none=>rw [ho] at this;cases this.2
   | some oj =>
    rw [ho] at this
    obtain ⟨e,he,hb⟩:=Array.any_eq_true'.1 this.2
    rw [Bool.and_eq_true,Bool.or_eq_true] at hb
    exact ⟨oj,rfl,e,he,hb.1,hb.2.imp (fun h=>by simpa using h) fun h=>by simpa using h⟩
 · have:=hC j hj
   rw [Bool.and_eq_true] at this
   simpa using this.1
 · exact (hy a ha).imp (fun ⟨h1,h2⟩=>⟨h1,fun w' ⟨ls',k1,k2⟩=>h2 w' (hS' ls' w' k1 k2)⟩) id
 · rw [hd];exact h _ (ha.put (nblt hlt) v)
theorem FB.take {i d:Nat} {o:Oper} {v:Value} (hi:ops[i]?=some o) (hs:Region.noSelect ops=true) (hf:Region.free .any ops ls i=true) (hr:(Region.ready .any ops ls).contains i=true)
 (hl:ls.setIfInBounds i true=l') (hc:certB ops [] i ls ps=true) (hS:SP B ps ls w) (hw:wF ops f o=true) (hd:o.dst=some d) (hlt:Nat.blt d N=true) (hrun:∀ w',B w'→(execOp (ev f) o).run P w'=.ok (.value v) w')
 (h:FB (δ:=δ) P N ops B M ps n l' (upd f d v) w):FB (δ:=δ) P N ops B M ps (n + 1) ls f w :=
 FB.take0 (S':=B) [] hi hs hf hr hl hc hS hd hlt (fun a ha=>.inl ⟨by rw [ha.yielded];exact hw,fun w' hw'=>by rw [ha.eval];exact hrun w' hw'⟩) (fun _ _ _ k=>k.base) h
theorem FB.takeP {Hs:List Nat} {R:World→Prop} {i d:Nat} {o:Oper} {v:Value} (q:Nat) (C:List Nat) (hq:ps[q]?=some (Hs,R)) (hi:ops[i]?=some o) (hs:Region.noSelect ops=true) (hf:Region.free .any ops ls i=true) (hr:(Region.ready .any ops ls).contains i=true)
 (hl:ls.setIfInBounds i true=l') (hc:certB ops C i ls ps=true) (hH:Hs.all (C.contains ·)=true) (hS:SP B ps ls w) (hw:wF ops f o=true) (hd:o.dst=some d) (hlt:Nat.blt d N=true)
 (hrun:∀ w',R w'→(execOp (ev f) o).run P w'=.ok (.value v) w')
 (h:FB (δ:=δ) P N ops B M ps n l' (upd f d v) w):FB (δ:=δ) P N ops B M ps (n + 1) ls f w :=
 FB.take0 (S':=R) C hi hs hf hr hl hc hS hd hlt (fun a ha=>.inl ⟨by rw [ha.yielded];exact hw,fun w' hw'=>by rw [ha.eval];exact hrun w' hw'⟩)
  (fun ls' w' k1 k2=>k2.ph (Hs,R) (List.mem_of_getElem? hq) fun h hh=>k1 h (by have:=List.all_eq_true.1 hH h hh;simpa using this)) h
theorem FB.takeW {Hs:List Nat} {i d:Nat} {o:Oper} {v:Value} (C:List Nat) (hi:ops[i]?=some o) (hs:Region.noSelect ops=true) (hf:Region.free .any ops ls i=true) (hr:(Region.ready .any ops ls).contains i=true)
 (hl:ls.setIfInBounds i true=l') (hc:certB ops C i ls ((Hs,fun w'=>w'=w)::ps)=true) (hH:Hs.all (C.contains ·)=true) (hS:SP B ((Hs,fun w'=>w'=w)::ps) ls w) (hw:wF ops f o=true) (hd:o.dst=some d) (hlt:Nat.blt d N=true)
 (hrun:(execOp (ev f) o).run P w=.ok (.value v) w)
 (h:FB (δ:=δ) P N ops B M ((Hs,fun w'=>w'=w)::ps) n l' (upd f d v) w):FB (δ:=δ) P N ops B M ((Hs,fun w'=>w'=w)::ps) (n + 1) ls f w :=
 FB.takeP 0 C rfl hi hs hf hr hl hc hH hS hw hd hlt (fun w' hw'=>by rw [hw'];exact hrun) h
theorem FB.skip {i:Nat} {o:Oper} (hi:ops[i]?=some o) (hs:Region.noSelect ops=true) (hf:Region.free .any ops ls i=true) (hr:(Region.ready .any ops ls).contains i=true)
 (hl:ls.setIfInBounds i true=l') (hc:certB ops [] i ls ps=true) (hS:SP B ps ls w) {d:Nat} (hw:wF ops f o=false) (hd:o.dst=some d) (hlt:Nat.blt d N=true)
 (h:FB (δ:=δ) P N ops B M ps n l' (upd f d undef) w):FB (δ:=δ) P N ops B M ps (n + 1) ls f w :=
 FB.take0 (S':=B) [] hi hs hf hr hl hc hS hd hlt (fun a ha=>.inr ⟨by rw [ha.yielded];exact hw,rfl⟩) (fun _ _ _ k=>k.base) h
theorem FB.done (hr:Region.ready .any ops ls=[]) (h:M f w):FB (δ:=δ) P N ops B M ps n ls f w:=fun _ ha=>by
 cases n with
 | zero=>exact ⟨hr,⟨f,ha,rfl,h⟩⟩
 | succ n=>exact ⟨fun _=>⟨f,ha,rfl,h⟩,fun i hi=>by rw [hr] at hi;cases hi⟩
theorem FB.all {rs:List Nat} (hr:Region.ready .any ops ls=rs) (hne:rs≠[]) (h:∀ i∈rs,FC (δ:=δ) P N ops B M ps n ls i f w):FB (δ:=δ) P N ops B M ps (n + 1) ls f w :=
 fun a ha=>⟨fun h0=>absurd (hr ▸ h0) hne,fun i hi=>h i (hr ▸ hi) a ha⟩
theorem FB.all1 {i:Nat} (hr:Region.ready .any ops ls=[i]) (h:FC (δ:=δ) P N ops B M ps n ls i f w):FB (δ:=δ) P N ops B M ps (n + 1) ls f w :=
 FB.all hr (by simp) fun j hj=>by simp at hj;subst hj;exact h
theorem FB.all2 {i j:Nat} (hr:Region.ready .any ops ls=[i,j]) (h1:FC (δ:=δ) P N ops B M ps n ls i f w) (h2:FC (δ:=δ) P N ops B M ps n ls j f w):FB (δ:=δ) P N ops B M ps (n + 1) ls f w :=
 FB.all hr (by simp) fun m hm=>by
  simp at hm;rcases hm with rfl|rfl
  · exact h1
  · exact h2
theorem FB.all3 {i j k:Nat} (hr:Region.ready .any ops ls=[i,j,k]) (h1:FC (δ:=δ) P N ops B M ps n ls i f w) (h2:FC (δ:=δ) P N ops B M ps n ls j f w) (h3:FC (δ:=δ) P N ops B M ps n ls k f w):FB (δ:=δ) P N ops B M ps (n + 1) ls f w :=
 FB.all hr (by simp) fun m hm=>by
  simp at hm;rcases hm with rfl|rfl|rfl
  · exact h1
  · exact h2
  · exact h3
def bs (n m:Nat):Array Bool:=((List.range n).map fun i=>m.testBit i).toArray
theorem FB.t {i d:Nat} {o:Oper} {v:Value} (l':Array Bool) (hi:ops[i]?=some o) (hS:SP B ps ls w) (hw:wF ops f o=true) (hrun:∀ w',B w'→(execOp (ev f) o).run P w'=.ok (.value v) w')
 (h:FB (δ:=δ) P N ops B M ps n l' (upd f d v) w) (hd:o.dst=some d:=by rfl) (hlt:Nat.blt d N=true:=by rfl) (hs:Region.noSelect ops=true:=by kernel_rfl) (hf:Region.free .any ops ls i=true:=by kernel_rfl)
 (hr:(Region.ready .any ops ls).contains i=true:=by kernel_rfl) (hl:ls.setIfInBounds i true=l':=by kernel_rfl) (hc:certB ops [] i ls ps=true:=by kernel_rfl):FB (δ:=δ) P N ops B M ps (n + 1) ls f w :=
 FB.take hi hs hf hr hl hc hS hw hd hlt hrun h
theorem FB.p {Hs:List Nat} {R:World→Prop} {i d:Nat} {o:Oper} {v:Value} (l':Array Bool) (q:Nat) (C:List Nat) (hi:ops[i]?=some o) (hS:SP B ps ls w) (hw:wF ops f o=true) (hq:ps[q]?=some (Hs,R)) (hrun:∀ w',R w'→(execOp (ev f) o).run P w'=.ok (.value v) w')
 (h:FB (δ:=δ) P N ops B M ps n l' (upd f d v) w) (hd:o.dst=some d:=by rfl) (hlt:Nat.blt d N=true:=by rfl) (hs:Region.noSelect ops=true:=by kernel_rfl) (hf:Region.free .any ops ls i=true:=by kernel_rfl)
 (hr:(Region.ready .any ops ls).contains i=true:=by kernel_rfl) (hl:ls.setIfInBounds i true=l':=by kernel_rfl) (hc:certB ops C i ls ps=true:=by kernel_rfl) (hH:Hs.all (C.contains ·)=true:=by kernel_rfl):FB (δ:=δ) P N ops B M ps (n + 1) ls f w :=
 FB.takeP q C hq hi hs hf hr hl hc hH hS hw hd hlt hrun h
theorem FB.u {Hs:List Nat} {i d:Nat} {o:Oper} {v:Value} (l':Array Bool) (C:List Nat) (hi:ops[i]?=some o) (hS:SP B ((Hs,fun w'=>w'=w)::ps) ls w) (hw:wF ops f o=true) (hrun:(execOp (ev f) o).run P w=.ok (.value v) w)
 (h:FB (δ:=δ) P N ops B M ((Hs,fun w'=>w'=w)::ps) n l' (upd f d v) w) (hd:o.dst=some d:=by rfl) (hlt:Nat.blt d N=true:=by rfl) (hs:Region.noSelect ops=true:=by kernel_rfl) (hf:Region.free .any ops ls i=true:=by kernel_rfl)
 (hr:(Region.ready .any ops ls).contains i=true:=by kernel_rfl) (hl:ls.setIfInBounds i true=l':=by kernel_rfl) (hc:certB ops C i ls ((Hs,fun w'=>w'=w)::ps)=true:=by kernel_rfl) (hH:Hs.all (C.contains ·)=true:=by kernel_rfl):FB (δ:=δ) P N ops B M ((Hs,fun w'=>w'=w)::ps) (n + 1) ls f w :=
 FB.takeW C hi hs hf hr hl hc hH hS hw hd hlt hrun h
theorem SP.o {B R:World→Prop} {Hs:List Nat} {ps:List (List Nat×(World→Prop))} {ls:Array Bool} {w:World} (h:SP B ps ls w) (hH:(Hs.any fun h=>ls.getD h true)=true:=by kernel_rfl):SP B ((Hs,R)::ps) ls w:=SP.off hH h
theorem FC.val {i d:Nat} {o:Oper} {v:Value} (hi:ops[i]?=some o) (hl:ls.setIfInBounds i true=l') (hw:wF ops f o=true) (hd:o.dst=some d) (hlt:Nat.blt d N=true)
 (hr:(execOp (ev f) o).run P w=.ok (.value v) w') (h:SP B ps l' w'∧FB (δ:=δ) P N ops B M ps n l' (upd f d v) w'):FC (δ:=δ) P N ops B M ps n ls i f w:=by
 subst hl
 intro a ha
 unfold wpOp
 simp only [hi]
 rw [ha.yielded,if_pos (show Region.wanted o (yF ops f)=true from hw)]
 refine .inl ?_
 unfold Oper.wp
 rw [ha.eval,hr,Oper.upon_value,hd]
 exact ⟨h.1,h.2 _ (ha.put (nblt hlt) v)⟩
theorem FC.act {i:Nat} {o:Oper} (hi:ops[i]?=some o) (hl:ls.setIfInBounds i true=l') (hw:wF ops f o=true) (hd:o.dst=none)
 (hr:(execOp (ev f) o).run P w=.ok .skip w') (h:SP B ps l' w'∧FB (δ:=δ) P N ops B M ps n l' f w'):FC (δ:=δ) P N ops B M ps n ls i f w:=by
 subst hl
 intro a ha
 unfold wpOp
 simp only [hi]
 rw [ha.yielded,if_pos (show Region.wanted o (yF ops f)=true from hw)]
 refine .inl ?_
 unfold Oper.wp
 rw [ha.eval,hr,Oper.upon_skip,hd]
 exact ⟨h.1,h.2 _ ha⟩
theorem FC.call {i d fid:Nat} {o:Oper} {args:Array Value} {R:Ending→World→Prop} (hi:ops[i]?=some o) (hl:ls.setIfInBounds i true=l') (hw:wF ops f o=true) (hd:o.dst=some d) (hlt:Nat.blt d N=true)
 (hr:(execOp (ev f) o).run P w=.ok (.enter fid args) w) (hc:Calls P fid args w R)
 (h:∀ e w',R e w'→∃ v,e=.returned v∧SP B ps l' w'∧FB (δ:=δ) P N ops B M ps n l' (upd f d v) w'):FC (δ:=δ) P N ops B M ps n ls i f w:=by
 subst hl
 intro a ha
 unfold wpOp
 simp only [hi]
 rw [ha.yielded,if_pos (show Region.wanted o (yF ops f)=true from hw)]
 refine .inl ?_
 unfold Oper.wp
 rw [ha.eval,hr,Oper.upon_enter,hd]
 refine hc.mono fun e w' r=>?_
 obtain ⟨v,rfl,hS,hv⟩:=h e w' r
 exact ⟨hS,hv _ (ha.put (nblt hlt) v)⟩
end
section
variable {P:Program} {f:Fm} {d:Option Tmp} {ty:TypeId} {pos:String} {aft:Array Edge} {gd:Option (Nat×Bool)} {x:Operand} {H0 H H':GH} {w0 w w':World} {l:List MO} {e k n:Nat} {z v:Value}
end
section
variable {ρ:Option Nat} {δ:List Nat} {P:Program} {N:Nat} {Q:FQ} {f:Fm} {w:World} {ops:Array Oper} {o:Oper} {rest:List Oper}
theorem FL.v {d:Nat} {v:Value} {w':World} (hr:(execOp (ev f) o).run P w=.ok (.value v) w') (h:FL (ρ:=ρ) (δ:=δ) P N ops Q rest (upd f d v) w')
 (hw:wF ops f o=true:=by rfl) (hd:o.dst=some d:=by rfl) (hlt:Nat.blt d N=true:=by rfl):FL (ρ:=ρ) (δ:=δ) P N ops Q (o::rest) f w:=FL.val hw hd hlt hr h
end
end Go.Mr
namespace Go.Mr
open Go.RowKit Go.Pu
def MapOf {K V:Type} (ek:K→Value) (en:V→Value) (o:Obj) (m:List (K×V)):Prop :=
 ∃ es clock,o=.map es clock∧es.toList.map (fun e=>(e.key,e.val))=m.map fun p=>(ek p.1,en p.2)
structure KeyNow (P:Program) (kt:TypeId) {K:Type} [BEq K] (ek:K→Value):Prop where
 kd:∃ kd,(∀ w,(underlying kt).run P w=.ok kd w)∧∀ a b,Instr.sameNow kd (ek a) (ek b)=some (a == b)
 eq:∀ a b:K,(a == b)=true→a=b
 bits:∀ a,Instr.sameBits 10000 (ek a) (ek a)=true
 chk:∀ e a w,(Instr.checkKey e 10000 kt (ek a)).run P w=.ok () w
section
variable {H0 H:GH} {w0 w:World} {l:List MO} {P:Program} {K V:Type} {ek:K→Value} {en:V→Value} {kt et t:TypeId} {o:Obj} {m:List (K×V)} {i b:Nat}
def mfind [BEq K]:List (K×V)→K→Option (Nat×V)
 | [],_=>none
 | p::m,k=>bif k == p.1 then some (0,p.2) else (mfind m k).map fun z=>(z.1 + 1,z.2)
theorem mget_find [BEq K]:∀ (m:List (K×V)) (k:K),mget m k=(mfind m k).map (·.2)
 | [],_=>rfl
 | p::m,k=>by
  simp only [mget,mfind]
  cases k == p.1 with
  | true=>rfl
  | false=>simp only [cond_false];rw [mget_find m k];cases mfind m k <;> rfl
theorem mput_none [BEq K]:∀ {m:List (K×V)} {k:K} (v:V),mfind m k=none→mput m k v=m++[(k,v)]
 | [],_,_,_=>rfl
 | p::m,k,v,h=>by
  simp only [mfind,mput] at h ⊢
  cases hk:k == p.1 with
  | true=>rw [hk] at h;cases h
  | false =>
   rw [hk] at h
   simp only [cond_false,List.cons_append] at h ⊢
   rw [mput_none v (by cases hf:mfind m k with
    | none=>rfl
    | some z=>rw [hf] at h;cases h)]
theorem mput_some [BEq K]:∀ {m:List (K×V)} {k:K} {j:Nat} {u:V} (v:V),mfind m k=some (j,u)→mput m k v=m.set j (k,v)∧j < m.length∧∃ p,m[j]?=some p∧(k == p.1)=true
 | [],_,_,_,_,h=>by cases h
 | p::m,k,j,u,v,h=>by
  simp only [mfind,mput] at h ⊢
  cases hk:k == p.1 with
  | true=>rw [hk] at h;cases h;exact ⟨rfl,Nat.zero_lt_succ _,p,rfl,hk⟩
  | false =>
   rw [hk] at h
   simp only [cond_false] at h ⊢
   cases hf:mfind m k with
   | none=>rw [hf] at h;cases h
   | some z =>
    rw [hf] at h;cases h
    obtain ⟨h1,h2,q,h3,h4⟩:=mput_some v (m:=m) (k:=k) (j:=z.1) (u:=z.2) hf
    exact ⟨by rw [h1];rfl,by simpa using h2,q,by simpa using h3,h4⟩
theorem findNow_eq [BEq K] {kd:TypeDesc} (hk:∀ a b,Instr.sameNow kd (ek a) (ek b)=some (a == b)) (k:K):∀ (es:List MapEntry) (m:List (K×V)) (i:Nat),es.map (fun e=>(e.key,e.val))=m.map (fun p=>(ek p.1,en p.2)) →
 Instr.findNow kd (ek k) es i=some ((mfind m k).map fun z=>(i + z.1,en z.2))
 | [],[],_,_=>rfl
 | [],_::_,_,h=>by cases h
 | _::_,[],_,h=>by cases h
 | e::es,p::m,i,h=>by
  simp only [List.map_cons,List.cons.injEq,Prod.mk.injEq] at h
  obtain ⟨⟨h1,h2⟩,h3⟩:=h
  have:=findNow_eq hk k es m (i + 1) h3
  simp only [Instr.findNow,h1,hk,mfind]
  cases k == p.1 with
  | true=>simp [h2]
  | false =>
   simp only [this,cond_false]
   cases mfind m k with
   | none=>rfl
   | some z=>simp;omega
theorem St.makeMap (S:St H0 w0 H w l) (t:TypeId) (ek:K→Value) (en:V→Value) :
 ∃ b o w1,(Instr.makeMap t Option.none).run P w=.ok (.map (some b)) w1∧St H0 w0 H w1 (.raw b o::l)∧MapOf ek en o [] :=
 ⟨w.heap.size,.map #[] 0,w.alloc (.map #[] 0),rfl,S.push (.raw w.heap.size (.map #[] 0)) _ ⟨heap_alloc_new w _,S.size⟩ (fun b hb=>by simpa [MO.blk] using hb.symm),_,_,rfl,rfl⟩
theorem St.mapGetOk [BEq K] (S:St H0 w0 H w l) (hi:l[i]?=some (.raw b o)) (hm:MapOf ek en o m) (ht:∀ w,(underlying t).run P w=.ok (.map kt et) w) (kn:KeyNow P kt ek) {z:V} (hz:∀ w,(zeroValue et).run P w=.ok (en z) w) (k:K) :
 (Instr.lookup t (.map (some b)) (ek k) true).run P w=.ok (.tuple #[en ((mget m k).getD z),.bool (mget m k).isSome]) w:=by
 obtain ⟨es,c,rfl,he⟩:=hm
 have hb:=S.rawAt hi
 obtain ⟨kd,h1,h2⟩:=kn.kd
 have hf:=findNow_eq h2 k es.toList m 0 he
 rw [mget_find]
 cases hq:mfind m k with
 | none=>rw [hq] at hf;simp [Instr.lookup,ht,getObj,Sem.run,hb,kn.chk,Instr.findKey,h1,hf,hz]
 | some z=>rw [hq] at hf;simp [Instr.lookup,ht,getObj,Sem.run,hb,kn.chk,Instr.findKey,h1,hf]
theorem St.mapPut [BEq K] (S:St H0 w0 H w l) (hi:l[i]?=some (.raw b o)) (hm:MapOf ek en o m) (ht:∀ w,(underlying t).run P w=.ok (.map kt et) w) (kn:KeyNow P kt ek) (k:K) (v:V) :
 ∃ o1 w1,(Instr.mapUpdate t (.map (some b)) (ek k) (en v)).run P w=.ok () w1∧St H0 w0 H w1 (l.set i (.raw b o1))∧MapOf ek en o1 (mput m k v):=by
 obtain ⟨es,c,rfl,he⟩:=hm
 have hb:=S.rawAt hi
 obtain ⟨kd,h1,h2⟩:=kn.kd
 have hf:=findNow_eq h2 k es.toList m 0 he
 cases hq:mfind m k with
 | none =>
  rw [hq] at hf
  refine ⟨.map (es.push { key:=ek k,val:=en v,born:=c }) (c + 1),_,?_,S.rawPut _ hi,_,_,rfl,?_⟩
  · simp [Instr.mapUpdate,ht,getObj,setObj,Sem.run,hb,kn.chk,Instr.findKey,h1,hf,World.putObj]
  · rw [mput_none v hq];simp [he]
 | some z =>
  obtain ⟨j,u⟩:=z
  rw [hq] at hf
  obtain ⟨p1,p2,p,p3,p4⟩:=mput_some v hq
  have hlen:es.toList.length=m.length:=by have:=congrArg List.length he;simpa using this
  have hj:j < es.size:=by simp at hlen;omega
  have hkey:es[j].key=ek k:=by
   have:=congrArg (fun l=>l[j]?) he
   simp only [List.getElem?_map,p3,Option.map_some,Array.getElem?_toList,Array.getElem?_eq_getElem hj,Option.some.injEq,Prod.mk.injEq] at this
   rw [this.1,kn.eq _ _ p4]
  refine ⟨.map (es.modify j fun e=>{ e with key:=ek k,val:=en v }) c,_,?_,S.rawPut _ hi,_,_,rfl,?_⟩
  · simp [Instr.mapUpdate,ht,getObj,setObj,Sem.run,hb,kn.chk,Instr.findKey,h1,hf,Instr.keyThatStays,hkey,kn.bits,World.putObj,hj]
  · rw [p1]
    apply List.ext_getElem?
    intro n
    have hn:=congrArg (fun l=>l[n]?) he
    simp only [List.getElem?_map,Array.getElem?_toList] at hn
    simp only [List.getElem?_map,Array.getElem?_toList,Array.getElem?_modify,List.getElem?_set]
    by_cases hjn:j=n
    · subst hjn
      rw [if_pos rfl,if_pos rfl,if_pos p2,Array.getElem?_eq_getElem hj];rfl
    · rw [if_neg hjn,if_neg hjn];exact hn
theorem E.makeMap {f:Fm} {d:Option Tmp} {ty:TypeId} {pos:String} {aft:Array Edge} {gd:Option (Nat×Bool)} {v:Value} {w':World} (h:(Instr.makeMap t Option.none).run P w=.ok v w') :
 (execOp (ev f) ⟨d,.makeMap t Option.none,ty,pos,aft,gd⟩).run P w=.ok (.value v) w':=by
 simp [execOp,h]
theorem E.lookup {f:Fm} {d:Option Tmp} {ty:TypeId} {pos:String} {aft:Array Edge} {gd:Option (Nat×Bool)} {x y:Operand} {u z v:Value} {ok:Bool} (hx:ev f x=u) (hy:ev f y=z) (h:(Instr.lookup t u z ok).run P w=.ok v w) :
 (execOp (ev f) ⟨d,.lookup t x y ok,ty,pos,aft,gd⟩).run P w=.ok (.value v) w:=by
 subst hx hy;simp [execOp,h]
theorem E.mapUpdate {f:Fm} {ty:TypeId} {pos:String} {aft:Array Edge} {gd:Option (Nat×Bool)} {x y q:Operand} {u z v:Value} {w':World} (hx:ev f x=u) (hy:ev f y=z) (hq:ev f q=v) (h:(Instr.mapUpdate t u z v).run P w=.ok () w') :
 (execOp (ev f) ⟨none,.mapUpdate t x y q,ty,pos,aft,gd⟩).run P w=.ok .skip w':=by
 subst hx hy hq;simp [execOp,h]
end
end Go.Mr
namespace Go.Mr
open Go.RowKit Go.Pu
section
variable {H0 H G G':GH} {w0 w:World} {l:List MO} {P:Program} {t e n:Nat} {v u:Value} {α:Type} {En:Enc α} {cells c0:List Value} {xs ys:List α} {j:Int} {x:α} {i:Nat}
structure Pend (G:GH) (En:Enc α) (cells:List Value) (xs:List α) (j:Int) (u:Value):Prop where
 pd:∃ c0,Els G En 1 c0 xs∧0≤j∧j < xs.length∧cells=c0.take (j.toNat * 1)++[u]++c0.drop (j.toNat * 1 + 1)
theorem St.cell_at (h:St H0 w0 H w l) (hi:l[i]?=some (.row e 1 v n cells)) (h0:0≤j) (hx:cells[j.toNat]?=some u):∃ p,PtrOf 1 v j p∧WAt w p [u]:=by
 have h1:=(List.getElem?_eq_some_iff.1 hx).1
 obtain ⟨⟨k1,k2⟩,_⟩:=h.ok i _ hi
 rcases k2 with ⟨rfl,h3⟩|⟨g,cap,cur,rfl,hg,hh,hle,_,hsz,htk⟩
 · omega
 · refine ⟨_,⟨⟨g,0,Option.none⟩,_,cap,rfl,h0,by omega,rfl⟩,fun m z hz=>?_⟩
   rw [zcm,Addr.add_lit,Nat.zero_add,cell_of_row w g _ _ _ _ hh]
   have hm:m=0:=by
    rcases Nat.eq_zero_or_pos m with h|h
    · exact h
    · rw [List.getElem?_eq_none (by simp;omega)] at hz;cases hz
   subst hm
   rw [← htk,List.getElem?_take] at hx
   split at hx
   · cases hz;simpa using hx
   · cases hx
end
end Go.Mr
namespace Go.Mr
open Go.RowKit Go.Pu
abbrev vI (n:Int):Value:=.int .i64 n
abbrev vB (b:Bool):Value:=.bool b
abbrev vP (a:Addr):Value:=.pointer (some a)
theorem wY {ops:Array Oper} {f:Fm} {o:Oper} {j t:Nat} {b c:Bool} (hc:c=b) (hg:o.guard=some (j,b):=by rfl) (hj:(ops[j]?).bind (·.dst)=some t:=by rfl) (hv:f t=.bool c:=by rfl):wF ops f o=true:=wF_yes hg hj hv hc
theorem wN {ops:Array Oper} {f:Fm} {o:Oper} {j t:Nat} {b c:Bool} (hc:c = !b) (hg:o.guard=some (j,b):=by rfl) (hj:(ops[j]?).bind (·.dst)=some t:=by rfl) (hv:f t=.bool c:=by rfl):wF ops f o=false:=wF_no hg hj hv hc
abbrev vA (xs:Array Value):Value:=.agg xs
theorem I0 {H:GH}:Inc H H:=Inc.rfl H
theorem oC {c:Value} {l:List Value} (h:c.oneCell'=true) (hl:∀ u∈l,u.oneCell'=true):∀ u∈c::l,u.oneCell'=true:=zb1 h hl
theorem nB {m n:Nat} (h:Nat.ble m n=true):m≤n:=Nat.le_of_ble_eq_true h
abbrev vN:Value:=.slice none 0 0
section
variable {ρ:Option Nat} {δ:List Nat} {P:Program} {N:Nat} {Q:FQ} {f:Fm} {w:World} {ops:Array Oper} {o:Oper} {rest:List Oper} {C:World→Prop} {Qd:Fm→Prop}
theorem FW.sr {id:Nat} {l:List Oper} {y:Code} (h:FL (ρ:=ρ) (δ:=δ) P N l.toArray (thenF (fun f w=>FW (ρ:=ρ) (δ:=δ) P N y Q f w) Q) l f w):FW (ρ:=ρ) (δ:=δ) P N (.seq (.region id l.toArray false) y) Q f w:=FW.seq (FW.region h)
theorem FL.mv {d:Nat} {v:Value} {x:Operand} {ty:TypeId} {pos:String} {aft:Array Edge} {gd:Option (Nat×Bool)} (hx:ev f x=v) (h:FL (ρ:=ρ) (δ:=δ) P N ops Q rest (upd f d v) w)
 (hw:wF ops f ⟨some d,.move x,ty,pos,aft,gd⟩=true:=by rfl) (hlt:Nat.blt d N=true:=by rfl):FL (ρ:=ρ) (δ:=δ) P N ops Q (⟨some d,.move x,ty,pos,aft,gd⟩::rest) f w:=FL.val hw rfl hlt (E.move hx) h
theorem FL.as {d:Nat} {v:Value} {x:Operand} {ty:TypeId} {pos:String} {aft:Array Edge} {gd:Option (Nat×Bool)} (hx:ev f x=v) (h:FL (ρ:=ρ) (δ:=δ) P N ops Q rest (upd f d v) w)
 (hw:wF ops f ⟨some d,.assign x,ty,pos,aft,gd⟩=true:=by rfl) (hlt:Nat.blt d N=true:=by rfl):FL (ρ:=ρ) (δ:=δ) P N ops Q (⟨some d,.assign x,ty,pos,aft,gd⟩::rest) f w:=FL.val hw rfl hlt (E.assign hx) h
theorem FL.c {d fid:Nat} {args:Array Value} {R:Ending→World→Prop} (hr:(execOp (ev f) o).run P w=.ok (.enter fid args) w) (hc:Calls P fid args w R)
 (h:∀ e w',R e w'→∃ v,e=.returned v∧FL (ρ:=ρ) (δ:=δ) P N ops Q rest (upd f d v) w') (hw:wF ops f o=true:=by rfl) (hd:o.dst=some d:=by rfl) (hlt:Nat.blt d N=true:=by rfl):FL (ρ:=ρ) (δ:=δ) P N ops Q (o::rest) f w:=FL.call hw hd hlt hr hc h
theorem FD.v {d:Nat} {v:Value} (hr:∀ w,C w→(execOp (ev f) o).run P w=.ok (.value v) w) (h:FD (δ:=δ) P N ops C Qd rest (upd f d v))
 (hw:wF ops f o=true:=by rfl) (hd:o.dst=some d:=by rfl) (hlt:Nat.blt d N=true:=by rfl):FD (δ:=δ) P N ops C Qd (o::rest) f:=FD.val hw hd hlt hr h
theorem FD.y {d:Nat} {v:Value} (hw:wF ops f o=true) (hr:∀ w,C w→(execOp (ev f) o).run P w=.ok (.value v) w) (h:FD (δ:=δ) P N ops C Qd rest (upd f d v))
 (hd:o.dst=some d:=by rfl) (hlt:Nat.blt d N=true:=by rfl):FD (δ:=δ) P N ops C Qd (o::rest) f:=FD.val hw hd hlt hr h
theorem FL.y {d:Nat} {v:Value} {w':World} (hw:wF ops f o=true) (hr:(execOp (ev f) o).run P w=.ok (.value v) w') (h:FL (ρ:=ρ) (δ:=δ) P N ops Q rest (upd f d v) w')
 (hd:o.dst=some d:=by rfl) (hlt:Nat.blt d N=true:=by rfl):FL (ρ:=ρ) (δ:=δ) P N ops Q (o::rest) f w:=FL.val hw hd hlt hr h
end
section
variable {δ:List Nat} {P:Program} {N:Nat} {f:Fm} {w w':World} {ops:Array Oper} {B:World→Prop} {M:Fm→World→Prop} {ps:List (List Nat×(World→Prop))} {n:Nat} {ls l':Array Bool}
theorem FB.S {o:Oper} (i k m:Nat) (hB:B w) {j t:Nat} {b c:Bool} (hw:c = !b) {d:Nat} (h:FB (δ:=δ) P N ops B M [] n (bs k m) (upd f d undef) w)
 (hi:ops[i]?=some o:=by rfl) (hg:o.guard=some (j,b):=by rfl) (hj:(ops[j]?).bind (·.dst)=some t:=by rfl) (hv:f t=.bool c:=by rfl) (hd:o.dst=some d:=by rfl) (hlt:Nat.blt d N=true:=by rfl) (hs:Region.noSelect ops=true:=by kernel_rfl) (hf:Region.free .any ops ls i=true:=by kernel_rfl)
 (hr:(Region.ready .any ops ls).contains i=true:=by kernel_rfl) (hl:ls.setIfInBounds i true=bs k m:=by kernel_rfl) (hc:certB ops [] i ls []=true:=by kernel_rfl):FB (δ:=δ) P N ops B M [] (n + 1) ls f w :=
 FB.skip hi hs hf hr hl hc (SP.nil hB) (wF_no hg hj hv hw) hd hlt h
theorem FB.T {d:Nat} {o:Oper} {v:Value} (i k m:Nat) (hi:ops[i]?=some o) (hB:B w) (hw:wF ops f o=true) (hrun:∀ w',B w'→(execOp (ev f) o).run P w'=.ok (.value v) w')
 (h:FB (δ:=δ) P N ops B M [] n (bs k m) (upd f d v) w) (hd:o.dst=some d:=by rfl) (hlt:Nat.blt d N=true:=by rfl) (hs:Region.noSelect ops=true:=by kernel_rfl) (hf:Region.free .any ops ls i=true:=by kernel_rfl)
 (hr:(Region.ready .any ops ls).contains i=true:=by kernel_rfl) (hl:ls.setIfInBounds i true=bs k m:=by kernel_rfl) (hc:certB ops [] i ls []=true:=by kernel_rfl):FB (δ:=δ) P N ops B M [] (n + 1) ls f w :=
 FB.take hi hs hf hr hl hc (SP.nil hB) hw hd hlt hrun h
end
end Go.Mr
namespace Go.Mr
open Go.RowKit Go.Pu
abbrev vJ (n:Int):Value:=.int .u64 n
abbrev vK (b:Nat):Value:=vP (⟨b,0,Option.none⟩:Addr)
section
variable {ρ:Option Nat} {δ:List Nat} {P:Program} {N:Nat} {Q:FQ} {f:Fm} {w:World} {ops:Array Oper} {o:Oper} {rest:List Oper} {C:World→Prop} {Qd:Fm→Prop}
theorem FL.n {j t:Nat} {b c:Bool} (hc:c = !b) (h:FL (ρ:=ρ) (δ:=δ) P N ops Q rest (putF f o.dst undef) w) (hg:o.guard=some (j,b):=by rfl) (hj:(ops[j]?).bind (·.dst)=some t:=by rfl) (hv:f t=.bool c:=by rfl)
 (hlt:(o.dst.all fun t=>Nat.blt t N)=true:=by rfl):FL (ρ:=ρ) (δ:=δ) P N ops Q (o::rest) f w:=FL.skip (wN hc hg hj hv) hlt h
theorem FD.n {j t:Nat} {b c:Bool} (hc:c = !b) (h:FD (δ:=δ) P N ops C Qd rest (putF f o.dst undef)) (hg:o.guard=some (j,b):=by rfl) (hj:(ops[j]?).bind (·.dst)=some t:=by rfl) (hv:f t=.bool c:=by rfl)
 (hlt:(o.dst.all fun t=>Nat.blt t N)=true:=by rfl):FD (δ:=δ) P N ops C Qd (o::rest) f:=FD.skip (wN hc hg hj hv) hlt h
end
section
variable {P:Program} {H0 H:GH} {w0 w:World} {l:List MO} {t e k:Nat} {z:Value}
theorem St.s0 {t n:Nat} (h:St H0 w0 H w l) (i:Nat) (c:List Value) {b t0:Nat} {cs:List Value} {l':List MO} (ts:∀ w,(sizeOf t).run P w=.ok n w) (h1:∀ u∈c,u.oneCell'=true) (hi:l[i]?=some (.box b t0 cs):=by rfl)
 (hcn:c.length=n:=by rfl) (hj:Nat.ble n cs.length=true:=by rfl) (hcs:c++cs.drop n=c:=by rfl) (hl:l.set i (.box b t0 c)=l':=by rfl) :
 ∃ w1,(Instr.storeAt t (.pointer (some ⟨b,0,Option.none⟩)) (vA c.toArray)).run P w=.ok () w1∧St H0 w0 H w1 l' :=
 h.store0 (cs':=c) (v:=vA c.toArray) (c:=c) hi ts rfl hcn h1 (nB hj) hcs hl
theorem St.b0 (h:St H0 w0 H w l) (te:TE P t e k z):∃ v w1,(Instr.buildSlice t 0 #[]).run P w=.ok v w1∧St H0 w0 H w1 (.row e k v 0 []::l) :=
 h.buildSlice te [] (parts:=#[]) (cells:=[]) rfl zba zbf zad (by simp)
theorem St.b1 (h:St H0 w0 H w l) (te:TE P t e 1 z) {v:Value} (hc:v.cells=#[v]) (h1:v.oneCell'=true):∃ u w1,(Instr.buildSlice t 1 #[(0,v)]).run P w=.ok u w1∧St H0 w0 H w1 (.row e 1 u 1 [v]::l) :=
 h.buildSlice te [v] (parts:=#[(0,v)]) (cells:=[v]) rfl (zbb (cells_size hc) zba) (zbg hc zbf) (oC h1 zad) (by simp)
theorem St.bA (h:St H0 w0 H w l) (te:TE P t e k z) (c:List Value) (h1:∀ u∈c,u.oneCell'=true) (hk:c.length=k:=by rfl) (hb:Nat.ble k 16777216=true:=by rfl):∃ u w1,(Instr.buildSlice t 1 #[(0,vA c.toArray)]).run P w=.ok u w1∧St H0 w0 H w1 (.row e k u 1 c::l) :=
 h.buildSlice te [vA c.toArray] (parts:=#[(0,vA c.toArray)]) (cells:=c) rfl (zbb (by rw [← hk];simp [Value.cells]) zba) (by simp [Value.cells]) h1 (by have:=Nat.le_of_ble_eq_true hb;simp;omega)
end
end Go.Mr
namespace Go.Mr
open Go.RowKit Go.Pu
def iC (xs:List Int):List Value:=xs.map (Value.int .i64)
def iP (xs:List Int):Array (Nat×Value):=((xs.zipIdx 0).map fun p=>(p.2,Value.int .i64 p.1)).toArray
theorem els_ints (G:GH) (xs:List Int):Els G eI 1 (iC xs) xs:=by
 have key:∀ ys:List Int,Els G eI 1 (iC ys.reverse) ys.reverse:=by
  intro ys
  induction ys with
  | nil=>exact .nil
  | cons x ys ih =>
   have:=Els.snoc (c:=[Value.int .i64 x]) (x:=x) ih rfl (show eI.rel G [Value.int .i64 x] x from rfl)
   unfold iC at this ⊢
   rw [List.reverse_cons,List.map_append]
   exact this
 have:=key xs.reverse
 rwa [List.reverse_reverse] at this
theorem flat_ints (xs:List Int):((xs.map (Value.int .i64)).map (·.cells.toList)).flatten=iC xs:=by
 unfold iC
 induction xs with
 | nil=>rfl
 | cons x xs ih=>rw [List.map_cons,List.map_cons,List.flatten_cons,ih];rfl
theorem St.ints {P:Program} {H0 H:GH} {w0 w:World} {l:List MO} {t e:Nat} {z:Value} (h:St H0 w0 H w l) (te:TE P t e 1 z) (G:GH) (n:Nat) (xs:List Int) (hn:xs.length=n:=by rfl) (hsm:Nat.ble n 1000=true:=by rfl) :
 ∃ v w1,(Instr.buildSlice t n (iP xs)).run P w=.ok v w1∧St H0 w0 H w1 (.row e 1 v n (iC xs)::l)∧Els G eI 1 (iC xs) xs:=by
 subst hn
 have hl:(xs.map (Value.int .i64)).length=xs.length:=List.length_map _
 obtain ⟨v,w1,h1,h2⟩:=h.buildSlice (P:=P) te (xs.map (Value.int .i64)) (parts:=iP xs) (cells:=iC xs) (by
  unfold iP
  show List.map _ _=_
  rw [List.zipIdx_map,List.map_map];rfl) (fun v hv=>by obtain ⟨x,_,rfl⟩:=List.mem_map.1 hv;rfl) (flat_ints xs) (fun c hc=>by unfold iC at hc;obtain ⟨x,_,rfl⟩:=List.mem_map.1 hc;rfl) (by have:=Nat.le_of_ble_eq_true hsm;rw [hl];omega)
 rw [hl] at h1 h2
 exact ⟨v,w1,h1,h2,els_ints G xs⟩
theorem sgo {A B:Prop} (a:A) (h:A→B):A∧B:=⟨a,h a⟩
section
variable {δ:List Nat} {P:Program} {N:Nat} {f:Fm} {w w':World} {ops:Array Oper} {B:World→Prop} {M:Fm→World→Prop} {ps:List (List Nat×(World→Prop))} {n:Nat} {ls l':Array Bool}
theorem FB.go (hS:SP B ps ls w) (h:SP B ps ls w→FB (δ:=δ) P N ops B M ps n ls f w):FB (δ:=δ) P N ops B M ps n ls f w:=h hS
theorem sp_next {C:List Nat} {i:Nat} (hc:certB ops C i ls ps=true) (hl:ls.setIfInBounds i true=l') (hS:SP B ps ls w):SP B ps l' w:=by
 subst hl
 unfold certB at hc
 rw [Bool.and_eq_true] at hc
 exact (SP.iff hc.2).2 hS
theorem FB.r {d:Nat} {o:Oper} {v:Value} (i k m:Nat) (hi:ops[i]?=some o) (hS:SP B ps ls w) (hrun:∀ w',B w'→(execOp (ev f) o).run P w'=.ok (.value v) w')
 (h:SP B ps (bs k m) w→FB (δ:=δ) P N ops B M ps n (bs k m) (upd f d v) w) (hw:wF ops f o=true:=by rfl) (hd:o.dst=some d:=by rfl) (hlt:Nat.blt d N=true:=by rfl) (hs:Region.noSelect ops=true:=by kernel_rfl) (hf:Region.free .any ops ls i=true:=by kernel_rfl)
 (hr:(Region.ready .any ops ls).contains i=true:=by kernel_rfl) (hl:ls.setIfInBounds i true=bs k m:=by kernel_rfl) (hc:certB ops [] i ls ps=true:=by kernel_rfl):FB (δ:=δ) P N ops B M ps (n + 1) ls f w :=
 FB.take hi hs hf hr hl hc hS hw hd hlt hrun (h (sp_next hc hl hS))
theorem FB.q {Hs:List Nat} {R:World→Prop} {d:Nat} {o:Oper} {v:Value} (i k m:Nat) (q:Nat) (C:List Nat) (hi:ops[i]?=some o) (hS:SP B ps ls w) (hq:ps[q]?=some (Hs,R)) (hrun:∀ w',R w'→(execOp (ev f) o).run P w'=.ok (.value v) w')
 (h:SP B ps (bs k m) w→FB (δ:=δ) P N ops B M ps n (bs k m) (upd f d v) w) (hw:wF ops f o=true:=by rfl) (hd:o.dst=some d:=by rfl) (hlt:Nat.blt d N=true:=by rfl) (hs:Region.noSelect ops=true:=by kernel_rfl) (hf:Region.free .any ops ls i=true:=by kernel_rfl)
 (hr:(Region.ready .any ops ls).contains i=true:=by kernel_rfl) (hl:ls.setIfInBounds i true=bs k m:=by kernel_rfl) (hc:certB ops C i ls ps=true:=by kernel_rfl) (hH:Hs.all (C.contains ·)=true:=by kernel_rfl):FB (δ:=δ) P N ops B M ps (n + 1) ls f w :=
 FB.takeP q C hq hi hs hf hr hl hc hH hS hw hd hlt hrun (h (sp_next hc hl hS))
theorem FB.z {o:Oper} (i k m:Nat) (hi:ops[i]?=some o) (hS:SP B ps ls w) (hw:wF ops f o=false) {d:Nat} (h:SP B ps (bs k m) w→FB (δ:=δ) P N ops B M ps n (bs k m) (upd f d undef) w)
 (hd:o.dst=some d:=by rfl) (hlt:Nat.blt d N=true:=by rfl) (hs:Region.noSelect ops=true:=by kernel_rfl) (hf:Region.free .any ops ls i=true:=by kernel_rfl)
 (hr:(Region.ready .any ops ls).contains i=true:=by kernel_rfl) (hl:ls.setIfInBounds i true=bs k m:=by kernel_rfl) (hc:certB ops [] i ls ps=true:=by kernel_rfl):FB (δ:=δ) P N ops B M ps (n + 1) ls f w :=
 FB.skip hi hs hf hr hl hc hS hw hd hlt (h (sp_next hc hl hS))
end
end Go.Mr
namespace Go.Mr
open Go.RowKit Go.Pu
variable {A:Type} {En:Enc A} {H:GH}
theorem nd_perm {c c':List Value} (h:c'.Perm c) (hn:(bl c).Nodup):(bl c').Nodup:=by unfold bl at *;exact (h.filterMap _).nodup_iff.2 hn
end Go.Mr
namespace Go.Mr
open Go.RowKit Go.Pu
def TabH (P:Program) (name:String) (k:IntKind) (zs:List Int) (H:GH):Prop:=∃ g e fr,P.globalNamed name=some g∧H g=some (.cells (zs.map fun z=>Value.int k z).toArray e fr)
@[reducible] def TabI (P:Program) (H:GH):Prop:=TabH P "internal/strconv.uint64pow10" .u64 Lib.pow10Tab H
section
variable {P:Program} {f:Fm} {w:World} {d:Option Tmp} {ty:TypeId} {pos:String} {aft:Array Edge} {gd:Option (Nat×Bool)} {x y:Operand} {t t':TypeId}
end
end Go.Mr
namespace Go.Pu
inductive Fo where
 | nil:Fo
 | node (op:Int) (a b:Fo) (text:ByteArray):Fo
@[ext] structure FoN where
 op:Int
 a:Fo
 b:Fo
 text:ByteArray
end Go.Pu
namespace Go.Mr
open Go.RowKit Go.Pu
@[reducible] def NilT (v:Value) (b:Bool):Prop:=v=.pointer none∧b=true∨∃ q,v=.pointer (some q)∧b=false
section
variable {α:Type} {H H':GH} {E:Enc α} {v:Value} {x:Option α}
end
section
variable {P:Program} {f:Fm} {w:World} {d:Option Tmp} {ty:TypeId} {pos:String} {aft:Array Edge} {gd:Option (Nat×Bool)} {x y:Operand} {t t':TypeId}
end
end Go.Mr
namespace Go.Mr
open Go.RowKit Go.Pu
section
variable {ρ:Option Nat} {P:Program} {ops:Array Oper} {Q:Exit→Act→World→Prop} {md:Region.Mode}
end
section
variable {δ:List Nat} {P:Program} {N:Nat} {f:Fm} {w:World} {H:GH}
end
end Go.Mr
namespace Go.Mr
open Go.RowKit Go.Pu
section
variable {H:GH} {A A2:Type} {En:Enc A} {E2:Enc A2} {k k2 B lo hi:Nat} {v v2:Value} {xs:List A} {x2:List A2}
theorem New.apart (h:RSl (up B H) En k v xs) (n:New H [v2]):∀ b∈bl [v],b ∉ bl [v2]:=fun b hb hb2=>by
 have h0:=h.dom b hb
 have:=n b hb2
 unfold up at h0
 split at h0
 · exact h0 rfl
 · exact h0 (by rw [this];rfl)
end
end Go.Mr
namespace Go.Mr
open Go.RowKit Go.Pu
section
variable {H H' H2 G:GH} {A A':Type} {En:Enc A} {E':Enc A'} {k k' B:Nat} {v v':Value} {xs:List A} {ys:List A'} {c:List Value}
theorem nd_two (h:∀ b∈bl [v],b ∉ bl [v']):(bl [v,v']).Nodup:=by
 have e:bl [v,v']=bl [v]++bl [v']:=zbe [v] [v']
 rw [e]
 exact List.nodup_append.2 ⟨nd_one v,nd_one v',fun a ha b hb e=>h a ha (e ▸ hb)⟩
theorem New.two (h:New H [v]) (h':New H [v']):New H [v,v']:=fun b hb=>by
 have e:bl [v,v']=bl [v]++bl [v']:=zbe [v] [v']
 rw [e] at hb
 rcases List.mem_append.1 hb with hb|hb
 · exact h b hb
 · exact h' b hb
end
end Go.Mr
namespace Go.Mr
open Go.RowKit Go.Pu
def MAt {K V:Type} (H:GH) (ek:K→Value) (en:V→Value) (v:Value) (m:List (K×V)):Prop:=∃ b o,v=.map (some b)∧H b=some o∧MapOf ek en o m
section
variable {H0 H H':GH} {w0 w:World} {l:List MO} {P:Program} {K V:Type} {ek:K→Value} {en:V→Value} {kt et t:TypeId} {o:Obj} {m:List (K×V)} {i b:Nat} {v:Value}
theorem chk_intk {k:IntKind} (h:∀ w,(underlying kt).run P w=.ok (.int k) w) (n:Nat) (e:Bool) (a:Int) (w:World):(Instr.checkKey e (n + 1) kt (.int k a)).run P w=.ok () w:=by
 simp [Instr.checkKey,h]
theorem KeyNow.intk {k:IntKind} (h:∀ w,(underlying kt).run P w=.ok (.int k) w):KeyNow P kt (Value.int k):=by
 refine ⟨⟨_,h,fun a b=>?_⟩,fun a b h=>by simpa using h,fun a=>?_,fun e a w=>chk_intk h 9999 e a w⟩
 · simp [Instr.sameNow]
 · simp [Instr.sameBits]
theorem MAt.mono (h:MAt H ek en v m) (hi:Inc H H'):MAt H' ek en v m:=by obtain ⟨b,o,h1,h2,h3⟩:=h;exact ⟨b,o,h1,hi _ _ h2,h3⟩
theorem St.sealMap (S:St H0 w0 H w l) {l':List MO} (hi:l[i]?=some (.raw b o)) (hm:MapOf ek en o m) (hl:l.eraseIdx i=l') :
 ∃ H',St H0 w0 H' w l'∧Inc H H'∧MAt H' ek en (.map (some b)) m:=by
 subst hl
 have hb:=S.rawAt hi
 obtain ⟨H',h1,h2,h3⟩:=S.sealedS hi (fun b' ob e1 e2=>by
  obtain ⟨es,c,rfl,_⟩:=hm
  simp only [MO.blk,Option.some.injEq] at e1;subst e1
  rw [hb] at e2;cases e2;rfl)
 exact ⟨H',h1,h2,b,o,rfl,h3 b o rfl hb,hm⟩
end
end Go.Mr
namespace Go.Mr
open Go.RowKit Go.Pu
section
variable {P:Program} {f:Fm} {w w':World} {d:Option Tmp} {ty:TypeId} {pos:String} {aft:Array Edge} {gd:Option (Nat×Bool)} {x y:Operand} {v u u0:Value}
variable {H0 H H':GH} {w0:World} {l:List MO} {t e k n:Nat} {z:Value} {A:Type} {En:Enc A} {o:MO} {cells pre:List Value}
def View (k:Nat) (v u:Value) (cells pre:List Value) (o:MO):Prop :=
 ∃ m,pre.length=m * k∧(∃ r,cells=pre++r) ∧
  ((m=0∧Ln u 0∧o=.lb 0)∨(∃ g cap,u=.slice (some ⟨g,0,Option.none⟩) m cap ∧
   ((o=.lb 0∧∃ n c,v=.slice (some ⟨g,0,Option.none⟩) n c)∨∃ arr e,o=.raw g (.cells arr e (0,0))∧arr.toList.take (m * k)=pre)))
structure VL (u:Value) (n:Nat):Prop where
 ln:Ln u n
 le:n≤maxLen
theorem St.lb0 (h:St H0 w0 H w l):St H0 w0 H w (.lb 0::l):=by
 refine ⟨h.run,fun i o hi=>?_,fun i o b hi hb=>?_,fun i j oi oj b hi hj h1 h2=>?_⟩
 · cases i with
   | zero=>simp at hi;subst hi;exact Nat.zero_le _
   | succ i=>exact h.ok i o (by simpa using hi)
 · cases i with
   | zero=>simp at hi;subst hi;cases hb
   | succ i=>exact h.out i o b (by simpa using hi) hb
 · cases i with
   | zero=>simp at hi;subst hi;cases h1
   | succ i=>cases j with
    | zero=>simp at hj;subst hj;cases h2
    | succ j=>have:=h.dis i j oi oj b (by simpa using hi) (by simpa using hj) h1 h2;omega
theorem St.claim (h:St H0 w0 H w l) {q m g:Nat} {ob:Obj} (hq:l[q]?=some (.lb m)) (hg:w.heap[g]?=some ob) (hB:w0.heap.size≤g) (hH:H g=Option.none) (hf:∀ (j:Nat) oj,l[j]?=some oj→oj.blk≠some g) :
 St H0 w0 H w (l.set q (.raw g ob)):=by
 have key:∀ (j:Nat) oj,(l.set q (.raw g ob))[j]?=some oj→(j=q∧oj=.raw g ob)∨(j≠q∧l[j]?=some oj):=by
  clear hB hH hg
  intro j oj hj
  rw [List.getElem?_set] at hj
  split at hj
  · rename_i hqj
    split at hj
    · cases hj;exact .inl ⟨hqj.symm,rfl⟩
    · cases hj
  · rename_i hne;exact .inr ⟨fun e=>hne e.symm,hj⟩
 refine ⟨h.run,fun j oj hj=>?_,fun j oj b hj hb=>?_,fun i j oi oj b hi hj h1 h2=>?_⟩
 · rcases key j oj hj with ⟨rfl,rfl⟩|⟨_,hj⟩
   · exact ⟨hg,hB⟩
   · exact h.ok j oj hj
 · rcases key j oj hj with ⟨rfl,rfl⟩|⟨_,hj⟩
   · cases hb;exact hH
   · exact h.out j oj b hj hb
 · rcases key i oi hi with ⟨e3,rfl⟩|⟨h3,hi'⟩ <;> rcases key j oj hj with ⟨e4,rfl⟩|⟨h4,hj'⟩
   · rw [e3,e4]
   · cases h1;exact absurd h2 (hf _ _ hj')
   · cases h2;exact absurd h1 (hf _ _ hi')
   · exact h.dis i j oi oj b hi' hj' h1 h2
theorem St.view {G:GH} (h:St H0 w0 H w l) (te:TE P t e k z) {i:Nat} (hi:l[i]?=some (.row e k v n cells)) {xs ys:List A} (he:Els G En k cells xs) {b:Int} {kk:IntKind} (hc:Pu.cut xs 0 b=some ys) :
 ∃ u pre,(∀ w,(Instr.slice t v Option.none (some (.int kk b)) Option.none).run P w=.ok u w)∧St H0 w0 H w (.lb 0::l)∧View k v u cells pre (.lb 0)∧Els G En k pre ys∧VL u ys.length:=by
 obtain ⟨h0,h1,h2,rfl⟩:=cut_some hc
 have hn:=h.row_n hi he te.kp
 obtain ⟨⟨g1,g2⟩,g3⟩:=h.ok i _ hi
 have hle:b.toNat * k≤n * k:=Nat.mul_le_mul_right _ (by omega)
 have hels:Els G En k (cells.take (b.toNat * k)) (List.drop (Int.toNat 0) (List.take b.toNat xs)):=by simpa using els_take he b.toNat (by omega)
 have hlen:(List.drop (Int.toNat 0) (List.take b.toNat xs)).length=b.toNat:=by simp;omega
 have hpl:(cells.take (b.toNat * k)).length=b.toNat * k:=by rw [List.length_take,g1];omega
 rcases g2 with ⟨rfl,h3⟩|⟨g,cap,cur,rfl,hg,hh,hlc,hcm,hsz,htk⟩
 · have hb0:b.toNat=0:=by omega
   have hr:∀ w,(Instr.slice t (.slice Option.none 0 0) Option.none (some (.int kk b)) Option.none).run P w=.ok (.slice Option.none 0 0) w:=fun w=>by
    have:=zbz (w:=w) te (a:=Option.none) (len:=0) (cap:=0) (p:=0) (q:=b) (Int.le_refl 0) (by omega) (by omega) (.inl ⟨rfl,rfl⟩) (.inr ⟨kk,rfl⟩)
    simpa [hb0] using this
   refine ⟨_,_,hr,h.lb0,⟨b.toNat,hpl,⟨_,(List.take_append_drop _ _).symm⟩,.inl ⟨hb0,⟨_,_,rfl⟩,rfl⟩⟩,hels,?_⟩
   rw [hlen,hb0];exact ⟨⟨_,_,rfl⟩,Nat.zero_le _⟩
 · have hr:∀ w,(Instr.slice t (.slice (some ⟨g,0,Option.none⟩) n cap) Option.none (some (.int kk b)) Option.none).run P w=.ok (.slice (some ⟨g,0,Option.none⟩) b.toNat cap) w:=fun w=>by
    have:=zbz (w:=w) te (a:=some ⟨g,0,Option.none⟩) (len:=n) (cap:=cap) (p:=0) (q:=b) (Int.le_refl 0) (by omega) (by omega) (.inl ⟨rfl,rfl⟩) (.inr ⟨kk,rfl⟩)
    simpa [Addr.add_lit] using this
   refine ⟨_,_,hr,h.lb0,⟨b.toNat,hpl,⟨_,(List.take_append_drop _ _).symm⟩,.inr ⟨g,cap,rfl,.inl ⟨rfl,_,_,rfl⟩⟩⟩,hels,?_⟩
   rw [hlen];exact ⟨⟨_,_,rfl⟩,by omega⟩
theorem St.view_at {G:GH} (h:St H0 w0 H w l) {i q:Nat} (hi:l[i]?=some (.row e k v n cells)) (hq:l[q]?=some o) (hv:View k v u0 cells pre o) {ys:List A} (he:Els G En k pre ys) (hk:0 < k)
 {j:Int} {x:A} (hx:ix ys j=some x):∃ p c,PtrOf k u0 j p∧c.length=k∧WAt w p c∧En.rel G c x:=by
 obtain ⟨h0,h1,h2⟩:=ix_some hx
 obtain ⟨c,g1,g2,g3⟩:=he.get _ _ h2
 obtain ⟨m,m1,⟨r,m2⟩,m3⟩:=hv
 have hm:ys.length=m:=Nat.eq_of_mul_eq_mul_right hk (he.length.symm.trans m1)
 rcases m3 with ⟨rfl,_⟩|⟨g,cap,rfl,m3⟩
 · omega
 refine ⟨_,c,⟨⟨g,0,Option.none⟩,_,cap,rfl,h0,by omega,rfl⟩,g1,fun s u hu=>?_,g2⟩
 have h3:=g3 s u hu
 rw [zcm,Addr.add_lit]
 rcases m3 with ⟨rfl,n',c',rfl⟩|⟨arr,e',rfl,m4⟩
 · obtain ⟨⟨k1,k2⟩,_⟩:=h.ok i _ hi
   rcases k2 with ⟨hn,_⟩|⟨g',cap',cur,hv',hg,hh,hle,_,hsz,htk⟩
   · cases hn
   cases hv'
   rw [cell_of_row w g _ _ _ _ hh]
   have h4:cells[j.toNat * k + s]?=some u:=by rw [m2,List.getElem?_append_left (List.getElem?_eq_some_iff.1 h3).1];exact h3
   rw [← htk,List.getElem?_take] at h4
   split at h4
   · simpa using h4
   · cases h4
 · have hh:=(h.ok q _ hq).1
   rw [cell_of_row w g _ _ _ _ hh]
   rw [← m4,List.getElem?_take] at h3
   split at h3
   · simpa using h3
   · cases h3
theorem run_append_mineV {base:Nat} (te:TE P t e k z) {news:List Value} {m:Nat} (hown:w.ownsRow base e k v n cells) (hs:Src w k u m news)
 (h1:∀ c∈news,c.oneCell'=true) (hb:n + m≤lim) (hbase:base≤w.heap.size) :
 ∃ v' w',(∀ ty,(Builtin.append_ #[t,t] ty #[v,u]).run P w=.ok v' w')∧w'.ownsRow base e k v' (n + m) (cells++news)∧w.grownBy w' v.ownBlock ∧
  (∀ b,v'.ownBlock=some b→v.ownBlock=some b∨w.heap.size≤b)∧w.drawn≤w'.drawn ∧
  (∀ g n c,v=.slice (some ⟨g,0,Option.none⟩) n c→(∃ n' c',v'=.slice (some ⟨g,0,Option.none⟩) n' c')∨(w'.heap[g]?=w.heap[g]?∧v'.ownBlock≠some g)):=by
 obtain ⟨v',w',hr,h2,h3,h4,h5⟩:=zdZ (P:=P) (ty:=0) te hown hs h1 hb hbase
 refine ⟨v',w',fun ty=>hr,h2,h3,h4,h5,?_⟩
 rintro g n0 c0 rfl
 obtain ⟨info,hi,hz,hsz,hby⟩:=te.i
 have h63:n + m≤maxLen:=by unfold lim at hb;simp only [maxLen];omega
 have hbytes:(n + m) * info.bytes≤140737488355328:=by
  have:(n + m) * info.bytes≤lim * 4096:=Nat.mul_le_mul hb hby
  unfold lim at this;omega
 subst hsz
 rcases hown.2 with ⟨hn,_⟩|⟨g',cap,cur,hv,hbg,hg,hnc,hcm,hcs,htake⟩
 · cases hn
 injection hv with hv1 hv2 hv3;injection hv1 with hv1;injection hv1 with hv1;subst hv1 hv2 hv3
 have hgs:g < w.heap.size:=(Array.getElem?_eq_some_iff.1 hg).1
 rcases hs with ⟨ad,c,rfl,hl,hnews⟩|⟨rfl,rfl,rfl⟩
 · by_cases hroom:n0 + m≤c0
   · have hfit:n0 * info.size + news.length≤cur.size:=by rw [hl,hcs,← Nat.add_mul];exact Nat.mul_le_mul_right _ hroom
     have:=run_append_room (P:=P) w t 0 e info te.u hi g n0 c0 cur hg ad m c news hl hnews h1 hroom hfit
     rw [this] at hr;cases hr
     exact .inl ⟨_,_,rfl⟩
   · have holds:∀ j u,cells[j]?=some u→w.cell? ((⟨g,0,none⟩:Addr).add j)=some u:=hown.cells (g:=g) rfl
     have:=run_append_grow (P:=P) w t 0 e info z te.u hi hz ⟨g,0,none⟩ n0 c0 cells hown.1 holds ad m c news hl hnews (by omega) (by simp only [maxLen] at h63;omega) (growslice_fits (by omega) hbytes)
     rw [this] at hr;cases hr
     refine .inr ⟨?_,fun e=>?_⟩
     · rw [heap_alloc_old _ _ (by simpa using hgs)];rfl
     · simp only [Value.ownBlock,Option.some.injEq] at e;omega
 · have:=run_append_owned_none (P:=P) w base t 0 e info info.size te.u hi (.slice (some ⟨g,0,none⟩) n0 c0) n0 cells hown
   rw [this] at hr;cases hr
   exact .inl ⟨_,_,rfl⟩
theorem St.appendV (h:St H0 w0 H w l) (te:TE P t e k z) {i q m:Nat} {news:List Value} (hi:l[i]?=some (.row e k v n cells)) (hq:l[q]?=some o) (hv:View k v u0 cells pre o) (hs:Src w k u m news)
 (h1:∀ c∈news,c.oneCell'=true) (hb:n + m≤lim) :
 ∃ v' w1 o',(∀ ty,(Builtin.append_ #[t,t] ty #[v,u]).run P w=.ok v' w1)∧St H0 w0 H w1 ((l.set i (.row e k v' (n + m) (cells++news))).set q o')∧View k v' u0 (cells++news) pre o':=by
 obtain ⟨g1,g2⟩:=h.ok i _ hi
 obtain ⟨v',w1,hr,h2,h3,h4,h5,h6⟩:=run_append_mineV (P:=P) te g1 hs h1 hb h.size
 have hS:St H0 w0 H w1 (l.set i (.row e k v' (n + m) (cells++news))):=by
  refine h.upd hi h3 h5 ⟨h2,fun c hc=>?_⟩ (fun b hb=>h4 b hb)
  rcases List.mem_append.1 hc with hc|hc
  · exact g2 c hc
  · exact h1 c hc
 obtain ⟨mm,m1,⟨r,m2⟩,m3⟩:=hv
 have hiq:i≠q:=by
  rintro rfl
  rw [hi] at hq;cases hq
  rcases m3 with ⟨_,_,e⟩|⟨_,_,_,⟨e,_⟩|⟨_,_,e,_⟩⟩ <;> cases e
 have hq':(l.set i (.row e k v' (n + m) (cells++news)))[q]?=some o:=by rw [List.getElem?_set,if_neg hiq];exact hq
 have hsame:∀ X,X=(l.set i (.row e k v' (n + m) (cells++news))).set q o→St H0 w0 H w1 X:=by
  rintro X rfl
  have e:(l.set i (.row e k v' (n + m) (cells++news))).set q o=l.set i (.row e k v' (n + m) (cells++news)):=?_
  · rw [e];exact hS
  apply List.ext_getElem?
  intro j
  rw [List.getElem?_set]
  split
  · rename_i hj;subst hj
    rw [hq',if_pos (List.getElem?_eq_some_iff.1 hq').1]
  · rfl
 have hr2:∃ r,cells++news=pre++r:=⟨r++news,by rw [m2,List.append_assoc]⟩
 rcases m3 with m3|⟨g,cap,rfl,⟨rfl,n',c',rfl⟩|m3⟩
 · exact ⟨v',w1,o,hr,hsame _ rfl,mm,m1,hr2,.inl m3⟩
 · rcases h6 g n' c' rfl with h7|⟨h7,h8⟩
   · exact ⟨v',w1,.lb 0,hr,hsame _ rfl,mm,m1,hr2,.inr ⟨g,cap,rfl,.inl ⟨rfl,h7⟩⟩⟩
   · rcases g1.2 with ⟨hn,_⟩|⟨g',cap',cur,hv',hbg,hg,hnc,hcm,hcs,htake⟩
     · cases hn
     cases hv'
     have hnone:H g=Option.none:=h.out i _ g hi rfl
     refine ⟨v',w1,.raw g (.cells cur e (0,0)),hr,hS.claim hq' (h7.trans hg) hbg hnone (fun j oj hj=>?_),mm,m1,hr2,.inr ⟨g,cap,rfl,.inr ⟨cur,e,rfl,?_⟩⟩⟩
     · rw [List.getElem?_set] at hj
       split at hj
       · split at hj
         · cases hj;exact h8
         · cases hj
       · rename_i hne
         intro e'
         exact hne (h.dis i j _ oj g hi hj rfl e')
     · have e1:(cells.take (mm * k))=pre:=by rw [m2,List.take_left' m1]
       rw [← e1,← htake,List.take_take,Nat.min_eq_left]
       have e2:pre.length≤cells.length:=by rw [m2,List.length_append];omega
       rw [m1,g1.1] at e2;exact e2
 · exact ⟨v',w1,o,hr,hsame _ rfl,mm,m1,hr2,.inr ⟨g,cap,rfl,.inr m3⟩⟩
theorem St.appendVO {G:GH} {xs ys zs:List A} {c1 c2:List Value} {e2 n2:Nat} (h:St H0 w0 H w l) (te:TE P t e k z) {i j q:Nat} (hi:l[i]?=some (.row e k v n c1)) (he:Els G En k c1 xs)
 (hj:l[j]?=some (.row e2 k u n2 c2)) (hy:Els G En k c2 ys) (hz:app xs ys=some zs) (hq:l[q]?=some o) (hv:View k v u0 c1 pre o) :
 ∃ v' w1 n' c' o',(∀ ty,(Builtin.append_ #[t,t] ty #[v,u]).run P w=.ok v' w1)∧St H0 w0 H w1 ((l.set i (.row e k v' n' c')).set q o')∧Els G En k c' zs∧c'=c1++c2∧View k v' u0 c' pre o':=by
 obtain ⟨hb,rfl⟩:=app_some hz
 have hn:=h.row_n hi he te.kp
 have hn2:=h.row_n hj hy te.kp
 obtain ⟨v',w1,o',hr,hS,hV⟩:=h.appendV (P:=P) te hi hq hv (h.row_src hj) (h.ok j _ hj).2 (by omega)
 exact ⟨v',w1,_,_,o',hr,hS,he.app hy,rfl,hV⟩
end
end Go.Mr
namespace Go.Mr
open Go.RowKit Go.Pu
structure PR where
 v:Value
 n:Nat
 cs:List Value
def PR.nil:PR:=⟨.slice Option.none 0 0,0,[]⟩
def PR.mo (e k:Nat) (r:PR):MO:=.row e k r.v r.n r.cs
def plT (e k:Nat) (rs:List PR) (L:List MO):List MO:=rs.map (PR.mo e k)++L
section
variable {P:Program} {H0 H G G':GH} {w0 w:World} {a l L:List MO} {t e e0 k n i:Nat} {z v:Value} {A:Type} {En:Enc A} {cs:List Value} {rs:List PR} {xss yss:List (List A)} {x ys zs:List A} {j:Int}
structure Pool (G:GH) (En:Enc A) (k:Nat) (cs:List Value) (rs:List PR) (xss:List (List A)):Prop where
 len:rs.length=xss.length
 cells:cs=rs.map PR.v
 els:∀ (i:Nat) r x,rs[i]?=some r→xss[i]?=some x→Els G En k r.cs x
theorem Pool.mono (h:Pool G En k cs rs xss) (hi:Inc G G'):Pool G' En k cs rs xss:=⟨h.len,h.cells,fun i r x h1 h2=>(h.els i r x h1 h2).mono hi⟩
theorem St.poolNil (e k:Nat) (h:St H0 w0 H w (a++plT e k rs L)):St H0 w0 H w (a++plT e k (PR.nil::rs) L):=by
 refine (h.nil e k).reidx _ (fun j=>if j < a.length then j + 1 else if j=a.length then 0 else j) (fun j o hj=>?_) (fun j j' h1 h2 he=>?_)
 · by_cases c1:j < a.length
   · rw [List.getElem?_append_left c1] at hj
     rw [if_pos c1,List.getElem?_cons_succ,List.getElem?_append_left c1];exact hj
   · rw [List.getElem?_append_right (by omega)] at hj
     rw [if_neg c1]
     by_cases c2:j=a.length
     · subst c2
       simp only [Nat.sub_self,plT,List.map_cons,List.cons_append,List.getElem?_cons_zero] at hj
       rw [if_pos rfl,List.getElem?_cons_zero]
       exact hj
     · rw [if_neg c2]
       obtain ⟨m,rfl⟩:∃ m,j=a.length + 1 + m:=⟨j - a.length - 1,by omega⟩
       rw [show a.length + 1 + m=(a.length + m) + 1 by omega,List.getElem?_cons_succ,List.getElem?_append_right (by omega)]
       rw [show a.length + 1 + m - a.length=m + 1 by omega] at hj
       simp only [plT,List.map_cons,List.cons_append,List.getElem?_cons_succ] at hj
       rw [show a.length + m - a.length=m by omega]
       exact hj
 · split at he <;> split at he <;> (try split at he) <;> (try split at he) <;> omega
theorem St.poolNils (e k:Nat):∀ m,St H0 w0 H w (a++L)→St H0 w0 H w (a++plT e k (List.replicate m PR.nil) L)
 | 0,h=>by simpa [plT] using h
 | m + 1,h=>by rw [List.replicate_succ];exact (St.poolNils e k m h).poolNil e k
theorem St.makePool (h:St H0 w0 H w (a++L)) (te:TE P t e0 1 z) (hz:z.cells=#[.slice Option.none 0 0]) {b c:Int} (hm:mk2 ([]:List A) b c=some xss) (e k:Nat) (kl kc:IntKind) :
 ∃ v w1 n cells rs,(Instr.makeSlice t (.int kl b) (.int kc c)).run P w=.ok v w1∧St H0 w0 H w1 (.row e0 1 v n cells::(a++plT e k rs L))∧Pool G En k cells rs xss:=by
 obtain ⟨h0,hac,hc,rfl⟩:=mk2_some hm
 obtain ⟨v,w1,hr,hS⟩:=h.make (P:=P) te kl kc h0 hac hc (by rw [hz];simp [Value.oneCell'])
 refine ⟨v,w1,b.toNat,(madeCells z.cells (b.toNat * 1)).toList,List.replicate b.toNat PR.nil,hr,?_,⟨by simp,?_,?_⟩⟩
 · exact St.poolNils (a:=.row e0 1 v _ _::a) e k b.toNat hS
 · rw [hz]
   simp only [madeCells,Array.toList_map,Array.toList_range,Nat.mul_one,List.map_replicate]
   apply List.ext_getElem?
   intro m
   by_cases hm:m < b.toNat
   · simp [hm,PR.nil,Nat.mod_one]
   · simp [hm]
 · intro m r x h1 h2
   have e1:=List.eq_of_mem_replicate (List.mem_of_getElem? h1)
   have e2:=List.eq_of_mem_replicate (List.mem_of_getElem? h2)
   subst e1 e2
   exact .nil
theorem St.pool_at (h:St H0 w0 H w l) (hi:l[i]?=some (.row e0 1 v n cs)) (hp:Pool G En k cs rs xss) (hx:ix xss j=some x) :
 ∃ p r,PtrOf 1 v j p∧WAt w p [r.v]∧rs[j.toNat]?=some r∧Els G En k r.cs x ∧
  ∀ (H':GH) (w':World) (l':List MO) (i':Nat),St H0 w0 H' w' l'→l'[i']?=some (.row e0 1 v n cs)→WAt w' p [r.v]:=by
 obtain ⟨h0,h1,h2⟩:=ix_some hx
 have hlt:j.toNat < rs.length:=by rw [hp.len];exact (List.getElem?_eq_some_iff.1 h2).1
 have hr:rs[j.toNat]?=some rs[j.toNat]:=List.getElem?_eq_getElem hlt
 have hc:cs[j.toNat]?=some rs[j.toNat].v:=by rw [hp.cells,List.getElem?_map,hr];rfl
 obtain ⟨p,g1,g2⟩:=h.cell_at hi h0 hc
 refine ⟨p,_,g1,g2,hr,hp.els _ _ _ hr h2,fun H' w' l' i' h' hi'=>?_⟩
 obtain ⟨q,g3,g4⟩:=h'.cell_at hi' h0 hc
 obtain rfl:=PtrOf.uniq g3 g1
 exact g4
theorem plT_get {r:PR} {m:Nat} (hr:rs[m]?=some r):(a++plT e k rs L)[a.length + m]?=some (.row e k r.v r.n r.cs):=by
 have hlt:m < rs.length:=(List.getElem?_eq_some_iff.1 hr).1
 rw [List.getElem?_append_right (by omega),show a.length + m - a.length=m by omega,plT,List.getElem?_append_left (by simpa using hlt),List.getElem?_map,hr]
 rfl
theorem plT_set {m:Nat} (hlt:m < rs.length) (r':PR):(a++plT e k rs L).set (a.length + m) (.row e k r'.v r'.n r'.cs)=a++plT e k (rs.set m r') L:=by
 rw [List.set_append_right _ _ (by omega),show a.length + m - a.length=m by omega,plT,List.set_append_left _ _ (by simpa using hlt),plT,List.map_set]
 rfl
theorem St.pool_cells {r':PR} {m:Nat} (h:St H0 w0 H w (a++plT e k rs L)) (hr:rs[m]?=some r'):r'.v.cells=#[r'.v]∧r'.v.oneCell'=true:=by
 obtain ⟨⟨_,h2⟩,_⟩:=h.ok _ _ (plT_get hr)
 rcases h2 with ⟨h3,_⟩|⟨g,cap,cur,h3,_⟩
 · rw [h3];exact ⟨rfl,rfl⟩
 · rw [h3];exact ⟨rfl,rfl⟩
theorem St.poolAppend {r:PR} {m q e2 n2:Nat} {u:Value} {c2:List Value} {xs:List A} (h:St H0 w0 H w (a++plT e k rs L)) (te:TE P t e k z) (hr:rs[m]?=some r) (he:Els G En k r.cs xs)
 (hj:a[q]?=some (.row e2 k u n2 c2)) (hy:Els G En k c2 ys) (hz:app xs ys=some zs) :
 ∃ w1 r',(∀ ty,(Builtin.append_ #[t,t] ty #[r.v,u]).run P w=.ok r'.v w1)∧St H0 w0 H w1 (a++plT e k (rs.set m r') L)∧Els G En k r'.cs zs∧r'.v.cells=#[r'.v]∧r'.v.oneCell'=true:=by
 have hq:q < a.length:=(List.getElem?_eq_some_iff.1 hj).1
 have hlt:m < rs.length:=(List.getElem?_eq_some_iff.1 hr).1
 obtain ⟨v',w1,n',c',h1,h2,h3,_⟩:=h.appendO (P:=P) te (i:=a.length + m) (j:=q) (plT_get hr) he (by rw [List.getElem?_append_left hq];exact hj) hy hz
 rw [plT_set (r':=⟨v',n',c'⟩) hlt] at h2
 exact ⟨w1,⟨v',n',c'⟩,h1,h2,h3,h2.pool_cells (r':=⟨v',n',c'⟩) (m:=m) (by rw [List.getElem?_set];simp [hlt])⟩
theorem Pool.put {r':PR} (hp:Pool G En k cs rs xss) (he:Els G En k r'.cs zs) (hy:put xss j zs=some yss):Pool G En k (cs.take (j.toNat * 1)++[r'.v]++cs.drop (j.toNat * 1 + 1)) (rs.set j.toNat r') yss:=by
 obtain ⟨h0,h1,rfl⟩:=put_some hy
 have hlt:j.toNat < rs.length:=by rw [hp.len];omega
 refine ⟨by simp [hp.len],?_,?_⟩
 · rw [hp.cells,List.map_set,Nat.mul_one,List.set_eq_take_append_cons_drop,if_pos (by simpa using hlt)]
   simp
 · intro m r x g1 g2
   rw [List.getElem?_set] at g1 g2
   by_cases c:j.toNat=m
   · subst c
     simp only [if_true,if_pos hlt] at g1
     rw [if_pos rfl,if_pos (by rw [← hp.len];exact hlt)] at g2
     cases g1;cases g2
     exact he
   · rw [if_neg c] at g1 g2
     exact hp.els m r x g1 g2
theorem St.poolPut {r':PR} (h:St H0 w0 H w l) (hi:l[i]?=some (.row e0 1 v n cs)) (hp:Pool G En k cs rs xss) (he:Els G En k r'.cs zs) (hy:put xss j zs=some yss) {p:Addr} (hpt:PtrOf 1 v j p)
 (ts:∀ w,(sizeOf t).run P w=.ok 1 w) (hu:r'.v.cells=#[r'.v]) (h1:r'.v.oneCell'=true) :
 ∃ w1 cs',(Instr.storeAt t (.pointer (some p)) r'.v).run P w=.ok () w1∧St H0 w0 H w1 (l.set i (.row e0 1 v n cs'))∧Pool G En k cs' (rs.set j.toNat r') yss:=by
 obtain ⟨w1,hst,hS⟩:=h.putRow (P:=P) (l':=fun o=>l.set i o) hi hpt ts (u:=r'.v) (by rw [hu];rfl) (by rw [hu];simpa using h1) (fun o=>rfl)
 rw [hu] at hS
 exact ⟨w1,_,hst,hS,hp.put he hy⟩
theorem St.poolSeal (hk:0 < k):∀ (rs:List PR) (xss:List (List A)) (H:GH),rs.length=xss.length→St H0 w0 H w (a++plT e k rs L) →
 (∀ (i:Nat) r x,rs[i]?=some r→xss[i]?=some x→Els (up w0.heap.size H) En k r.cs x) →
 ∃ H1,St H0 w0 H1 w (a++L)∧Inc H H1∧∀ (i:Nat) r x,rs[i]?=some r→xss[i]?=some x→RSl (up w0.heap.size H1) En k r.v x
 | [],xss,H,hl,h,he=>⟨H,by simpa [plT] using h,Inc.rfl _,by simp⟩
 | r::rs,[],H,hl,h,he=>by simp at hl
 | r::rs,x::xss,H,hl,h,he=>by
  have h0:(a++plT e k (r::rs) L)[a.length]?=some (.row e k r.v r.n r.cs):=plT_get (rs:=r::rs) (m:=0) rfl
  obtain ⟨H1,s1,i1,r1,_⟩:=h.sealRowU h0 (he 0 r x rfl rfl) hk rfl
  rw [show (a++plT e k (r::rs) L).eraseIdx a.length=a++plT e k rs L by simp [List.eraseIdx_append,plT]] at s1
  obtain ⟨H2,s2,i2,r2⟩:=St.poolSeal hk rs xss H1 (by simpa using hl) s1 (fun i r x h1 h2=>(he (i + 1) r x (by simpa using h1) (by simpa using h2)).mono (zae i1))
  refine ⟨H2,s2,i1.tr i2,fun i r' x' h1 h2=>?_⟩
  cases i with
  | zero=>simp at h1 h2;subst h1 h2;exact r1.mono (zae i2)
  | succ i=>exact r2 i r' x' (by simpa using h1) (by simpa using h2)
theorem St.poolEls (h:St H0 w0 H w (a++plT e k rs L)) (hp:Pool (up w0.heap.size H) En k cs rs xss) (hk:0 < k) :
 ∃ H1,St H0 w0 H1 w (a++L)∧Inc H H1∧Els (up w0.heap.size H1) (eL En k) 1 cs xss:=by
 obtain ⟨H1,s1,i1,r1⟩:=St.poolSeal hk rs xss H hp.len h hp.els
 refine ⟨H1,s1,i1,Els.mk' _ _ (by rw [hp.cells];simp [hp.len]) (fun i x hx=>?_)⟩
 have hlt:i < rs.length:=by rw [hp.len];exact (List.getElem?_eq_some_iff.1 hx).1
 have hr:rs[i]?=some rs[i]:=List.getElem?_eq_getElem hlt
 refine ⟨rs[i].v,?_,r1 i _ x hr hx⟩
 rw [hp.cells,Nat.mul_one,← List.map_drop,← List.map_take,List.drop_eq_getElem_cons hlt]
 rfl
end
theorem OP.one {α:Type} {R:Addr→α→Prop} {v:Value} {x:Option α} (h:OP R v x):v.oneCell'=true:=by
 unfold OP at h
 split at h
 · rw [h];rfl
 · obtain ⟨q,rfl,_⟩:=h;rfl
theorem OP.cells {α:Type} {R:Addr→α→Prop} {v:Value} {x:Option α} (h:OP R v x):v.cells=[v].toArray:=by
 unfold OP at h
 split at h
 · rw [h];rfl
 · obtain ⟨q,rfl,_⟩:=h;rfl
end Go.Mr
namespace Go.Mr
open Go.RowKit Go.Pu
section
variable {P:Program} {w:World}
theorem run_append_roomQ (t ty e:TypeId) (i:TypeInfo) (ht:P.underlying t=some (.slice e)) (hi:P.info? e=some i)
 (g off sLen sCap:Nat) (cur:Array Value) (hg:w.heap[g]?=some (.cells cur e (0,0)))
 (a:Addr) (m c:Nat) (news:List Value) (hl:news.length=m * i.size) (hnews:∀ j u,news[j]?=some u→w.cell? (a.add j)=some u) (h1:∀ u∈news,u.oneCell'=true)
 (hroom:sLen + m≤sCap) (hfit:off + sLen * i.size + news.length≤cur.size) :
 (Builtin.append_ #[t,t] ty #[.slice (some ⟨g,off,Option.none⟩) sLen sCap,.slice (some a) m c]).run P w =
  .ok (.slice (some ⟨g,off,Option.none⟩) (sLen + m) sCap) (w.setRow g (cur.toList.take (off + sLen * i.size)++news++cur.toList.drop (off + sLen * i.size + news.length)).toArray):=by
 have hf:=run_firstCells_some (P:=P) w i.size m a m c news hl hnews
 have hst:=run_storeCells_at P g (off + sLen * i.size) e news 0 cur w hg (by simpa using hfit) h1
 simp only [Nat.add_zero] at hst
 simp [Builtin.append_,run_underlying ht,sizeOf,typeInfo,hi,Builtin.lenOf,hroom,hf,Addr.add_lit,hst]
end
section
variable {P:Program} {f:Fm} {w w':World} {d:Option Tmp} {ty:TypeId} {pos:String} {aft:Array Edge} {gd:Option (Nat×Bool)} {x y:Operand} {v u:Value}
variable {H0 H H':GH} {w0:World} {l:List MO} {t e k n:Nat} {z:Value} {A:Type} {En:Enc A}
theorem ownsRowO_of {B:Nat} {cells:List Value} (h:w.ownsRow B e k v n cells):ownsRowO w B e k v n cells:=by
 refine ⟨h.1,?_⟩
 rcases h.2 with hn|⟨g,cap,cur,hv,hb,hg,h1,h2,h3,h4⟩
 · exact .inl hn
 · exact .inr ⟨g,0,cap,cur,hv,hb,hg,h1,h2,by omega,by simpa using h4⟩
theorem St.toQ (h:St H0 w0 H w l) (i:Nat) {cells:List Value} {l':List MO} (hi:l[i]?=some (.row e k v n cells):=by rfl) (hl:l.set i (.rowo e k v n cells)=l':=by rfl):St H0 w0 H w l':=by
 subst hl
 obtain ⟨g1,g2⟩:=h.ok i _ hi
 exact h.upd hi ⟨rfl,rfl,rfl,Nat.le_refl _,fun _ _ _=>rfl⟩ (Nat.le_refl _) ⟨ownsRowO_of g1,g2⟩ (fun b hb=>.inl hb)
theorem St.rowQ_n {cells:List Value} {xs:List A} (h:St H0 w0 H w l) {i:Nat} (hi:l[i]?=some (.rowo e k v n cells)) (he:Els H' En k cells xs) (hk:0 < k):n=xs.length:=by
 obtain ⟨⟨k1,_⟩,_⟩:=h.ok i _ hi
 have hl:=he.length
 rw [k1] at hl
 exact Nat.eq_of_mul_eq_mul_right hk hl
theorem St.rowQ_ln (h:St H0 w0 H w l) {i:Nat} {cells:List Value} (hi:l[i]?=some (.rowo e k v n cells)):Ln v n:=by
 obtain ⟨⟨_,g⟩,_⟩:=h.ok i _ hi
 rcases g with ⟨rfl,rfl⟩|⟨g,off,cap,cur,rfl,_⟩
 · exact ⟨_,_,rfl⟩
 · exact ⟨_,_,rfl⟩
theorem E.lenQ {xs:List A} {cells:List Value} {t e':Nat} (te:TE P t e' k z) (hx:ev f x=v) (h:St H0 w0 H w l) {i:Nat} (hi:l[i]?=some (.rowo e k v n cells)) (he:Els H' En k cells xs) (hk:0 < k) :
 (execOp (ev f) ⟨d,.call ⟨.builtin .len,#[x],#[t]⟩,ty,pos,aft,gd⟩).run P w=.ok (.value (.int .i64 (Pu.len xs))) w:=by
 have:=E.len (P:=P) (f:=f) (w:=w) (d:=d) (ty:=ty) (pos:=pos) (aft:=aft) (gd:=gd) te hx (h.rowQ_ln hi)
 rw [h.rowQ_n hi he hk] at this;exact this
theorem St.rowQ_at {G:GH} {cells:List Value} {xs:List A} (h:St H0 w0 H w l) {i:Nat} (hi:l[i]?=some (.rowo e k v n cells)) (he:Els G En k cells xs) (hk:0 < k)
 {j:Int} {x:A} (hx:ix xs j=some x):∃ p c,PtrOf k v j p∧c.length=k∧WAt w p c∧En.rel G c x:=by
 obtain ⟨h0,h1,h2⟩:=ix_some hx
 obtain ⟨c,g1,g2,g3⟩:=he.get _ _ h2
 have hn:=h.rowQ_n hi he hk
 obtain ⟨⟨k1,k2⟩,_⟩:=h.ok i _ hi
 rcases k2 with ⟨rfl,h3⟩|⟨g,off,cap,cur,rfl,hg,hh,hle,_,hsz,htk⟩
 · omega
 · refine ⟨_,c,⟨⟨g,off,Option.none⟩,_,cap,rfl,h0,by omega,rfl⟩,g1,fun m u hu=>?_,g2⟩
   rw [zcm,Addr.add_lit,cell_of_row w g _ _ _ _ hh]
   have:=g3 m u hu
   rw [← htk,List.getElem?_take] at this
   split at this
   · rw [List.getElem?_drop] at this;simpa using this
   · cases this
theorem St.appendQ' (h:St H0 w0 H w l) (te:TE P t e k z) {i m:Nat} {cells news:List Value} (hi:l[i]?=some (.rowo e k v n cells)) (hs:Src w k u m news)
 (h1:∀ c∈news,c.oneCell'=true) (hb:n + m≤lim) :
 ∃ v' w1,(∀ ty,(Builtin.append_ #[t,t] ty #[v,u]).run P w=.ok v' w1)∧St H0 w0 H w1 (l.set i (.rowo e k v' (n + m) (cells++news))):=by
 obtain ⟨g1,g2⟩:=h.ok i _ hi
 have hone:∀ c∈cells++news,c.oneCell'=true:=fun c hc=>by
  rcases List.mem_append.1 hc with hc|hc
  · exact g2 c hc
  · exact h1 c hc
 obtain ⟨info,hinf,hz,hsz,hby⟩:=te.i
 rcases g1.2 with ⟨rfl,rfl⟩|⟨g,off,cap,cur,rfl,hbg,hg,hnc,hcm,hcs,htake⟩
 · have hx:cells=[]:=List.eq_nil_of_length_eq_zero (by simpa using g1.1)
   subst hx
   obtain ⟨v',w1,hr,h2,h3,h4,h5⟩:=zdZ (P:=P) (ty:=0) te (World.ownsRow_nil w w0.heap.size e k) hs h1 (by omega) h.size
   refine ⟨v',w1,fun ty=>hr,h.upd hi h3 h5 ⟨ownsRowO_of h2,hone⟩ (fun b hb=>h4 b hb)⟩
 · have h63:n + m≤maxLen:=by unfold lim at hb;simp only [maxLen];omega
   have hbytes:(n + m) * info.bytes≤140737488355328:=by
    have:(n + m) * info.bytes≤lim * 4096:=Nat.mul_le_mul hb hby
    unfold lim at this;omega
   subst hsz
   have hlen:(cells++news).length=(n + m) * info.size↔news.length=m * info.size:=by rw [List.length_append,g1.1,Nat.add_mul];omega
   rcases hs with ⟨ad,c,rfl,hl,hnews⟩|⟨rfl,rfl,rfl⟩
   · by_cases hroom:n + m≤cap
     · have hmul:n * info.size + m * info.size≤cap * info.size:=by rw [← Nat.add_mul];exact Nat.mul_le_mul_right _ hroom
       have hfit:off + n * info.size + news.length≤cur.size:=by rw [hl];omega
       refine ⟨.slice (some ⟨g,off,Option.none⟩) (n + m) cap,_,fun ty=>run_append_roomQ (P:=P) t ty e info te.u hinf g off n cap cur hg ad m c news hl hnews h1 hroom hfit,?_⟩
       refine h.upd hi (zcl w g _) (Nat.le_refl _) ⟨⟨hlen.2 hl,.inr ⟨g,off,cap,_,rfl,hbg,setRow_heap w g cur _ e _ hg,hroom,hcm,?_,?_⟩⟩,hone⟩ (fun b hb=>.inl hb)
       · simp only [List.size_toArray,List.length_append,List.length_take,List.length_drop,Array.length_toList]
         omega
       · have e1:(cur.toList.take (off + n * info.size)).drop off=cells:=by
          rw [← htake,List.drop_take,Nat.add_sub_cancel_left]
         have e2:(cur.toList.take (off + n * info.size)).length=off + n * info.size:=by rw [List.length_take,Array.length_toList];omega
         simp only [List.append_assoc]
         rw [List.drop_append_of_le_length (by rw [e2];omega),e1,← List.append_assoc,← hlen.2 hl]
         exact List.take_left
     · have holds:∀ j u,cells[j]?=some u→w.cell? ((⟨g,off,Option.none⟩:Addr).add j)=some u:=fun j u hu=>by
        rw [Addr.add_lit,cell_of_row w g _ _ _ _ hg]
        rw [← htake,List.getElem?_take] at hu
        split at hu
        · rw [List.getElem?_drop] at hu;simpa using hu
        · cases hu
       have hr:=fun ty=>run_append_grow (P:=P) w t ty e info z te.u hinf hz ⟨g,off,Option.none⟩ n cap cells g1.1 holds ad m c news hl hnews (by omega) (by simp only [maxLen] at h63;omega) (growslice_fits (by omega) hbytes)
       have hge:=grownCap_ge w (n + m) cap e
       have hcm:=grownCap_le_maxLen w (n + m) cap e h63
       refine ⟨_,_,hr,h.upd hi ⟨rfl,rfl,rfl,by simp,fun k hk _=>heap_alloc_old w.drew _ hk⟩ (Nat.le_succ _) ⟨⟨hlen.2 hl,.inr ⟨w.heap.size,0,_,_,rfl,h.size,heap_alloc_new w.drew _,hge,hcm,?_,?_⟩⟩,hone⟩ ?_⟩
       · simp only [Array.size_append,List.size_toArray,size_zeroCells,te.zs,g1.1,hl,← Nat.add_mul]
         rw [Nat.zero_add]
         refine Nat.le_of_eq ?_
         congr 1
         omega
       · simp only [Array.toList_append,List.append_assoc,List.drop_zero]
         rw [← List.append_assoc,← hlen.2 hl]
         exact List.take_left
       · intro b hb
         simp [MO.blk,Value.ownBlock] at hb;omega
   · refine ⟨.slice (some ⟨g,off,Option.none⟩) n cap,w,fun ty=>?_,?_⟩
     · simp [Builtin.append_,run_underlying te.u,sizeOf,typeInfo,hinf,Builtin.lenOf,Builtin.firstCells,hnc,storeCells]
     · have:=h.upd (o':=.rowo e info.size (.slice (some ⟨g,off,Option.none⟩) n cap) (n + 0) (cells++[])) hi ⟨rfl,rfl,rfl,Nat.le_refl _,fun _ _ _=>rfl⟩ (Nat.le_refl _) (by simpa using ⟨g1,g2⟩) (fun b hb=>.inl hb)
       exact this
theorem St.appendQ {G:GH} {xs ys zs:List A} {c1 c2:List Value} {e2 n2:Nat} (h:St H0 w0 H w l) (te:TE P t e k z) {i j:Nat} (hi:l[i]?=some (.rowo e k v n c1)) (he:Els G En k c1 xs)
 (hj:l[j]?=some (.row e2 k u n2 c2)) (hy:Els G En k c2 ys) (hz:app xs ys=some zs) :
 ∃ v' w1 n' c',(∀ ty,(Builtin.append_ #[t,t] ty #[v,u]).run P w=.ok v' w1)∧St H0 w0 H w1 (l.set i (.rowo e k v' n' c'))∧Els G En k c' zs∧c'=c1++c2:=by
 obtain ⟨hb,rfl⟩:=app_some hz
 have hn:=h.rowQ_n hi he te.kp
 have hn2:=h.row_n hj hy te.kp
 obtain ⟨v',w1,hr,hS⟩:=h.appendQ' (P:=P) te hi (h.row_src hj) (h.ok j _ hj).2 (by omega)
 exact ⟨v',w1,_,_,hr,hS,he.app hy,rfl⟩
theorem els_dropQ {cells:List Value} {xs:List A} (h:Els H En k cells xs):∀ m,m≤xs.length→Els H En k (cells.drop (m * k)) (xs.drop m):=by
 induction h with
 | nil=>intro m hm;simp;exact .nil
 | snoc hs hc hx ih =>
  rename_i cells xs c x
  intro m hm
  have hl:=hs.length
  rcases Nat.lt_or_ge xs.length m with hlt|hge
  · have:m=xs.length + 1:=by simp at hm;omega
    subst this
    rw [List.drop_of_length_le (by rw [List.length_append,hl,hc,Nat.add_mul,Nat.one_mul];exact Nat.le_refl _),List.drop_of_length_le (by simp)]
    exact .nil
  · rw [List.drop_append_of_le_length hge,List.drop_append_of_le_length (by rw [hl];exact Nat.mul_le_mul_right _ hge)]
    exact .snoc (ih m hge) hc hx
theorem St.cutTailQ {G:GH} (h:St H0 w0 H w l) (te:TE P t e k z) {i:Nat} {cells:List Value} (hi:l[i]?=some (.rowo e k v n cells)) {xs ys:List A} (he:Els G En k cells xs) {a:Int} {kk:IntKind} (hc:Pu.cut xs a (len xs)=some ys) :
 ∃ v' n' cells',(∀ w,(Instr.slice t v (some (.int kk a)) Option.none Option.none).run P w=.ok v' w)∧St H0 w0 H w (l.set i (.rowo e k v' n' cells'))∧Els G En k cells' ys:=by
 obtain ⟨h0,h1,h2,rfl⟩:=cut_some hc
 have hn:=h.rowQ_n hi he te.kp
 obtain ⟨⟨g1,g2⟩,g3⟩:=h.ok i _ hi
 simp only [Pu.len] at h1
 have hels:Els G En k (cells.drop (a.toNat * k)) (List.drop a.toNat (List.take (Pu.len xs).toNat xs)):=by
  have e:List.take (Pu.len xs).toNat xs=xs:=List.take_of_length_le (by unfold Pu.len;omega)
  rw [e];exact els_dropQ he _ (by omega)
 have hone:∀ u∈cells.drop (a.toNat * k),u.oneCell'=true:=fun u hu=>g3 u (List.mem_of_mem_drop hu)
 have hdl:(cells.drop (a.toNat * k)).length=(n - a.toNat) * k:=by rw [List.length_drop,g1,Nat.sub_mul]
 have hg0:w.grownBy w (MO.rowo e k v n cells).blk:=⟨rfl,rfl,rfl,Nat.le_refl _,fun _ _ _=>rfl⟩
 rcases g2 with ⟨rfl,h3⟩|⟨g,off,cap,cur,rfl,hg,hh,hle,hcm,hsz,htk⟩
 · have ha:a.toNat=0:=by omega
   refine ⟨.slice Option.none 0 0,0,_,fun w=>?_,h.upd hi hg0 (Nat.le_refl _) ⟨⟨by rw [hdl];simp [h3],.inl ⟨rfl,rfl⟩⟩,hone⟩ (fun b hb=>.inl hb),hels⟩
   have:=zbz (w:=w) te (a:=Option.none) (len:=0) (cap:=0) (p:=a) (q:=0) h0 (by omega) (by omega) (.inr ⟨kk,rfl⟩) (.inl ⟨rfl,rfl⟩)
   simpa [ha] using this
 · have hr:=fun w=>zbz (P:=P) (w:=w) te (a:=some ⟨g,off,Option.none⟩) (len:=n) (cap:=cap) (p:=a) (q:=n) (lo:=some (.int kk a)) (hi:=Option.none) h0 (by omega) (by omega) (.inr ⟨kk,rfl⟩) (.inl ⟨rfl,rfl⟩)
   have hmul:a.toNat * k≤n * k:=Nat.mul_le_mul_right _ (by omega)
   have hmul2:n * k≤cap * k:=Nat.mul_le_mul_right _ hle
   have hsub:(cap - a.toNat) * k=cap * k - a.toNat * k:=Nat.sub_mul ..
   have htake:(cur.toList.drop (off + a.toNat * k)).take ((n - a.toNat) * k)=cells.drop (a.toNat * k):=by
    rw [← htk,List.drop_take,List.drop_drop,Nat.sub_mul]
   by_cases hca:cap=a.toNat
   · refine ⟨.slice (some ⟨g,off,Option.none⟩) (n - a.toNat) (cap - a.toNat),n - a.toNat,_,fun w=>?_,h.upd hi hg0 (Nat.le_refl _) ⟨⟨hdl,.inr ⟨g,off,cap - a.toNat,cur,rfl,hg,hh,by omega,by omega,by omega,?_⟩⟩,hone⟩ (fun b hb=>.inl hb),hels⟩
     · have:=hr w;rw [if_pos hca] at this;simpa using this
     · have e0:n - a.toNat=0:=by omega
       have e1:cells.drop (a.toNat * k)=[]:=List.eq_nil_of_length_eq_zero (by rw [hdl,e0];simp)
       rw [e0,e1];simp
   · refine ⟨.slice (some ⟨g,off + a.toNat * k,Option.none⟩) (n - a.toNat) (cap - a.toNat),n - a.toNat,_,fun w=>?_,h.upd hi hg0 (Nat.le_refl _) ⟨⟨hdl,.inr ⟨g,off + a.toNat * k,cap - a.toNat,cur,rfl,hg,hh,by omega,by omega,by omega,htake⟩⟩,hone⟩ (fun b hb=>.inl hb),hels⟩
     have:=hr w;rw [if_neg hca] at this;simpa [Addr.add_lit] using this
end
end Go.Mr
