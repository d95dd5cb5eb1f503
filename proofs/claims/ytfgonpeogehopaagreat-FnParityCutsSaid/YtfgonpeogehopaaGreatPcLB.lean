/- Helpers of the walks and plain laws. -/
import Derived.Test.YtfgonpeogehopaaGreatPcLA
import Derived.ProofKit
import Derived.OpenShut
import Derived.WideKeyArgs
import Derived.Lib.ItoaNum
import Derived.Shelf.SlSortCmp.Kit1
import Derived.Sort.LotA
import Derived.Lib.SlicesCompact
import Derived.Shelf.SlicesE.Compact
import Derived.Ground.SlgnProg
import Derived.Shelf.Sort.Plain
import Derived.Shelf.Slices.In.SortNone
import Derived.RangeFuncRecord
import Derived.Shelf.SlicesE.Delete
import Derived.Laws.StructEq
import Derived.KernelRfl
import Derived.Lib.AppendZerosOnto
import Derived.ChangeKeysEq
import Derived.Shelf.Strconv.Itoa3
import Derived.Lib.ItoaLen
import Derived.Laws.Slices
import Derived.OrdersIn
set_option linter.unusedVariables false
namespace Go.Mr
open Go.RowKit Go.Pu
def okO:Obj→Bool
 | .cells _ _ fr=>fr == (0,0)
 | _=>false
def up (B:Nat) (H:GH):GH:=fun b=>if b < B then none else (H b).filter okO
theorem up_iff {B:Nat} {H:GH} {b:Nat} {o:Obj}:up B H b=some o↔B≤b∧H b=some o∧okO o=true:=by
 unfold up
 split
 · exact ⟨nofun,fun h=>by omega⟩
 · rename_i hlt
   rw [Option.filter_eq_some_iff]
   exact ⟨fun h=>⟨by omega,h.1,h.2⟩,fun h=>⟨h.2.1,h.2.2⟩⟩
theorem upI {B:Nat} {H:GH}:Inc (up B H) H:=fun _ _ h=>(up_iff.1 h).2.1
theorem zac {B:Nat} {H H':GH} (h:Inc H H'):Inc (up B H) (up B H'):=fun b o hb=>by
 rw [up_iff] at *;exact ⟨hb.1,h b o hb.2.1,hb.2.2⟩
theorem up_le {B B':Nat} {H:GH} (h:B≤B'):Inc (up B' H) (up B H):=fun b o hb=>by
 rw [up_iff] at *;exact ⟨Nat.le_trans h hb.1,hb.2⟩
def New (H:GH) (cs:List Value):Prop:=∀ b∈bl cs,H b=none
theorem New.anti {H H':GH} {cs:List Value} (h:New H' cs) (hi:Inc H H'):New H cs:=fun b hb=>by
 cases hh:H b with
 | none=>rfl
 | some o=>have:=hi b o hh;rw [h b hb] at this;cases this
section
variable {P:Program} {w w':World} {H0 H H':GH} {w0:World} {l:List MO} {e k n:Nat} {v:Value} {A:Type} {En:Enc A}
theorem Els.dom {cells:List Value} {xs:List A} (h:Els H En k cells xs):∀ b∈bl cells,H b≠none:=by
 induction h with
 | nil=>intro b hb;cases hb
 | snoc _ _ hx ih =>
  intro b hb
  rw [bl_app] at hb
  rcases List.mem_append.1 hb with h|h
  · exact ih b h
  · exact En.dom hx b h
theorem nd_app {a b:List Value} (ha:(bl a).Nodup) (hb:(bl b).Nodup) (hd:∀ x∈bl a,H x≠none) (hn:New H b):(bl (a++b)).Nodup:=by
 rw [bl_app]
 exact List.nodup_append.2 ⟨ha,hb,fun x hx y hy e=>hd x hx (e ▸ hn y hy)⟩
theorem nd_one (v:Value):(bl [v]).Nodup:=by
 unfold bl
 cases h:neb v <;> simp [h]
theorem St.sealRowU {xs:List A} (h:St H0 w0 H w l) {i:Nat} {cells:List Value} {l':List MO} (hi:l[i]?=some (.row e k v n cells)) (he:Els (up w0.heap.size H) En k cells xs) (hk:0 < k) (hl:l.eraseIdx i=l') :
 ∃ H1,St H0 w0 H1 w l'∧Inc H H1∧RSl (up w0.heap.size H1) En k v xs∧New H [v]:=by
 obtain ⟨H1,h1,h2,h3⟩:=h.sealRow hi (he.mono upI) hk hl
 refine ⟨H1,h1,h2,?_,fun b hb=>?_⟩
 · obtain ⟨a,cap,rfl,g1,g2⟩:=h3
   refine ⟨a,cap,rfl,g1,fun j x hx=>?_⟩
   obtain ⟨p,cs,rfl,g4,⟨arr,t,fr,g5,g6⟩,_⟩:=g2 j x hx
   obtain ⟨c,q1,q2,q3⟩:=he.get _ _ hx
   obtain ⟨⟨k1,k2⟩,_⟩:=h.ok i _ hi
   rcases k2 with ⟨hv,_⟩|⟨g,cap',cur,hv,hg,hh,hle,hcm,hsz,htk⟩
   · cases hv
   · cases hv
     refine ⟨_,c,rfl,q1,⟨arr,t,fr,?_,g6.1,fun m u hu=>?_⟩,En.mono (zac h2) q2⟩
     · have hnow:=h1.sl _ _ g5
       rw [Addr.add_lit] at g5 hnow ⊢
       simp only at g5 hnow ⊢
       rw [hh] at hnow
       cases hnow
       exact up_iff.2 ⟨hg,g5,rfl⟩
     · have h4:=q3 m u hu
       rw [Addr.add_lit] at g5
       have hnow:=h1.sl _ _ g5
       simp only at hnow
       rw [hh] at hnow
       cases hnow
       rw [← htk,List.getElem?_take] at h4
       split at h4
       · rw [Addr.add_lit];simpa using h4
       · cases h4
 · obtain ⟨u,hu,hn⟩:=mem_bl hb
   simp only [List.mem_singleton] at hu
   subst hu
   refine h.out i _ b hi ?_
   cases u <;> simp only [neb] at hn <;> try (cases hn)
   rename_i a m c
   cases a with
   | none=>cases hn
   | some a =>
    simp only at hn
    split at hn
    · cases hn
    · exact hn
theorem New.of_up (hs:Sl H w) {cs:List Value} (hd:∀ b∈bl cs,up w.heap.size H' b≠none):New H cs:=fun b hb=>by
 cases hh:H b with
 | none=>rfl
 | some o =>
  have h1:=(Array.getElem?_eq_some_iff.1 (hs b o hh)).1
  have:=hd b hb
  unfold up at this
  rw [if_pos h1] at this
  exact absurd rfl this
def over (B:Nat) (H H':GH):GH:=fun b=>if b < B then H b else (H' b).filter still
theorem okO_cells {o:Obj} (h:okO o=true):still o=true:=by cases o <;> first|rfl|cases h
theorem over_ge {B:Nat} {H H':GH} {b:Nat} {o:Obj} (hb:B≤b):over B H H' b=some o↔H' b=some o∧still o=true:=by
 unfold over;rw [if_neg (by omega),Option.filter_eq_some_iff]
theorem Run.lendM {Hl:GH} (_hi:Inc H Hl) (hs:Sl H w) (hr:Run w.heap.size Hl w H' w'):Run w.heap.size H w (over w.heap.size H H') w':=by
 refine ⟨hr.bel,fun b hb=>by unfold over;rw [if_pos hb],fun b o hb=>?_,fun b o hb=>?_,hr.drw,fun b o hb=>?_⟩
 · by_cases hlt:b < w.heap.size
   · unfold over at hb;rw [if_pos hlt] at hb
     rw [hr.bel.block b hlt];exact hs b o hb
   · exact hr.sl b o ((over_ge (by omega)).1 hb).1
 · have hlt:=(Array.getElem?_eq_some_iff.1 (hs b o hb)).1
   unfold over;rw [if_pos hlt];exact hb
 · by_cases hlt:b < w.heap.size
   · unfold over at hb;rw [if_pos hlt] at hb;exact .inl hb
   · exact .inr ((over_ge (by omega)).1 hb).2
theorem St.lendM {Hl:GH} {lo:List MO} (hi:Inc H Hl) (hs:Sl H w) (hr:St Hl w H' w' lo):St H w (over w.heap.size H H') w' lo:=by
 refine ⟨Run.lendM hi hs hr.run,hr.ok,fun i o b hi' hb=>?_,hr.dis⟩
 have:=((hr.ok i o hi').lt b hb).1
 unfold over
 rw [if_neg (by omega),hr.out i o b hi' hb];rfl
theorem up_over {B:Nat} {H H':GH}:Inc (up B H') (up B (over B H H')):=fun b o h=>by
 have h:=up_iff.1 h
 exact up_iff.2 ⟨h.1,(over_ge h.1).2 ⟨h.2.1,okO_cells h.2.2⟩,h.2.2⟩
theorem St.lendX {Hl:GH} {lo:List MO} (hi:Inc H Hl) (hs:Sl H w) (hr:St Hl w H' w' lo):∃ Hm,St H w Hm w' lo∧Inc (up w.heap.size H') (up w.heap.size Hm) :=
 ⟨_,St.lendM hi hs hr,up_over⟩
theorem Els.any {cells:List Value} {xs:List A} (h:Els H En k cells xs) (hE:∀ (H H':GH) cs x,En.rel H cs x→En.rel H' cs x):Els H' En k cells xs:=by
 induction h with
 | nil=>exact .nil
 | snoc _ hc hx ih=>exact .snoc ih hc (hE _ _ _ _ hx)
end
end Go.Mr
namespace Go.Mr
open Go.RowKit Go.Pu
section
variable {P:Program} {w w':World} {H0 H H':GH} {w0:World} {l:List MO} {e k n t:Nat} {v u:Value} {A:Type} {En:Enc A}
def Nest {A:Type} (G:GH) (En:Enc A) (k:Nat) (v:Value) (xs:List A) (c:List Value):Prop :=
 RSl G En k v xs∧Els G En k c xs∧(∀ a len cap,v=.slice (some a) len cap→xs≠[]→CAt G a c)∧(bl c).Nodup∧∀ b∈bl [v],b ∉ bl c
theorem St.sealRowN {xs:List A} (h:St H0 w0 H w l) {i:Nat} {cells:List Value} {l':List MO} (hi:l[i]?=some (.row e k v n cells)) (he:Els (up w0.heap.size H) En k cells xs) (nd:(bl cells).Nodup) (hk:0 < k) (hl:l.eraseIdx i=l') :
 ∃ H1,St H0 w0 H1 w l'∧Inc H H1∧Nest (up w0.heap.size H1) En k v xs cells∧New H [v]:=by
 obtain ⟨H1,h1,h2,h3,h4⟩:=h.sealRowU hi he hk hl
 refine ⟨H1,h1,h2,⟨h3,he.mono (zac h2),?_,nd,fun b hb hc=>?_⟩,h4⟩
 · rintro a len cap rfl hne
   obtain ⟨x,hx⟩:∃ x,xs[0]?=some x:=by
    cases xs with
    | nil=>exact absurd rfl hne
    | cons x xs=>exact ⟨x,rfl⟩
   obtain ⟨a',cap',hv,_,g2⟩:=h3
   cases hv
   obtain ⟨p,cs,hp,_,⟨arr,t,fr,g4,g5,_⟩,_⟩:=g2 0 x hx
   cases hp
   rw [Nat.zero_mul,Addr.add_zero'] at g4 g5
   obtain ⟨⟨k1,k2⟩,_⟩:=h.ok i _ hi
   rcases k2 with ⟨hv,_⟩|⟨g,cap',cur,hv,hg,hh,hle,hcm,hsz,htk⟩
   · cases hv
   · cases hv
     have hnow:=h1.sl _ _ (upI _ _ g4)
     simp only at hnow
     rw [hh] at hnow
     cases hnow
     refine ⟨_,_,_,g4,rfl,fun j c hc=>?_⟩
     rw [← htk,List.getElem?_take] at hc
     split at hc
     · simpa using hc
     · cases hc
 · have:=h4 b hb
   exact Els.dom (he.mono upI) b hc this
end
end Go.Mr
namespace Go.Mr
open Go.RowKit Go.Pu
section
variable {P:Program} {w w':World} {H0 H H' Hs:GH} {w0:World} {l:List MO} {t e k:Nat} {v u:Value} {A:Type} {En:Enc A} {B lo hi:Nat}
def sg (lo hi:Nat) (H:GH):GH:=fun b=>if b < hi then up lo H b else none
def FlatE (En:Enc A):Prop:=∀ (H H':GH) cs x,En.rel H cs x→En.rel H' cs x∧bl cs=[]
theorem eI_flat:FlatE eI:=by rintro H H' cs x rfl;exact ⟨rfl,rfl⟩
theorem Nest.mono {G G':GH} {xs:List A} {c:List Value} (h:Nest G En k v xs c) (hi:Inc G G'):Nest G' En k v xs c :=
 ⟨h.1.mono hi,h.2.1.mono hi,fun a len cap hv hne=>(h.2.2.1 a len cap hv hne).mono hi,h.2.2.2⟩
theorem Nest.rsl {G:GH} {xs:List A} {c:List Value} (h:Nest G En k v xs c):RSl G En k v xs:=h.1
theorem Nest.dom {G:GH} {xs:List A} {c:List Value} (h:Nest G En k v xs c):∀ b,b∈bl [v]∨b∈bl c→G b≠none:=fun b hb=>by
 rcases hb with hb|hb
 · exact h.1.dom b hb
 · exact h.2.1.dom b hb
structure Wr (Hs H:GH) (p:Addr) (ci ci':List Value):Prop where
 out:∀ b,b≠p.block→b ∉ bl ci→H b=Hs b
 arr:∃ arr arr' e,Hs p.block=some (.cells arr e (0,0))∧H p.block=some (.cells arr' e (0,0))∧arr'.size=arr.size∧(∀ (j:Nat) u,ci'[j]?=some u→arr'[p.off + j]?=some u) ∧
  ∀ j,j < p.off∨p.off + ci.length≤j→arr'[j]?=arr[j]?
 len:ci'.length=ci.length
 spot:p.spot=none
 blk:bl ci'=bl ci
 own:p.block ∉ bl ci
theorem addr_eta {p:Addr} (h:p.spot=none) (j:Nat):p.add j=⟨p.block,p.off + j,none⟩:=by
 unfold Addr.add
 split
 · rename_i h0;subst h0;cases p;simp_all
 · rfl
theorem RSl.nest {G:GH} {xs:List A} (h:RSl G En k v xs) (hE:FlatE En) (_hk:0 < k):∃ c,Nest G En k v xs c∧bl c=[]:=by
 obtain ⟨a,cap,rfl,g1,g2⟩:=h
 have key:∀ n,n≤xs.length→∃ c,Els G En k c (xs.take n)∧bl c=[]∧∀ p,a=some p→∀ arr e fr,(G p.block=some (.cells arr e fr))→∀ (j:Nat) u,c[j]?=some u→arr[p.off + j]?=some u:=by
  intro n
  induction n with
  | zero=>intro _;exact ⟨[],by simpa using Els.nil,rfl,by simp⟩
  | succ n ih =>
   intro hn
   obtain ⟨c,e1,e2,e3⟩:=ih (by omega)
   have hlt:n < xs.length:=by omega
   obtain ⟨p,cs,rfl,k1,⟨arr,e,fr,k2,k3,k4⟩,k5⟩:=g2 n xs[n] (by simp [hlt])
   have hb:(p.add (n * k)).block=p.block:=by unfold Addr.add;split <;> rfl
   have ho:(p.add (n * k)).off=p.off + n * k:=by unfold Addr.add;split <;> simp_all
   rw [hb] at k2
   refine ⟨c++cs,?_,?_,?_⟩
   · rw [List.take_succ_eq_append_getElem hlt];exact .snoc e1 k1 k5
   · rw [bl_app,e2,(hE G G cs _ k5).2];rfl
   · rintro p' hp' arr' e' fr' hG j u hu
     cases hp'
     rw [k2] at hG;cases hG
     have hcl:=e1.length
     rw [List.length_take,Nat.min_eq_left (by omega)] at hcl
     rcases Nat.lt_or_ge j c.length with hj|hj
     · rw [List.getElem?_append_left hj] at hu
       exact e3 p rfl arr e fr k2 j u hu
     · rw [List.getElem?_append_right hj,hcl] at hu
       have:=k4 _ _ hu
       rw [ho] at this
       rw [show p.off + j=p.off + n * k + (j - n * k) by omega];exact this
 obtain ⟨c,e1,e2,e3⟩:=key xs.length (Nat.le_refl _)
 rw [List.take_length] at e1
 refine ⟨c,⟨⟨a,cap,rfl,g1,g2⟩,e1,fun p len cap' hv hne=>?_,by rw [e2];exact List.nodup_nil,fun b _=>by rw [e2];simp⟩,e2⟩
 cases hv
 obtain ⟨x,hx⟩:∃ x,xs[0]?=some x:=by
  cases xs with
  | nil=>exact absurd rfl hne
  | cons x xs=>exact ⟨x,rfl⟩
 obtain ⟨p',cs,hp',_,⟨arr,e,fr,k2,k3,_⟩,_⟩:=g2 0 x hx
 cases hp'
 rw [Nat.zero_mul,Addr.add_zero'] at k2 k3
 exact ⟨arr,e,fr,k2,k3,e3 p rfl arr e fr k2⟩
@[reducible] def M1 (H0:GH) (w0:World) (Ha:GH) (l:List MO) {A:Type} (En:Enc A) (k:Nat) (v:Value) (r:List A×Int):Ending→World→Prop:=fun e w' =>
 ∃ H':GH,e=.returned (.int .i64 r.2)∧St H0 w0 H' w' l∧RSl (up w0.heap.size H') En k v r.1∧∀ b,b ∉ bl [v]→H' b=Ha b
@[reducible] def M2 (H0:GH) (w0:World) (Ha:GH) (l:List MO) {A:Type} (En:Enc A) (k:Nat) (v:Value) (c0:List Value) (r:List A×Int):Ending→World→Prop:=fun e w' =>
 ∃ (H':GH) (c':List Value),e=.returned (.int .i64 r.2)∧St H0 w0 H' w' l∧Nest (up w0.heap.size H') En k v r.1 c'∧bl c'=bl c0∧∀ b,b ∉ bl [v]→b ∉ bl c0→∀ o,Ha b=some o→H' b=some o
end
end Go.Mr
namespace Go.Pu
def okI (n:Int):Prop:=-9223372036854775808≤n∧n≤9223372036854775807
def okL {A:Type} (ok:A→Prop) (xs:List A):Prop:=xs.length≤9223372036854775807∧∀ x∈xs,ok x
section
variable {α β S X:Type}
theorem forL_inv {body:Nat→α→S→Option (Lp S X)} (I:Nat→S→Prop) {l:List α} {s:S} (h0:I 0 s)
 (hb:∀ i x s,l[i]?=some x→I i s→∃ s',body i x s=some (.nx s')∧I (i + 1) s'):∃ s',forL l body s=some (.go s')∧I l.length s':=by
 have key:∀ (m p:List α) (s:S),l=p++m→I p.length s→∃ s',zav body m p.length s=some (.go s')∧I l.length s':=by
  intro m
  induction m with
  | nil =>
   intro p s hm hi
   refine ⟨s,rfl,?_⟩
   rw [hm,List.append_nil];exact hi
  | cons x m ih =>
   intro p s hm hi
   have hx:l[p.length]?=some x:=by rw [hm];simp
   obtain ⟨s',h1,h2⟩:=hb p.length x s hx hi
   obtain ⟨s'',h3,h4⟩:=ih (p++[x]) s' (by rw [hm];simp) (by simpa using h2)
   refine ⟨s'',?_,h4⟩
   rw [zav,h1]
   simpa using h3
 exact key l [] s rfl h0
theorem forL_foldI {body:Nat→α→S→Option (Lp S X)} (g:S→α→S) {l:List α} {s:S} (I:Nat→S→Prop) (h0:I 0 s) (h:∀ i x t,l[i]?=some x→I i t→body i x t=some (.nx (g t x))∧I (i + 1) (g t x)):forL l body s=some (.go (l.foldl g s))∧I l.length (l.foldl g s):=by
 obtain ⟨s',h1,h2,h3⟩:=forL_inv (X:=X) (body:=body) (fun i t=>t=(l.take i).foldl g s∧I i t) (l:=l) (s:=s) ⟨by simp,h0⟩ (fun i x t hx ht=>⟨g t x,(h i x t hx ht.2).1,by
  obtain ⟨rfl,_⟩:=ht
  rw [List.take_add_one,hx]
  simp,(h i x t hx ht.2).2⟩)
 rw [List.take_length] at h2
 subst h2
 exact ⟨h1,h3⟩
def anyI (p:Nat→α→Bool):List α→Nat→Bool
 | [],_=>false
 | y::l,i=>p i y || anyI p l (i + 1)
theorem anyI_any (p:α→Bool) (l:List α) (i:Nat):anyI (fun _ y=>p y) l i=l.any p:=by
 induction l generalizing i with
 | nil=>rfl
 | cons y l ih=>simp [anyI,ih]
theorem anyI_false {p:Nat→α→Bool}:∀ {l:List α} {k:Nat},anyI p l k=false↔∀ i y,l[i]?=some y→p (k + i) y=false:=by
 intro l
 induction l with
 | nil=>intro k;simp [anyI]
 | cons y l ih =>
  intro k
  simp only [anyI,Bool.or_eq_false_iff,ih]
  constructor
  · rintro ⟨h1,h2⟩ i z hz
    cases i with
    | zero=>simp at hz;subst hz;simpa using h1
    | succ i=>have:=h2 i z (by simpa using hz);rwa [show k + 1 + i=k + (i + 1) by omega] at this
  · intro h
    refine ⟨by simpa using h 0 y rfl,fun i z hz=>?_⟩
    have:=h (i + 1) z (by simpa using hz);rwa [show k + (i + 1)=k + 1 + i by omega] at this
theorem forL_any {body:Nat→α→Unit→Option (Lp Unit X)} {p:Nat→α→Bool} {v:X} {l:List α} {u:Unit} (h:∀ i y,l[i]?=some y→body i y ()=(bif p i y then some (.rt v) else some (.nx ()))) :
 forL l body u=some (bif anyI p l 0 then .rt v else .go ()):=by
 have key:∀ (m:List α) (k:Nat),(∀ i y,m[i]?=some y→body (k + i) y ()=(bif p (k + i) y then some (.rt v) else some (.nx ())))→zav body m k ()=some (bif anyI p m k then .rt v else .go ()):=by
  intro m
  induction m with
  | nil=>intro k _;rfl
  | cons y m ih =>
   intro k hm
   have h0:=hm 0 y rfl
   rw [Nat.add_zero] at h0
   rw [zav,h0]
   cases hp:p k y with
   | true=>simp [anyI,hp]
   | false =>
    simp only [cond_false,anyI,hp,Bool.false_or]
    exact ih (k + 1) fun i z hz=>by have:=hm (i + 1) z (by simpa using hz);rwa [show k + (i + 1)=k + 1 + i by omega] at this
 exact key l 0 fun i y hy=>by rw [Nat.zero_add];exact h i y hy
def findI (p:Nat→α→Bool):List α→Nat→Option (Nat×α)
 | [],_=>none
 | y::l,i=>bif p i y then some (i,y) else findI p l (i + 1)
theorem forL_find {body:Nat→α→Unit→Option (Lp Unit X)} {p:Nat→α→Bool} {v:Nat→α→X} {l:List α} {u:Unit} (h:∀ i y,l[i]?=some y→body i y ()=(bif p i y then some (.rt (v i y)) else some (.nx ()))) :
 forL l body u=some (match findI p l 0 with|some z=>.rt (v z.1 z.2)|none=>.go ()):=by
 have key:∀ (m:List α) (k:Nat),(∀ i y,m[i]?=some y→body (k + i) y ()=(bif p (k + i) y then some (.rt (v (k + i) y)) else some (.nx ())))→zav body m k ()=some (match findI p m k with|some z=>.rt (v z.1 z.2)|none=>.go ()):=by
  intro m
  induction m with
  | nil=>intro k _;rfl
  | cons y m ih =>
   intro k hm
   have h0:=hm 0 y rfl
   rw [Nat.add_zero] at h0
   rw [zav,h0]
   cases hp:p k y with
   | true=>simp [findI,hp]
   | false =>
    simp only [cond_false,findI,hp]
    exact ih (k + 1) fun i z hz=>by have:=hm (i + 1) z (by simpa using hz);rwa [show k + (i + 1)=k + 1 + i by omega] at this
 exact key l 0 fun i y hy=>by rw [Nat.zero_add];exact h i y hy
theorem findI_none {p:Nat→α→Bool}:∀ {l:List α} {k:Nat},findI p l k=none↔anyI p l k=false:=by
 intro l
 induction l with
 | nil=>intro k;simp [findI,anyI]
 | cons y l ih =>
  intro k
  simp only [findI,anyI]
  cases p k y <;> simp [ih]
theorem findI_some {p:Nat→α→Bool}:∀ {l:List α} {k:Nat} {z:Nat×α},findI p l k=some z→k≤z.1∧l[z.1 - k]?=some z.2∧p z.1 z.2=true∧anyI p l k=true:=by
 intro l
 induction l with
 | nil=>intro k z h;simp [findI] at h
 | cons y l ih =>
  intro k z h
  simp only [findI] at h
  cases hp:p k y with
  | true=>rw [hp] at h;simp at h;subst h;simp [anyI,hp]
  | false =>
   rw [hp] at h
   simp only [cond_false] at h
   obtain ⟨h1,h2,h3,h4⟩:=ih h
   refine ⟨by omega,?_,h3,by simp [anyI,h4]⟩
   rw [show z.1 - k=(z.1 - (k + 1)) + 1 by omega,List.getElem?_cons_succ];exact h2
theorem iter_any {xs:List α} {body:Int→Option (Lp Int X)} {p:Nat→α→Bool} {v:X} (h:∀ (i:Nat) y,xs[i]?=some y→body (i:Int)=(bif p i y then some (.rt v) else some (.nx ((i:Int) + 1)))) (he:body (xs.length:Int)=some (.bk (xs.length:Int))) :
 iter body 0=some (bif anyI p xs 0 then .rt v else .go (xs.length:Int)):=by
 have key:∀ (m:List α) (k:Nat),k + m.length=xs.length→(∀ i y,m[i]?=some y→xs[k + i]?=some y)→iter body (k:Int)=some (bif anyI p m k then .rt v else .go (xs.length:Int)):=by
  intro m
  induction m with
  | nil =>
   intro k hk _
   simp only [List.length_nil,Nat.add_zero] at hk
   subst hk
   rw [zba he];rfl
  | cons y m ih =>
   intro k hk hm
   have h0:=h k y (by have:=hm 0 y rfl;simpa using this)
   cases hp:p k y with
   | true=>rw [hp] at h0;rw [iter_rt h0];simp [anyI,hp]
   | false =>
    rw [hp] at h0
    rw [zbF h0]
    simp only [anyI,hp,Bool.false_or]
    exact ih (k + 1) (by simp at hk;omega) fun i z hz=>by have:=hm (i + 1) z (by simpa using hz);rwa [show k + (i + 1)=k + 1 + i by omega] at this
 have:=key xs 0 (by simp) (by simp)
 simpa using this
theorem iter_while {xs:List α} {body:Int→Option (Lp Int X)} {p:α→Bool} (h:∀ (i:Nat) y,xs[i]?=some y→body (i:Int)=(bif p y then some (.nx ((i:Int) + 1)) else some (.bk (i:Int)))) (he:body (xs.length:Int)=some (.bk (xs.length:Int))) :
 iter body 0=some (.go ((xs.takeWhile p).length:Int)):=by
 have key:∀ (m:List α) (k:Nat),k + m.length=xs.length→(∀ i y,m[i]?=some y→xs[k + i]?=some y)→iter body (k:Int)=some (.go ((k + (m.takeWhile p).length:Nat):Int)):=by
  intro m
  induction m with
  | nil =>
   intro k hk _
   simp only [List.length_nil,Nat.add_zero] at hk
   subst hk
   rw [zba he];rfl
  | cons y m ih =>
   intro k hk hm
   have h0:=h k y (by have:=hm 0 y rfl;simpa using this)
   cases hp:p y with
   | true =>
    rw [hp] at h0
    rw [zbF h0,List.takeWhile_cons,if_pos hp]
    have:=ih (k + 1) (by simp at hk;omega) fun i z hz=>by have:=hm (i + 1) z (by simpa using hz);rwa [show k + (i + 1)=k + 1 + i by omega] at this
    rw [show ((k:Int) + 1)=((k + 1:Nat):Int) by simp,this]
    simp;omega
   | false =>
    rw [hp] at h0
    rw [zba h0,List.takeWhile_cons,if_neg (by simp [hp])];simp
 have:=key xs 0 (by simp) (by simp)
 simpa using this
theorem zaQ {xs:List α} {i:Nat}:ix xs (i:Int)=xs[i]?:=by simp [ix]
theorem ix_of {xs:List α} {i:Int} (h0:0≤i) (h1:i < xs.length):∃ x,ix xs i=some x∧xs[i.toNat]?=some x:=by
 refine ⟨xs[i.toNat]'(by omega),?_,List.getElem?_eq_getElem (by omega)⟩
 unfold ix;rw [if_pos h0];exact List.getElem?_eq_getElem (by omega)
theorem wr_pred {i n:Nat} (hi:0 < i) (h:i < n) (hn:n≤9223372036854775807):wr ((i:Int) - 1)=((i - 1:Nat):Int):=by rw [wr_of _ (by omega) (by omega)];omega
theorem wr_succ {i n:Nat} (h:i < n) (hn:n≤9223372036854775807):wr ((i:Int) + 1)=(i:Int) + 1:=wr_of _ (by omega) (by omega)
theorem app_ok {xs ys:List α} (h:xs.length + ys.length≤lim):app xs ys=some (xs++ys):=by unfold app;rw [if_pos h]
theorem cut_ok {xs:List α} {a b:Nat} (h:a≤b) (hb:b≤xs.length):cut xs (a:Int) (b:Int)=some ((xs.take b).drop a):=by unfold cut;rw [if_pos (by omega)];simp
theorem zai (xs:List α):len xs=(xs.length:Int):=rfl
@[simp] theorem bif_ff {c d:Bool}:(bif c then d else false)=(c && d):=by cases c <;> rfl
@[simp] theorem bif_tt {c d:Bool}:(bif c then true else d)=(c || d):=by cases c <;> rfl
def adj (r:α→α→Bool):List α→Bool
 | a::b::l=>r a b && adj r (b::l)
 | _=>true
theorem anyI_adj {q:α→Bool} {r:α→α→Bool} {l:List α} {p:Nat→α→Bool} (h0:∀ y,l[0]?=some y→p 0 y=q y) (h:∀ (i:Nat) x y,l[i]?=some x→l[i + 1]?=some y→p (i + 1) y=(q y || !r x y)) :
 anyI p l 0 = !(l.all (fun y => !q y) && adj r l):=by
 have key:∀ (m:List α) (k:Nat) (x:α),l[k]?=some x→(∀ i y,m[i]?=some y→l[k + 1 + i]?=some y)→anyI p m (k + 1) = !(m.all (fun y => !q y) && adj r (x::m)):=by
  intro m
  induction m with
  | nil=>intro k x _ _;rfl
  | cons y m ih =>
   intro k x hx hm
   have hy:l[k + 1]?=some y:=by simpa using hm 0 y rfl
   simp only [anyI,List.all_cons,adj]
   rw [h k x y hx hy,ih (k + 1) y hy fun i z hz=>by have:=hm (i + 1) z (by simpa using hz);rwa [show k + 1 + (i + 1)=k + 1 + 1 + i by omega] at this]
   cases q y <;> cases r x y <;> cases m.all (fun y => !q y) <;> simp
 cases l with
 | nil=>rfl
 | cons x m =>
  simp only [anyI,List.all_cons]
  rw [h0 x rfl,Nat.zero_add,key m 0 x rfl (by intro i y hy;rw [show 0 + 1 + i=i + 1 by omega];simpa using hy)]
  cases q x <;> simp
theorem forLFrom_nx {α S X:Type} {body:Nat→α→S→Option (Lp S X)} {a:α} {l:List α} {i:Nat} {s s':S} (h:body i a s=some (.nx s')):zav body (a::l) i s=zav body l (i + 1) s':=by
 simp only [zav,h]
theorem forLFrom_nil {α S X:Type} {body:Nat→α→S→Option (Lp S X)} {i:Nat} {s:S}:zav body [] i s=some (.go s):=rfl
end
end Go.Pu
namespace Go.Mr
open Go.RowKit Go.Pu
def hpOf (w:World):GH:=fun b=>w.heap[b]?
theorem sl_hpOf (w:World):Sl (hpOf w) w:=fun _ _ h=>h
def RdT (P:Program) (w:World) (t:TypeId) {A:Type} (En:Enc A) (ok:A→Prop):Prop :=
 ∀ {H:Type} {enc:TypeId×Value→H} {base:Nat} {spare:Nat→Bool} {held:Bool} {fuel:Nat} {cs:List Value} {x:DataW H×List MemPlace},DataW.trod enc P w base spare held fuel t cs=some x→∃ a,En.rel (hpOf w) cs a∧ok a
section
variable {P:Program} {w:World} {t e k:Nat} {A:Type} {En:Enc A} {ok:A→Prop}
theorem cell_block {p:Addr} {c:Value} (h:w.cell? p=some c):p.spot=Option.none∧∃ arr e fr,w.heap[p.block]?=some (.cells arr e fr)∧arr[p.off]?=some c:=by
 have hs:=World.cell?_spot h
 refine ⟨hs,?_⟩
 unfold World.cell? at h
 split at h
 · rename_i arr e fr hb
   split at h
   · cases h
   · exact ⟨arr,e,fr,hb,h⟩
 · cases h
theorem cat_of_cells {base:Nat} {p:Addr} {cs:List Value} (hk:0 < k) (h:w.cells? base p k=some cs):cs.length=k∧CAt (hpOf w) p cs:=by
 obtain ⟨_,hl,hc⟩:=World.cells?_some h
 refine ⟨hl,?_⟩
 obtain ⟨c0,h0⟩:∃ c0,cs[0]?=some c0:=⟨cs[0]'(by omega),List.getElem?_eq_getElem (by omega)⟩
 have:=hc 0 hk
 rw [h0,Addr.add_zero'] at this
 obtain ⟨hs,arr,e,fr,hb,_⟩:=cell_block this
 refine ⟨arr,e,fr,hb,hs,fun j c hj=>?_⟩
 have hjk:j < k:=by rw [← hl];exact (List.getElem?_eq_some_iff.1 hj).1
 have h2:=hc j hjk
 rw [hj] at h2
 obtain ⟨_,arr',e',fr',hb',hc'⟩:=cell_block h2
 have hbl:(p.add j).block=p.block:=by unfold Addr.add;split <;> rfl
 rw [hbl,hb] at hb'
 cases hb'
 rw [addr_eta hs] at hc'
 exact hc'
theorem RdT.slice (ht:P.underlying t=some (.slice e)) (hc:P.cellsOf e=k) (hk:0 < k) (he:RdT P w e En ok):RdT P w t (eL En k) (okL ok):=fun {H enc base spare held fuel cs x} h=>by
 rcases DataW.trod_slice ht h with ⟨rfl,_⟩|⟨a,len,cap,elems,rest,n,_,rfl,_,_,hle,hm,hlen,hel,_⟩
 · exact ⟨[],⟨_,rfl,RSl.nil _ _ _⟩,by simp,by simp⟩
 · rw [hc] at hel
   have key:∀ m,m≤len→∃ xs:List A,xs.length=m∧∀ i x,xs[i]?=some x→∃ cs,cs.length=k∧CAt (hpOf w) (a.add (i * k)) cs∧En.rel (hpOf w) cs x∧ok x:=by
    intro m
    induction m with
    | zero=>intro _;exact ⟨[],rfl,by simp⟩
    | succ m ih =>
     intro hlt
     obtain ⟨xs,h1,h2⟩:=ih (by omega)
     have h3:=hel m (by omega)
     rw [List.getElem?_eq_getElem (by omega)] at h3
     obtain ⟨cs',h4,h5⟩:=Option.bind_eq_some_iff.1 h3
     obtain ⟨y,hy,hok⟩:=he h5
     obtain ⟨h6,h7⟩:=cat_of_cells hk h4
     refine ⟨xs++[y],by simp [h1],fun i x hx=>?_⟩
     rcases Nat.lt_or_ge i xs.length with hi|hi
     · rw [List.getElem?_append_left hi] at hx;exact h2 i x hx
     · have:i=xs.length:=by have:=(List.getElem?_eq_some_iff.1 hx).1;simp at this;omega
       subst this
       simp at hx;subst hx
       rw [h1]
       exact ⟨cs',h6,h7,hy,hok⟩
   obtain ⟨xs,h1,h2⟩:=key len (Nat.le_refl _)
   subst h1
   refine ⟨xs,⟨_,rfl,some a,cap,rfl,⟨by omega,nofun,hle⟩,fun i x hx=>let ⟨cs,g1,g2,g3,_⟩:=h2 i x hx;⟨a,cs,rfl,g1,g2,g3⟩⟩,by simp only [maxLen] at hm;omega,fun x hx=>?_⟩
   obtain ⟨i,hi⟩:=List.mem_iff_getElem?.1 hx
   obtain ⟨_,_,_,_,h⟩:=h2 i x hi
   exact h
variable {H:Type} {enc:TypeId×Value→H} {base b0:Nat} {spare:Nat→Bool} {held:Bool} {r:Reach} {v:Value} {d:DataW H} {ps:List MemPlace}
theorem arg_slice (ht:P.underlying t=some (.slice e)) (hc:P.cellsOf e=k) (hk:0 < k) (he:RdT P w e En ok) (hval:Value.okWide P w r b0 t v) (h:DataW.Trod enc P w base spare held t v d ps):∃ xs:List A,RSl (hpOf w) En k v xs∧okL ok xs:=by
 obtain ⟨a,len,cap,rfl⟩:=WideShapes.okWide_slice ht hval
 obtain ⟨fuel,h⟩:=h
 obtain ⟨xs,⟨v',h1,h2⟩,h3⟩:=RdT.slice ht hc hk he h
 simp only [Value.cells,List.cons.injEq,and_true] at h1
 subst h1
 exact ⟨xs,h2,h3⟩
theorem trod_stays {W W':World} (hl:laidOutB P=true) (hr:P.readableRec t=true) (hrow:t < P.types.size) (hb:Below W.heap.size W W') {ps:List MemPlace} (hp:∀ p∈ps,p.block < W.heap.size)
 (h:DataW.Trod enc P W base (fun _=>true) true t v d ps):DataW.Trod enc P W' base (fun b=>decide (b < W.heap.size)) true t v d ps :=
 WideElems.Trod_stays hl hr hrow h (fun p h=>hb.same (hp p h)) (fun p h=>by simpa using hp p h)
end
theorem post_law {H:Type} {enc:TypeId×Value→H} {P:Program} {f:Func} {s:ChangeSpec} {W W':World} {args:Array Value} {ds:List (DataW H)} {p:List MemPlace} {tb:TypeId}
 (hW:DataW.Whole enc P f.params.toList s.vars false W args.toList ds [] (p++[])) (hv:s.vars=[]) (hf:(s.fn H (ds++[]))={ results:=[.lit (.bool true)],args:=ds }) (hrt:f.resultTypes.toList=[tb]) (hrs:f.resultTypes.size=1)
 (htb:P.underlying tb=some .bool) (hA:DataW.TrodAll enc P W' 0 (fun b=>decide (b < W.heap.size)) true f.params.toList args.toList ds p) (hb:Below W.heap.size W W') :
 s.post enc P f false true false false W args (.bool true) W':=by
 refine ⟨ds,[],p++[],[],p,[],hW,?_,?_,?_,hb.frame _,fun h=>by cases h⟩
 · rw [hf,hrt,hrs]
   exact trodAll_cons_mk (shut_bool htb _) ChangeShapes.trodAll_mk0
 · rw [hf];exact hA
 · rw [hf,hv];rfl
end Go.Mr
namespace Go.Pu
def okU8 (n:Int):Prop:=0≤n∧n≤255
end Go.Pu
namespace Go.Mr
open Go.RowKit Go.Pu
theorem RdT.u8 {P:Program} {w:World} {t:TypeId} (ht:P.underlying t=some (.int .u8)):RdT P w t (eN .u8) okU8:=fun h=>by
 obtain ⟨n,rfl,_,hw⟩:=DataW.trod_int ht h
 refine ⟨n,rfl,?_⟩
 simp [Lit.wf,IntKind.min,IntKind.max,IntKind.signed,IntKind.bits] at hw
 exact hw
end Go.Mr
namespace Go.Mr
open Go.RowKit Go.Pu Go.Sort
open Go.Proofs (OneCell CmpLays1 sortWorld ltOf)
section
variable {P:Program} {w w':World} {H0 H H':GH} {w0:World} {l:List MO} {e n:Nat} {v:Value} {A:Type} {En:Enc A}
theorem heap_sorted1 {α:Type} [Inhabited α] {enc:α→Value} {w:World} {g m:Nat} {os:Array Obj} {cur:Array Value} {e:TypeId} {fr:Nat×Nat} (d:Array α) (hb:w.heap[g]?=some (.cells cur e fr)) :
 (sortWorld enc w g 0 m d os).heap[g]?=some (.cells (putCells enc 0 d cur) e fr):=by
 have hg:g < w.heap.size:=(Array.getElem?_eq_some_iff.1 hb).1
 unfold sortWorld
 rw [heap_grow_old _ _ (by simpa using hg)]
 simp [putRow,mapBlock,Sort.ahead,Array.getElem?_modify,hb,onCells]
theorem grownBy_sorted1 {α:Type} [Inhabited α] {enc:α→Value} {w:World} {g m:Nat} {os:Array Obj} (d:Array α):w.grownBy (sortWorld enc w g 0 m d os) (some g):=by
 unfold sortWorld
 refine ⟨rfl,rfl,rfl,by simp,fun k hk hne=>?_⟩
 rw [heap_grow_old _ _ (by simpa using hk)]
 have:g≠k:=fun e=>hne (by rw [e])
 simp [putRow,mapBlock,Sort.ahead,Array.getElem?_modify,this]
theorem take_putCells1 {α:Type} [Inhabited α] {enc:α→Value} (cur:Array Value) (ts:List α) (n:Nat) (hn:n≤ts.length) (h:ts.length≤cur.size):(putCells enc 0 ts.toArray cur).toList.take n=(ts.take n).map enc:=by
 apply List.ext_getElem?
 intro j
 by_cases hj:j < n
 · rw [List.getElem?_take_of_lt hj,Array.getElem?_toList]
   simp [putCells,hj,show j < cur.size by omega,show j < ts.length by omega]
 · rw [List.getElem?_take_eq_none (by omega),List.getElem?_eq_none (by simp;omega)]
theorem St.turned (h:St H0 w0 H w l) {i g cap m n':Nat} {cells:List Value} (hi:l[i]?=some (.row e 1 (.slice (some ⟨g,0,Option.none⟩) n cap) n cells)) {α:Type} [Inhabited α] {enc:α→Value} (h1:OneCell enc) (d:List α) (os:Array Obj)
 (hn:n'≤d.length) (hd:d.length≤n) :
 St H0 w0 H (sortWorld enc w g 0 m d.toArray os) (l.set i (.row e 1 (.slice (some ⟨g,0,Option.none⟩) n' cap) n' ((d.take n').map enc))):=by
 obtain ⟨⟨k1,k2⟩,k3⟩:=h.ok i _ hi
 rcases k2 with ⟨h3,_⟩|⟨g',cap',cur,hv,hg,hh,hle,hcm,hsz,htk⟩
 · cases h3
 cases hv
 refine h.upd hi (grownBy_sorted1 _) (by unfold sortWorld;simp [Sort.ahead,Go.Sort.grow]) ⟨⟨by simp;omega,.inr ⟨g,cap,_,rfl,hg,heap_sorted1 _ hh,by omega,hcm,by simp [putCells,hsz],?_⟩⟩,?_⟩ (fun b hb=>.inl hb)
 · rw [Nat.mul_one];exact take_putCells1 cur d n' hn (by omega)
 · intro u hu
   obtain ⟨y,_,rfl⟩:=List.mem_map.1 hu
   exact h1 y
theorem St.holds1 (h:St H0 w0 H w l) {i g cap:Nat} {cells:List Value} (hi:l[i]?=some (.row e 1 (.slice (some ⟨g,0,Option.none⟩) n cap) n cells)) {α:Type} [Inhabited α] {enc:α→Value} (d:List α) (hd:d.map enc=cells) :
 Holds enc w g 0 d.toArray∧g < w.heap.size∧d.length=n∧n≤cap∧cap≤maxLen:=by
 obtain ⟨⟨k1,k2⟩,k3⟩:=h.ok i _ hi
 rcases k2 with ⟨h3,_⟩|⟨g',cap',cur,hv,hg,hh,hle,hcm,hsz,htk⟩
 · cases h3
 cases hv
 have hl:d.length=n:=by rw [← hd] at k1;simpa using k1
 refine ⟨fun j hj=>?_,(Array.getElem?_eq_some_iff.1 hh).1,hl,hle,hcm⟩
 simp only [List.size_toArray] at hj
 have hc:cells[j]?=some (enc d[j]):=by rw [← hd];simp [hj]
 rw [Nat.zero_add]
 constructor
 · rw [cell_of_row w g _ _ _ _ hh]
   rw [← htk,List.getElem?_take] at hc
   split at hc
   · simpa [hj] using hc
   · cases hc
 · simp [World.frozen?,hh]
end
end Go.Mr
namespace Go.Proofs
open Go.Shelf Go.RowKit Go.Lib Go.Sort
end Go.Proofs
namespace Go.Mr
open Go.RowKit Go.Pu Go.Sort
open Go.Proofs (OneCell CmpLays1 sortWorld ltOf)
section
variable {P:Program} {w w':World} {H0 H H':GH} {w0:World} {l:List MO} {e n:Nat} {v:Value}
theorem els_eI {G:GH} {cells:List Value} {xs:List Int} (h:Els G eI 1 cells xs):cells=xs.map (Value.int .i64):=by
 induction h with
 | nil=>rfl
 | snoc _ _ hx ih=>rw [ih,zak hx];simp
theorem eI_els {G:GH} (xs:List Int):Els G eI 1 (xs.map (Value.int .i64)) xs:=by
 rw [← List.reverse_reverse xs]
 generalize xs.reverse=d
 induction d with
 | nil=>exact .nil
 | cons p d ih=>rw [List.reverse_cons,List.map_append];exact .snoc ih rfl rfl
theorem sortI_some {xs r:List Int} (h:sortI xs=some r):xs.length≤lim∧r=xs.mergeSort (fun x y=>decide (x≤y)):=by
 unfold sortI at h
 split at h
 · rename_i hh;cases h;exact ⟨hh,rfl⟩
 · cases h
theorem St.sortInts {G:GH} (h:St H0 w0 H w l) {i:Nat} {cells:List Value} (hi:l[i]?=some (.row e 1 v n cells)) {xs r:List Int} (he:Els G eI 1 cells xs) {fid:Nat}
 (k0:∀ (p:Option Addr) (cap:Nat) (w:World),Calls P fid #[.slice p 0 cap] w fun e w'=>e=.returned (.tuple #[])∧w'=w)
 (k1:∀ (blk off cap:Nat) (zs:List Int) (w:World) (_:Holds (Value.int .i64) w blk off zs.toArray) (_:blk < w.heap.size) (_:zs.length < 4611686018427387904),
  Calls P fid #[.slice (some ⟨blk,off,Option.none⟩) zs.length cap] w fun e w'=>e=.returned (.tuple #[])∧∃ n os,w'=sortWorld (Value.int .i64) w blk off n (zs.mergeSort fun x y=>decide (x≤y)).toArray os)
 (hr:sortI xs=some r) :
 Calls P fid #[v] w fun e' w'=>e'=.returned (.tuple #[])∧∃ cells',St H0 w0 H w' (l.set i (.row e 1 v n cells'))∧Els G eI 1 cells' r:=by
 obtain ⟨hlim,rfl⟩:=sortI_some hr
 obtain ⟨⟨g1,g2⟩,g3⟩:=h.ok i _ hi
 have hlen:=he.length
 have hset:l.set i (.row e 1 v n cells)=l:=by
  apply List.ext_getElem?
  intro j
  rw [List.getElem?_set]
  split
  · rename_i hij;subst hij;rw [hi];simp [(List.getElem?_eq_some_iff.1 hi).1]
  · rfl
 rcases g2 with ⟨rfl,rfl⟩|⟨g,cap,cur,rfl,hg,hh,hle,hcm,hsz,htk⟩
 · have:xs=[]:=by rw [g1] at hlen;apply List.eq_nil_of_length_eq_zero;omega
   subst this
   refine (k0 Option.none 0 w).mono ?_
   rintro _ _ ⟨rfl,rfl⟩
   exact ⟨rfl,cells,by rw [hset];exact h,by simpa using he⟩
 · have hc:=els_eI he
   obtain ⟨hH,hblk,hdl,hcap,hcm2⟩:=h.holds1 hi (enc:=Value.int .i64) xs hc.symm
   have hK:=k1 g 0 cap xs w hH hblk (by unfold lim at hlim;omega)
   rw [hdl] at hK
   refine hK.mono ?_
   rintro _ _ ⟨rfl,m,os,rfl⟩
   have hT:=h.turned (m:=m) (n':=n) hi (enc:=Value.int .i64) (fun _=>rfl) (xs.mergeSort fun x y=>decide (x≤y)) os (by simp [hdl]) (by simp [hdl])
   refine ⟨rfl,_,hT,?_⟩
   rw [List.take_of_length_le (by simp [hdl])]
   exact eI_els _
end
end Go.Mr
namespace Go.Mr
open Go.RowKit Go.Pu
section
variable {P:Program} {w w':World} {H0 H Hs:GH} {w0:World} {l l0 T:List MO} {N:Nat} {f:Fm}
theorem putObj_grown (w:World) (b:Nat) (o:Obj):w.grownBy (w.putObj b o) (some b):=⟨rfl,rfl,rfl,by simp,fun k _ hk=>World.putObj_heap_other (fun e=>hk (by rw [e]))⟩
theorem St.rawPut {i b:Nat} {o:Obj} (o':Obj) (h:St H0 w0 H w l) (hi:l[i]?=some (.raw b o)):St H0 w0 H (w.putObj b o') (l.set i (.raw b o')):=by
 have hok:=h.ok i _ hi
 exact h.upd hi (putObj_grown w b o') (Nat.le_refl _) ⟨World.putObj_heap_same (Array.getElem?_eq_some_iff.1 hok.1).1,hok.2⟩ (fun b' hb=>.inl hb)
theorem St.rawAt {i b:Nat} {o:Obj} (h:St H0 w0 H w l) (hi:l[i]?=some (.raw b o)):w.heap[b]?=some o:=(h.ok i _ hi).1
variable {J:List MO→World→Prop}
@[reducible] def iterPost (K:Nat→World→Prop) (Kx:World→Prop) (n:Nat):Ending→World→Prop:=fun e W'=>(∃ v,e=.returned v)∧(K n W'∨Kx W')
@[reducible] def rndQ {S X:Type} (id:Nat) (J:List MO→S→World→Prop) (E:List MO→X→World→Prop) (T:List MO) (o:Lp S X):FQ:=fun e _ W =>
 match o with
 | .nx s=>e=.normal∧J T s W
 | .bk s=>e=.exit id∧J T s W
 | .rt x=>e=.ret∧E T x W
end
end Go.Mr
namespace Go.Mr
open Go.RowKit Go.Pu Go.Shelf Go.Sort
section
variable {P:Program} {H0 H:GH} {w0 w:World} {l:List MO} {e n:Nat} {v:Value} {A:Type} {En:Enc A}
abbrev OC:={ v:Value // v.oneCell'=true }
instance:Inhabited OC:=⟨⟨.int .i64 0,rfl⟩⟩
variable {f:Fm} {d:Option Tmp} {ty:TypeId} {pos:String} {aft:Array Edge} {gd:Option (Nat×Bool)} {x:Operand} {k:Nat} {z:Value}
theorem PtrOf.uniq {i:Int} {p q:Addr} (h1:PtrOf k v i p) (h2:PtrOf k v i q):p=q:=by
 obtain ⟨a,m,c,rfl,_,_,rfl⟩:=h1
 obtain ⟨a',m',c',hv,_,_,rfl⟩:=h2
 cases hv;rfl
end
end Go.Mr
namespace Go.Mr
open Go.RowKit Go.Pu
section
variable {P:Program} {f:Fm} {w:World} {d:Option Tmp} {ty:TypeId} {pos:String} {aft:Array Edge} {gd:Option (Nat×Bool)} {x y:Operand}
variable {k yk:IntKind} {a b:Int} {t t':TypeId}
theorem wrk_eq (k:IntKind) (n:Int):k.wrap n=wrk k.signed k.bits n:=rfl
theorem E.addK (hx:ev f x=.int k a) (hy:ev f y=.int k b):(execOp (ev f) ⟨d,.binOp .add t x y t',ty,pos,aft,gd⟩).run P w=.ok (.value (.int k (wrk k.signed k.bits (a + b)))) w:=by
 simp [execOp,eqGuard,binOp,hx,hy,Op.intArith,wrk_eq]
theorem E.subK (hx:ev f x=.int k a) (hy:ev f y=.int k b):(execOp (ev f) ⟨d,.binOp .sub t x y t',ty,pos,aft,gd⟩).run P w=.ok (.value (.int k (wrk k.signed k.bits (a - b)))) w:=by
 simp [execOp,eqGuard,binOp,hx,hy,Op.intArith,wrk_eq]
theorem E.mulK (hx:ev f x=.int k a) (hy:ev f y=.int k b):(execOp (ev f) ⟨d,.binOp .mul t x y t',ty,pos,aft,gd⟩).run P w=.ok (.value (.int k (wrk k.signed k.bits (a * b)))) w:=by
 simp [execOp,eqGuard,binOp,hx,hy,Op.intArith,wrk_eq]
theorem E.and (hx:ev f x=.int k a) (hy:ev f y=.int k b):(execOp (ev f) ⟨d,.binOp .and t x y t',ty,pos,aft,gd⟩).run P w=.ok (.value (.int k (andK k.signed k.bits a b))) w:=by
 simp [execOp,eqGuard,binOp,hx,hy,Op.intBits,andK,wrk_eq]
theorem E.or (hx:ev f x=.int k a) (hy:ev f y=.int k b):(execOp (ev f) ⟨d,.binOp .or t x y t',ty,pos,aft,gd⟩).run P w=.ok (.value (.int k (orK k.signed k.bits a b))) w:=by
 simp [execOp,eqGuard,binOp,hx,hy,Op.intBits,orK,wrk_eq]
theorem E.andNot (hx:ev f x=.int k a) (hy:ev f y=.int k b):(execOp (ev f) ⟨d,.binOp .andNot t x y t',ty,pos,aft,gd⟩).run P w=.ok (.value (.int k (anK k.signed k.bits a b))) w:=by
 simp [execOp,eqGuard,binOp,hx,hy,Op.intBits,anK,wrk_eq]
theorem E.shl (hx:ev f x=.int k a) (hy:ev f y=.int yk b) (hb:¬ b < 0):(execOp (ev f) ⟨d,.binOp .shl t x y t',ty,pos,aft,gd⟩).run P w=.ok (.value (.int k (shlK k.signed k.bits a b))) w:=by
 simp [execOp,eqGuard,binOp,hx,hy,Op.shift,shlK,wrk_eq,hb]
theorem E.shr (hx:ev f x=.int k a) (hy:ev f y=.int yk b) (hb:¬ b < 0):(execOp (ev f) ⟨d,.binOp .shr t x y t',ty,pos,aft,gd⟩).run P w=.ok (.value (.int k (shrK k.bits a b))) w:=by
 simp [execOp,eqGuard,binOp,hx,hy,Op.shift,shrK,hb]
theorem E.nilCheck {p:Addr} (hx:ev f x=.pointer (some p)):(execOp (ev f) ⟨d,.nilCheck x,ty,pos,aft,gd⟩).run P w=.ok (.value (.pointer (some p))) w:=by simp [execOp,hx]
theorem E.conv {s:TypeDesc} (hs:∀ w,(underlying t).run P w=.ok s w) (ht:∀ w,(underlying t').run P w=.ok (.int k) w) (hx:ev f x=.int yk a) :
 (execOp (ev f) ⟨d,.convert t t' x,ty,pos,aft,gd⟩).run P w=.ok (.value (.int k (wrk k.signed k.bits a))) w:=by
 simp [execOp,convert,hs,ht,hx,Conv.intToInt,wrk_eq]
end
end Go.Mr
namespace Go.Mr
open Go.RowKit Go.Pu
@[reducible] def OP {α:Type} (R:Addr→α→Prop) (v:Value) (x:Option α):Prop:=match x with|none=>v=.pointer none|some y=>∃ q,v=.pointer (some q)∧R q y
def SX (H0:GH) (w0:World) (Hr:GH) (l0:List MO) (w:World):Prop:=∃ H,St H0 w0 H w l0∧Inc Hr H
section
variable {H0 Hr H:GH} {w0 w:World} {l0 l:List MO} {e k n:Nat} {v:Value}
theorem SX.sl (h:SX H0 w0 Hr l0 w):Sl Hr w:=let ⟨_,s,i⟩:=h;Sl.of_inc i s.sl
theorem SX.box_now (h:SX H0 w0 Hr l0 w) {i b t:Nat} {cs:List Value} (hi:l0[i]?=some (.box b t cs)):WAt w ⟨b,0,Option.none⟩ cs:=let ⟨_,s,_⟩:=h;s.box_now hi
theorem SX.use {Q:Prop} (h:SX H0 w0 Hr l0 w) (f:∀ H,St H0 w0 H w l0→Q):Q:=let ⟨_,s,_⟩:=h;f _ s
theorem St.row_atA {α:Type} {G:GH} {En:Enc α} {cells:List Value} {xs:List α} (h:St H0 w0 H w l) {i:Nat} (hi:l[i]?=some (.row e k v n cells)) (he:Els G En k cells xs) (hk:0 < k)
 {j:Int} {x:α} (hx:ix xs j=some x):∃ p c,PtrOf k v j p∧c.length=k∧WAt w p c∧En.rel G c x∧∀ (H':GH) (w':World) (l':List MO) (i':Nat),St H0 w0 H' w' l'→l'[i']?=some (.row e k v n cells)→WAt w' p c:=by
 obtain ⟨h0,h1,h2⟩:=ix_some hx
 obtain ⟨c,g1,g2,g3⟩:=he.get _ _ h2
 have key:∀ (H':GH) (w':World) (l':List MO) (i':Nat),St H0 w0 H' w' l'→l'[i']?=some (.row e k v n cells)→∃ p,PtrOf k v j p∧WAt w' p c:=by
  intro H' w' l' i' h' hi'
  obtain ⟨⟨k1,k2⟩,_⟩:=h'.ok i' _ hi'
  have hl:=he.length
  have hn:n=xs.length:=by
   rw [k1] at hl
   exact Nat.eq_of_mul_eq_mul_right hk hl
  rcases k2 with ⟨rfl,h3⟩|⟨g,cap,cur,rfl,hg,hh,hle,_,hsz,htk⟩
  · omega
  · refine ⟨_,⟨⟨g,0,Option.none⟩,_,cap,rfl,h0,by omega,rfl⟩,fun m u hu=>?_⟩
    rw [zc5,Addr.add_lit,Nat.zero_add,cell_of_row w' g _ _ _ _ hh]
    have:=g3 m u hu
    rw [← htk,List.getElem?_take] at this
    split at this
    · simpa using this
    · cases this
 obtain ⟨p,hp,hw⟩:=key H w l i h hi
 exact ⟨p,c,hp,g1,hw,g2,fun H' w' l' i' h' hi'=>by
  obtain ⟨q,hq,hw'⟩:=key H' w' l' i' h' hi'
  obtain rfl:=PtrOf.uniq hq hp
  exact hw'⟩
end
section
variable {f:Fm}
theorem B7 {i1 i2 i3 i4 i5 i6 i7:Nat} {x1 x2 x3 x4 x5 x6 x7:Operand} {v1 v2 v3 v4 v5 v6 v7:Value} (h1:ev f x1=v1) (h2:ev f x2=v2) (h3:ev f x3=v3) (h4:ev f x4=v4) (h5:ev f x5=v5) (h6:ev f x6=v6) (h7:ev f x7=v7) :
 ((#[(i1,x1),(i2,x2),(i3,x3),(i4,x4),(i5,x5),(i6,x6),(i7,x7)]:Array (Nat×Operand)).map fun (i,x)=>(i,ev f x))=#[(i1,v1),(i2,v2),(i3,v3),(i4,v4),(i5,v5),(i6,v6),(i7,v7)]:=by simp [h1,h2,h3,h4,h5,h6,h7]
theorem B8 {i1 i2 i3 i4 i5 i6 i7 i8:Nat} {x1 x2 x3 x4 x5 x6 x7 x8:Operand} {v1 v2 v3 v4 v5 v6 v7 v8:Value} (h1:ev f x1=v1) (h2:ev f x2=v2) (h3:ev f x3=v3) (h4:ev f x4=v4) (h5:ev f x5=v5) (h6:ev f x6=v6) (h7:ev f x7=v7) (h8:ev f x8=v8) :
 ((#[(i1,x1),(i2,x2),(i3,x3),(i4,x4),(i5,x5),(i6,x6),(i7,x7),(i8,x8)]:Array (Nat×Operand)).map fun (i,x)=>(i,ev f x))=#[(i1,v1),(i2,v2),(i3,v3),(i4,v4),(i5,v5),(i6,v6),(i7,v7),(i8,v8)]:=by simp [h1,h2,h3,h4,h5,h6,h7,h8]
end
section
variable {P:Program} {f:Fm} {w:World} {d:Option Tmp} {ty:TypeId} {pos:String} {aft:Array Edge} {gd:Option (Nat×Bool)} {x y:Operand} {t t':TypeId}
end
end Go.Mr
namespace Go.Mr
open Go.RowKit Go.Pu
structure SP (B:World→Prop) (ps:List (List Nat×(World→Prop))) (ls:Array Bool) (w:World):Prop where
 base:B w
 ph:∀ p∈ps,(∀ h∈p.1,ls.getD h true=false)→p.2 w
theorem SP.nil {B:World→Prop} {ls:Array Bool} {w:World} (hB:B w):SP B [] ls w:=⟨hB,nofun⟩
theorem SP.on {B R:World→Prop} {Hs:List Nat} {ps:List (List Nat×(World→Prop))} {ls:Array Bool} {w:World} (hR:R w) (h:SP B ps ls w):SP B ((Hs,R)::ps) ls w :=
 ⟨h.base,fun p hp hn=>by
  rcases List.mem_cons.1 hp with rfl|hp
  · exact hR
  · exact h.ph p hp hn⟩
theorem SP.off {B R:World→Prop} {Hs:List Nat} {ps:List (List Nat×(World→Prop))} {ls:Array Bool} {w:World} (hH:(Hs.any fun h=>ls.getD h true)=true) (h:SP B ps ls w):SP B ((Hs,R)::ps) ls w :=
 ⟨h.base,fun p hp hn=>by
  rcases List.mem_cons.1 hp with rfl|hp
  · obtain ⟨k,hk,ht⟩:=List.any_eq_true.1 hH
    have:=hn k hk
    rw [this] at ht;cases ht
  · exact h.ph p hp hn⟩
theorem SP.iff {B:World→Prop} {ps:List (List Nat×(World→Prop))} {i:Nat} (hi:(ps.all fun p => !p.1.contains i)=true) {ls:Array Bool} {w:World}:SP B ps (ls.setIfInBounds i true) w↔SP B ps ls w:=by
 have key:∀ p∈ps,∀ h∈p.1,(ls.setIfInBounds i true).getD h true=ls.getD h true:=fun p hp h hh=>by
  refine getD_set_ne true fun e=>?_
  have:=List.all_eq_true.1 hi p hp
  rw [e] at this
  simp [hh] at this
 exact ⟨fun k=>⟨k.base,fun p hp hn=>k.ph p hp fun h hh=>by rw [key p hp h hh];exact hn h hh⟩,fun k=>⟨k.base,fun p hp hn=>k.ph p hp fun h hh=>by rw [← key p hp h hh];exact hn h hh⟩⟩
section
variable {P:Program} {ops:Array Oper} {Q:Exit→Act→World→Prop} {md:Region.Mode}
def zaM (P:Program) (md:Region.Mode) (ops:Array Oper) (Q:Exit→Act→World→Prop) (S:Array Bool→World→Prop):Nat→Array Bool→Act→World→Prop
 | 0,ls,a,w=>Region.ready md ops ls=[]∧Q .normal a w
 | n + 1,ls,a,w=>(Region.ready md ops ls=[]→Q .normal a w) ∧
  ∀ i∈Region.ready md ops ls,wpOp P ops Q i (fun a w=>S (ls.setIfInBounds i true) w∧zaM P md ops Q S n (ls.setIfInBounds i true) a w) a w
theorem zaM.mono {S S':Array Bool→World→Prop} (hS:∀ ls w,S ls w→S' ls w):∀ (n:Nat) (ls:Array Bool) (a:Act) (w:World),zaM P md ops Q S n ls a w→zaM P md ops Q S' n ls a w
 | 0,_,_,_,h=>h
 | n + 1,_,_,_,h=>⟨h.1,fun i hi=>wpOp_mono (fun _ _ k=>⟨hS _ _ k.1,zaM.mono hS n _ _ _ k.2⟩) (h.2 i hi)⟩
theorem zaM.held {S:Array Bool→World→Prop}:∀ (n:Nat) (ls:Array Bool) (a:Act) (w:World),zaM P md ops Q S n ls a w→wpAnyH P md ops Q (fun _=>True) n ls a w
 | 0,_,_,_,h=>h
 | n + 1,_,_,_,h=>⟨h.1,fun i hi=>wpOp_mono (fun _ _ k=>⟨trivial,zaM.held n _ _ _ k.2⟩) (h.2 i hi)⟩
theorem zaM.first {S:Array Bool→World→Prop} {i:Nat} {oi:Oper} {v:Value} (C:Nat→Prop) (hi:ops[i]?=some oi) (hsel:∀ (j:Nat) (o:Oper) cs b,ops[j]?=some o→o.op≠.select cs b)
 (hQ:∀ c a w,Q (.panic c) (a.put oi.dst v) w→Q (.panic c) a w) (hSi:∀ ls w,S (ls.setIfInBounds i true) w↔S ls w)
 (hC:∀ j,C j→∃ oj,ops[j]?=some oj∧∃ e∈oj.after,Region.binds md e=true∧(C e.on∨e.on=i)):∀ (n:Nat) (ls:Array Bool) (a:Act) (w:World),
  (∀ j oj,ops[j]?=some oj→j≠i→ls.getD j true=false→(∀ e∈oj.after,Region.binds md e=true→e.on≠i)→oi.apart ops oj=true) →
  i∈Region.ready md ops ls→(∀ j,C j→ls.getD j true=false)→YieldsIf P ops (fun w'=>∃ ls',(∀ j,C j→ls'.getD j true=false)∧S ls' w') oi v a→S ls w →
  zaM P md ops Q S n (ls.setIfInBounds i true) (a.put oi.dst v) w→zaM P md ops Q S (n + 1) ls a w:=by
 intro n
 induction n with
 | zero =>
  intro ls a w _ hr hn hy hS H
  refine ⟨fun h=>(by rw [h] at hr;cases hr),fun j hj=>?_⟩
  by_cases hji:j=i
  · subst hji;exact hy.wpOp hi ⟨ls,hn,hS⟩ ⟨(hSi ls w).2 hS,H⟩
  · have hm:=ready_mono hj hji
    rw [H.1] at hm
    cases hm
 | succ n ih =>
  intro ls a w hfree hr hn hy hS H
  refine ⟨fun h=>(by rw [h] at hr;cases hr),fun j hj=>?_⟩
  by_cases hji:j=i
  · subst hji;exact hy.wpOp hi ⟨ls,hn,hS⟩ ⟨(hSi ls w).2 hS,H⟩
  · have h1:=H.2 j (ready_mono hj hji)
    obtain ⟨hun,oj,hoj,hall⟩:=mem_ready.1 hj
    have hir:=(mem_ready.1 hr).1
    have off:∀ k,ls.getD k true=false→ls.getD k false=true→False:=fun k h0 h1=>by
     rcases Nat.lt_or_ge k ls.size with h'|h'
     · simp [h'] at h0 h1;rw [h0] at h1;cases h1
     · simp [Array.getElem?_eq_none h'] at h1
    have hno:∀ e∈oj.after,Region.binds md e=true→e.on≠i:=fun e he hb heq=>off i hir (heq ▸ hall e he hb)
    have hCj:¬ C j:=fun hc=>by
     obtain ⟨oj',ho',e,he,hb,hd⟩:=hC j hc
     rw [hoj] at ho';cases ho'
     rcases hd with hd|hd
     · exact off _ (hn _ hd) (hall e he hb)
     · exact hno e he hb hd
    have hn':∀ k,C k→(ls.setIfInBounds j true).getD k true=false:=fun k hk=>by
     rw [getD_set_ne true (fun (e:j=k)=>hCj (by rw [e];exact hk))];exact hn k hk
    have h2:=wpOp_putIf hoj (hfree j oj hoj hji hun hno) (fun cs b=>hsel i oi cs b hi) (fun cs b=>hsel j oj cs b hoj) hQ hy h1
    refine wpOp_mono (fun a' w' h3=>?_) h2
    have e:=Array.setIfInBounds_comm (xs:=ls) true true hji
    have hS':S (ls.setIfInBounds j true) w':=(hSi _ _).1 (by rw [e];exact h3.2.1)
    refine ⟨hS',ih (ls.setIfInBounds j true) a' w' (fun k ok hk hki hun' hno'=>?_) (ready_mono hr (Ne.symm hji)) hn' h3.1 hS' (by rw [e];exact h3.2.2)⟩
    refine hfree k ok hk hki ?_ hno'
    by_cases hjk:j=k
    · subst hjk;exact hun
    · rw [getD_set_ne true hjk] at hun';exact hun'
def certB (ops:Array Oper) (C:List Nat) (i:Nat) (ls:Array Bool) (ps:List (List Nat×(World→Prop))):Bool :=
 (C.all fun j => !ls.getD j true && match ops[j]? with|some oj=>oj.after.any fun e=>Region.binds .any e && (C.contains e.on || e.on == i)|none=>false) && ps.all fun p => !p.1.contains i
end
def FB {δ:List Nat} (P:Program) (N:Nat) (ops:Array Oper) (B:World→Prop) (M:Fm→World→Prop) (ps:List (List Nat×(World→Prop))) (n:Nat) (ls:Array Bool) (f:Fm) (w:World):Prop :=
 ∀ a,Fr (δ:=δ) N a f→zaM P .any ops (lift (δ:=δ) N fun e f w=>e=.normal∧M f w) (SP B ps) n ls a w
def FC {δ:List Nat} (P:Program) (N:Nat) (ops:Array Oper) (B:World→Prop) (M:Fm→World→Prop) (ps:List (List Nat×(World→Prop))) (n:Nat) (ls:Array Bool) (i:Nat) (f:Fm) (w:World):Prop :=
 ∀ a,Fr (δ:=δ) N a f→wpOp P ops (lift (δ:=δ) N fun e f w=>e=.normal∧M f w) i (fun a w=>SP B ps (ls.setIfInBounds i true) w∧zaM P .any ops (lift (δ:=δ) N fun e f w=>e=.normal∧M f w) (SP B ps) n (ls.setIfInBounds i true) a w) a w
section
variable {δ:List Nat} {P:Program} {N:Nat} {f:Fm} {w w':World} {ops:Array Oper} {B:World→Prop} {M:Fm→World→Prop} {ps:List (List Nat×(World→Prop))} {n:Nat} {ls l':Array Bool} {H:GH}
theorem FW.drawB {Q:FQ} {id:Nat} {l:List Oper} (B:World→Prop) (M:Fm→World→Prop) (hm:P.follows .mixedOrders=true) (hs:Sl H w)
 (h:∀ w1,Run w.heap.size H w H w1→FB (δ:=δ) P N l.toArray B M [] l.length (Array.replicate l.length false) f w1) (hQ:∀ f w,M f w→Q .normal f w):FW (ρ:=none) (δ:=δ) P N (.region id l.toArray true) Q f w:=by
 intro n a ha
 refine wpIn_wide.2 ?_
 refine Code.wp_mono (Q:=lift (δ:=δ) N fun e f w=>e=.normal∧M f w) (fun e a w ⟨f,hf,he,hM⟩=>he ▸ ⟨f,hf,hQ f w hM⟩) (wp_region_held (S:=fun _=>True) hm (zaM.held (S:=SP B []) _ _ _ _ ?_))
 have:=h _ (zaz hs) a ha
 simpa using this
theorem FB.phase (Hs:List Nat) (R:World→Prop) (h:FB (δ:=δ) P N ops B M ((Hs,R)::ps) n ls f w):FB (δ:=δ) P N ops B M ps n ls f w :=
 fun a ha=>zaM.mono (fun _ _ k=>⟨k.base,fun p hp=>k.ph p (by simp [hp])⟩) _ _ _ _ (h a ha)
theorem FB.take0 {S':World→Prop} {i d:Nat} {o:Oper} {v:Value} (C:List Nat) (hi:ops[i]?=some o) (hs:Region.noSelect ops=true) (hf:Region.free .any ops ls i=true) (hr:(Region.ready .any ops ls).contains i=true)
 (hl:ls.setIfInBounds i true=l') (hc:certB ops C i ls ps=true) (hS:SP B ps ls w) (hd:o.dst=some d) (hlt:Nat.blt d N=true)
 (hy:∀ a,Fr (δ:=δ) N a f→YieldsIf P ops S' o v a) (hS':∀ ls' w',(∀ j∈C,ls'.getD j true=false)→SP B ps ls' w'→S' w')
 (h:FB (δ:=δ) P N ops B M ps n l' (upd f d v) w):FB (δ:=δ) P N ops B M ps (n + 1) ls f w:=by
 subst hl
 intro a ha
 unfold certB at hc
 rw [Bool.and_eq_true] at hc
 have hC:=List.all_eq_true.1 hc.1
 refine zaM.first (v:=v) (fun j=>j∈C) hi (Region.noSelect_spec hs) (fun c a w hq=>?_) (fun ls w=>SP.iff hc.2) (fun j hj=>?_) n ls a w (Region.free_spec hi hf) (by simpa using hr) (fun j hj=>?_) ?_ hS ?_
 · obtain ⟨_,_,h0,_⟩:=hq;cases h0
 · have:=hC j hj
   rw [Bool.and_eq_true] at this
   cases ho:ops[j]? with
   | none=>rw [ho] at this;cases this.2
   | some oj =>
    rw [ho] at this
    obtain ⟨e,he,hb⟩:=Array.any_eq_true'.1 this.2
    rw [Bool.and_eq_true,Bool.or_eq_true] at hb
    exact ⟨oj,rfl,e,he,hb.1,hb.2.imp (fun h=>by simpa using h) fun h=>by simpa using h⟩
 · have:=hC j hj
   rw [Bool.and_eq_true] at this
   simpa using this.1
 · exact (hy a ha).imp (fun ⟨h1,h2⟩=>⟨h1,fun w' ⟨ls',k1,k2⟩=>h2 w' (hS' ls' w' k1 k2)⟩) id
 · rw [hd];exact h _ (ha.put (nblt hlt) v)
theorem FB.take {i d:Nat} {o:Oper} {v:Value} (hi:ops[i]?=some o) (hs:Region.noSelect ops=true) (hf:Region.free .any ops ls i=true) (hr:(Region.ready .any ops ls).contains i=true)
 (hl:ls.setIfInBounds i true=l') (hc:certB ops [] i ls ps=true) (hS:SP B ps ls w) (hw:wF ops f o=true) (hd:o.dst=some d) (hlt:Nat.blt d N=true) (hrun:∀ w',B w'→(execOp (ev f) o).run P w'=.ok (.value v) w')
 (h:FB (δ:=δ) P N ops B M ps n l' (upd f d v) w):FB (δ:=δ) P N ops B M ps (n + 1) ls f w :=
 FB.take0 (S':=B) [] hi hs hf hr hl hc hS hd hlt (fun a ha=>.inl ⟨by rw [ha.yielded];exact hw,fun w' hw'=>by rw [ha.eval];exact hrun w' hw'⟩) (fun _ _ _ k=>k.base) h
theorem FB.takeP {Hs:List Nat} {R:World→Prop} {i d:Nat} {o:Oper} {v:Value} (q:Nat) (C:List Nat) (hq:ps[q]?=some (Hs,R)) (hi:ops[i]?=some o) (hs:Region.noSelect ops=true) (hf:Region.free .any ops ls i=true) (hr:(Region.ready .any ops ls).contains i=true)
 (hl:ls.setIfInBounds i true=l') (hc:certB ops C i ls ps=true) (hH:Hs.all (C.contains ·)=true) (hS:SP B ps ls w) (hw:wF ops f o=true) (hd:o.dst=some d) (hlt:Nat.blt d N=true)
 (hrun:∀ w',R w'→(execOp (ev f) o).run P w'=.ok (.value v) w')
 (h:FB (δ:=δ) P N ops B M ps n l' (upd f d v) w):FB (δ:=δ) P N ops B M ps (n + 1) ls f w :=
 FB.take0 (S':=R) C hi hs hf hr hl hc hS hd hlt (fun a ha=>.inl ⟨by rw [ha.yielded];exact hw,fun w' hw'=>by rw [ha.eval];exact hrun w' hw'⟩)
  (fun ls' w' k1 k2=>k2.ph (Hs,R) (List.mem_of_getElem? hq) fun h hh=>k1 h (by have:=List.all_eq_true.1 hH h hh;simpa using this)) h
theorem FB.takeW {Hs:List Nat} {i d:Nat} {o:Oper} {v:Value} (C:List Nat) (hi:ops[i]?=some o) (hs:Region.noSelect ops=true) (hf:Region.free .any ops ls i=true) (hr:(Region.ready .any ops ls).contains i=true)
 (hl:ls.setIfInBounds i true=l') (hc:certB ops C i ls ((Hs,fun w'=>w'=w)::ps)=true) (hH:Hs.all (C.contains ·)=true) (hS:SP B ((Hs,fun w'=>w'=w)::ps) ls w) (hw:wF ops f o=true) (hd:o.dst=some d) (hlt:Nat.blt d N=true)
 (hrun:(execOp (ev f) o).run P w=.ok (.value v) w)
 (h:FB (δ:=δ) P N ops B M ((Hs,fun w'=>w'=w)::ps) n l' (upd f d v) w):FB (δ:=δ) P N ops B M ((Hs,fun w'=>w'=w)::ps) (n + 1) ls f w :=
 FB.takeP 0 C rfl hi hs hf hr hl hc hH hS hw hd hlt (fun w' hw'=>by rw [hw'];exact hrun) h
theorem FB.done (hr:Region.ready .any ops ls=[]) (h:M f w):FB (δ:=δ) P N ops B M ps n ls f w:=fun _ ha=>by
 cases n with
 | zero=>exact ⟨hr,⟨f,ha,rfl,h⟩⟩
 | succ n=>exact ⟨fun _=>⟨f,ha,rfl,h⟩,fun i hi=>by rw [hr] at hi;cases hi⟩
theorem FB.all {rs:List Nat} (hr:Region.ready .any ops ls=rs) (hne:rs≠[]) (h:∀ i∈rs,FC (δ:=δ) P N ops B M ps n ls i f w):FB (δ:=δ) P N ops B M ps (n + 1) ls f w :=
 fun a ha=>⟨fun h0=>absurd (hr ▸ h0) hne,fun i hi=>h i (hr ▸ hi) a ha⟩
theorem FB.all1 {i:Nat} (hr:Region.ready .any ops ls=[i]) (h:FC (δ:=δ) P N ops B M ps n ls i f w):FB (δ:=δ) P N ops B M ps (n + 1) ls f w :=
 FB.all hr (by simp) fun j hj=>by simp at hj;subst hj;exact h
theorem FB.all2 {i j:Nat} (hr:Region.ready .any ops ls=[i,j]) (h1:FC (δ:=δ) P N ops B M ps n ls i f w) (h2:FC (δ:=δ) P N ops B M ps n ls j f w):FB (δ:=δ) P N ops B M ps (n + 1) ls f w :=
 FB.all hr (by simp) fun m hm=>by
  simp at hm;rcases hm with rfl|rfl
  · exact h1
  · exact h2
theorem FB.all3 {i j k:Nat} (hr:Region.ready .any ops ls=[i,j,k]) (h1:FC (δ:=δ) P N ops B M ps n ls i f w) (h2:FC (δ:=δ) P N ops B M ps n ls j f w) (h3:FC (δ:=δ) P N ops B M ps n ls k f w):FB (δ:=δ) P N ops B M ps (n + 1) ls f w :=
 FB.all hr (by simp) fun m hm=>by
  simp at hm;rcases hm with rfl|rfl|rfl
  · exact h1
  · exact h2
  · exact h3
def bs (n m:Nat):Array Bool:=((List.range n).map fun i=>m.testBit i).toArray
theorem FB.t {i d:Nat} {o:Oper} {v:Value} (l':Array Bool) (hi:ops[i]?=some o) (hS:SP B ps ls w) (hw:wF ops f o=true) (hrun:∀ w',B w'→(execOp (ev f) o).run P w'=.ok (.value v) w')
 (h:FB (δ:=δ) P N ops B M ps n l' (upd f d v) w) (hd:o.dst=some d:=by rfl) (hlt:Nat.blt d N=true:=by rfl) (hs:Region.noSelect ops=true:=by kernel_rfl) (hf:Region.free .any ops ls i=true:=by kernel_rfl)
 (hr:(Region.ready .any ops ls).contains i=true:=by kernel_rfl) (hl:ls.setIfInBounds i true=l':=by kernel_rfl) (hc:certB ops [] i ls ps=true:=by kernel_rfl):FB (δ:=δ) P N ops B M ps (n + 1) ls f w :=
 FB.take hi hs hf hr hl hc hS hw hd hlt hrun h
theorem FB.p {Hs:List Nat} {R:World→Prop} {i d:Nat} {o:Oper} {v:Value} (l':Array Bool) (q:Nat) (C:List Nat) (hi:ops[i]?=some o) (hS:SP B ps ls w) (hw:wF ops f o=true) (hq:ps[q]?=some (Hs,R)) (hrun:∀ w',R w'→(execOp (ev f) o).run P w'=.ok (.value v) w')
 (h:FB (δ:=δ) P N ops B M ps n l' (upd f d v) w) (hd:o.dst=some d:=by rfl) (hlt:Nat.blt d N=true:=by rfl) (hs:Region.noSelect ops=true:=by kernel_rfl) (hf:Region.free .any ops ls i=true:=by kernel_rfl)
 (hr:(Region.ready .any ops ls).contains i=true:=by kernel_rfl) (hl:ls.setIfInBounds i true=l':=by kernel_rfl) (hc:certB ops C i ls ps=true:=by kernel_rfl) (hH:Hs.all (C.contains ·)=true:=by kernel_rfl):FB (δ:=δ) P N ops B M ps (n + 1) ls f w :=
 FB.takeP q C hq hi hs hf hr hl hc hH hS hw hd hlt hrun h
theorem FB.u {Hs:List Nat} {i d:Nat} {o:Oper} {v:Value} (l':Array Bool) (C:List Nat) (hi:ops[i]?=some o) (hS:SP B ((Hs,fun w'=>w'=w)::ps) ls w) (hw:wF ops f o=true) (hrun:(execOp (ev f) o).run P w=.ok (.value v) w)
 (h:FB (δ:=δ) P N ops B M ((Hs,fun w'=>w'=w)::ps) n l' (upd f d v) w) (hd:o.dst=some d:=by rfl) (hlt:Nat.blt d N=true:=by rfl) (hs:Region.noSelect ops=true:=by kernel_rfl) (hf:Region.free .any ops ls i=true:=by kernel_rfl)
 (hr:(Region.ready .any ops ls).contains i=true:=by kernel_rfl) (hl:ls.setIfInBounds i true=l':=by kernel_rfl) (hc:certB ops C i ls ((Hs,fun w'=>w'=w)::ps)=true:=by kernel_rfl) (hH:Hs.all (C.contains ·)=true:=by kernel_rfl):FB (δ:=δ) P N ops B M ((Hs,fun w'=>w'=w)::ps) (n + 1) ls f w :=
 FB.takeW C hi hs hf hr hl hc hH hS hw hd hlt hrun h
theorem SP.o {B R:World→Prop} {Hs:List Nat} {ps:List (List Nat×(World→Prop))} {ls:Array Bool} {w:World} (h:SP B ps ls w) (hH:(Hs.any fun h=>ls.getD h true)=true:=by kernel_rfl):SP B ((Hs,R)::ps) ls w:=SP.off hH h
theorem FC.val {i d:Nat} {o:Oper} {v:Value} (hi:ops[i]?=some o) (hl:ls.setIfInBounds i true=l') (hw:wF ops f o=true) (hd:o.dst=some d) (hlt:Nat.blt d N=true)
 (hr:(execOp (ev f) o).run P w=.ok (.value v) w') (h:SP B ps l' w'∧FB (δ:=δ) P N ops B M ps n l' (upd f d v) w'):FC (δ:=δ) P N ops B M ps n ls i f w:=by
 subst hl
 intro a ha
 unfold wpOp
 simp only [hi]
 rw [ha.yielded,if_pos (show Region.wanted o (yF ops f)=true from hw)]
 refine .inl ?_
 unfold Oper.wp
 rw [ha.eval,hr,Oper.upon_value,hd]
 exact ⟨h.1,h.2 _ (ha.put (nblt hlt) v)⟩
theorem FC.act {i:Nat} {o:Oper} (hi:ops[i]?=some o) (hl:ls.setIfInBounds i true=l') (hw:wF ops f o=true) (hd:o.dst=none)
 (hr:(execOp (ev f) o).run P w=.ok .skip w') (h:SP B ps l' w'∧FB (δ:=δ) P N ops B M ps n l' f w'):FC (δ:=δ) P N ops B M ps n ls i f w:=by
 subst hl
 intro a ha
 unfold wpOp
 simp only [hi]
 rw [ha.yielded,if_pos (show Region.wanted o (yF ops f)=true from hw)]
 refine .inl ?_
 unfold Oper.wp
 rw [ha.eval,hr,Oper.upon_skip,hd]
 exact ⟨h.1,h.2 _ ha⟩
theorem FC.call {i d fid:Nat} {o:Oper} {args:Array Value} {R:Ending→World→Prop} (hi:ops[i]?=some o) (hl:ls.setIfInBounds i true=l') (hw:wF ops f o=true) (hd:o.dst=some d) (hlt:Nat.blt d N=true)
 (hr:(execOp (ev f) o).run P w=.ok (.enter fid args) w) (hc:Calls P fid args w R)
 (h:∀ e w',R e w'→∃ v,e=.returned v∧SP B ps l' w'∧FB (δ:=δ) P N ops B M ps n l' (upd f d v) w'):FC (δ:=δ) P N ops B M ps n ls i f w:=by
 subst hl
 intro a ha
 unfold wpOp
 simp only [hi]
 rw [ha.yielded,if_pos (show Region.wanted o (yF ops f)=true from hw)]
 refine .inl ?_
 unfold Oper.wp
 rw [ha.eval,hr,Oper.upon_enter,hd]
 refine hc.mono fun e w' r=>?_
 obtain ⟨v,rfl,hS,hv⟩:=h e w' r
 exact ⟨hS,hv _ (ha.put (nblt hlt) v)⟩
end
section
variable {P:Program} {f:Fm} {d:Option Tmp} {ty:TypeId} {pos:String} {aft:Array Edge} {gd:Option (Nat×Bool)} {x:Operand} {H0 H H':GH} {w0 w w':World} {l:List MO} {e k n:Nat} {z v:Value}
theorem E.lenOW {α:Type} {En:Enc α} {xs:List α} {cells:List Value} {t e':Nat} (te:TE P t e' k z) (hx:ev f x=v) (h:St H0 w0 H w l) {i:Nat} (hi:l[i]?=some (.row e k v n cells)) (he:Els H' En k cells xs) (hk:0 < k) :
 (execOp (ev f) ⟨d,.call ⟨.builtin .len,#[x],#[t]⟩,ty,pos,aft,gd⟩).run P w'=.ok (.value (.int .i64 (Pu.len xs))) w':=by
 have:=E.len (P:=P) (f:=f) (w:=w') (d:=d) (ty:=ty) (pos:=pos) (aft:=aft) (gd:=gd) te hx (h.row_ln hi)
 rw [h.row_n hi he hk] at this;exact this
end
section
variable {ρ:Option Nat} {δ:List Nat} {P:Program} {N:Nat} {Q:FQ} {f:Fm} {w:World} {ops:Array Oper} {o:Oper} {rest:List Oper}
theorem FL.v {d:Nat} {v:Value} {w':World} (hr:(execOp (ev f) o).run P w=.ok (.value v) w') (h:FL (ρ:=ρ) (δ:=δ) P N ops Q rest (upd f d v) w')
 (hw:wF ops f o=true:=by rfl) (hd:o.dst=some d:=by rfl) (hlt:Nat.blt d N=true:=by rfl):FL (ρ:=ρ) (δ:=δ) P N ops Q (o::rest) f w:=FL.val hw hd hlt hr h
end
end Go.Mr
namespace Go.Mr
open Go.RowKit Go.Pu
def MapOf {K V:Type} (ek:K→Value) (en:V→Value) (o:Obj) (m:List (K×V)):Prop :=
 ∃ es clock,o=.map es clock∧es.toList.map (fun e=>(e.key,e.val))=m.map fun p=>(ek p.1,en p.2)
structure zbc (P:Program) (kt:TypeId) {K:Type} [BEq K] (ek:K→Value):Prop where
 kd:∃ kd,(∀ w,(underlying kt).run P w=.ok kd w)∧∀ a b,Instr.sameNow kd (ek a) (ek b)=some (a == b)
 eq:∀ a b:K,(a == b)=true→a=b
 bits:∀ a,Instr.sameBits 10000 (ek a) (ek a)=true
 chk:∀ e a w,(Instr.checkKey e 10000 kt (ek a)).run P w=.ok () w
section
variable {H0 H:GH} {w0 w:World} {l:List MO} {P:Program} {K V:Type} {ek:K→Value} {en:V→Value} {kt et t:TypeId} {o:Obj} {m:List (K×V)} {i b:Nat}
def mfind [BEq K]:List (K×V)→K→Option (Nat×V)
 | [],_=>none
 | p::m,k=>bif k == p.1 then some (0,p.2) else (mfind m k).map fun z=>(z.1 + 1,z.2)
theorem mget_find [BEq K]:∀ (m:List (K×V)) (k:K),mget m k=(mfind m k).map (·.2)
 | [],_=>rfl
 | p::m,k=>by
  simp only [mget,mfind]
  cases k == p.1 with
  | true=>rfl
  | false=>simp only [cond_false];rw [mget_find m k];cases mfind m k <;> rfl
theorem mput_none [BEq K]:∀ {m:List (K×V)} {k:K} (v:V),mfind m k=none→mput m k v=m++[(k,v)]
 | [],_,_,_=>rfl
 | p::m,k,v,h=>by
  simp only [mfind,mput] at h ⊢
  cases hk:k == p.1 with
  | true=>rw [hk] at h;cases h
  | false =>
   rw [hk] at h
   simp only [cond_false,List.cons_append] at h ⊢
   rw [mput_none v (by cases hf:mfind m k with
    | none=>rfl
    | some z=>rw [hf] at h;cases h)]
theorem mput_some [BEq K]:∀ {m:List (K×V)} {k:K} {j:Nat} {u:V} (v:V),mfind m k=some (j,u)→mput m k v=m.set j (k,v)∧j < m.length∧∃ p,m[j]?=some p∧(k == p.1)=true
 | [],_,_,_,_,h=>by cases h
 | p::m,k,j,u,v,h=>by
  simp only [mfind,mput] at h ⊢
  cases hk:k == p.1 with
  | true=>rw [hk] at h;cases h;exact ⟨rfl,Nat.zero_lt_succ _,p,rfl,hk⟩
  | false =>
   rw [hk] at h
   simp only [cond_false] at h ⊢
   cases hf:mfind m k with
   | none=>rw [hf] at h;cases h
   | some z =>
    rw [hf] at h;cases h
    obtain ⟨h1,h2,q,h3,h4⟩:=mput_some v (m:=m) (k:=k) (j:=z.1) (u:=z.2) hf
    exact ⟨by rw [h1];rfl,by simpa using h2,q,by simpa using h3,h4⟩
theorem zc6 [BEq K] {kd:TypeDesc} (hk:∀ a b,Instr.sameNow kd (ek a) (ek b)=some (a == b)) (k:K):∀ (es:List MapEntry) (m:List (K×V)) (i:Nat),es.map (fun e=>(e.key,e.val))=m.map (fun p=>(ek p.1,en p.2)) →
 Instr.findNow kd (ek k) es i=some ((mfind m k).map fun z=>(i + z.1,en z.2))
 | [],[],_,_=>rfl
 | [],_::_,_,h=>by cases h
 | _::_,[],_,h=>by cases h
 | e::es,p::m,i,h=>by
  simp only [List.map_cons,List.cons.injEq,Prod.mk.injEq] at h
  obtain ⟨⟨h1,h2⟩,h3⟩:=h
  have:=zc6 hk k es m (i + 1) h3
  simp only [Instr.findNow,h1,hk,mfind]
  cases k == p.1 with
  | true=>simp [h2]
  | false =>
   simp only [this,cond_false]
   cases mfind m k with
   | none=>rfl
   | some z=>simp;omega
theorem St.makeMap (S:St H0 w0 H w l) (t:TypeId) (ek:K→Value) (en:V→Value) :
 ∃ b o w1,(Instr.makeMap t Option.none).run P w=.ok (.map (some b)) w1∧St H0 w0 H w1 (.raw b o::l)∧MapOf ek en o [] :=
 ⟨w.heap.size,.map #[] 0,w.alloc (.map #[] 0),rfl,S.push (.raw w.heap.size (.map #[] 0)) _ ⟨heap_alloc_new w _,S.size⟩ (fun b hb=>by simpa [MO.blk] using hb.symm),_,_,rfl,rfl⟩
theorem St.mapGetOk [BEq K] (S:St H0 w0 H w l) (hi:l[i]?=some (.raw b o)) (hm:MapOf ek en o m) (ht:∀ w,(underlying t).run P w=.ok (.map kt et) w) (kn:zbc P kt ek) {z:V} (hz:∀ w,(zeroValue et).run P w=.ok (en z) w) (k:K) :
 (Instr.lookup t (.map (some b)) (ek k) true).run P w=.ok (.tuple #[en ((mget m k).getD z),.bool (mget m k).isSome]) w:=by
 obtain ⟨es,c,rfl,he⟩:=hm
 have hb:=S.rawAt hi
 obtain ⟨kd,h1,h2⟩:=kn.kd
 have hf:=zc6 h2 k es.toList m 0 he
 rw [mget_find]
 cases hq:mfind m k with
 | none=>rw [hq] at hf;simp [Instr.lookup,ht,getObj,Sem.run,hb,kn.chk,Instr.findKey,h1,hf,hz]
 | some z=>rw [hq] at hf;simp [Instr.lookup,ht,getObj,Sem.run,hb,kn.chk,Instr.findKey,h1,hf]
theorem St.mapPut [BEq K] (S:St H0 w0 H w l) (hi:l[i]?=some (.raw b o)) (hm:MapOf ek en o m) (ht:∀ w,(underlying t).run P w=.ok (.map kt et) w) (kn:zbc P kt ek) (k:K) (v:V) :
 ∃ o1 w1,(Instr.mapUpdate t (.map (some b)) (ek k) (en v)).run P w=.ok () w1∧St H0 w0 H w1 (l.set i (.raw b o1))∧MapOf ek en o1 (mput m k v):=by
 obtain ⟨es,c,rfl,he⟩:=hm
 have hb:=S.rawAt hi
 obtain ⟨kd,h1,h2⟩:=kn.kd
 have hf:=zc6 h2 k es.toList m 0 he
 cases hq:mfind m k with
 | none =>
  rw [hq] at hf
  refine ⟨.map (es.push { key:=ek k,val:=en v,born:=c }) (c + 1),_,?_,S.rawPut _ hi,_,_,rfl,?_⟩
  · simp [Instr.mapUpdate,ht,getObj,setObj,Sem.run,hb,kn.chk,Instr.findKey,h1,hf,World.putObj]
  · rw [mput_none v hq];simp [he]
 | some z =>
  obtain ⟨j,u⟩:=z
  rw [hq] at hf
  obtain ⟨p1,p2,p,p3,p4⟩:=mput_some v hq
  have hlen:es.toList.length=m.length:=by have:=congrArg List.length he;simpa using this
  have hj:j < es.size:=by simp at hlen;omega
  have hkey:es[j].key=ek k:=by
   have:=congrArg (fun l=>l[j]?) he
   simp only [List.getElem?_map,p3,Option.map_some,Array.getElem?_toList,Array.getElem?_eq_getElem hj,Option.some.injEq,Prod.mk.injEq] at this
   rw [this.1,kn.eq _ _ p4]
  refine ⟨.map (es.modify j fun e=>{ e with key:=ek k,val:=en v }) c,_,?_,S.rawPut _ hi,_,_,rfl,?_⟩
  · simp [Instr.mapUpdate,ht,getObj,setObj,Sem.run,hb,kn.chk,Instr.findKey,h1,hf,Instr.keyThatStays,hkey,kn.bits,World.putObj,hj]
  · rw [p1]
    apply List.ext_getElem?
    intro n
    have hn:=congrArg (fun l=>l[n]?) he
    simp only [List.getElem?_map,Array.getElem?_toList] at hn
    simp only [List.getElem?_map,Array.getElem?_toList,Array.getElem?_modify,List.getElem?_set]
    by_cases hjn:j=n
    · subst hjn
      rw [if_pos rfl,if_pos rfl,if_pos p2,Array.getElem?_eq_getElem hj];rfl
    · rw [if_neg hjn,if_neg hjn];exact hn
theorem E.makeMap {f:Fm} {d:Option Tmp} {ty:TypeId} {pos:String} {aft:Array Edge} {gd:Option (Nat×Bool)} {v:Value} {w':World} (h:(Instr.makeMap t Option.none).run P w=.ok v w') :
 (execOp (ev f) ⟨d,.makeMap t Option.none,ty,pos,aft,gd⟩).run P w=.ok (.value v) w':=by
 simp [execOp,h]
theorem E.lookup {f:Fm} {d:Option Tmp} {ty:TypeId} {pos:String} {aft:Array Edge} {gd:Option (Nat×Bool)} {x y:Operand} {u z v:Value} {ok:Bool} (hx:ev f x=u) (hy:ev f y=z) (h:(Instr.lookup t u z ok).run P w=.ok v w) :
 (execOp (ev f) ⟨d,.lookup t x y ok,ty,pos,aft,gd⟩).run P w=.ok (.value v) w:=by
 subst hx hy;simp [execOp,h]
theorem E.mapUpdate {f:Fm} {ty:TypeId} {pos:String} {aft:Array Edge} {gd:Option (Nat×Bool)} {x y q:Operand} {u z v:Value} {w':World} (hx:ev f x=u) (hy:ev f y=z) (hq:ev f q=v) (h:(Instr.mapUpdate t u z v).run P w=.ok () w') :
 (execOp (ev f) ⟨none,.mapUpdate t x y q,ty,pos,aft,gd⟩).run P w=.ok .skip w':=by
 subst hx hy hq;simp [execOp,h]
theorem E.indexArr {f:Fm} {d:Option Tmp} {ty:TypeId} {pos:String} {aft:Array Edge} {gd:Option (Nat×Bool)} {x y:Operand} {n e k j off:Nat} {p:Addr} {kk:IntKind} (ht:∀ w,(underlying t).run P w=.ok (.array n e) w) (hs:∀ w,(sizeOf e).run P w=.ok k w)
 (hx:ev f x=.pointer (some p)) (hy:ev f y=.int kk ((j:Nat):Int)) (h1:j < n) (ho:j * k=off):(execOp (ev f) ⟨d,.indexAddr t x y,ty,pos,aft,gd⟩).run P w=.ok (.value (.pointer (some (p.add off)))) w:=by
 subst ho
 simp [execOp,hx,hy,Instr.indexAt,asIntOf,ht,hs,Instr.sureAddr,h1]
end
end Go.Mr
namespace Go.Mr
open Go.RowKit Go.Pu
section
variable {H0 H G G':GH} {w0 w:World} {l:List MO} {P:Program} {t e n:Nat} {v u:Value} {α:Type} {En:Enc α} {cells c0:List Value} {xs ys:List α} {j:Int} {x:α} {i:Nat}
structure Pend (G:GH) (En:Enc α) (cells:List Value) (xs:List α) (j:Int) (u:Value):Prop where
 pd:∃ c0,Els G En 1 c0 xs∧0≤j∧j < xs.length∧cells=c0.take (j.toNat * 1)++[u]++c0.drop (j.toNat * 1 + 1)
end
end Go.Mr
namespace Go.Mr
open Go.RowKit Go.Pu
abbrev vI (n:Int):Value:=.int .i64 n
abbrev vB (b:Bool):Value:=.bool b
abbrev vP (a:Addr):Value:=.pointer (some a)
theorem wY {ops:Array Oper} {f:Fm} {o:Oper} {j t:Nat} {b c:Bool} (hc:c=b) (hg:o.guard=some (j,b):=by rfl) (hj:(ops[j]?).bind (·.dst)=some t:=by rfl) (hv:f t=.bool c:=by rfl):wF ops f o=true:=wF_yes hg hj hv hc
theorem wN {ops:Array Oper} {f:Fm} {o:Oper} {j t:Nat} {b c:Bool} (hc:c = !b) (hg:o.guard=some (j,b):=by rfl) (hj:(ops[j]?).bind (·.dst)=some t:=by rfl) (hv:f t=.bool c:=by rfl):wF ops f o=false:=wF_no hg hj hv hc
abbrev vA (xs:Array Value):Value:=.agg xs
theorem I0 {H:GH}:Inc H H:=Inc.rfl H
theorem oC {c:Value} {l:List Value} (h:c.oneCell'=true) (hl:∀ u∈l,u.oneCell'=true):∀ u∈c::l,u.oneCell'=true:=zbX h hl
theorem nB {m n:Nat} (h:Nat.ble m n=true):m≤n:=Nat.le_of_ble_eq_true h
abbrev vN:Value:=.slice none 0 0
section
variable {ρ:Option Nat} {δ:List Nat} {P:Program} {N:Nat} {Q:FQ} {f:Fm} {w:World} {ops:Array Oper} {o:Oper} {rest:List Oper} {C:World→Prop} {Qd:Fm→Prop}
theorem FW.sr {id:Nat} {l:List Oper} {y:Code} (h:FL (ρ:=ρ) (δ:=δ) P N l.toArray (thenF (fun f w=>FW (ρ:=ρ) (δ:=δ) P N y Q f w) Q) l f w):FW (ρ:=ρ) (δ:=δ) P N (.seq (.region id l.toArray false) y) Q f w:=FW.seq (FW.region h)
theorem FL.mv {d:Nat} {v:Value} {x:Operand} {ty:TypeId} {pos:String} {aft:Array Edge} {gd:Option (Nat×Bool)} (hx:ev f x=v) (h:FL (ρ:=ρ) (δ:=δ) P N ops Q rest (upd f d v) w)
 (hw:wF ops f ⟨some d,.move x,ty,pos,aft,gd⟩=true:=by rfl) (hlt:Nat.blt d N=true:=by rfl):FL (ρ:=ρ) (δ:=δ) P N ops Q (⟨some d,.move x,ty,pos,aft,gd⟩::rest) f w:=FL.val hw rfl hlt (E.move hx) h
theorem FL.as {d:Nat} {v:Value} {x:Operand} {ty:TypeId} {pos:String} {aft:Array Edge} {gd:Option (Nat×Bool)} (hx:ev f x=v) (h:FL (ρ:=ρ) (δ:=δ) P N ops Q rest (upd f d v) w)
 (hw:wF ops f ⟨some d,.assign x,ty,pos,aft,gd⟩=true:=by rfl) (hlt:Nat.blt d N=true:=by rfl):FL (ρ:=ρ) (δ:=δ) P N ops Q (⟨some d,.assign x,ty,pos,aft,gd⟩::rest) f w:=FL.val hw rfl hlt (E.assign hx) h
theorem FL.c {d fid:Nat} {args:Array Value} {R:Ending→World→Prop} (hr:(execOp (ev f) o).run P w=.ok (.enter fid args) w) (hc:Calls P fid args w R)
 (h:∀ e w',R e w'→∃ v,e=.returned v∧FL (ρ:=ρ) (δ:=δ) P N ops Q rest (upd f d v) w') (hw:wF ops f o=true:=by rfl) (hd:o.dst=some d:=by rfl) (hlt:Nat.blt d N=true:=by rfl):FL (ρ:=ρ) (δ:=δ) P N ops Q (o::rest) f w:=FL.call hw hd hlt hr hc h
theorem FD.v {d:Nat} {v:Value} (hr:∀ w,C w→(execOp (ev f) o).run P w=.ok (.value v) w) (h:FD (δ:=δ) P N ops C Qd rest (upd f d v))
 (hw:wF ops f o=true:=by rfl) (hd:o.dst=some d:=by rfl) (hlt:Nat.blt d N=true:=by rfl):FD (δ:=δ) P N ops C Qd (o::rest) f:=FD.val hw hd hlt hr h
theorem FD.y {d:Nat} {v:Value} (hw:wF ops f o=true) (hr:∀ w,C w→(execOp (ev f) o).run P w=.ok (.value v) w) (h:FD (δ:=δ) P N ops C Qd rest (upd f d v))
 (hd:o.dst=some d:=by rfl) (hlt:Nat.blt d N=true:=by rfl):FD (δ:=δ) P N ops C Qd (o::rest) f:=FD.val hw hd hlt hr h
theorem FL.y {d:Nat} {v:Value} {w':World} (hw:wF ops f o=true) (hr:(execOp (ev f) o).run P w=.ok (.value v) w') (h:FL (ρ:=ρ) (δ:=δ) P N ops Q rest (upd f d v) w')
 (hd:o.dst=some d:=by rfl) (hlt:Nat.blt d N=true:=by rfl):FL (ρ:=ρ) (δ:=δ) P N ops Q (o::rest) f w:=FL.val hw hd hlt hr h
end
section
variable {δ:List Nat} {P:Program} {N:Nat} {f:Fm} {w w':World} {ops:Array Oper} {B:World→Prop} {M:Fm→World→Prop} {ps:List (List Nat×(World→Prop))} {n:Nat} {ls l':Array Bool}
theorem FB.T {d:Nat} {o:Oper} {v:Value} (i k m:Nat) (hi:ops[i]?=some o) (hB:B w) (hw:wF ops f o=true) (hrun:∀ w',B w'→(execOp (ev f) o).run P w'=.ok (.value v) w')
 (h:FB (δ:=δ) P N ops B M [] n (bs k m) (upd f d v) w) (hd:o.dst=some d:=by rfl) (hlt:Nat.blt d N=true:=by rfl) (hs:Region.noSelect ops=true:=by kernel_rfl) (hf:Region.free .any ops ls i=true:=by kernel_rfl)
 (hr:(Region.ready .any ops ls).contains i=true:=by kernel_rfl) (hl:ls.setIfInBounds i true=bs k m:=by kernel_rfl) (hc:certB ops [] i ls []=true:=by kernel_rfl):FB (δ:=δ) P N ops B M [] (n + 1) ls f w :=
 FB.take hi hs hf hr hl hc (SP.nil hB) hw hd hlt hrun h
end
end Go.Mr
namespace Go.Mr
open Go.RowKit Go.Pu
abbrev vJ (n:Int):Value:=.int .u64 n
abbrev vK (b:Nat):Value:=vP (⟨b,0,Option.none⟩:Addr)
section
variable {ρ:Option Nat} {δ:List Nat} {P:Program} {N:Nat} {Q:FQ} {f:Fm} {w:World} {ops:Array Oper} {o:Oper} {rest:List Oper} {C:World→Prop} {Qd:Fm→Prop}
theorem FL.n {j t:Nat} {b c:Bool} (hc:c = !b) (h:FL (ρ:=ρ) (δ:=δ) P N ops Q rest (putF f o.dst undef) w) (hg:o.guard=some (j,b):=by rfl) (hj:(ops[j]?).bind (·.dst)=some t:=by rfl) (hv:f t=.bool c:=by rfl)
 (hlt:(o.dst.all fun t=>Nat.blt t N)=true:=by rfl):FL (ρ:=ρ) (δ:=δ) P N ops Q (o::rest) f w:=FL.skip (wN hc hg hj hv) hlt h
theorem FD.n {j t:Nat} {b c:Bool} (hc:c = !b) (h:FD (δ:=δ) P N ops C Qd rest (putF f o.dst undef)) (hg:o.guard=some (j,b):=by rfl) (hj:(ops[j]?).bind (·.dst)=some t:=by rfl) (hv:f t=.bool c:=by rfl)
 (hlt:(o.dst.all fun t=>Nat.blt t N)=true:=by rfl):FD (δ:=δ) P N ops C Qd (o::rest) f:=FD.skip (wN hc hg hj hv) hlt h
end
section
variable {P:Program} {H0 H:GH} {w0 w:World} {l:List MO} {t e k:Nat} {z:Value}
theorem St.s0 {t n:Nat} (h:St H0 w0 H w l) (i:Nat) (c:List Value) {b t0:Nat} {cs:List Value} {l':List MO} (ts:∀ w,(sizeOf t).run P w=.ok n w) (h1:∀ u∈c,u.oneCell'=true) (hi:l[i]?=some (.box b t0 cs):=by rfl)
 (hcn:c.length=n:=by rfl) (hj:Nat.ble n cs.length=true:=by rfl) (hcs:c++cs.drop n=c:=by rfl) (hl:l.set i (.box b t0 c)=l':=by rfl) :
 ∃ w1,(Instr.storeAt t (.pointer (some ⟨b,0,Option.none⟩)) (vA c.toArray)).run P w=.ok () w1∧St H0 w0 H w1 l' :=
 h.store0 (cs':=c) (v:=vA c.toArray) (c:=c) hi ts rfl hcn h1 (nB hj) hcs hl
theorem St.b0 (h:St H0 w0 H w l) (te:TE P t e k z):∃ v w1,(Instr.buildSlice t 0 #[]).run P w=.ok v w1∧St H0 w0 H w1 (.row e k v 0 []::l) :=
 h.buildSlice te [] (parts:=#[]) (cells:=[]) rfl zbb fc_nil zab (by simp)
theorem St.b1 (h:St H0 w0 H w l) (te:TE P t e 1 z) {v:Value} (hc:v.cells=#[v]) (h1:v.oneCell'=true):∃ u w1,(Instr.buildSlice t 1 #[(0,v)]).run P w=.ok u w1∧St H0 w0 H w1 (.row e 1 u 1 [v]::l) :=
 h.buildSlice te [v] (parts:=#[(0,v)]) (cells:=[v]) rfl (za0 (cells_size hc) zbb) (za7 hc fc_nil) (oC h1 zab) (by simp)
theorem St.bA (h:St H0 w0 H w l) (te:TE P t e k z) (c:List Value) (h1:∀ u∈c,u.oneCell'=true) (hk:c.length=k:=by rfl) (hb:Nat.ble k 16777216=true:=by rfl):∃ u w1,(Instr.buildSlice t 1 #[(0,vA c.toArray)]).run P w=.ok u w1∧St H0 w0 H w1 (.row e k u 1 c::l) :=
 h.buildSlice te [vA c.toArray] (parts:=#[(0,vA c.toArray)]) (cells:=c) rfl (za0 (by rw [← hk];simp [Value.cells]) zbb) (by simp [Value.cells]) h1 (by have:=Nat.le_of_ble_eq_true hb;simp;omega)
end
end Go.Mr
namespace Go.Mr
open Go.RowKit Go.Pu
def iC (xs:List Int):List Value:=xs.map (Value.int .i64)
def iP (xs:List Int):Array (Nat×Value):=((xs.zipIdx 0).map fun p=>(p.2,Value.int .i64 p.1)).toArray
theorem els_ints (G:GH) (xs:List Int):Els G eI 1 (iC xs) xs:=by
 have key:∀ ys:List Int,Els G eI 1 (iC ys.reverse) ys.reverse:=by
  intro ys
  induction ys with
  | nil=>exact .nil
  | cons x ys ih =>
   have:=Els.snoc (c:=[Value.int .i64 x]) (x:=x) ih rfl (show eI.rel G [Value.int .i64 x] x from rfl)
   unfold iC at this ⊢
   rw [List.reverse_cons,List.map_append]
   exact this
 have:=key xs.reverse
 rwa [List.reverse_reverse] at this
theorem flat_ints (xs:List Int):((xs.map (Value.int .i64)).map (·.cells.toList)).flatten=iC xs:=by
 unfold iC
 induction xs with
 | nil=>rfl
 | cons x xs ih=>rw [List.map_cons,List.map_cons,List.flatten_cons,ih];rfl
theorem St.ints {P:Program} {H0 H:GH} {w0 w:World} {l:List MO} {t e:Nat} {z:Value} (h:St H0 w0 H w l) (te:TE P t e 1 z) (G:GH) (n:Nat) (xs:List Int) (hn:xs.length=n:=by rfl) (hsm:Nat.ble n 1000=true:=by rfl) :
 ∃ v w1,(Instr.buildSlice t n (iP xs)).run P w=.ok v w1∧St H0 w0 H w1 (.row e 1 v n (iC xs)::l)∧Els G eI 1 (iC xs) xs:=by
 subst hn
 have hl:(xs.map (Value.int .i64)).length=xs.length:=List.length_map _
 obtain ⟨v,w1,h1,h2⟩:=h.buildSlice (P:=P) te (xs.map (Value.int .i64)) (parts:=iP xs) (cells:=iC xs) (by
  unfold iP
  show List.map _ _=_
  rw [List.zipIdx_map,List.map_map];rfl) (fun v hv=>by obtain ⟨x,_,rfl⟩:=List.mem_map.1 hv;rfl) (flat_ints xs) (fun c hc=>by unfold iC at hc;obtain ⟨x,_,rfl⟩:=List.mem_map.1 hc;rfl) (by have:=Nat.le_of_ble_eq_true hsm;rw [hl];omega)
 rw [hl] at h1 h2
 exact ⟨v,w1,h1,h2,els_ints G xs⟩
theorem sgo {A B:Prop} (a:A) (h:A→B):A∧B:=⟨a,h a⟩
section
variable {δ:List Nat} {P:Program} {N:Nat} {f:Fm} {w w':World} {ops:Array Oper} {B:World→Prop} {M:Fm→World→Prop} {ps:List (List Nat×(World→Prop))} {n:Nat} {ls l':Array Bool}
theorem FB.go (hS:SP B ps ls w) (h:SP B ps ls w→FB (δ:=δ) P N ops B M ps n ls f w):FB (δ:=δ) P N ops B M ps n ls f w:=h hS
theorem sp_next {C:List Nat} {i:Nat} (hc:certB ops C i ls ps=true) (hl:ls.setIfInBounds i true=l') (hS:SP B ps ls w):SP B ps l' w:=by
 subst hl
 unfold certB at hc
 rw [Bool.and_eq_true] at hc
 exact (SP.iff hc.2).2 hS
theorem FB.r {d:Nat} {o:Oper} {v:Value} (i k m:Nat) (hi:ops[i]?=some o) (hS:SP B ps ls w) (hrun:∀ w',B w'→(execOp (ev f) o).run P w'=.ok (.value v) w')
 (h:SP B ps (bs k m) w→FB (δ:=δ) P N ops B M ps n (bs k m) (upd f d v) w) (hw:wF ops f o=true:=by rfl) (hd:o.dst=some d:=by rfl) (hlt:Nat.blt d N=true:=by rfl) (hs:Region.noSelect ops=true:=by kernel_rfl) (hf:Region.free .any ops ls i=true:=by kernel_rfl)
 (hr:(Region.ready .any ops ls).contains i=true:=by kernel_rfl) (hl:ls.setIfInBounds i true=bs k m:=by kernel_rfl) (hc:certB ops [] i ls ps=true:=by kernel_rfl):FB (δ:=δ) P N ops B M ps (n + 1) ls f w :=
 FB.take hi hs hf hr hl hc hS hw hd hlt hrun (h (sp_next hc hl hS))
theorem FB.q {Hs:List Nat} {R:World→Prop} {d:Nat} {o:Oper} {v:Value} (i k m:Nat) (q:Nat) (C:List Nat) (hi:ops[i]?=some o) (hS:SP B ps ls w) (hq:ps[q]?=some (Hs,R)) (hrun:∀ w',R w'→(execOp (ev f) o).run P w'=.ok (.value v) w')
 (h:SP B ps (bs k m) w→FB (δ:=δ) P N ops B M ps n (bs k m) (upd f d v) w) (hw:wF ops f o=true:=by rfl) (hd:o.dst=some d:=by rfl) (hlt:Nat.blt d N=true:=by rfl) (hs:Region.noSelect ops=true:=by kernel_rfl) (hf:Region.free .any ops ls i=true:=by kernel_rfl)
 (hr:(Region.ready .any ops ls).contains i=true:=by kernel_rfl) (hl:ls.setIfInBounds i true=bs k m:=by kernel_rfl) (hc:certB ops C i ls ps=true:=by kernel_rfl) (hH:Hs.all (C.contains ·)=true:=by kernel_rfl):FB (δ:=δ) P N ops B M ps (n + 1) ls f w :=
 FB.takeP q C hq hi hs hf hr hl hc hH hS hw hd hlt hrun (h (sp_next hc hl hS))
end
end Go.Mr
namespace Go.Mr
open Go.RowKit Go.Pu
section
variable {w:World} {H H' H2 Hx Ha Hb Hs Hs':GH} {A A':Type} {En:Enc A} {E':Enc A'} {k k' B lo hi:Nat} {v v':Value} {xs:List A} {ys:List A'} {c c' c1 c2:List Value}
def Ap (v:Value) (c:List Value) (v':Value) (c':List Value):Prop:=∀ b,(b∈bl [v]∨b∈bl c)→¬ (b∈bl [v']∨b∈bl c')
end
end Go.Mr
namespace Go.Mr
open Go.RowKit Go.Pu
section
variable {P:Program} {H0 H:GH} {w0 w:World} {l:List MO} {e t:TypeId} {k n:Nat} {v u:Value}
end
section
variable {δ:List Nat} {fn:Func} {N:Nat} {P:Program} {w:World} {R:Ending→World→Prop} {f:Fm}
theorem resX_ctt {t0 y0:Nat} {v0:Value} {p0:Addr} {t1:Nat} {v1:Value} {t2:Nat} {v2:Value} (hr:fn.results=#[.cell t0 y0,.tmp t1,.tmp t2]) (h0:f t0=.pointer (some p0)) (l0:(loadVar y0 p0).run P w=.ok v0 w) (h1:f t1=v1) (h2:f t2=v2) (hR:R (.returned (.tuple #[v0,v1,v2])) w) :
 ∀ a,Fr (δ:=δ) N a f→∃ v,(results fn a.tmps).run P w=.ok v w∧R (.returned v) w:=fun a ha=>⟨_,by simp [results,hr,ha.val,asAddr,h0,l0,h1,h2],hR⟩
end
end Go.Mr
namespace Go.Mr
open Go.RowKit Go.Pu
def TabH (P:Program) (name:String) (k:IntKind) (zs:List Int) (H:GH):Prop:=∃ g e fr,P.globalNamed name=some g∧H g=some (.cells (zs.map fun z=>Value.int k z).toArray e fr)
@[reducible] def TabI (P:Program) (H:GH):Prop:=TabH P "internal/strconv.uint64pow10" .u64 Lib.pow10Tab H
section
variable {P:Program} {f:Fm} {w:World} {d:Option Tmp} {ty:TypeId} {pos:String} {aft:Array Edge} {gd:Option (Nat×Bool)} {x y:Operand} {t t':TypeId}
end
end Go.Mr
namespace Go.Pu
inductive Fo where
 | nil:Fo
 | node (op:Int) (a b:Fo) (text:ByteArray):Fo
@[ext] structure FoN where
 op:Int
 a:Fo
 b:Fo
 text:ByteArray
end Go.Pu
namespace Go.Mr
open Go.RowKit Go.Pu
@[reducible] def NilT (v:Value) (b:Bool):Prop:=v=.pointer none∧b=true∨∃ q,v=.pointer (some q)∧b=false
section
variable {α:Type} {H H':GH} {E:Enc α} {v:Value} {x:Option α}
end
section
variable {P:Program} {f:Fm} {w:World} {d:Option Tmp} {ty:TypeId} {pos:String} {aft:Array Edge} {gd:Option (Nat×Bool)} {x y:Operand} {t t':TypeId}
end
theorem eI2_flat:FlatE eI2:=by rintro H H' cs x rfl;exact ⟨rfl,rfl⟩
end Go.Mr
namespace Go.Mr
open Go.RowKit Go.Pu
section
variable {P:Program} {f:Fm} {w w':World} {d:Option Tmp} {ty:TypeId} {pos:String} {aft:Array Edge} {gd:Option (Nat×Bool)} {x y:Operand} {v u u0:Value}
variable {H0 H H':GH} {w0:World} {l:List MO} {t e k n:Nat} {z:Value} {A:Type} {En:Enc A} {o:MO} {cells pre:List Value}
def View (k:Nat) (v u:Value) (cells pre:List Value) (o:MO):Prop :=
 ∃ m,pre.length=m * k∧(∃ r,cells=pre++r) ∧
  ((m=0∧Ln u 0∧o=.lb 0)∨(∃ g cap,u=.slice (some ⟨g,0,Option.none⟩) m cap ∧
   ((o=.lb 0∧∃ n c,v=.slice (some ⟨g,0,Option.none⟩) n c)∨∃ arr e,o=.raw g (.cells arr e (0,0))∧arr.toList.take (m * k)=pre)))
structure VL (u:Value) (n:Nat):Prop where
 ln:Ln u n
 le:n≤maxLen
theorem St.lb0 (h:St H0 w0 H w l):St H0 w0 H w (.lb 0::l):=by
 refine ⟨h.run,fun i o hi=>?_,fun i o b hi hb=>?_,fun i j oi oj b hi hj h1 h2=>?_⟩
 · cases i with
   | zero=>simp at hi;subst hi;exact Nat.zero_le _
   | succ i=>exact h.ok i o (by simpa using hi)
 · cases i with
   | zero=>simp at hi;subst hi;cases hb
   | succ i=>exact h.out i o b (by simpa using hi) hb
 · cases i with
   | zero=>simp at hi;subst hi;cases h1
   | succ i=>cases j with
    | zero=>simp at hj;subst hj;cases h2
    | succ j=>have:=h.dis i j oi oj b (by simpa using hi) (by simpa using hj) h1 h2;omega
theorem St.claim (h:St H0 w0 H w l) {q m g:Nat} {ob:Obj} (hq:l[q]?=some (.lb m)) (hg:w.heap[g]?=some ob) (hB:w0.heap.size≤g) (hH:H g=Option.none) (hf:∀ (j:Nat) oj,l[j]?=some oj→oj.blk≠some g) :
 St H0 w0 H w (l.set q (.raw g ob)):=by
 have key:∀ (j:Nat) oj,(l.set q (.raw g ob))[j]?=some oj→(j=q∧oj=.raw g ob)∨(j≠q∧l[j]?=some oj):=by
  clear hB hH hg
  intro j oj hj
  rw [List.getElem?_set] at hj
  split at hj
  · rename_i hqj
    split at hj
    · cases hj;exact .inl ⟨hqj.symm,rfl⟩
    · cases hj
  · rename_i hne;exact .inr ⟨fun e=>hne e.symm,hj⟩
 refine ⟨h.run,fun j oj hj=>?_,fun j oj b hj hb=>?_,fun i j oi oj b hi hj h1 h2=>?_⟩
 · rcases key j oj hj with ⟨rfl,rfl⟩|⟨_,hj⟩
   · exact ⟨hg,hB⟩
   · exact h.ok j oj hj
 · rcases key j oj hj with ⟨rfl,rfl⟩|⟨_,hj⟩
   · cases hb;exact hH
   · exact h.out j oj b hj hb
 · rcases key i oi hi with ⟨e3,rfl⟩|⟨h3,hi'⟩ <;> rcases key j oj hj with ⟨e4,rfl⟩|⟨h4,hj'⟩
   · rw [e3,e4]
   · cases h1;exact absurd h2 (hf _ _ hj')
   · cases h2;exact absurd h1 (hf _ _ hi')
   · exact h.dis i j oi oj b hi' hj' h1 h2
theorem St.view {G:GH} (h:St H0 w0 H w l) (te:TE P t e k z) {i:Nat} (hi:l[i]?=some (.row e k v n cells)) {xs ys:List A} (he:Els G En k cells xs) {b:Int} {kk:IntKind} (hc:Pu.cut xs 0 b=some ys) :
 ∃ u pre,(∀ w,(Instr.slice t v Option.none (some (.int kk b)) Option.none).run P w=.ok u w)∧St H0 w0 H w (.lb 0::l)∧View k v u cells pre (.lb 0)∧Els G En k pre ys∧VL u ys.length:=by
 obtain ⟨h0,h1,h2,rfl⟩:=cut_some hc
 have hn:=h.row_n hi he te.kp
 obtain ⟨⟨g1,g2⟩,g3⟩:=h.ok i _ hi
 have hle:b.toNat * k≤n * k:=Nat.mul_le_mul_right _ (by omega)
 have hels:Els G En k (cells.take (b.toNat * k)) (List.drop (Int.toNat 0) (List.take b.toNat xs)):=by simpa using els_take he b.toNat (by omega)
 have hlen:(List.drop (Int.toNat 0) (List.take b.toNat xs)).length=b.toNat:=by simp;omega
 have hpl:(cells.take (b.toNat * k)).length=b.toNat * k:=by rw [List.length_take,g1];omega
 rcases g2 with ⟨rfl,h3⟩|⟨g,cap,cur,rfl,hg,hh,hlc,hcm,hsz,htk⟩
 · have hb0:b.toNat=0:=by omega
   have hr:∀ w,(Instr.slice t (.slice Option.none 0 0) Option.none (some (.int kk b)) Option.none).run P w=.ok (.slice Option.none 0 0) w:=fun w=>by
    have:=zdk (w:=w) te (a:=Option.none) (len:=0) (cap:=0) (p:=0) (q:=b) (Int.le_refl 0) (by omega) (by omega) (.inl ⟨rfl,rfl⟩) (.inr ⟨kk,rfl⟩)
    simpa [hb0] using this
   refine ⟨_,_,hr,h.lb0,⟨b.toNat,hpl,⟨_,(List.take_append_drop _ _).symm⟩,.inl ⟨hb0,⟨_,_,rfl⟩,rfl⟩⟩,hels,?_⟩
   rw [hlen,hb0];exact ⟨⟨_,_,rfl⟩,Nat.zero_le _⟩
 · have hr:∀ w,(Instr.slice t (.slice (some ⟨g,0,Option.none⟩) n cap) Option.none (some (.int kk b)) Option.none).run P w=.ok (.slice (some ⟨g,0,Option.none⟩) b.toNat cap) w:=fun w=>by
    have:=zdk (w:=w) te (a:=some ⟨g,0,Option.none⟩) (len:=n) (cap:=cap) (p:=0) (q:=b) (Int.le_refl 0) (by omega) (by omega) (.inl ⟨rfl,rfl⟩) (.inr ⟨kk,rfl⟩)
    simpa [Addr.add_lit] using this
   refine ⟨_,_,hr,h.lb0,⟨b.toNat,hpl,⟨_,(List.take_append_drop _ _).symm⟩,.inr ⟨g,cap,rfl,.inl ⟨rfl,_,_,rfl⟩⟩⟩,hels,?_⟩
   rw [hlen];exact ⟨⟨_,_,rfl⟩,by omega⟩
theorem St.view_at {G:GH} (h:St H0 w0 H w l) {i q:Nat} (hi:l[i]?=some (.row e k v n cells)) (hq:l[q]?=some o) (hv:View k v u0 cells pre o) {ys:List A} (he:Els G En k pre ys) (hk:0 < k)
 {j:Int} {x:A} (hx:ix ys j=some x):∃ p c,PtrOf k u0 j p∧c.length=k∧WAt w p c∧En.rel G c x:=by
 obtain ⟨h0,h1,h2⟩:=ix_some hx
 obtain ⟨c,g1,g2,g3⟩:=he.get _ _ h2
 obtain ⟨m,m1,⟨r,m2⟩,m3⟩:=hv
 have hm:ys.length=m:=Nat.eq_of_mul_eq_mul_right hk (he.length.symm.trans m1)
 rcases m3 with ⟨rfl,_⟩|⟨g,cap,rfl,m3⟩
 · omega
 refine ⟨_,c,⟨⟨g,0,Option.none⟩,_,cap,rfl,h0,by omega,rfl⟩,g1,fun s u hu=>?_,g2⟩
 have h3:=g3 s u hu
 rw [zc5,Addr.add_lit]
 rcases m3 with ⟨rfl,n',c',rfl⟩|⟨arr,e',rfl,m4⟩
 · obtain ⟨⟨k1,k2⟩,_⟩:=h.ok i _ hi
   rcases k2 with ⟨hn,_⟩|⟨g',cap',cur,hv',hg,hh,hle,_,hsz,htk⟩
   · cases hn
   cases hv'
   rw [cell_of_row w g _ _ _ _ hh]
   have h4:cells[j.toNat * k + s]?=some u:=by rw [m2,List.getElem?_append_left (List.getElem?_eq_some_iff.1 h3).1];exact h3
   rw [← htk,List.getElem?_take] at h4
   split at h4
   · simpa using h4
   · cases h4
 · have hh:=(h.ok q _ hq).1
   rw [cell_of_row w g _ _ _ _ hh]
   rw [← m4,List.getElem?_take] at h3
   split at h3
   · simpa using h3
   · cases h3
theorem run_append_mineV {base:Nat} (te:TE P t e k z) {news:List Value} {m:Nat} (hown:w.ownsRow base e k v n cells) (hs:Src w k u m news)
 (h1:∀ c∈news,c.oneCell'=true) (hb:n + m≤lim) (hbase:base≤w.heap.size) :
 ∃ v' w',(∀ ty,(Builtin.append_ #[t,t] ty #[v,u]).run P w=.ok v' w')∧w'.ownsRow base e k v' (n + m) (cells++news)∧w.grownBy w' v.ownBlock ∧
  (∀ b,v'.ownBlock=some b→v.ownBlock=some b∨w.heap.size≤b)∧w.drawn≤w'.drawn ∧
  (∀ g n c,v=.slice (some ⟨g,0,Option.none⟩) n c→(∃ n' c',v'=.slice (some ⟨g,0,Option.none⟩) n' c')∨(w'.heap[g]?=w.heap[g]?∧v'.ownBlock≠some g)):=by
 obtain ⟨v',w',hr,h2,h3,h4,h5⟩:=zdD (P:=P) (ty:=0) te hown hs h1 hb hbase
 refine ⟨v',w',fun ty=>hr,h2,h3,h4,h5,?_⟩
 rintro g n0 c0 rfl
 obtain ⟨info,hi,hz,hsz,hby⟩:=te.i
 have h63:n + m≤maxLen:=by unfold lim at hb;simp only [maxLen];omega
 have hbytes:(n + m) * info.bytes≤140737488355328:=by
  have:(n + m) * info.bytes≤lim * 4096:=Nat.mul_le_mul hb hby
  unfold lim at this;omega
 subst hsz
 rcases hown.2 with ⟨hn,_⟩|⟨g',cap,cur,hv,hbg,hg,hnc,hcm,hcs,htake⟩
 · cases hn
 injection hv with hv1 hv2 hv3;injection hv1 with hv1;injection hv1 with hv1;subst hv1 hv2 hv3
 have hgs:g < w.heap.size:=(Array.getElem?_eq_some_iff.1 hg).1
 rcases hs with ⟨ad,c,rfl,hl,hnews⟩|⟨rfl,rfl,rfl⟩
 · by_cases hroom:n0 + m≤c0
   · have hfit:n0 * info.size + news.length≤cur.size:=by rw [hl,hcs,← Nat.add_mul];exact Nat.mul_le_mul_right _ hroom
     have:=run_append_room (P:=P) w t 0 e info te.u hi g n0 c0 cur hg ad m c news hl hnews h1 hroom hfit
     rw [this] at hr;cases hr
     exact .inl ⟨_,_,rfl⟩
   · have holds:∀ j u,cells[j]?=some u→w.cell? ((⟨g,0,none⟩:Addr).add j)=some u:=hown.cells (g:=g) rfl
     have:=run_append_grow (P:=P) w t 0 e info z te.u hi hz ⟨g,0,none⟩ n0 c0 cells hown.1 holds ad m c news hl hnews (by omega) (by simp only [maxLen] at h63;omega) (growslice_fits (by omega) hbytes)
     rw [this] at hr;cases hr
     refine .inr ⟨?_,fun e=>?_⟩
     · rw [heap_alloc_old _ _ (by simpa using hgs)];rfl
     · simp only [Value.ownBlock,Option.some.injEq] at e;omega
 · have:=run_append_owned_none (P:=P) w base t 0 e info info.size te.u hi (.slice (some ⟨g,0,none⟩) n0 c0) n0 cells hown
   rw [this] at hr;cases hr
   exact .inl ⟨_,_,rfl⟩
theorem St.appendV (h:St H0 w0 H w l) (te:TE P t e k z) {i q m:Nat} {news:List Value} (hi:l[i]?=some (.row e k v n cells)) (hq:l[q]?=some o) (hv:View k v u0 cells pre o) (hs:Src w k u m news)
 (h1:∀ c∈news,c.oneCell'=true) (hb:n + m≤lim) :
 ∃ v' w1 o',(∀ ty,(Builtin.append_ #[t,t] ty #[v,u]).run P w=.ok v' w1)∧St H0 w0 H w1 ((l.set i (.row e k v' (n + m) (cells++news))).set q o')∧View k v' u0 (cells++news) pre o':=by
 obtain ⟨g1,g2⟩:=h.ok i _ hi
 obtain ⟨v',w1,hr,h2,h3,h4,h5,h6⟩:=run_append_mineV (P:=P) te g1 hs h1 hb h.size
 have hS:St H0 w0 H w1 (l.set i (.row e k v' (n + m) (cells++news))):=by
  refine h.upd hi h3 h5 ⟨h2,fun c hc=>?_⟩ (fun b hb=>h4 b hb)
  rcases List.mem_append.1 hc with hc|hc
  · exact g2 c hc
  · exact h1 c hc
 obtain ⟨mm,m1,⟨r,m2⟩,m3⟩:=hv
 have hiq:i≠q:=by
  rintro rfl
  rw [hi] at hq;cases hq
  rcases m3 with ⟨_,_,e⟩|⟨_,_,_,⟨e,_⟩|⟨_,_,e,_⟩⟩ <;> cases e
 have hq':(l.set i (.row e k v' (n + m) (cells++news)))[q]?=some o:=by rw [List.getElem?_set,if_neg hiq];exact hq
 have hsame:∀ X,X=(l.set i (.row e k v' (n + m) (cells++news))).set q o→St H0 w0 H w1 X:=by
  rintro X rfl
  have e:(l.set i (.row e k v' (n + m) (cells++news))).set q o=l.set i (.row e k v' (n + m) (cells++news)):=?_
  · rw [e];exact hS
  apply List.ext_getElem?
  intro j
  rw [List.getElem?_set]
  split
  · rename_i hj;subst hj
    rw [hq',if_pos (List.getElem?_eq_some_iff.1 hq').1]
  · rfl
 have hr2:∃ r,cells++news=pre++r:=⟨r++news,by rw [m2,List.append_assoc]⟩
 rcases m3 with m3|⟨g,cap,rfl,⟨rfl,n',c',rfl⟩|m3⟩
 · exact ⟨v',w1,o,hr,hsame _ rfl,mm,m1,hr2,.inl m3⟩
 · rcases h6 g n' c' rfl with h7|⟨h7,h8⟩
   · exact ⟨v',w1,.lb 0,hr,hsame _ rfl,mm,m1,hr2,.inr ⟨g,cap,rfl,.inl ⟨rfl,h7⟩⟩⟩
   · rcases g1.2 with ⟨hn,_⟩|⟨g',cap',cur,hv',hbg,hg,hnc,hcm,hcs,htake⟩
     · cases hn
     cases hv'
     have hnone:H g=Option.none:=h.out i _ g hi rfl
     refine ⟨v',w1,.raw g (.cells cur e (0,0)),hr,hS.claim hq' (h7.trans hg) hbg hnone (fun j oj hj=>?_),mm,m1,hr2,.inr ⟨g,cap,rfl,.inr ⟨cur,e,rfl,?_⟩⟩⟩
     · rw [List.getElem?_set] at hj
       split at hj
       · split at hj
         · cases hj;exact h8
         · cases hj
       · rename_i hne
         intro e'
         exact hne (h.dis i j _ oj g hi hj rfl e')
     · have e1:(cells.take (mm * k))=pre:=by rw [m2,List.take_left' m1]
       rw [← e1,← htake,List.take_take,Nat.min_eq_left]
       have e2:pre.length≤cells.length:=by rw [m2,List.length_append];omega
       rw [m1,g1.1] at e2;exact e2
 · exact ⟨v',w1,o,hr,hsame _ rfl,mm,m1,hr2,.inr ⟨g,cap,rfl,.inr m3⟩⟩
theorem St.appendVO {G:GH} {xs ys zs:List A} {c1 c2:List Value} {e2 n2:Nat} (h:St H0 w0 H w l) (te:TE P t e k z) {i j q:Nat} (hi:l[i]?=some (.row e k v n c1)) (he:Els G En k c1 xs)
 (hj:l[j]?=some (.row e2 k u n2 c2)) (hy:Els G En k c2 ys) (hz:app xs ys=some zs) (hq:l[q]?=some o) (hv:View k v u0 c1 pre o) :
 ∃ v' w1 n' c' o',(∀ ty,(Builtin.append_ #[t,t] ty #[v,u]).run P w=.ok v' w1)∧St H0 w0 H w1 ((l.set i (.row e k v' n' c')).set q o')∧Els G En k c' zs∧c'=c1++c2∧View k v' u0 c' pre o':=by
 obtain ⟨hb,rfl⟩:=app_some hz
 have hn:=h.row_n hi he te.kp
 have hn2:=h.row_n hj hy te.kp
 obtain ⟨v',w1,o',hr,hS,hV⟩:=h.appendV (P:=P) te hi hq hv (h.row_src hj) (h.ok j _ hj).2 (by omega)
 exact ⟨v',w1,_,_,o',hr,hS,he.app hy,rfl,hV⟩
end
end Go.Mr
namespace Go.Mr
open Go.RowKit Go.Pu
structure PR where
 v:Value
 n:Nat
 cs:List Value
def PR.mo (e k:Nat) (r:PR):MO:=.row e k r.v r.n r.cs
def plT (e k:Nat) (rs:List PR) (L:List MO):List MO:=rs.map (PR.mo e k)++L
section
variable {P:Program} {H0 H G G':GH} {w0 w:World} {a l L:List MO} {t e e0 k n i:Nat} {z v:Value} {A:Type} {En:Enc A} {cs:List Value} {rs:List PR} {xss yss:List (List A)} {x ys zs:List A} {j:Int}
structure Pool (G:GH) (En:Enc A) (k:Nat) (cs:List Value) (rs:List PR) (xss:List (List A)):Prop where
 len:rs.length=xss.length
 cells:cs=rs.map PR.v
 els:∀ (i:Nat) r x,rs[i]?=some r→xss[i]?=some x→Els G En k r.cs x
theorem Pool.mono (h:Pool G En k cs rs xss) (hi:Inc G G'):Pool G' En k cs rs xss:=⟨h.len,h.cells,fun i r x h1 h2=>(h.els i r x h1 h2).mono hi⟩
end
end Go.Mr
namespace Go.Mr
open Go.RowKit Go.Pu
section
variable {H0 H H' G Hp:GH} {w0 w wp:World} {l lp:List MO} {e k n i B B':Nat} {v:Value} {A:Type} {En:Enc A} {xs:List A} {cells:List Value}
structure Bk (B:Nat) (H:GH) (En:Enc A) (k e:Nat) (v:Value) (xs:List A):Prop where
 ex:∃ (Hb:GH) (n:Nat) (cells:List Value),Inc Hb H∧Els Hb En k cells xs∧(∀ u∈cells,u.oneCell'=true)∧cells.length=n * k ∧
  ((v=.slice Option.none 0 0∧n=0)∨∃ g cap cur,v=.slice (some ⟨g,0,Option.none⟩) n cap∧B≤g∧Hb g=Option.none∧H g=some (.cells cur e (0,0))∧n≤cap∧cap≤maxLen∧cur.size=cap * k∧cur.toList.take (n * k)=cells)
end
end Go.Mr
namespace Go.Mr
open Go.RowKit Go.Pu
section
variable {P:Program} {H0 H H':GH} {w0 w w':World} {l:List MO}
theorem St.boxRow (h:St H0 w0 H w l) {i b t:Nat} {cs:List Value} {l':List MO} (hi:l[i]?=some (.box b t cs)) (n:Nat) (hn:cs.length=n) (hm:n≤maxLen) (hl:l.set i (.row t 1 (.slice (some ⟨b,0,Option.none⟩) n n) n cs)=l'):St H0 w0 H w l':=by
 subst hl hn
 have hlt:=(List.getElem?_eq_some_iff.1 hi).1
 obtain ⟨k1,k2,k3⟩:=h.ok i _ hi
 have key:∀ (j:Nat) (o:MO),(l.set i (.row t 1 (.slice (some ⟨b,0,Option.none⟩) cs.length cs.length) cs.length cs))[j]?=some o→o.ok w0.heap.size w∧∃ o',l[j]?=some o'∧o'.blk=o.blk:=by
  intro j o hj
  rw [List.getElem?_set] at hj
  split at hj
  · rename_i e;subst e
    cases hj
    refine ⟨⟨⟨by simp,.inr ⟨b,cs.length,cs.toArray,rfl,k2,k1,Nat.le_refl _,hm,by simp,?_⟩⟩,k3⟩,_,hi,rfl⟩
    simp
  · exact ⟨h.ok j o hj,o,hj,rfl⟩
 refine ⟨h.run,fun j o hj=>(key j o hj).1,fun j o x hj hb=>?_,fun j j' o o' x hj hj' hb hb'=>?_⟩
 · obtain ⟨_,o1,g1,g2⟩:=key j o hj
   exact h.out j o1 x g1 (g2.trans hb)
 · obtain ⟨_,o1,g1,g2⟩:=key j o hj
   obtain ⟨_,o2,g3,g4⟩:=key j' o' hj'
   exact h.dis j j' o1 o2 x g1 g3 (g2.trans hb) (g4.trans hb')
theorem Els.bs {G:GH} (xs:List Bool):Els G eB 1 (xs.map Value.bool) xs:=by
 have h:∀ ys:List Bool,Els G eB 1 (ys.reverse.map Value.bool) ys.reverse:=by
  intro ys
  induction ys with
  | nil=>exact .nil
  | cons y ys ih =>
   rw [List.reverse_cons,List.map_append]
   exact .snoc ih rfl rfl
 have:=h xs.reverse
 rwa [List.reverse_reverse] at this
theorem E.indexRow {f:Fm} {d:Option Tmp} {ty:TypeId} {pos:String} {aft:Array Edge} {gd:Option (Nat×Bool)} {x y:Operand} {t n e k b c:Nat} {p:Addr} {i:Int} {kk:IntKind} (ht:∀ w,(underlying t).run P w=.ok (.array n e) w) (hs:∀ w,(sizeOf e).run P w=.ok k w)
 (hx:ev f x=.pointer (some ⟨b,0,Option.none⟩)) (hy:ev f y=.int kk i) (hp:PtrOf k (.slice (some ⟨b,0,Option.none⟩) n c) i p):(execOp (ev f) ⟨d,.indexAddr t x y,ty,pos,aft,gd⟩).run P w=.ok (.value (.pointer (some p))) w:=by
 obtain ⟨a,len,cap,e1,h0,h1,rfl⟩:=hp
 cases e1
 obtain ⟨m,rfl⟩:∃ m:Nat,i=(m:Int):=⟨i.toNat,by omega⟩
 exact E.indexArr ht hs hx hy (by omega) rfl
end
end Go.Mr
namespace Go.Pu
def chL (many:Int):Nat→Int→List Int→List (List Int)
 | 0,_,l=>if len l=many then [l] else []
 | m + 1,u,l=>if len l=many then [l] else chL many m (u + 1) (l++[u])++chL many m (u + 1) l
def chO (n many limit:Int):Option (List (List Int)) :=
 if 0≤n∧n≤100∧((chL many n.toNat 1 []).length:Int)≤limit∧limit≤1000000 then some (chL many n.toNat 1 []) else none
theorem zbG {many:Int} {m:Nat} {u:Int} {l:List Int} (h:len l=many):chL many m u l=[l]:=by
 cases m <;> simp [chL,h]
theorem chL_zero {many:Int} {u:Int} {l:List Int} (h:¬ len l=many):chL many 0 u l=[]:=by simp [chL,h]
theorem chL_succ {many:Int} {m:Nat} {u:Int} {l:List Int} (h:¬ len l=many):chL many (m + 1) u l=chL many m (u + 1) (l++[u])++chL many m (u + 1) l:=by simp [chL,h]
end Go.Pu
namespace Go.Mr
open Go.RowKit Go.Pu
section
variable {P:Program} {H0 H H' G:GH} {w0 w w':World} {l A:List MO} {t e k n:Nat} {z v:Value}
theorem St.tell {o o':MO} (h:St H0 w0 H w (o::l)) (hb:∀ b,o'.blk=some b→o.blk=some b) (hok:o.ok w0.heap.size w→o'.ok w0.heap.size w):St H0 w0 H w (o'::l):=by
 have key:∀ (j:Nat) (x:MO),(o'::l)[j]?=some x→x.ok w0.heap.size w∧∃ y,(o::l)[j]?=some y∧∀ b,x.blk=some b→y.blk=some b:=by
  intro j x hj
  cases j with
  | zero=>simp at hj;subst hj;exact ⟨hok (h.ok 0 o rfl),o,rfl,hb⟩
  | succ j=>simp at hj;exact ⟨h.ok (j + 1) x (by simpa using hj),x,by simpa using hj,fun b hb=>hb⟩
 refine ⟨h.run,fun j x hj=>(key j x hj).1,fun j x b hj hb=>?_,fun j j' x x' b hj hj' h1 h2=>?_⟩
 · obtain ⟨_,y,g1,g2⟩:=key j x hj
   exact h.out j y b g1 (g2 b hb)
 · obtain ⟨_,y,g1,g2⟩:=key j x hj
   obtain ⟨_,y',g3,g4⟩:=key j' x' hj'
   exact h.dis j j' y y' b g1 g3 (g2 b h1) (g4 b h2)
theorem St.appendK {u:Value} {n2:Nat} {c1 c2:List Value} (h:St H0 w0 H w (.row e k u n2 c2::.row e k v n c1::A)) (te:TE P t e k z) (hb:n + n2≤lim) (h0:0 < n2) :
 ∃ v' w1 R,(∀ ty,(Builtin.append_ #[t,t] ty #[v,u]).run P w=.ok v' w1)∧St H0 w0 H w1 (.row e k v' (n + n2) (c1++c2)::R::A) ∧
  ∀ (H2:GH) (w2:World) (A2:List MO),St H0 w0 H2 w2 (.row e k v' (n + n2) (c1++c2)::R::A2)→St H0 w0 H2 w2 (.row e k v n c1::A2):=by
 have hs:=h.row_src (i:=0) rfl
 obtain ⟨g1,g2⟩:=h.ok 1 _ rfl
 obtain ⟨_,g3⟩:=h.ok 0 _ rfl
 obtain ⟨info,hi,hz,hsz,hby⟩:=te.i
 have h63:n + n2≤maxLen:=by unfold lim at hb;simp only [maxLen];omega
 have hbytes:(n + n2) * info.bytes≤140737488355328:=by
  have:(n + n2) * info.bytes≤lim * 4096:=Nat.mul_le_mul hb hby
  unfold lim at this;omega
 have room:∀ (v':Value) (w1:World),(∀ ty,(Builtin.append_ #[t,t] ty #[v,u]).run P w=.ok v' w1)→St H0 w0 H w1 ((MO.row e k u n2 c2::.row e k v n c1::A).set 1 (.row e k v' (n + n2) (c1++c2))) →
  St H0 w0 H w1 (.row e k v' (n + n2) (c1++c2)::.lb 0::A):=by
  intro v' w1 _ hS
  have hS:St H0 w0 H w1 (.row e k u n2 c2::.row e k v' (n + n2) (c1++c2)::A):=hS
  have hS:St H0 w0 H w1 (.row e k v' (n + n2) (c1++c2)::A):=hS.drop 0
  exact hS.lb0.front 1 rfl rfl
 obtain ⟨v',w1,hr,hS⟩:=h.append (P:=P) te (i:=1) (l':=fun o=>(MO.row e k u n2 c2::.row e k v n c1::A).set 1 (o.headD (.box 0 0 []))) rfl hs g3 hb (fun o=>rfl)
 have hS1:=room v' w1 hr hS
 rcases g1.2 with ⟨rfl,rfl⟩|⟨g,cap,cur,rfl,hbg,hg,hnc,hcm,hcs,htake⟩
 · have hc1:c1=[]:=by have:=g1.1;simpa using this
   subst hc1
   refine ⟨v',w1,.lb 0,hr,hS1,fun H2 w2 A2 hS2=>?_⟩
   have hS2:St H0 w0 H2 w2 (.lb 0::A2):=hS2.drop 0
   have hS2:St H0 w0 H2 w2 A2:=hS2.drop 0
   exact hS2.nil e k
 · rcases hs with ⟨ad,c,rfl,hl,hnews⟩|⟨_,rfl,_⟩
   · by_cases hroom:n + n2≤cap
     · have hfit:n * info.size + c2.length≤cur.size:=by rw [hsz,hl,hcs,← Nat.add_mul];exact Nat.mul_le_mul_right _ hroom
       have:=run_append_room (P:=P) w t 0 e info te.u hi g n cap cur hg ad n2 c c2 (by rw [hsz];exact hl) hnews g3 hroom hfit
       rw [hr 0] at this;cases this
       refine ⟨_,_,.lb 0,hr,hS1,fun H2 w2 A2 hS2=>?_⟩
       have hS2:St H0 w0 H2 w2 (.row e k (.slice (some ⟨g,0,Option.none⟩) (n + n2) cap) (n + n2) (c1++c2)::A2):=hS2.front 1 rfl rfl |>.drop 0
       refine hS2.tell (fun b hb=>hb) fun hk=>?_
       obtain ⟨⟨k1,k2⟩,k3⟩:=hk
       refine ⟨⟨g1.1,.inr ?_⟩,g2⟩
       rcases k2 with ⟨hv,_⟩|⟨g',cap',cur',hv,q1,q2,q3,q4,q5,q6⟩
       · cases hv
       · cases hv
         refine ⟨g,cap,cur',rfl,q1,q2,hnc,q4,q5,?_⟩
         have:=congrArg (List.take (n * k)) q6
         rw [List.take_take,Nat.min_eq_left (Nat.mul_le_mul_right _ (by omega))] at this
         exact this.trans (List.take_left' g1.1)
     · have holds:∀ j u,c1[j]?=some u→w.cell? ((⟨g,0,Option.none⟩:Addr).add j)=some u:=g1.cells (g:=g) rfl
       have hgr:=fun ty=>run_append_grow (P:=P) w t ty e info z te.u hi hz ⟨g,0,Option.none⟩ n cap c1 (by rw [hsz];exact g1.1) holds ad n2 c c2 (by rw [hsz];exact hl) hnews (by omega) (by simp only [maxLen] at h63;omega) (growslice_fits (by omega) hbytes)
       obtain ⟨v2,w2',hr2,hown,hgrow,_⟩:=run_append_own (P:=P) w w0.heap.size t 0 e info z k info.bytes te.u hi hz hsz rfl te.zs te.kp _ n c1 g1 ad n2 c c2 hl hnews g3 h63 hbytes h.size
       rw [hgr 0] at hr2;cases hr2
       have hd:=h.call (zaz h.sl)
       have hp:=hd.push (.row e k (.slice (some ⟨w.heap.size,0,Option.none⟩) (n + n2) (grownCap w (n + n2) cap e)) (n + n2) (c1++c2)) _ ⟨hown,fun x hx=>by
        rcases List.mem_append.1 hx with hx|hx
        · exact g2 x hx
        · exact g3 x hx⟩ (fun b hb=>by simp [MO.blk,Value.ownBlock] at hb;exact hb.symm)
       refine ⟨_,_,.row e k (.slice (some ⟨g,0,Option.none⟩) n cap) n c1,fun ty=>hgr ty,hp.front 0 rfl rfl |>.drop 1,fun H2 w2 A2 hS2=>hS2.drop 0⟩
   · exact absurd h0 (Nat.lt_irrefl 0)
def OutC (H:GH) (v:Value) (vs:List Value):Prop:=∃ a cap,v=.slice a vs.length cap∧vs.length≤maxLen∧∀ (i:Nat) x,vs[i]?=some x→∃ p,a=some p∧CAt H (p.add i) [x]
theorem OutC.le {vs:List Value} (h:OutC H v vs):vs.length≤maxLen:=let ⟨_,_,_,h2,_⟩:=h;h2
theorem drop_at {X:Type} {rs:List X} {i:Nat} (h:i < rs.length):∃ q,rs[i]?=some q∧rs.drop i=q::rs.drop (i + 1):=⟨rs[i],List.getElem?_eq_getElem h,List.drop_eq_getElem_cons h⟩
theorem OutC.ln {vs:List Value} (h:OutC H v vs):Ln v vs.length:=let ⟨a,cap,h1,_⟩:=h;⟨a,cap,h1⟩
theorem OutC.at {vs:List Value} (h:OutC H v vs) {i:Nat} {x:Value} (hx:vs[i]?=some x):∃ p,PtrOf 1 v (i:Int) p∧CAt H p [x]:=by
 obtain ⟨a,cap,rfl,h2,h3⟩:=h
 obtain ⟨p,rfl,g⟩:=h3 i x hx
 have:=(List.getElem?_eq_some_iff.1 hx).1
 exact ⟨_,⟨p,_,_,rfl,by omega,by omega,by rw [Int.toNat_natCast,Nat.mul_one]⟩,g⟩
theorem St.sealC {cs:List Value} (h:St H0 w0 H w (.row e 1 v n cs::A)):∃ H1,St H0 w0 H1 w A∧Inc H H1∧OutC H1 v cs:=by
 obtain ⟨H1,h1,h2,h3⟩:=h.sealed (i:=0) rfl
 obtain ⟨⟨k1,k2⟩,k3⟩:=h.ok 0 _ rfl
 refine ⟨H1,h1,h2,?_⟩
 have hn:n=cs.length:=by omega
 subst hn
 rcases k2 with ⟨rfl,h4⟩|⟨g,cap,cur,rfl,hg,hh,hle,hcm,hsz,htk⟩
 · have:cs=[]:=List.eq_nil_of_length_eq_zero h4
   subst this
   exact ⟨Option.none,0,rfl,Nat.zero_le _,by simp⟩
 · refine ⟨_,cap,rfl,by omega,fun i x hx=>⟨_,rfl,cur,e,(0,0),?_,?_,fun m u hu=>?_⟩⟩
   · rw [Addr.add_lit];exact h3 g _ rfl hh
   · rw [Addr.add_lit]
   · rw [Addr.add_lit]
     cases m with
     | zero =>
      simp at hu;subst hu
      rw [← htk,List.getElem?_take] at hx
      split at hx
      · simpa using hx
      · cases hx
     | succ m=>simp at hu
theorem St.swap {a b:List MO} (h:St H0 w0 H w (a++b)):St H0 w0 H w (b++a):=by
 refine h.reidx _ (fun j=>if j < b.length then a.length + j else j - b.length) (fun j o hj=>?_) (fun j j' h1 h2 he=>?_)
 · by_cases c:j < b.length
   · rw [List.getElem?_append_left c] at hj
     rw [if_pos c,List.getElem?_append_right (by omega),show a.length + j - a.length=j by omega];exact hj
   · rw [List.getElem?_append_right (by omega)] at hj
     rw [if_neg c,List.getElem?_append_left (List.getElem?_eq_some_iff.1 hj).1];exact hj
 · rw [List.length_append] at h1 h2
   split at he <;> split at he <;> omega
theorem St.cutT {a b:List MO} (h:St H0 w0 H w (a++b)):St H0 w0 H w a :=
 h.reidx _ id (fun j o hj=>by rw [id,List.getElem?_append_left (List.getElem?_eq_some_iff.1 hj).1];exact hj) (fun j j' _ _ he=>he)
theorem St.joinPool {rs:List PR} (h:St H0 w0 H w l) (g:St H w H' w' (plT e k rs [])):St H0 w0 H' w' (l++plT e k rs []):=(h.join g rfl).swap
theorem St.popP {r:PR} {rs:List PR} {a L:List MO} (h:St H0 w0 H w (a++plT e k (r::rs) L)):St H0 w0 H w (.row e k r.v r.n r.cs::(a++plT e k rs L)):=by
 refine h.front a.length (o:=.row e k r.v r.n r.cs) ?_ ?_
 · rw [List.getElem?_append_right (Nat.le_refl _),Nat.sub_self];rfl
 · rw [List.eraseIdx_append_of_length_le (Nat.le_refl _),Nat.sub_self];rfl
theorem St.pushP {r:PR} {rs:List PR} {a:List MO} (h:St H0 w0 H w (.row e k r.v r.n r.cs::(a++plT e k rs []))):St H0 w0 H w (a++plT e k (rs++[r]) []):=by
 have h:St H0 w0 H w ([MO.row e k r.v r.n r.cs]++(a++plT e k rs [])):=h
 have:=h.swap
 have e1:a++plT e k (rs++[r]) []=(a++plT e k rs [])++[MO.row e k r.v r.n r.cs]:=by simp [plT,PR.mo]
 rw [e1];exact this
theorem Pool.snoc {rs:List PR} {r:PR} {X:Type} {En:Enc X} {cs:List Value} {xss:List (List X)} {x:List X} (h:Pool G En k cs rs xss) (he:Els G En k r.cs x):Pool G En k (cs++[r.v]) (rs++[r]) (xss++[x]):=by
 refine ⟨by simp [h.len],by simp [h.cells],fun i q y h1 h2=>?_⟩
 by_cases c:i < rs.length
 · rw [List.getElem?_append_left c] at h1
   rw [List.getElem?_append_left (by rw [← h.len];exact c)] at h2
   exact h.els i q y h1 h2
 · rw [List.getElem?_append_right (by omega)] at h1
   rw [List.getElem?_append_right (by rw [← h.len];omega),← h.len] at h2
   generalize i - rs.length=m at h1 h2
   cases m with
   | zero=>simp at h1 h2;subst h1 h2;exact he
   | succ m=>simp at h1
end
end Go.Mr
namespace Go.Mr
open Go.RowKit Go.Pu
section
variable {ρ:Option Nat} {P:Program} {ops:Array Oper} {Q:Exit→Act→World→Prop} {md:Region.Mode}
end
section
variable {δ:List Nat} {P:Program} {N:Nat} {f:Fm} {w:World} {H:GH}
end
end Go.Mr
namespace Go.Mr
open Go.RowKit Go.Pu
section
variable {H:GH} {A A2:Type} {En:Enc A} {E2:Enc A2} {k k2 B lo hi:Nat} {v v2:Value} {xs:List A} {x2:List A2}
theorem New.apart (h:RSl (up B H) En k v xs) (n:New H [v2]):∀ b∈bl [v],b ∉ bl [v2]:=fun b hb hb2=>by
 have h0:=h.dom b hb
 have:=n b hb2
 unfold up at h0
 split at h0
 · exact h0 rfl
 · exact h0 (by rw [this];rfl)
end
end Go.Mr
namespace Go.Mr
open Go.RowKit Go.Pu
section
variable {H H' H2 G:GH} {A A':Type} {En:Enc A} {E':Enc A'} {k k' B:Nat} {v v':Value} {xs:List A} {ys:List A'} {c:List Value}
theorem Ap.flat2 (h0:RSl G En k v xs) (f0:FlatE En) (k0:0 < k) (h1:RSl G E' k' v' ys) (f1:FlatE E') (k1:0 < k') (hd:∀ b∈bl [v],b ∉ bl [v']) :
 ∃ c0 c1,Nest G En k v xs c0∧Nest G E' k' v' ys c1∧Ap v c0 v' c1:=by
 obtain ⟨c0,n0,e0⟩:=h0.nest f0 k0
 obtain ⟨c1,n1,e1⟩:=h1.nest f1 k1
 refine ⟨c0,c1,n0,n1,fun b h g=>?_⟩
 rw [e0] at h;rw [e1] at g
 rcases h with h|h
 · rcases g with g|g
   · exact hd b h g
   · cases g
 · cases h
theorem nd_two (h:∀ b∈bl [v],b ∉ bl [v']):(bl [v,v']).Nodup:=by
 have e:bl [v,v']=bl [v]++bl [v']:=bl_app [v] [v']
 rw [e]
 exact List.nodup_append.2 ⟨nd_one v,nd_one v',fun a ha b hb e=>h a ha (e ▸ hb)⟩
theorem New.two (h:New H [v]) (h':New H [v']):New H [v,v']:=fun b hb=>by
 have e:bl [v,v']=bl [v]++bl [v']:=bl_app [v] [v']
 rw [e] at hb
 rcases List.mem_append.1 hb with hb|hb
 · exact h b hb
 · exact h' b hb
end
end Go.Mr
namespace Go.Mr
open Go.RowKit Go.Pu
def MAt {K V:Type} (H:GH) (ek:K→Value) (en:V→Value) (v:Value) (m:List (K×V)):Prop:=∃ b o,v=.map (some b)∧H b=some o∧MapOf ek en o m
section
variable {H0 H H':GH} {w0 w:World} {l:List MO} {P:Program} {K V:Type} {ek:K→Value} {en:V→Value} {kt et t:TypeId} {o:Obj} {m:List (K×V)} {i b:Nat} {v:Value}
theorem chk_intk {k:IntKind} (h:∀ w,(underlying kt).run P w=.ok (.int k) w) (n:Nat) (e:Bool) (a:Int) (w:World):(Instr.checkKey e (n + 1) kt (.int k a)).run P w=.ok () w:=by
 simp [Instr.checkKey,h]
theorem zbc.intk {k:IntKind} (h:∀ w,(underlying kt).run P w=.ok (.int k) w):zbc P kt (Value.int k):=by
 refine ⟨⟨_,h,fun a b=>?_⟩,fun a b h=>by simpa using h,fun a=>?_,fun e a w=>chk_intk h 9999 e a w⟩
 · simp [Instr.sameNow]
 · simp [Instr.sameBits]
theorem MAt.mono (h:MAt H ek en v m) (hi:Inc H H'):MAt H' ek en v m:=by obtain ⟨b,o,h1,h2,h3⟩:=h;exact ⟨b,o,h1,hi _ _ h2,h3⟩
theorem St.sealMap (S:St H0 w0 H w l) {l':List MO} (hi:l[i]?=some (.raw b o)) (hm:MapOf ek en o m) (hl:l.eraseIdx i=l') :
 ∃ H',St H0 w0 H' w l'∧Inc H H'∧MAt H' ek en (.map (some b)) m:=by
 subst hl
 have hb:=S.rawAt hi
 obtain ⟨H',h1,h2,h3⟩:=S.sealedS hi (fun b' ob e1 e2=>by
  obtain ⟨es,c,rfl,_⟩:=hm
  simp only [MO.blk,Option.some.injEq] at e1;subst e1
  rw [hb] at e2;cases e2;rfl)
 exact ⟨H',h1,h2,b,o,rfl,h3 b o rfl hb,hm⟩
theorem MAt.getOk [BEq K] (h:MAt H ek en v m) (hs:Sl H w) (ht:∀ w,(underlying t).run P w=.ok (.map kt et) w) (kn:zbc P kt ek) {z:V} (hz:∀ w,(zeroValue et).run P w=.ok (en z) w) (k:K) :
 (Instr.lookup t v (ek k) true).run P w=.ok (.tuple #[en ((mget m k).getD z),.bool (mget m k).isSome]) w:=by
 obtain ⟨b,o,rfl,hb0,es,c,rfl,he⟩:=h
 have hb:=hs _ _ hb0
 obtain ⟨kd,h1,h2⟩:=kn.kd
 have hf:=zc6 h2 k es.toList m 0 he
 rw [mget_find]
 cases hq:mfind m k with
 | none=>rw [hq] at hf;simp [Instr.lookup,ht,getObj,Sem.run,hb,kn.chk,Instr.findKey,h1,hf,hz]
 | some z=>rw [hq] at hf;simp [Instr.lookup,ht,getObj,Sem.run,hb,kn.chk,Instr.findKey,h1,hf]
end
end Go.Mr
