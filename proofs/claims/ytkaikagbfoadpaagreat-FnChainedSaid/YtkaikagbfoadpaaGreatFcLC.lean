/- Helpers of the walks and plain laws. -/
import Derived.Test.YtkaikagbfoadpaaGreatFcLB
import Derived.Shelf.SlSortCmp.Kit1
import Derived.Sort.LotA
import Derived.Lib.SlicesCompact
import Derived.Shelf.SlicesE.Compact
import Derived.Ground.SlgnProg
import Derived.Shelf.Sort.Plain
import Derived.Shelf.Slices.In.SortNone
import Derived.RangeFuncRecord
import Derived.Shelf.SlicesE.Delete
import Derived.Test.YtkaikagbfoadpaaGreatFcLA
import Derived.Laws.StructEq
import Derived.KernelRfl
import Derived.Lib.AppendZerosOnto
import Derived.Shelf.Strconv.Itoa3
import Derived.Lib.ItoaLen
import Derived.Laws.Slices
import Derived.ChangeKeysEq
set_option linter.unusedVariables false
namespace Go.Mr
open Go.RowKit Go.Pu Go.Sort
open Go.Proofs (OneCell CmpLays1 sortWorld ltOf)
section
variable {P:Program} {w w':World} {H0 H H':GH} {w0:World} {l:List MO} {e n:Nat} {v:Value} {A:Type} {En:Enc A}
def El1 {A:Type} (En:Enc A) (H:GH) (xs:List A):Type:={ p:Value×A // En.rel H [p.1] p.2∧p.2∈xs }
def El1.enc {H:GH} {xs:List A} (p:El1 En H xs):Value:=p.1.1
def El1.x {H:GH} {xs:List A} (p:El1 En H xs):A:=p.1.2
theorem El1.oneCell {H:GH} {xs:List A}:OneCell (El1.enc (En:=En) (H:=H) (xs:=xs)):=fun p=>Enc.one1 p.2.1
theorem els1_arr {H:GH} {cells:List Value} {xs:List A} (h:Els H En 1 cells xs) (ys:List A) (hs:∀ x∈xs,x∈ys):∃ d:List (El1 En H ys),d.map El1.enc=cells∧d.map El1.x=xs:=by
 induction h with
 | nil=>exact ⟨[],rfl,rfl⟩
 | snoc hp hc hx ih =>
  rename_i cells xs c x
  obtain ⟨d,h1,h2⟩:=ih (fun y hy=>hs y (by simp [hy]))
  match c,hc,hx with
  | [c0],_,hx=>exact ⟨d++[⟨(c0,x),hx,hs x (by simp)⟩],by rw [List.map_append,h1];rfl,by rw [List.map_append,h2];rfl⟩
theorem els1_of {H:GH} {ys:List A} (d:List (El1 En H ys)):Els H En 1 (d.map El1.enc) (d.map El1.x):=by
 rw [← List.reverse_reverse d]
 generalize d.reverse=d
 induction d with
 | nil=>exact .nil
 | cons p d ih=>rw [List.reverse_cons,List.map_append,List.map_append];exact .snoc ih rfl p.2.1
theorem heap_sorted1 {α:Type} [Inhabited α] {enc:α→Value} {w:World} {g m:Nat} {os:Array Obj} {cur:Array Value} {e:TypeId} {fr:Nat×Nat} (d:Array α) (hb:w.heap[g]?=some (.cells cur e fr)) :
 (sortWorld enc w g 0 m d os).heap[g]?=some (.cells (putCells enc 0 d cur) e fr):=by
 have hg:g < w.heap.size:=(Array.getElem?_eq_some_iff.1 hb).1
 unfold sortWorld
 rw [heap_grow_old _ _ (by simpa using hg)]
 simp [putRow,mapBlock,Sort.ahead,Array.getElem?_modify,hb,onCells]
theorem zd4 {α:Type} [Inhabited α] {enc:α→Value} {w:World} {g m:Nat} {os:Array Obj} (d:Array α):w.grownBy (sortWorld enc w g 0 m d os) (some g):=by
 unfold sortWorld
 refine ⟨rfl,rfl,rfl,by simp,fun k hk hne=>?_⟩
 rw [heap_grow_old _ _ (by simpa using hk)]
 have:g≠k:=fun e=>hne (by rw [e])
 simp [putRow,mapBlock,Sort.ahead,Array.getElem?_modify,this]
theorem take_putCells1 {α:Type} [Inhabited α] {enc:α→Value} (cur:Array Value) (ts:List α) (n:Nat) (hn:n≤ts.length) (h:ts.length≤cur.size):(putCells enc 0 ts.toArray cur).toList.take n=(ts.take n).map enc:=by
 apply List.ext_getElem?
 intro j
 by_cases hj:j < n
 · rw [List.getElem?_take_of_lt hj,Array.getElem?_toList]
   simp [putCells,hj,show j < cur.size by omega,show j < ts.length by omega]
 · rw [List.getElem?_take_eq_none (by omega),List.getElem?_eq_none (by simp;omega)]
theorem St.turned (h:St H0 w0 H w l) {i g cap m n':Nat} {cells:List Value} (hi:l[i]?=some (.row e 1 (.slice (some ⟨g,0,Option.none⟩) n cap) n cells)) {α:Type} [Inhabited α] {enc:α→Value} (h1:OneCell enc) (d:List α) (os:Array Obj)
 (hn:n'≤d.length) (hd:d.length≤n) :
 St H0 w0 H (sortWorld enc w g 0 m d.toArray os) (l.set i (.row e 1 (.slice (some ⟨g,0,Option.none⟩) n' cap) n' ((d.take n').map enc))):=by
 obtain ⟨⟨k1,k2⟩,k3⟩:=h.ok i _ hi
 rcases k2 with ⟨h3,_⟩|⟨g',cap',cur,hv,hg,hh,hle,hcm,hsz,htk⟩
 · cases h3
 cases hv
 refine h.upd hi (zd4 _) (by unfold sortWorld;simp [Sort.ahead,Go.Sort.grow]) ⟨⟨by simp;omega,.inr ⟨g,cap,_,rfl,hg,heap_sorted1 _ hh,by omega,hcm,by simp [putCells,hsz],?_⟩⟩,?_⟩ (fun b hb=>.inl hb)
 · rw [Nat.mul_one];exact take_putCells1 cur d n' hn (by omega)
 · intro u hu
   obtain ⟨y,_,rfl⟩:=List.mem_map.1 hu
   exact h1 y
theorem St.holds1 (h:St H0 w0 H w l) {i g cap:Nat} {cells:List Value} (hi:l[i]?=some (.row e 1 (.slice (some ⟨g,0,Option.none⟩) n cap) n cells)) {α:Type} [Inhabited α] {enc:α→Value} (d:List α) (hd:d.map enc=cells) :
 Holds enc w g 0 d.toArray∧g < w.heap.size∧d.length=n∧n≤cap∧cap≤maxLen:=by
 obtain ⟨⟨k1,k2⟩,k3⟩:=h.ok i _ hi
 rcases k2 with ⟨h3,_⟩|⟨g',cap',cur,hv,hg,hh,hle,hcm,hsz,htk⟩
 · cases h3
 cases hv
 have hl:d.length=n:=by rw [← hd] at k1;simpa using k1
 refine ⟨fun j hj=>?_,(Array.getElem?_eq_some_iff.1 hh).1,hl,hle,hcm⟩
 simp only [List.size_toArray] at hj
 have hc:cells[j]?=some (enc d[j]):=by rw [← hd];simp [hj]
 rw [Nat.zero_add]
 constructor
 · rw [cell_of_row w g _ _ _ _ hh]
   rw [← htk,List.getElem?_take] at hc
   split at hc
   · simpa [hj] using hc
   · cases hc
 · simp [World.frozen?,hh]
theorem St.sl_sorted (h:St H0 w0 H w l) {i g cap m:Nat} {cells:List Value} (hi:l[i]?=some (.row e 1 (.slice (some ⟨g,0,Option.none⟩) n cap) n cells)) {α:Type} [Inhabited α] {enc:α→Value} (d:Array α) (os:Array Obj) :
 Sl H (sortWorld enc w g 0 m d os):=fun b ob hb=>by
 have hw:=h.sl b ob hb
 have hne:some b≠some g:=fun e=>by cases e;rw [h.out i _ g hi rfl] at hb;cases hb
 rw [(zd4 (os:=os) (m:=m) d).block b (Array.getElem?_eq_some_iff.1 hw).1 hne];exact hw
theorem Run.grown {B:Nat} (hr:Run B H w H' w') (hB:B=w.heap.size):∃ q os',w'=grow (w.drewN q) os':=by
 obtain ⟨hb,_,_,_,hd⟩:=hr
 refine ⟨w'.drawn - w.drawn,w'.heap.extract w.heap.size w'.heap.size,?_⟩
 have h1:w'.heap=w.heap++w'.heap.extract w.heap.size w'.heap.size:=by
  apply Array.ext_getElem?
  intro k
  by_cases hk:k < w.heap.size
  · rw [hb.block k (by omega),Array.getElem?_append_left hk]
  · rw [Array.getElem?_append_right (by omega),Array.getElem?_extract]
    split
    · congr 1;omega
    · rw [Array.getElem?_eq_none (by omega)]
 have h2:w.drawn + (w'.drawn - w.drawn)=w'.drawn:=by omega
 cases w;cases w'
 have:=hb.os;have:=hb.tape;have:=hb.output
 simp only [Go.Sort.grow,World.drewN] at *
 subst_vars
 simp only [World.mk.injEq,and_true]
 exact ⟨h1,trivial,h2.symm⟩
theorem keeps_append {A:Type} [DecidableEq A] [Inhabited A] (xs:List A) (y:A) (j:Nat) (hj:j < xs.length):Go.Lib.keeps (xs++[y]).toArray j=Go.Lib.keeps xs.toArray j:=by
 have h1:(xs++[y]).toArray[j]! = xs.toArray[j]! := by
  rw [getElem!_pos _ j (by simp;omega),getElem!_pos _ j (by simpa using hj)];simp [List.getElem_append_left hj]
 have h2:(xs++[y]).toArray[j - 1]! = xs.toArray[j - 1]! := by
  rw [getElem!_pos _ (j - 1) (by simp;omega),getElem!_pos _ (j - 1) (by simp;omega)];simp [List.getElem_append_left (show j - 1 < xs.length by omega)]
 simp only [Go.Lib.keeps,h1,h2]
theorem compactUpTo_append {A:Type} [DecidableEq A] [Inhabited A] (xs:List A) (y:A) (m:Nat) (hm:m≤xs.length):Go.Lib.compactUpTo (xs++[y]).toArray m=Go.Lib.compactUpTo xs.toArray m:=by
 induction m with
 | zero=>rfl
 | succ m ih =>
  rw [Go.Lib.compactUpTo_succ,Go.Lib.compactUpTo_succ,ih (by omega),keeps_append xs y m (by omega)]
  have h1:(xs++[y]).toArray[m]! = xs.toArray[m]! := by
   rw [getElem!_pos _ m (by simp;omega),getElem!_pos _ m (by simp;omega)];simp [List.getElem_append_left (show m < xs.length by omega)]
  rw [h1]
theorem compactL_snoc {A:Type} [DecidableEq A]:∀ (xs:List A) (y:A),zat (xs++[y])=if xs.getLast?=some y then zat xs else zat xs++[y]
 | [],y=>by simp [zat]
 | [x],y=>by
  by_cases h:x=y
  · subst h;simp [zat]
  · simp [zat,h]
 | x::x'::xs,y=>by
  have ih:=compactL_snoc (x'::xs) y
  simp only [List.cons_append] at ih
  by_cases h:x=x'
  · simp only [List.cons_append,zat,h,if_true]
    rw [ih];simp [List.getLast?_cons_cons]
  · simp only [List.cons_append,zat,h,if_false]
    rw [ih]
    simp only [List.getLast?_cons_cons]
    split <;> simp
theorem compactL_eq {A:Type} [DecidableEq A] [Inhabited A] (xs:List A):Go.Lib.compactUpTo xs.toArray xs.length=zat xs:=by
 rw [← List.reverse_reverse xs]
 generalize xs.reverse=ys
 induction ys with
 | nil=>rfl
 | cons y ys ih =>
  rw [List.reverse_cons]
  generalize ys.reverse=xs at ih ⊢
  rw [compactL_snoc,List.length_append,List.length_singleton,Go.Lib.compactUpTo_succ,compactUpTo_append xs y _ (Nat.le_refl _),ih]
  have hy:(xs++[y]).toArray[xs.length]! = y:=by rw [getElem!_pos _ _ (by simp)];simp
  rw [hy]
  rcases Nat.eq_zero_or_pos xs.length with h0|h0
  · have:xs=[]:=List.eq_nil_of_length_eq_zero h0
    subst this;simp [Go.Lib.keeps]
  · have hp:(xs++[y]).toArray[xs.length - 1]! = xs[xs.length - 1]:=by rw [getElem!_pos _ _ (by simp;omega)];simp [List.getElem_append_left (show xs.length - 1 < xs.length by omega)]
    have hg:xs.getLast?=some xs[xs.length - 1]:=by rw [List.getLast?_eq_getElem?,List.getElem?_eq_getElem]
    simp only [Go.Lib.keeps,hy,hp,hg,Option.some.injEq]
    by_cases h:xs[xs.length - 1]=y
    · have:¬ xs.length=0:=by omega
      simp [h,this]
    · have:¬ y=xs[xs.length - 1]:=fun e=>h e.symm
      simp [h,this]
theorem compactL_le {A:Type} [DecidableEq A]:∀ (xs:List A),(zat xs).length≤xs.length
 | []=>by simp [zat]
 | [x]=>by simp [zat]
 | x::x'::xs=>by
  have ih:=compactL_le (x'::xs)
  by_cases h:x=x'
  · simp only [zat,h,if_true];simp at ih ⊢;omega
  · simp only [zat,h,if_false];simp at ih ⊢;omega
theorem sortF_some {f:A→A→Option Int} {xs r:List A} (h:sortF f xs=some r):(∃ cf,SortOk f xs cf)∧r=xs.mergeSort (leF f):=by
 unfold sortF at h
 split at h
 · rename_i hh;cases h;exact ⟨hh,rfl⟩
 · cases h
theorem St.sortF {G:GH} (hG:Inc G H) (h:St H0 w0 H w l) {i:Nat} {cells:List Value} (hi:l[i]?=some (.row e 1 v n cells)) {xs r:List A} (he:Els G En 1 cells xs) {fv:Value} {f:A→A→Option Int} {fid:Nat}
 (hf:∀ (H2:GH) (w2:World),Inc H H2→Sl H2 w2→∀ c x,En.rel H2 [c] x→∀ d y,En.rel H2 [d] y→∀ r,f x y=some r→∃ fi cs,fv=.func (.func fi) #[] cs∧(∀ args w,(callFunc fi args).run P w=.ok (.enter fi args) w)∧Calls P fi (#[c,d]++cs) w2 (Sc H2 w2 (.int .i64 r)))
 (k0:∀ (p:Option Addr) (cap:Nat) (fv:Value) (w:World),Calls P fid #[.slice p 0 cap,fv] w fun e w'=>e=.returned (.tuple #[])∧w'=w)
 (k1:∀ (α:Type) [Inhabited α] (enc:α→Value) (_:OneCell enc) (cf:α→α→Int) (_:SWO (ltOf cf)) (g:Nat) (cb:Array Value) (blk off cap:Nat) (d:Array α) (w:World)
  (_:∀ args w,(callFunc g args).run P w=.ok (.enter g args) w) (_:CmpLays1 P g cb enc cf blk off d.size w) (_:Holds enc w blk off d) (_:blk < w.heap.size) (_:d.size < 4611686018427387904),
  Calls P fid #[.slice (some ⟨blk,off,Option.none⟩) d.size cap,.func (.func g) #[] cb] w fun e w'=>e=.returned (.tuple #[])∧∃ d' n os,PermIn 0 d.size d d'∧SortedIn (ltOf cf) 0 d.size d'∧w'=sortWorld enc w blk off n d' os)
 (hr:Pu.sortF f xs=some r) :
 Calls P fid #[v,fv] w fun e' w'=>e'=.returned (.tuple #[])∧∃ cells',St H0 w0 H w' (l.set i (.row e 1 v n cells'))∧Els G En 1 cells' r∧cells'.Perm cells:=by
 obtain ⟨⟨cf,hlim,hc,hirr,htr,hntr,hanti⟩,rfl⟩:=sortF_some hr
 obtain ⟨⟨g1,g2⟩,g3⟩:=h.ok i _ hi
 have hlen:=he.length
 have hset:l.set i (.row e 1 v n cells)=l:=by
  apply List.ext_getElem?
  intro j
  rw [List.getElem?_set]
  split
  · rename_i hij;subst hij;rw [hi];simp [(List.getElem?_eq_some_iff.1 hi).1]
  · rfl
 rcases g2 with ⟨rfl,rfl⟩|⟨g,cap,cur,rfl,hg,hh,hle,hcm,hsz,htk⟩
 · have:xs=[]:=by rw [g1] at hlen;apply List.eq_nil_of_length_eq_zero;omega
   subst this
   refine (k0 Option.none 0 fv w).mono ?_
   rintro _ _ ⟨rfl,rfl⟩
   exact ⟨rfl,cells,by rw [hset];exact h,by simpa using he,List.Perm.refl _⟩
 · match xs,he,hlen,hlim,hc,hirr,htr,hntr,hanti with
   | [],he,hlen,_,_,_,_,_,_ =>
    have:n=0:=by rw [g1] at hlen;simpa using hlen
    subst this
    refine (k0 (some ⟨g,0,Option.none⟩) cap fv w).mono ?_
    rintro _ _ ⟨rfl,rfl⟩
    exact ⟨rfl,cells,by rw [hset];exact h,by simpa using he,List.Perm.refl _⟩
   | x0::xs0,he,hlen,hlim,hc,hirr,htr,hntr,hanti =>
    generalize hxs:x0::xs0=xs at *
    obtain ⟨d,hd1,hd2⟩:=els1_arr he xs (fun _ hx=>hx)
    have hx0:xs[0]?=some x0:=by rw [← hxs];rfl
    obtain ⟨c0,hc0,hr0⟩:=els1_some he hx0
    have hx0m:x0∈xs:=by rw [← hxs];simp
    haveI:Inhabited (El1 En G xs):=⟨⟨(c0,x0),hr0,hx0m⟩⟩
    obtain ⟨fi,cs,rfl,heg,_⟩:=hf H w (Inc.rfl H) h.sl c0 x0 (En.mono hG hr0) c0 x0 (En.mono hG hr0) _ (hc x0 hx0m x0 hx0m)
    obtain ⟨hH,hblk,hdl,hcap,hcm2⟩:=h.holds1 hi d hd1
    let cf':El1 En G xs→El1 En G xs→Int:=fun p q=>cf p.x q.x
    have hlt:∀ p q,ltOf cf' p q=decide (cf p.x q.x < 0):=fun p q=>rfl
    have hO:SWO (ltOf cf'):=⟨fun p=>by rw [hlt,decide_eq_false_iff_not];exact hirr _ p.2.2,
     fun p q s a b=>by rw [hlt,decide_eq_true_eq] at *;exact htr _ p.2.2 _ q.2.2 _ s.2.2 a b,
     fun p q s a b=>by rw [hlt,decide_eq_false_iff_not] at *;exact hntr _ p.2.2 _ q.2.2 _ s.2.2 a b⟩
    have hcmp:CmpLays1 P fi cs El1.enc cf' g 0 d.toArray.size w:=fun m os dk hs p q=>by
     have hsl:=h.sl_sorted hi (enc:=El1.enc) (m:=m) dk os
     obtain ⟨fi',cs',hfv,_,hcall⟩:=hf H _ (Inc.rfl H) hsl _ _ (En.mono hG p.2.1) _ _ (En.mono hG q.2.1) _ (hc _ p.2.2 _ q.2.2)
     cases hfv
     refine hcall.mono ?_
     rintro _ W' ⟨rfl,hrun⟩
     exact ⟨rfl,hrun.grown rfl⟩
    have hK:=k1 _ El1.enc El1.oneCell cf' hO fi cs g 0 cap d.toArray w heg hcmp hH hblk (by have hdx:=congrArg List.length hd2;simp only [List.length_map] at hdx;simp only [lim] at hlim;simp only [List.size_toArray];omega)
    simp only [List.size_toArray,hdl] at hK
    refine hK.mono ?_
    rintro _ _ ⟨rfl,d',m,os,hp,hso,rfl⟩
    have hd'l:d'.size=n:=by rw [hp.1];simp [hdl]
    have hT:=h.turned (m:=m) (n':=n) hi El1.oneCell d'.toList os (by simp [hd'l]) (by simp [hd'l])
    have hpm:d'.toList.Perm d:=by
     have:=hp.2.2
     rw [show (n:Nat)=d'.size from hd'l.symm] at this
     rw [Array.extract_size,hd'l] at this
     rw [show n=d.toArray.size by simp [hdl]] at this
     rw [Array.extract_size] at this
     simpa using this
    refine ⟨rfl,_,by simpa using hT,?_,by rw [List.take_of_length_le (by simp [hd'l]),← hd1];exact hpm.map El1.enc⟩
    have hE:Els G En 1 (d'.toList.map El1.enc) (d'.toList.map El1.x):=els1_of _
    rw [List.take_of_length_le (by simp [hd'l])]
    have:d'.toList.map El1.x=xs.mergeSort (leF f):=by
     have hpx:(d'.toList.map El1.x).Perm xs:=(hpm.map El1.x).trans (by rw [hd2])
     have hmem:∀ y∈d'.toList.map El1.x,y∈xs:=fun y hy=>hpx.mem_iff.1 hy
     have hms:(xs.mergeSort (leF f)).Perm xs:=List.mergeSort_perm _ _
     have hle:∀ x∈xs,∀ y∈xs,leF f x y = !decide (cf y x < 0):=fun x hx y hy=>by simp [leF,hc y hy x hx]
     refine List.Perm.eq_of_pairwise (le:=fun x y=>x∈xs∧y∈xs∧leF f x y=true) ?_ ?_ ?_ (hpx.trans hms.symm)
     · intro a b _ _ h1 h2
       obtain ⟨ha,hb,h1⟩:=h1
       obtain ⟨_,_,h2⟩:=h2
       rw [hle _ ha _ hb] at h1
       rw [hle _ hb _ ha] at h2
       simp only [Bool.not_eq_true',decide_eq_false_iff_not] at h1 h2
       exact hanti a ha b hb h2 h1
     · rw [List.pairwise_iff_getElem]
       intro a b ha hb hab
       refine ⟨hmem _ (List.getElem_mem _),hmem _ (List.getElem_mem _),?_⟩
       rw [hle _ (hmem _ (List.getElem_mem _)) _ (hmem _ (List.getElem_mem _))]
       simp only [List.length_map,Array.length_toList] at ha hb
       have:=hso a b (Nat.zero_le _) hab (by omega)
       rw [hlt,getElem!_pos d' b (by omega),getElem!_pos d' a (by omega)] at this
       simpa using this
     · have hpw:(xs.mergeSort (leF f)).Pairwise fun x y=>leF f x y=true:=by
        let le':El1 En G xs→El1 En G xs→Bool:=fun p q => !decide (cf q.x p.x < 0)
        have hm:=List.map_mergeSort (r:=le') (s:=leF f) (f:=El1.x) (l:=d) (fun a _ b _=>(hle _ a.2.2 _ b.2.2).symm)
        rw [hd2] at hm
        rw [← hm,List.pairwise_map]
        have hs':=List.pairwise_mergeSort (le:=le') ?_ ?_ d
        · refine hs'.imp ?_
          intro a b hab
          exact (hle a.x a.2.2 b.x b.2.2).trans hab
        · intro a b c h1 h2
          simp only [le',Bool.not_eq_true',decide_eq_false_iff_not] at h1 h2 ⊢
          exact hntr _ c.2.2 _ b.2.2 _ a.2.2 h2 h1
        · intro a b
          simp only [le',Bool.or_eq_true,Bool.not_eq_true',decide_eq_false_iff_not]
          by_cases h1:cf b.x a.x < 0
          · right
            intro h2
            exact hirr _ b.2.2 (htr _ b.2.2 _ a.2.2 _ b.2.2 h1 h2)
          · exact .inl h1
       rw [List.pairwise_iff_getElem] at hpw ⊢
       intro a b ha hb hab
       exact ⟨hms.mem_iff.1 (List.getElem_mem _),hms.mem_iff.1 (List.getElem_mem _),hpw a b ha hb hab⟩
    rw [← this]
    exact hE
theorem St.compactF {G:GH} [DecidableEq A] [Inhabited A] (h:St H0 w0 H w l) {i:Nat} {cells:List Value} (hi:l[i]?=some (.row e 1 v n cells)) {xs:List A} (he:Els G En 1 cells xs) {fid:Nat} {enc:A→Value} (h1:OneCell enc)
 (henc:∀ (H:GH) c x,En.rel H [c] x→c=enc x) (hrel:∀ (H:GH) x,En.rel H [enc x] x) (z:A)
 (k0:∀ (w:World),Calls P fid #[.slice Option.none 0 0] w fun e w'=>e=.returned (.slice Option.none 0 0)∧w'=w)
 (k1:∀ (blk off cap:Nat) (d:Array A) (w:World) (_:Holds enc w blk off d) (_:d.size≤9223372036854775807) (_:d.size≤cap),
  Calls P fid #[.slice (some ⟨blk,off,Option.none⟩) d.size cap] w fun e w'=>e=.returned (.slice (some ⟨blk,off,Option.none⟩) (Go.Lib.compactUpTo d d.size).length cap) ∧
   ∃ q,w'=Go.Sort.putRow enc (Sort.ahead w q) blk off (Go.Lib.compactUpTo d d.size++List.replicate (d.size - (Go.Lib.compactUpTo d d.size).length) z).toArray) :
 Calls P fid #[v] w fun e' w'=>∃ v' n' cells',e'=.returned v'∧St H0 w0 H w' (l.set i (.row e 1 v' n' cells'))∧Els G En 1 cells' (zat xs):=by
 obtain ⟨⟨g1,g2⟩,g3⟩:=h.ok i _ hi
 have hlen:=he.length
 have hset:l.set i (.row e 1 v n cells)=l:=by
  apply List.ext_getElem?
  intro j
  rw [List.getElem?_set]
  split
  · rename_i hij;subst hij;rw [hi];simp [(List.getElem?_eq_some_iff.1 hi).1]
  · rfl
 rcases g2 with ⟨rfl,rfl⟩|⟨g,cap,cur,rfl,hg,hh,hle,hcm,hsz,htk⟩
 · have:xs=[]:=by rw [g1] at hlen;apply List.eq_nil_of_length_eq_zero;omega
   subst this
   refine (k0 w).mono ?_
   rintro _ _ ⟨rfl,rfl⟩
   exact ⟨_,_,cells,rfl,by rw [hset];exact h,by simpa [zat] using he⟩
 · have hcells:xs.map enc=cells:=by
    clear hi g1 g3 hset htk hlen
    induction he with
    | nil=>rfl
    | snoc hp hc hx ih =>
     rename_i cells xs c x
     match c,hc,hx with
     | [c0],_,hx=>rw [List.map_append,ih,henc _ _ _ hx];rfl
   obtain ⟨hH,hblk,hdl,hcap,hcm2⟩:=h.holds1 hi xs hcells
   have hK:=k1 g 0 cap xs.toArray w hH (by simp [hdl];simp only [maxLen] at hcm;omega) (by simp [hdl];omega)
   simp only [List.size_toArray,hdl] at hK
   have hcl:Go.Lib.compactUpTo xs.toArray n=zat xs:=by rw [← hdl];exact compactL_eq xs
   rw [hcl] at hK
   refine hK.mono ?_
   rintro _ _ ⟨rfl,q,rfl⟩
   have hcle:(zat xs).length≤n:=by rw [← hdl];exact compactL_le xs
   have hT:=h.turned (m:=q) (n':=(zat xs).length) hi h1 (zat xs++List.replicate (n - (zat xs).length) z) #[] (by simp) (by simp;omega)
   unfold sortWorld at hT
   rw [grow_empty,List.take_left'  rfl] at hT
   refine ⟨_,_,_,rfl,hT,?_⟩
   generalize zat xs=ys
   rw [← List.reverse_reverse ys]
   generalize ys.reverse=ys
   induction ys with
   | nil=>exact .nil
   | cons y ys ih=>rw [List.reverse_cons,List.map_append];exact .snoc ih rfl (hrel _ _)
end
end Go.Mr
namespace Go.Proofs
open Go.Shelf Go.RowKit Go.Lib Go.Sort
theorem compact_none {P:Program} {ρ:Ren} (L:SlLaysE.n43 P ρ) (w:World) :
 Calls P (ρ.f 43) #[.slice none 0 0] w fun e w'=>e=.returned (.slice none 0 0)∧w'=w:=by
 have mixed:=L.mixed;have t0:=L.t0;have a0:=L.a0;have z0:=L.z0;have v0:=L.v0;have t3:=L.t3;have a3:=L.a3;have z3:=L.z3;have v3:=L.v3;have t4:=L.t4;have a4:=L.a4;have z4:=L.z4;have v4:=L.v4;have t22:=L.t22;have a22:=L.a22;have z22:=L.z22;have v22:=L.v22;have a23:=L.a23;have z23:=L.z23
 obtain ⟨_,_,FG⟩:=L.f43
 go_enter FG,SlBodyN.n43_ntmps ρ
 go_wp2
 go_ret
 exact ⟨rfl,rfl⟩
end Go.Proofs
namespace Go.Mr
open Go.RowKit Go.Pu
section
variable {P:Program} {w w':World} {H0 H Hs:GH} {w0:World} {l l0 T:List MO} {N:Nat} {f:Fm}
variable {J:List MO→World→Prop}
@[reducible] def iterPost (K:Nat→World→Prop) (Kx:World→Prop) (n:Nat):Ending→World→Prop:=fun e W'=>(∃ v,e=.returned v)∧(K n W'∨Kx W')
@[reducible] def rndQ {S X:Type} (id:Nat) (J:List MO→S→World→Prop) (E:List MO→X→World→Prop) (T:List MO) (o:Lp S X):FQ:=fun e _ W =>
 match o with
 | .nx s=>e=.normal∧J T s W
 | .bk s=>e=.exit id∧J T s W
 | .rt x=>e=.ret∧E T x W
end
end Go.Mr
namespace Go.Mr
open Go.RowKit Go.Pu Go.Shelf Go.Sort
section
variable {P:Program} {H0 H:GH} {w0 w:World} {l:List MO} {e n:Nat} {v:Value} {A:Type} {En:Enc A}
abbrev OC:={ v:Value // v.oneCell'=true }
instance:Inhabited OC:=⟨⟨.int .i64 0,rfl⟩⟩
variable {f:Fm} {d:Option Tmp} {ty:TypeId} {pos:String} {aft:Array Edge} {gd:Option (Nat×Bool)} {x:Operand} {k:Nat} {z:Value}
theorem PtrOf.uniq {i:Int} {p q:Addr} (h1:PtrOf k v i p) (h2:PtrOf k v i q):p=q:=by
 obtain ⟨a,m,c,rfl,_,_,rfl⟩:=h1
 obtain ⟨a',m',c',hv,_,_,rfl⟩:=h2
 cases hv;rfl
end
end Go.Mr
namespace Go.Mr
open Go.RowKit Go.Pu
section
variable {P:Program} {f:Fm} {w:World} {d:Option Tmp} {ty:TypeId} {pos:String} {aft:Array Edge} {gd:Option (Nat×Bool)} {x y:Operand}
variable {k yk:IntKind} {a b:Int} {t t':TypeId}
theorem wrk_eq (k:IntKind) (n:Int):k.wrap n=wrk k.signed k.bits n:=rfl
theorem E.addK (hx:ev f x=.int k a) (hy:ev f y=.int k b):(execOp (ev f) ⟨d,.binOp .add t x y t',ty,pos,aft,gd⟩).run P w=.ok (.value (.int k (wrk k.signed k.bits (a + b)))) w:=by
 simp [execOp,eqGuard,binOp,hx,hy,Op.intArith,wrk_eq]
theorem E.subK (hx:ev f x=.int k a) (hy:ev f y=.int k b):(execOp (ev f) ⟨d,.binOp .sub t x y t',ty,pos,aft,gd⟩).run P w=.ok (.value (.int k (wrk k.signed k.bits (a - b)))) w:=by
 simp [execOp,eqGuard,binOp,hx,hy,Op.intArith,wrk_eq]
theorem E.mulK (hx:ev f x=.int k a) (hy:ev f y=.int k b):(execOp (ev f) ⟨d,.binOp .mul t x y t',ty,pos,aft,gd⟩).run P w=.ok (.value (.int k (wrk k.signed k.bits (a * b)))) w:=by
 simp [execOp,eqGuard,binOp,hx,hy,Op.intArith,wrk_eq]
theorem E.and (hx:ev f x=.int k a) (hy:ev f y=.int k b):(execOp (ev f) ⟨d,.binOp .and t x y t',ty,pos,aft,gd⟩).run P w=.ok (.value (.int k (andK k.signed k.bits a b))) w:=by
 simp [execOp,eqGuard,binOp,hx,hy,Op.intBits,andK,wrk_eq]
theorem E.shr (hx:ev f x=.int k a) (hy:ev f y=.int yk b) (hb:¬ b < 0):(execOp (ev f) ⟨d,.binOp .shr t x y t',ty,pos,aft,gd⟩).run P w=.ok (.value (.int k (shrK k.bits a b))) w:=by
 simp [execOp,eqGuard,binOp,hx,hy,Op.shift,shrK,hb]
theorem E.nilCheck {p:Addr} (hx:ev f x=.pointer (some p)):(execOp (ev f) ⟨d,.nilCheck x,ty,pos,aft,gd⟩).run P w=.ok (.value (.pointer (some p))) w:=by simp [execOp,hx]
theorem E.conv {s:TypeDesc} (hs:∀ w,(underlying t).run P w=.ok s w) (ht:∀ w,(underlying t').run P w=.ok (.int k) w) (hx:ev f x=.int yk a) :
 (execOp (ev f) ⟨d,.convert t t' x,ty,pos,aft,gd⟩).run P w=.ok (.value (.int k (wrk k.signed k.bits a))) w:=by
 simp [execOp,convert,hs,ht,hx,Conv.intToInt,wrk_eq]
end
end Go.Mr
namespace Go.Mr
open Go.RowKit Go.Pu
@[reducible] def OP {α:Type} (R:Addr→α→Prop) (v:Value) (x:Option α):Prop:=match x with|none=>v=.pointer none|some y=>∃ q,v=.pointer (some q)∧R q y
def SX (H0:GH) (w0:World) (Hr:GH) (l0:List MO) (w:World):Prop:=∃ H,St H0 w0 H w l0∧Inc Hr H
section
variable {H0 Hr H:GH} {w0 w:World} {l0 l:List MO} {e k n:Nat} {v:Value}
theorem SX.sl (h:SX H0 w0 Hr l0 w):Sl Hr w:=let ⟨_,s,i⟩:=h;Sl.of_inc i s.sl
theorem SX.box_now (h:SX H0 w0 Hr l0 w) {i b t:Nat} {cs:List Value} (hi:l0[i]?=some (.box b t cs)):WAt w ⟨b,0,Option.none⟩ cs:=let ⟨_,s,_⟩:=h;s.box_now hi
theorem SX.use {Q:Prop} (h:SX H0 w0 Hr l0 w) (f:∀ H,St H0 w0 H w l0→Q):Q:=let ⟨_,s,_⟩:=h;f _ s
theorem St.row_atA {α:Type} {G:GH} {En:Enc α} {cells:List Value} {xs:List α} (h:St H0 w0 H w l) {i:Nat} (hi:l[i]?=some (.row e k v n cells)) (he:Els G En k cells xs) (hk:0 < k)
 {j:Int} {x:α} (hx:ix xs j=some x):∃ p c,PtrOf k v j p∧c.length=k∧WAt w p c∧En.rel G c x∧∀ (H':GH) (w':World) (l':List MO) (i':Nat),St H0 w0 H' w' l'→l'[i']?=some (.row e k v n cells)→WAt w' p c:=by
 obtain ⟨h0,h1,h2⟩:=ix_some hx
 obtain ⟨c,g1,g2,g3⟩:=he.get _ _ h2
 have key:∀ (H':GH) (w':World) (l':List MO) (i':Nat),St H0 w0 H' w' l'→l'[i']?=some (.row e k v n cells)→∃ p,PtrOf k v j p∧WAt w' p c:=by
  intro H' w' l' i' h' hi'
  obtain ⟨⟨k1,k2⟩,_⟩:=h'.ok i' _ hi'
  have hl:=he.length
  have hn:n=xs.length:=by
   rw [k1] at hl
   exact Nat.eq_of_mul_eq_mul_right hk hl
  rcases k2 with ⟨rfl,h3⟩|⟨g,cap,cur,rfl,hg,hh,hle,_,hsz,htk⟩
  · omega
  · refine ⟨_,⟨⟨g,0,Option.none⟩,_,cap,rfl,h0,by omega,rfl⟩,fun m u hu=>?_⟩
    rw [zb4,Addr.add_lit,Nat.zero_add,cell_of_row w' g _ _ _ _ hh]
    have:=g3 m u hu
    rw [← htk,List.getElem?_take] at this
    split at this
    · simpa using this
    · cases this
 obtain ⟨p,hp,hw⟩:=key H w l i h hi
 exact ⟨p,c,hp,g1,hw,g2,fun H' w' l' i' h' hi'=>by
  obtain ⟨q,hq,hw'⟩:=key H' w' l' i' h' hi'
  obtain rfl:=PtrOf.uniq hq hp
  exact hw'⟩
end
section
variable {f:Fm}
theorem B7 {i1 i2 i3 i4 i5 i6 i7:Nat} {x1 x2 x3 x4 x5 x6 x7:Operand} {v1 v2 v3 v4 v5 v6 v7:Value} (h1:ev f x1=v1) (h2:ev f x2=v2) (h3:ev f x3=v3) (h4:ev f x4=v4) (h5:ev f x5=v5) (h6:ev f x6=v6) (h7:ev f x7=v7) :
 ((#[(i1,x1),(i2,x2),(i3,x3),(i4,x4),(i5,x5),(i6,x6),(i7,x7)]:Array (Nat×Operand)).map fun (i,x)=>(i,ev f x))=#[(i1,v1),(i2,v2),(i3,v3),(i4,v4),(i5,v5),(i6,v6),(i7,v7)]:=by simp [h1,h2,h3,h4,h5,h6,h7]
theorem B8 {i1 i2 i3 i4 i5 i6 i7 i8:Nat} {x1 x2 x3 x4 x5 x6 x7 x8:Operand} {v1 v2 v3 v4 v5 v6 v7 v8:Value} (h1:ev f x1=v1) (h2:ev f x2=v2) (h3:ev f x3=v3) (h4:ev f x4=v4) (h5:ev f x5=v5) (h6:ev f x6=v6) (h7:ev f x7=v7) (h8:ev f x8=v8) :
 ((#[(i1,x1),(i2,x2),(i3,x3),(i4,x4),(i5,x5),(i6,x6),(i7,x7),(i8,x8)]:Array (Nat×Operand)).map fun (i,x)=>(i,ev f x))=#[(i1,v1),(i2,v2),(i3,v3),(i4,v4),(i5,v5),(i6,v6),(i7,v7),(i8,v8)]:=by simp [h1,h2,h3,h4,h5,h6,h7,h8]
end
section
variable {P:Program} {f:Fm} {w:World} {d:Option Tmp} {ty:TypeId} {pos:String} {aft:Array Edge} {gd:Option (Nat×Bool)} {x y:Operand} {t t':TypeId}
end
end Go.Mr
namespace Go.Mr
open Go.RowKit Go.Pu
structure SP (B:World→Prop) (ps:List (List Nat×(World→Prop))) (ls:Array Bool) (w:World):Prop where
 base:B w
 ph:∀ p∈ps,(∀ h∈p.1,ls.getD h true=false)→p.2 w
theorem SP.nil {B:World→Prop} {ls:Array Bool} {w:World} (hB:B w):SP B [] ls w:=⟨hB,nofun⟩
theorem SP.on {B R:World→Prop} {Hs:List Nat} {ps:List (List Nat×(World→Prop))} {ls:Array Bool} {w:World} (hR:R w) (h:SP B ps ls w):SP B ((Hs,R)::ps) ls w :=
 ⟨h.base,fun p hp hn=>by
  rcases List.mem_cons.1 hp with rfl|hp
  · exact hR
  · exact h.ph p hp hn⟩
theorem SP.off {B R:World→Prop} {Hs:List Nat} {ps:List (List Nat×(World→Prop))} {ls:Array Bool} {w:World} (hH:(Hs.any fun h=>ls.getD h true)=true) (h:SP B ps ls w):SP B ((Hs,R)::ps) ls w :=
 ⟨h.base,fun p hp hn=>by
  rcases List.mem_cons.1 hp with rfl|hp
  · obtain ⟨k,hk,ht⟩:=List.any_eq_true.1 hH
    have:=hn k hk
    rw [this] at ht;cases ht
  · exact h.ph p hp hn⟩
theorem SP.iff {B:World→Prop} {ps:List (List Nat×(World→Prop))} {i:Nat} (hi:(ps.all fun p => !p.1.contains i)=true) {ls:Array Bool} {w:World}:SP B ps (ls.setIfInBounds i true) w↔SP B ps ls w:=by
 have key:∀ p∈ps,∀ h∈p.1,(ls.setIfInBounds i true).getD h true=ls.getD h true:=fun p hp h hh=>by
  refine getD_set_ne true fun e=>?_
  have:=List.all_eq_true.1 hi p hp
  rw [e] at this
  simp [hh] at this
 exact ⟨fun k=>⟨k.base,fun p hp hn=>k.ph p hp fun h hh=>by rw [key p hp h hh];exact hn h hh⟩,fun k=>⟨k.base,fun p hp hn=>k.ph p hp fun h hh=>by rw [← key p hp h hh];exact hn h hh⟩⟩
section
variable {P:Program} {ops:Array Oper} {Q:Exit→Act→World→Prop} {md:Region.Mode}
def za0 (P:Program) (md:Region.Mode) (ops:Array Oper) (Q:Exit→Act→World→Prop) (S:Array Bool→World→Prop):Nat→Array Bool→Act→World→Prop
 | 0,ls,a,w=>Region.ready md ops ls=[]∧Q .normal a w
 | n + 1,ls,a,w=>(Region.ready md ops ls=[]→Q .normal a w) ∧
  ∀ i∈Region.ready md ops ls,wpOp P ops Q i (fun a w=>S (ls.setIfInBounds i true) w∧za0 P md ops Q S n (ls.setIfInBounds i true) a w) a w
theorem za0.mono {S S':Array Bool→World→Prop} (hS:∀ ls w,S ls w→S' ls w):∀ (n:Nat) (ls:Array Bool) (a:Act) (w:World),za0 P md ops Q S n ls a w→za0 P md ops Q S' n ls a w
 | 0,_,_,_,h=>h
 | n + 1,_,_,_,h=>⟨h.1,fun i hi=>wpOp_mono (fun _ _ k=>⟨hS _ _ k.1,za0.mono hS n _ _ _ k.2⟩) (h.2 i hi)⟩
theorem za0.held {S:Array Bool→World→Prop}:∀ (n:Nat) (ls:Array Bool) (a:Act) (w:World),za0 P md ops Q S n ls a w→wpAnyH P md ops Q (fun _=>True) n ls a w
 | 0,_,_,_,h=>h
 | n + 1,_,_,_,h=>⟨h.1,fun i hi=>wpOp_mono (fun _ _ k=>⟨trivial,za0.held n _ _ _ k.2⟩) (h.2 i hi)⟩
theorem za0.first {S:Array Bool→World→Prop} {i:Nat} {oi:Oper} {v:Value} (C:Nat→Prop) (hi:ops[i]?=some oi) (hsel:∀ (j:Nat) (o:Oper) cs b,ops[j]?=some o→o.op≠.select cs b)
 (hQ:∀ c a w,Q (.panic c) (a.put oi.dst v) w→Q (.panic c) a w) (hSi:∀ ls w,S (ls.setIfInBounds i true) w↔S ls w)
 (hC:∀ j,C j→∃ oj,ops[j]?=some oj∧∃ e∈oj.after,Region.binds md e=true∧(C e.on∨e.on=i)):∀ (n:Nat) (ls:Array Bool) (a:Act) (w:World),
  (∀ j oj,ops[j]?=some oj→j≠i→ls.getD j true=false→(∀ e∈oj.after,Region.binds md e=true→e.on≠i)→oi.apart ops oj=true) →
  i∈Region.ready md ops ls→(∀ j,C j→ls.getD j true=false)→YieldsIf P ops (fun w'=>∃ ls',(∀ j,C j→ls'.getD j true=false)∧S ls' w') oi v a→S ls w →
  za0 P md ops Q S n (ls.setIfInBounds i true) (a.put oi.dst v) w→za0 P md ops Q S (n + 1) ls a w:=by
 intro n
 induction n with
 | zero =>
  intro ls a w _ hr hn hy hS H
  refine ⟨fun h=>(by rw [h] at hr;cases hr),fun j hj=>?_⟩
  by_cases hji:j=i
  · subst hji;exact hy.wpOp hi ⟨ls,hn,hS⟩ ⟨(hSi ls w).2 hS,H⟩
  · have hm:=ready_mono hj hji
    rw [H.1] at hm
    cases hm
 | succ n ih =>
  intro ls a w hfree hr hn hy hS H
  refine ⟨fun h=>(by rw [h] at hr;cases hr),fun j hj=>?_⟩
  by_cases hji:j=i
  · subst hji;exact hy.wpOp hi ⟨ls,hn,hS⟩ ⟨(hSi ls w).2 hS,H⟩
  · have h1:=H.2 j (ready_mono hj hji)
    obtain ⟨hun,oj,hoj,hall⟩:=mem_ready.1 hj
    have hir:=(mem_ready.1 hr).1
    have off:∀ k,ls.getD k true=false→ls.getD k false=true→False:=fun k h0 h1=>by
     rcases Nat.lt_or_ge k ls.size with h'|h'
     · simp [h'] at h0 h1;rw [h0] at h1;cases h1
     · simp [Array.getElem?_eq_none h'] at h1
    have hno:∀ e∈oj.after,Region.binds md e=true→e.on≠i:=fun e he hb heq=>off i hir (heq ▸ hall e he hb)
    have hCj:¬ C j:=fun hc=>by
     obtain ⟨oj',ho',e,he,hb,hd⟩:=hC j hc
     rw [hoj] at ho';cases ho'
     rcases hd with hd|hd
     · exact off _ (hn _ hd) (hall e he hb)
     · exact hno e he hb hd
    have hn':∀ k,C k→(ls.setIfInBounds j true).getD k true=false:=fun k hk=>by
     rw [getD_set_ne true (fun (e:j=k)=>hCj (by rw [e];exact hk))];exact hn k hk
    have h2:=wpOp_putIf hoj (hfree j oj hoj hji hun hno) (fun cs b=>hsel i oi cs b hi) (fun cs b=>hsel j oj cs b hoj) hQ hy h1
    refine wpOp_mono (fun a' w' h3=>?_) h2
    have e:=Array.setIfInBounds_comm (xs:=ls) true true hji
    have hS':S (ls.setIfInBounds j true) w':=(hSi _ _).1 (by rw [e];exact h3.2.1)
    refine ⟨hS',ih (ls.setIfInBounds j true) a' w' (fun k ok hk hki hun' hno'=>?_) (ready_mono hr (Ne.symm hji)) hn' h3.1 hS' (by rw [e];exact h3.2.2)⟩
    refine hfree k ok hk hki ?_ hno'
    by_cases hjk:j=k
    · subst hjk;exact hun
    · rw [getD_set_ne true hjk] at hun';exact hun'
def certB (ops:Array Oper) (C:List Nat) (i:Nat) (ls:Array Bool) (ps:List (List Nat×(World→Prop))):Bool :=
 (C.all fun j => !ls.getD j true && match ops[j]? with|some oj=>oj.after.any fun e=>Region.binds .any e && (C.contains e.on || e.on == i)|none=>false) && ps.all fun p => !p.1.contains i
end
def FB {δ:List Nat} (P:Program) (N:Nat) (ops:Array Oper) (B:World→Prop) (M:Fm→World→Prop) (ps:List (List Nat×(World→Prop))) (n:Nat) (ls:Array Bool) (f:Fm) (w:World):Prop :=
 ∀ a,Fr (δ:=δ) N a f→za0 P .any ops (lift (δ:=δ) N fun e f w=>e=.normal∧M f w) (SP B ps) n ls a w
def FC {δ:List Nat} (P:Program) (N:Nat) (ops:Array Oper) (B:World→Prop) (M:Fm→World→Prop) (ps:List (List Nat×(World→Prop))) (n:Nat) (ls:Array Bool) (i:Nat) (f:Fm) (w:World):Prop :=
 ∀ a,Fr (δ:=δ) N a f→wpOp P ops (lift (δ:=δ) N fun e f w=>e=.normal∧M f w) i (fun a w=>SP B ps (ls.setIfInBounds i true) w∧za0 P .any ops (lift (δ:=δ) N fun e f w=>e=.normal∧M f w) (SP B ps) n (ls.setIfInBounds i true) a w) a w
section
variable {δ:List Nat} {P:Program} {N:Nat} {f:Fm} {w w':World} {ops:Array Oper} {B:World→Prop} {M:Fm→World→Prop} {ps:List (List Nat×(World→Prop))} {n:Nat} {ls l':Array Bool} {H:GH}
theorem FW.drawB {Q:FQ} {id:Nat} {l:List Oper} (B:World→Prop) (M:Fm→World→Prop) (hm:P.follows .mixedOrders=true) (hs:Sl H w)
 (h:∀ w1,Run w.heap.size H w H w1→FB (δ:=δ) P N l.toArray B M [] l.length (Array.replicate l.length false) f w1) (hQ:∀ f w,M f w→Q .normal f w):FW (ρ:=none) (δ:=δ) P N (.region id l.toArray true) Q f w:=by
 intro n a ha
 refine wpIn_wide.2 ?_
 refine Code.wp_mono (Q:=lift (δ:=δ) N fun e f w=>e=.normal∧M f w) (fun e a w ⟨f,hf,he,hM⟩=>he ▸ ⟨f,hf,hQ f w hM⟩) (wp_region_held (S:=fun _=>True) hm (za0.held (S:=SP B []) _ _ _ _ ?_))
 have:=h _ (zaQ hs) a ha
 simpa using this
theorem FB.phase (Hs:List Nat) (R:World→Prop) (h:FB (δ:=δ) P N ops B M ((Hs,R)::ps) n ls f w):FB (δ:=δ) P N ops B M ps n ls f w :=
 fun a ha=>za0.mono (fun _ _ k=>⟨k.base,fun p hp=>k.ph p (by simp [hp])⟩) _ _ _ _ (h a ha)
theorem FB.take0 {S':World→Prop} {i d:Nat} {o:Oper} {v:Value} (C:List Nat) (hi:ops[i]?=some o) (hs:Region.noSelect ops=true) (hf:Region.free .any ops ls i=true) (hr:(Region.ready .any ops ls).contains i=true)
 (hl:ls.setIfInBounds i true=l') (hc:certB ops C i ls ps=true) (hS:SP B ps ls w) (hd:o.dst=some d) (hlt:Nat.blt d N=true)
 (hy:∀ a,Fr (δ:=δ) N a f→YieldsIf P ops S' o v a) (hS':∀ ls' w',(∀ j∈C,ls'.getD j true=false)→SP B ps ls' w'→S' w')
 (h:FB (δ:=δ) P N ops B M ps n l' (upd f d v) w):FB (δ:=δ) P N ops B M ps (n + 1) ls f w:=by
 subst hl
 intro a ha
 unfold certB at hc
 rw [Bool.and_eq_true] at hc
 have hC:=List.all_eq_true.1 hc.1
 refine za0.first (v:=v) (fun j=>j∈C) hi (Region.noSelect_spec hs) (fun c a w hq=>?_) (fun ls w=>SP.iff hc.2) (fun j hj=>?_) n ls a w (Region.free_spec hi hf) (by simpa using hr) (fun j hj=>?_) ?_ hS ?_
 · obtain ⟨_,_,h0,_⟩:=hq;cases h0
 · have:=hC j hj
   rw [Bool.and_eq_true] at this
   cases ho:ops[j]? with
   | none=>rw [ho] at this;cases this.2
   | some oj =>
    rw [ho] at this
    obtain ⟨e,he,hb⟩:=Array.any_eq_true'.1 this.2
    rw [Bool.and_eq_true,Bool.or_eq_true] at hb
    exact ⟨oj,rfl,e,he,hb.1,hb.2.imp (fun h=>by simpa using h) fun h=>by simpa using h⟩
 · have:=hC j hj
   rw [Bool.and_eq_true] at this
   simpa using this.1
 · exact (hy a ha).imp (fun ⟨h1,h2⟩=>⟨h1,fun w' ⟨ls',k1,k2⟩=>h2 w' (hS' ls' w' k1 k2)⟩) id
 · rw [hd];exact h _ (ha.put (nblt hlt) v)
theorem FB.take {i d:Nat} {o:Oper} {v:Value} (hi:ops[i]?=some o) (hs:Region.noSelect ops=true) (hf:Region.free .any ops ls i=true) (hr:(Region.ready .any ops ls).contains i=true)
 (hl:ls.setIfInBounds i true=l') (hc:certB ops [] i ls ps=true) (hS:SP B ps ls w) (hw:wF ops f o=true) (hd:o.dst=some d) (hlt:Nat.blt d N=true) (hrun:∀ w',B w'→(execOp (ev f) o).run P w'=.ok (.value v) w')
 (h:FB (δ:=δ) P N ops B M ps n l' (upd f d v) w):FB (δ:=δ) P N ops B M ps (n + 1) ls f w :=
 FB.take0 (S':=B) [] hi hs hf hr hl hc hS hd hlt (fun a ha=>.inl ⟨by rw [ha.yielded];exact hw,fun w' hw'=>by rw [ha.eval];exact hrun w' hw'⟩) (fun _ _ _ k=>k.base) h
theorem FB.takeP {Hs:List Nat} {R:World→Prop} {i d:Nat} {o:Oper} {v:Value} (q:Nat) (C:List Nat) (hq:ps[q]?=some (Hs,R)) (hi:ops[i]?=some o) (hs:Region.noSelect ops=true) (hf:Region.free .any ops ls i=true) (hr:(Region.ready .any ops ls).contains i=true)
 (hl:ls.setIfInBounds i true=l') (hc:certB ops C i ls ps=true) (hH:Hs.all (C.contains ·)=true) (hS:SP B ps ls w) (hw:wF ops f o=true) (hd:o.dst=some d) (hlt:Nat.blt d N=true)
 (hrun:∀ w',R w'→(execOp (ev f) o).run P w'=.ok (.value v) w')
 (h:FB (δ:=δ) P N ops B M ps n l' (upd f d v) w):FB (δ:=δ) P N ops B M ps (n + 1) ls f w :=
 FB.take0 (S':=R) C hi hs hf hr hl hc hS hd hlt (fun a ha=>.inl ⟨by rw [ha.yielded];exact hw,fun w' hw'=>by rw [ha.eval];exact hrun w' hw'⟩)
  (fun ls' w' k1 k2=>k2.ph (Hs,R) (List.mem_of_getElem? hq) fun h hh=>k1 h (by have:=List.all_eq_true.1 hH h hh;simpa using this)) h
theorem FB.takeW {Hs:List Nat} {i d:Nat} {o:Oper} {v:Value} (C:List Nat) (hi:ops[i]?=some o) (hs:Region.noSelect ops=true) (hf:Region.free .any ops ls i=true) (hr:(Region.ready .any ops ls).contains i=true)
 (hl:ls.setIfInBounds i true=l') (hc:certB ops C i ls ((Hs,fun w'=>w'=w)::ps)=true) (hH:Hs.all (C.contains ·)=true) (hS:SP B ((Hs,fun w'=>w'=w)::ps) ls w) (hw:wF ops f o=true) (hd:o.dst=some d) (hlt:Nat.blt d N=true)
 (hrun:(execOp (ev f) o).run P w=.ok (.value v) w)
 (h:FB (δ:=δ) P N ops B M ((Hs,fun w'=>w'=w)::ps) n l' (upd f d v) w):FB (δ:=δ) P N ops B M ((Hs,fun w'=>w'=w)::ps) (n + 1) ls f w :=
 FB.takeP 0 C rfl hi hs hf hr hl hc hH hS hw hd hlt (fun w' hw'=>by rw [hw'];exact hrun) h
theorem FB.done (hr:Region.ready .any ops ls=[]) (h:M f w):FB (δ:=δ) P N ops B M ps n ls f w:=fun _ ha=>by
 cases n with
 | zero=>exact ⟨hr,⟨f,ha,rfl,h⟩⟩
 | succ n=>exact ⟨fun _=>⟨f,ha,rfl,h⟩,fun i hi=>by rw [hr] at hi;cases hi⟩
theorem FB.all {rs:List Nat} (hr:Region.ready .any ops ls=rs) (hne:rs≠[]) (h:∀ i∈rs,FC (δ:=δ) P N ops B M ps n ls i f w):FB (δ:=δ) P N ops B M ps (n + 1) ls f w :=
 fun a ha=>⟨fun h0=>absurd (hr ▸ h0) hne,fun i hi=>h i (hr ▸ hi) a ha⟩
theorem FB.all1 {i:Nat} (hr:Region.ready .any ops ls=[i]) (h:FC (δ:=δ) P N ops B M ps n ls i f w):FB (δ:=δ) P N ops B M ps (n + 1) ls f w :=
 FB.all hr (by simp) fun j hj=>by simp at hj;subst hj;exact h
theorem FB.all2 {i j:Nat} (hr:Region.ready .any ops ls=[i,j]) (h1:FC (δ:=δ) P N ops B M ps n ls i f w) (h2:FC (δ:=δ) P N ops B M ps n ls j f w):FB (δ:=δ) P N ops B M ps (n + 1) ls f w :=
 FB.all hr (by simp) fun m hm=>by
  simp at hm;rcases hm with rfl|rfl
  · exact h1
  · exact h2
theorem FB.all3 {i j k:Nat} (hr:Region.ready .any ops ls=[i,j,k]) (h1:FC (δ:=δ) P N ops B M ps n ls i f w) (h2:FC (δ:=δ) P N ops B M ps n ls j f w) (h3:FC (δ:=δ) P N ops B M ps n ls k f w):FB (δ:=δ) P N ops B M ps (n + 1) ls f w :=
 FB.all hr (by simp) fun m hm=>by
  simp at hm;rcases hm with rfl|rfl|rfl
  · exact h1
  · exact h2
  · exact h3
def bs (n m:Nat):Array Bool:=((List.range n).map fun i=>m.testBit i).toArray
theorem FB.t {i d:Nat} {o:Oper} {v:Value} (l':Array Bool) (hi:ops[i]?=some o) (hS:SP B ps ls w) (hw:wF ops f o=true) (hrun:∀ w',B w'→(execOp (ev f) o).run P w'=.ok (.value v) w')
 (h:FB (δ:=δ) P N ops B M ps n l' (upd f d v) w) (hd:o.dst=some d:=by rfl) (hlt:Nat.blt d N=true:=by rfl) (hs:Region.noSelect ops=true:=by kernel_rfl) (hf:Region.free .any ops ls i=true:=by kernel_rfl)
 (hr:(Region.ready .any ops ls).contains i=true:=by kernel_rfl) (hl:ls.setIfInBounds i true=l':=by kernel_rfl) (hc:certB ops [] i ls ps=true:=by kernel_rfl):FB (δ:=δ) P N ops B M ps (n + 1) ls f w :=
 FB.take hi hs hf hr hl hc hS hw hd hlt hrun h
theorem FB.p {Hs:List Nat} {R:World→Prop} {i d:Nat} {o:Oper} {v:Value} (l':Array Bool) (q:Nat) (C:List Nat) (hi:ops[i]?=some o) (hS:SP B ps ls w) (hw:wF ops f o=true) (hq:ps[q]?=some (Hs,R)) (hrun:∀ w',R w'→(execOp (ev f) o).run P w'=.ok (.value v) w')
 (h:FB (δ:=δ) P N ops B M ps n l' (upd f d v) w) (hd:o.dst=some d:=by rfl) (hlt:Nat.blt d N=true:=by rfl) (hs:Region.noSelect ops=true:=by kernel_rfl) (hf:Region.free .any ops ls i=true:=by kernel_rfl)
 (hr:(Region.ready .any ops ls).contains i=true:=by kernel_rfl) (hl:ls.setIfInBounds i true=l':=by kernel_rfl) (hc:certB ops C i ls ps=true:=by kernel_rfl) (hH:Hs.all (C.contains ·)=true:=by kernel_rfl):FB (δ:=δ) P N ops B M ps (n + 1) ls f w :=
 FB.takeP q C hq hi hs hf hr hl hc hH hS hw hd hlt hrun h
theorem FB.u {Hs:List Nat} {i d:Nat} {o:Oper} {v:Value} (l':Array Bool) (C:List Nat) (hi:ops[i]?=some o) (hS:SP B ((Hs,fun w'=>w'=w)::ps) ls w) (hw:wF ops f o=true) (hrun:(execOp (ev f) o).run P w=.ok (.value v) w)
 (h:FB (δ:=δ) P N ops B M ((Hs,fun w'=>w'=w)::ps) n l' (upd f d v) w) (hd:o.dst=some d:=by rfl) (hlt:Nat.blt d N=true:=by rfl) (hs:Region.noSelect ops=true:=by kernel_rfl) (hf:Region.free .any ops ls i=true:=by kernel_rfl)
 (hr:(Region.ready .any ops ls).contains i=true:=by kernel_rfl) (hl:ls.setIfInBounds i true=l':=by kernel_rfl) (hc:certB ops C i ls ((Hs,fun w'=>w'=w)::ps)=true:=by kernel_rfl) (hH:Hs.all (C.contains ·)=true:=by kernel_rfl):FB (δ:=δ) P N ops B M ((Hs,fun w'=>w'=w)::ps) (n + 1) ls f w :=
 FB.takeW C hi hs hf hr hl hc hH hS hw hd hlt hrun h
theorem SP.o {B R:World→Prop} {Hs:List Nat} {ps:List (List Nat×(World→Prop))} {ls:Array Bool} {w:World} (h:SP B ps ls w) (hH:(Hs.any fun h=>ls.getD h true)=true:=by kernel_rfl):SP B ((Hs,R)::ps) ls w:=SP.off hH h
theorem FC.val {i d:Nat} {o:Oper} {v:Value} (hi:ops[i]?=some o) (hl:ls.setIfInBounds i true=l') (hw:wF ops f o=true) (hd:o.dst=some d) (hlt:Nat.blt d N=true)
 (hr:(execOp (ev f) o).run P w=.ok (.value v) w') (h:SP B ps l' w'∧FB (δ:=δ) P N ops B M ps n l' (upd f d v) w'):FC (δ:=δ) P N ops B M ps n ls i f w:=by
 subst hl
 intro a ha
 unfold wpOp
 simp only [hi]
 rw [ha.yielded,if_pos (show Region.wanted o (yF ops f)=true from hw)]
 refine .inl ?_
 unfold Oper.wp
 rw [ha.eval,hr,Oper.upon_value,hd]
 exact ⟨h.1,h.2 _ (ha.put (nblt hlt) v)⟩
theorem FC.act {i:Nat} {o:Oper} (hi:ops[i]?=some o) (hl:ls.setIfInBounds i true=l') (hw:wF ops f o=true) (hd:o.dst=none)
 (hr:(execOp (ev f) o).run P w=.ok .skip w') (h:SP B ps l' w'∧FB (δ:=δ) P N ops B M ps n l' f w'):FC (δ:=δ) P N ops B M ps n ls i f w:=by
 subst hl
 intro a ha
 unfold wpOp
 simp only [hi]
 rw [ha.yielded,if_pos (show Region.wanted o (yF ops f)=true from hw)]
 refine .inl ?_
 unfold Oper.wp
 rw [ha.eval,hr,Oper.upon_skip,hd]
 exact ⟨h.1,h.2 _ ha⟩
theorem FC.call {i d fid:Nat} {o:Oper} {args:Array Value} {R:Ending→World→Prop} (hi:ops[i]?=some o) (hl:ls.setIfInBounds i true=l') (hw:wF ops f o=true) (hd:o.dst=some d) (hlt:Nat.blt d N=true)
 (hr:(execOp (ev f) o).run P w=.ok (.enter fid args) w) (hc:Calls P fid args w R)
 (h:∀ e w',R e w'→∃ v,e=.returned v∧SP B ps l' w'∧FB (δ:=δ) P N ops B M ps n l' (upd f d v) w'):FC (δ:=δ) P N ops B M ps n ls i f w:=by
 subst hl
 intro a ha
 unfold wpOp
 simp only [hi]
 rw [ha.yielded,if_pos (show Region.wanted o (yF ops f)=true from hw)]
 refine .inl ?_
 unfold Oper.wp
 rw [ha.eval,hr,Oper.upon_enter,hd]
 refine hc.mono fun e w' r=>?_
 obtain ⟨v,rfl,hS,hv⟩:=h e w' r
 exact ⟨hS,hv _ (ha.put (nblt hlt) v)⟩
end
section
variable {P:Program} {f:Fm} {d:Option Tmp} {ty:TypeId} {pos:String} {aft:Array Edge} {gd:Option (Nat×Bool)} {x:Operand} {H0 H H':GH} {w0 w w':World} {l:List MO} {e k n:Nat} {z v:Value}
theorem E.lenOW {α:Type} {En:Enc α} {xs:List α} {cells:List Value} {t e':Nat} (te:TE P t e' k z) (hx:ev f x=v) (h:St H0 w0 H w l) {i:Nat} (hi:l[i]?=some (.row e k v n cells)) (he:Els H' En k cells xs) (hk:0 < k) :
 (execOp (ev f) ⟨d,.call ⟨.builtin .len,#[x],#[t]⟩,ty,pos,aft,gd⟩).run P w'=.ok (.value (.int .i64 (Pu.len xs))) w':=by
 have:=E.len (P:=P) (f:=f) (w:=w') (d:=d) (ty:=ty) (pos:=pos) (aft:=aft) (gd:=gd) te hx (h.row_ln hi)
 rw [h.row_n hi he hk] at this;exact this
end
section
variable {ρ:Option Nat} {δ:List Nat} {P:Program} {N:Nat} {Q:FQ} {f:Fm} {w:World} {ops:Array Oper} {o:Oper} {rest:List Oper}
theorem FL.v {d:Nat} {v:Value} {w':World} (hr:(execOp (ev f) o).run P w=.ok (.value v) w') (h:FL (ρ:=ρ) (δ:=δ) P N ops Q rest (upd f d v) w')
 (hw:wF ops f o=true:=by rfl) (hd:o.dst=some d:=by rfl) (hlt:Nat.blt d N=true:=by rfl):FL (ρ:=ρ) (δ:=δ) P N ops Q (o::rest) f w:=FL.val hw hd hlt hr h
end
end Go.Mr
namespace Go.Mr
open Go.RowKit Go.Pu
structure KeyNow (P:Program) (kt:TypeId) {K:Type} [BEq K] (ek:K→Value):Prop where
 kd:∃ kd,(∀ w,(underlying kt).run P w=.ok kd w)∧∀ a b,Instr.sameNow kd (ek a) (ek b)=some (a == b)
 eq:∀ a b:K,(a == b)=true→a=b
 bits:∀ a,Instr.sameBits 10000 (ek a) (ek a)=true
 chk:∀ e a w,(Instr.checkKey e 10000 kt (ek a)).run P w=.ok () w
section
variable {H0 H:GH} {w0 w:World} {l:List MO} {P:Program} {K V:Type} {ek:K→Value} {en:V→Value} {kt et t:TypeId} {o:Obj} {m:List (K×V)} {i b:Nat}
end
end Go.Mr
namespace Go.Mr
open Go.RowKit Go.Pu
section
variable {H0 H G G':GH} {w0 w:World} {l:List MO} {P:Program} {t e n:Nat} {v u:Value} {α:Type} {En:Enc α} {cells c0:List Value} {xs ys:List α} {j:Int} {x:α} {i:Nat}
structure Pend (G:GH) (En:Enc α) (cells:List Value) (xs:List α) (j:Int) (u:Value):Prop where
 pd:∃ c0,Els G En 1 c0 xs∧0≤j∧j < xs.length∧cells=c0.take (j.toNat * 1)++[u]++c0.drop (j.toNat * 1 + 1)
end
end Go.Mr
namespace Go.Mr
open Go.RowKit Go.Pu
def TabH (P:Program) (name:String) (k:IntKind) (zs:List Int) (H:GH):Prop:=∃ g e fr,P.globalNamed name=some g∧H g=some (.cells (zs.map fun z=>Value.int k z).toArray e fr)
@[reducible] def TabI (P:Program) (H:GH):Prop:=TabH P "internal/strconv.uint64pow10" .u64 Lib.pow10Tab H
section
variable {P:Program} {f:Fm} {w:World} {d:Option Tmp} {ty:TypeId} {pos:String} {aft:Array Edge} {gd:Option (Nat×Bool)} {x y:Operand} {t t':TypeId}
theorem E.addT {a b c:ByteArray} (hx:ev f x=.string a) (hy:ev f y=.string b) (h:catS a b=some c):(execOp (ev f) ⟨d,.binOp .add t x y t',ty,pos,aft,gd⟩).run P w=.ok (.value (.string c)) w :=
 E.addS (catS:=catS) hx hy h fun a b c h=>by
  unfold catS at h;split at h
  · rename_i hh;cases h;exact ⟨hh,rfl⟩
  · cases h
theorem E.sliceS {s:ByteArray} {lo hi:Operand} {kl kh:IntKind} {a b:Int} (ht:P.underlying t=some .string) (hx:ev f x=.string s) (hl:ev f lo=.int kl a) (hh:ev f hi=.int kh b) (h0:0≤a) (h1:a≤b) (h2:b≤s.size) :
 (execOp (ev f) ⟨d,.slice t x (some lo) (some hi) none,ty,pos,aft,gd⟩).run P w=.ok (.value (.string (s.extract a.toNat b.toNat))) w:=by
 have hb:0≤b:=by omega
 have hab:a.toNat≤b.toNat:=by omega
 have hbs:b.toNat≤s.size:=by omega
 have e1:(a.toNat:Int)=a:=Int.toNat_of_nonneg h0
 have e2:(b.toNat:Int)=b:=Int.toNat_of_nonneg hb
 simp [execOp,Instr.sliceAt,Instr.slice,run_underlying ht,Instr.sliceBounds,run_sliceBound, *]
end
theorem ba_app (a b:Array UInt8):(⟨a⟩:ByteArray)++⟨b⟩=⟨a++b⟩:=by
 apply ByteArray.ext
 rw [ByteArray.data_append]
theorem itoaS_neg {n:Int} (h:n < 0):itoaS n=(⟨#[45]⟩:ByteArray)++itoaS (-n):=by
 unfold itoaS Go.Lib.itoa
 rw [if_pos h,if_neg (by omega),ba_app]
 congr 1
 rw [show n.natAbs=(-n).toNat by omega];simp
theorem itoaS_one {n:Int} (h0:0≤n) (h:n < 10):itoaS n=⟨#[UInt8.ofNat (48 + n.toNat)]⟩:=by
 unfold itoaS Go.Lib.itoa
 rw [if_neg (by omega),Go.Lib.decDigits,dif_pos (by omega)]
theorem itoaS_more {n:Int} (h:10≤n):itoaS n=itoaS (n.tdiv 10)++(⟨#[UInt8.ofNat (48 + (n.tmod 10).toNat)]⟩:ByteArray):=by
 obtain ⟨k,rfl⟩:=Int.eq_ofNat_of_zero_le (show 0≤n by omega)
 have e1:((k:Nat):Int).tdiv 10=((k / 10:Nat):Int):=rfl
 have e2:((k:Nat):Int).tmod 10=((k % 10:Nat):Int):=rfl
 rw [e1,e2]
 unfold itoaS Go.Lib.itoa
 rw [if_neg (by omega),if_neg (by omega),ba_app]
 congr 1
 rw [Int.toNat_natCast,Int.toNat_natCast,Int.toNat_natCast,Go.Lib.decDigits,dif_neg (by omega)]
 simp
theorem digit_of {n:Int} (h0:0≤n) (h:n < 10):(ByteArray.mk #[48,49,50,51,52,53,54,55,56,57]).extract n.toNat (n + 1).toNat=⟨#[UInt8.ofNat (48 + n.toNat)]⟩:=by
 obtain ⟨k,rfl⟩:=Int.eq_ofNat_of_zero_le h0
 have hk:k < 10:=by omega
 have key:∀ k:Fin 10,(ByteArray.mk #[48,49,50,51,52,53,54,55,56,57]).extract k.val (k.val + 1)=⟨#[UInt8.ofNat (48 + k.val)]⟩:=by decide +kernel
 exact key ⟨k,hk⟩
theorem itoaS_size (n:Int) (h0:-9223372036854775808≤n) (h1:n≤9223372036854775807):(itoaS n).size≤100:=by
 have:=Go.Lib.itoa_length_le n h0 h1
 show (Go.Lib.itoa n).toArray.size≤100
 simp;omega
end Go.Mr
namespace Go.Mr
open Go.RowKit Go.Pu
section
variable {P:Program} {H0 H:GH} {w0 w:World} {l:List MO} {e t:TypeId} {k n:Nat} {v u:Value}
theorem St.putRowAt (h:St H0 w0 H w l) {i:Nat} {cells:List Value} (hi:l[i]?=some (.row e k v n cells)) {j:Int} {p:Addr} (hp:PtrOf k v j p) {off m:Nat} (hom:off + m≤k)
 (ts:∀ w,(sizeOf t).run P w=.ok m w) (hu:u.cells.size=m) (h1:∀ c∈u.cells.toList,c.oneCell'=true) {l':MO→List MO} (hl:∀ o,l.set i o=l' o) :
 ∃ w1,(Instr.storeAt t (.pointer (some (p.add off))) u).run P w=.ok () w1∧St H0 w0 H w1 (l' (.row e k v n (cells.take (j.toNat * k + off)++u.cells.toList++cells.drop (j.toNat * k + off + m)))):=by
 obtain ⟨⟨k1,k2⟩,k3⟩:=h.ok i _ hi
 obtain ⟨a,len,cap,rfl,h0,hlt,rfl⟩:=hp
 rcases k2 with ⟨h3,_⟩|⟨g,cap',cur,hv,hg,hh,hle,hcm,hsz,htk⟩
 · cases h3
 · cases hv
   have hlt':j.toNat < n:=by omega
   have hmul:j.toNat * k + k≤n * k:=by
    rw [show j.toNat * k + k=(j.toNat + 1) * k by rw [Nat.add_mul,Nat.one_mul]];exact Nat.mul_le_mul_right _ hlt'
   have hmul2:n * k≤cap * k:=Nat.mul_le_mul_right _ hle
   generalize j.toNat * k=q at *
   have hst:=run_storeCells_at P g (q + off) e u.cells.toList 0 cur w hh (by simp [hu];omega) h1
   simp only [Nat.add_zero,Array.length_toList,hu] at hst
   refine ⟨w.setRow g (List.take (q + off) cur.toList++u.cells.toList++List.drop (q + off + m) cur.toList).toArray,?_,?_⟩
   · rw [zb4]
     simp only [Addr.add_lit,Nat.zero_add]
     simp [Instr.storeAt,Instr.sureAddr,storeVar,ts,hu,hst]
   · rw [← hl]
     refine h.upd hi (zcw w g _) (Nat.le_refl _) ⟨⟨?_,.inr ⟨g,cap,_,rfl,hg,setRow_heap w g _ _ _ _ hh,hle,hcm,?_,?_⟩⟩,?_⟩ (fun b hb=>.inl hb)
     · simp only [List.length_append,List.length_take,List.length_drop,Array.length_toList,hu,k1];omega
     · simp only [List.size_toArray,List.length_append,List.length_take,List.length_drop,Array.length_toList,hu,hsz];omega
     · simp only [List.append_assoc]
       rw [← htk,List.take_take,Nat.min_eq_left (by omega),List.take_append,List.take_take,List.length_take,Array.length_toList,hsz,Nat.min_eq_left (show q + off≤cap * k by omega),Nat.min_eq_right (show q + off≤n * k by omega),
        List.take_append,List.take_of_length_le (show u.cells.toList.length≤n * k - (q + off) by simp [hu];omega),Array.length_toList,hu,List.drop_take]
       rw [show n * k - (q + off) - m=n * k - (q + off + m) by omega]
     · intro c hc
       simp only [List.append_assoc,List.mem_append] at hc
       rcases hc with hc|hc|hc
       · exact k3 c (List.mem_of_mem_take hc)
       · exact h1 c hc
       · exact k3 c (List.mem_of_mem_drop hc)
theorem St.cells_at (h:St H0 w0 H w l) {i:Nat} {cells:List Value} (hi:l[i]?=some (.row e k v n cells)) {j:Int} {p:Addr} (hp:PtrOf k v j p) {cs:List Value} (hcs:cs.length=k) (hc:WAt w p cs) :
 (cells.drop (j.toNat * k)).take k=cs∧j.toNat * k + k≤cells.length:=by
 obtain ⟨⟨k1,k2⟩,k3⟩:=h.ok i _ hi
 obtain ⟨a,len,cap,rfl,h0,hlt,rfl⟩:=hp
 rcases k2 with ⟨h3,_⟩|⟨g,cap',cur,hv,hg,hh,hle,hcm,hsz,htk⟩
 · cases h3
 · cases hv
   have hlt':j.toNat < n:=by omega
   have hmul:j.toNat * k + k≤n * k:=by
    rw [show j.toNat * k + k=(j.toNat + 1) * k by rw [Nat.add_mul,Nat.one_mul]];exact Nat.mul_le_mul_right _ hlt'
   refine ⟨?_,by rw [k1];exact hmul⟩
   apply List.ext_getElem?
   intro m
   rw [List.getElem?_take,List.getElem?_drop]
   by_cases hm:m < k
   · rw [if_pos hm]
     have hm2:m < cs.length:=by omega
     have h2:=hc m cs[m] (List.getElem?_eq_getElem hm2)
     rw [zb4,Addr.add_lit,Nat.zero_add,cell_of_row w g _ _ _ _ hh] at h2
     rw [List.getElem?_eq_getElem hm2,← h2,← htk,List.getElem?_take,if_pos (by omega)]
     simp
   · rw [if_neg hm,List.getElem?_eq_none (by omega)]
theorem St.putPart {α:Type} {G:GH} {En:Enc α} {xs ys:List α} {x0:α} {cells c cs c2:List Value} (h:St H0 w0 H w l) {i:Nat} (hi:l[i]?=some (.row e k v n cells)) (he:Els G En k cells xs) {j:Int}
 (hy:put xs j x0=some ys) {p:Addr} (hp:PtrOf k v j p) (hcs:cs.length=k) (hc:WAt w p cs) {off m:Nat} (ts:∀ w,(sizeOf t).run P w=.ok m w) (hu:u.cells=c.toArray) (hcm:c.length=m) (hom:off + m≤k) (h1:∀ b∈c,b.oneCell'=true)
 (h2:cs.take off++c++cs.drop (off + m)=c2) (hr:En.rel G c2 x0) :
 ∃ w1 cells',(Instr.storeAt t (.pointer (some (p.add off))) u).run P w=.ok () w1∧St H0 w0 H w1 (l.set i (.row e k v n cells'))∧Els G En k cells' ys∧cells'=cells.take (j.toNat * k)++c2++cells.drop (j.toNat * k + k):=by
 obtain ⟨h0,h3,rfl⟩:=put_some hy
 obtain ⟨w1,hst,hS⟩:=h.putRowAt (P:=P) (l':=fun o=>l.set i o) hi hp hom ts (u:=u) (by rw [hu];simpa using hcm) (by rw [hu];simpa using h1) (fun o=>rfl)
 rw [hu] at hS
 obtain ⟨g1,g2⟩:=h.cells_at hi hp hcs hc
 have hlen:c2.length=k:=by rw [← h2];simp only [List.length_append,List.length_take,List.length_drop,hcs,hcm];omega
 have heq:cells.take (j.toNat * k + off)++c++cells.drop (j.toNat * k + off + m)=cells.take (j.toNat * k)++c2++cells.drop (j.toNat * k + k):=by
  rw [← h2,← g1]
  generalize j.toNat * k=q at *
  have e1:cells.take (q + off)=cells.take q++(cells.drop q).take off:=by rw [List.take_add]
  have e2:cells.drop (q + off + m)=((cells.drop q).take k).drop (off + m)++cells.drop (q + k):=by
   rw [List.drop_take,List.drop_drop]
   have:cells.drop (q + k)=(cells.drop (q + (off + m))).drop (k - (off + m)):=by rw [List.drop_drop];congr 1;omega
   rw [this,List.take_append_drop];congr 1;omega
  rw [e1,e2,List.take_take,Nat.min_eq_left (by omega)]
  simp only [List.append_assoc]
 refine ⟨w1,_,hst,?_,he.put hlen hr _ (by omega),rfl⟩
 rw [← heq]
 simpa using hS
end
section
variable {δ:List Nat} {fn:Func} {N:Nat} {P:Program} {w:World} {R:Ending→World→Prop} {f:Fm}
theorem resX_cttt {t0 y0:Nat} {v0:Value} {p0:Addr} {t1:Nat} {v1:Value} {t2:Nat} {v2:Value} {t3:Nat} {v3:Value} (hr:fn.results=#[.cell t0 y0,.tmp t1,.tmp t2,.tmp t3]) (h0:f t0=.pointer (some p0)) (l0:(loadVar y0 p0).run P w=.ok v0 w) (h1:f t1=v1) (h2:f t2=v2) (h3:f t3=v3) (hR:R (.returned (.tuple #[v0,v1,v2,v3])) w) :
 ∀ a,Fr (δ:=δ) N a f→∃ v,(results fn a.tmps).run P w=.ok v w∧R (.returned v) w:=fun a ha=>⟨_,by simp [results,hr,ha.val,asAddr,h0,l0,h1,h2,h3],hR⟩
end
end Go.Mr
namespace Go.Mr
open Go.RowKit Go.Pu
def iC (xs:List Int):List Value:=xs.map (Value.int .i64)
def iP (xs:List Int):Array (Nat×Value):=((xs.zipIdx 0).map fun p=>(p.2,Value.int .i64 p.1)).toArray
theorem els_ints (G:GH) (xs:List Int):Els G eI 1 (iC xs) xs:=by
 have key:∀ ys:List Int,Els G eI 1 (iC ys.reverse) ys.reverse:=by
  intro ys
  induction ys with
  | nil=>exact .nil
  | cons x ys ih =>
   have:=Els.snoc (c:=[Value.int .i64 x]) (x:=x) ih rfl (show eI.rel G [Value.int .i64 x] x from rfl)
   unfold iC at this ⊢
   rw [List.reverse_cons,List.map_append]
   exact this
 have:=key xs.reverse
 rwa [List.reverse_reverse] at this
theorem flat_ints (xs:List Int):((xs.map (Value.int .i64)).map (·.cells.toList)).flatten=iC xs:=by
 unfold iC
 induction xs with
 | nil=>rfl
 | cons x xs ih=>rw [List.map_cons,List.map_cons,List.flatten_cons,ih];rfl
theorem St.ints {P:Program} {H0 H:GH} {w0 w:World} {l:List MO} {t e:Nat} {z:Value} (h:St H0 w0 H w l) (te:TE P t e 1 z) (G:GH) (n:Nat) (xs:List Int) (hn:xs.length=n:=by rfl) (hsm:Nat.ble n 1000=true:=by rfl) :
 ∃ v w1,(Instr.buildSlice t n (iP xs)).run P w=.ok v w1∧St H0 w0 H w1 (.row e 1 v n (iC xs)::l)∧Els G eI 1 (iC xs) xs:=by
 subst hn
 have hl:(xs.map (Value.int .i64)).length=xs.length:=List.length_map _
 obtain ⟨v,w1,h1,h2⟩:=h.buildSlice (P:=P) te (xs.map (Value.int .i64)) (parts:=iP xs) (cells:=iC xs) (by
  unfold iP
  show List.map _ _=_
  rw [List.zipIdx_map,List.map_map];rfl) (fun v hv=>by obtain ⟨x,_,rfl⟩:=List.mem_map.1 hv;rfl) (flat_ints xs) (fun c hc=>by unfold iC at hc;obtain ⟨x,_,rfl⟩:=List.mem_map.1 hc;rfl) (by have:=Nat.le_of_ble_eq_true hsm;rw [hl];omega)
 rw [hl] at h1 h2
 exact ⟨v,w1,h1,h2,els_ints G xs⟩
section
variable {δ:List Nat} {P:Program} {N:Nat} {f:Fm} {w w':World} {ops:Array Oper} {B:World→Prop} {M:Fm→World→Prop} {ps:List (List Nat×(World→Prop))} {n:Nat} {ls l':Array Bool}
end
end Go.Mr
namespace Go.Mr
open Go.RowKit Go.Pu
section
variable {P:Program} {f:Fm} {w:World} {d:Option Tmp} {ty:TypeId} {pos:String} {aft:Array Edge} {gd:Option (Nat×Bool)} {x y:Operand} {t t':TypeId}
theorem E.ixS {s:ByteArray} {k:IntKind} {i b:Int} (ht:∀ w,(underlying t).run P w=.ok .string w) (hx:ev f x=.string s) (hy:ev f y=.int k i) (h:ixS s i=some b) :
 (execOp (ev f) ⟨d,.index t x y,ty,pos,aft,gd⟩).run P w=.ok (.value (.int .u8 b)) w:=by
 obtain ⟨h0,u,hu,rfl⟩:=ixS_some h
 have hu':s[i.toNat]?=some u:=by
  obtain ⟨h1,h2⟩:=Array.getElem?_eq_some_iff.1 hu
  exact (getElem?_pos s i.toNat h1).trans (congrArg some h2)
 simp [execOp,Instr.index,ht,hx,hy,h0,hu',asIntOf]
theorem E.cutS {s r:ByteArray} {kl kh:IntKind} {a b:Int} {lo hi:Option Operand} (ht:P.underlying t=some .string) (hx:ev f x=.string s)
 (hl:(lo=none∧a=0)∨∃ l,lo=some l∧ev f l=.int kl a) (hh:(hi=none∧b=s.size)∨∃ l,hi=some l∧ev f l=.int kh b) (h:cutS s a b=some r) :
 (execOp (ev f) ⟨d,.slice t x lo hi none,ty,pos,aft,gd⟩).run P w=.ok (.value (.string r)) w:=by
 obtain ⟨h0,h1,h2,rfl⟩:=cutS_some h
 have hb:0≤b:=by omega
 have hab:a.toNat≤b.toNat:=by omega
 have hbs:b.toNat≤s.size:=by omega
 have e1:(a.toNat:Int)=a:=Int.toNat_of_nonneg h0
 have e2:(b.toNat:Int)=b:=Int.toNat_of_nonneg hb
 rcases hl with ⟨rfl,rfl⟩|⟨l,rfl,hl⟩ <;> rcases hh with ⟨rfl,rfl⟩|⟨l',rfl,hh⟩ <;> simp [execOp,Instr.sliceAt,Instr.slice,run_underlying ht,Instr.sliceBounds,run_sliceBound, *]
end
theorem E.lenS {P:Program} {f:Fm} {w:World} {d:Option Tmp} {ty t:TypeId} {pos:String} {aft:Array Edge} {gd:Option (Nat×Bool)} {x:Operand} {s:ByteArray} (ht:∀ w,(underlying t).run P w=.ok .string w) (hx:ev f x=.string s) :
 (execOp (ev f) ⟨d,.call ⟨.builtin .len,#[x],#[t]⟩,ty,pos,aft,gd⟩).run P w=.ok (.value (.int .i64 (s.size:Int))) w:=by
 simp [execOp,resolve,invoke,builtin,Builtin.len_,hx,ht,goInt]
theorem B11 {f:Fm} {i1 i2 i3 i4 i5 i6 i7 i8 i9 i10 i11:Nat} {x1 x2 x3 x4 x5 x6 x7 x8 x9 x10 x11:Operand} {v1 v2 v3 v4 v5 v6 v7 v8 v9 v10 v11:Value} (h1:ev f x1=v1) (h2:ev f x2=v2) (h3:ev f x3=v3) (h4:ev f x4=v4) (h5:ev f x5=v5) (h6:ev f x6=v6) (h7:ev f x7=v7) (h8:ev f x8=v8) (h9:ev f x9=v9) (h10:ev f x10=v10) (h11:ev f x11=v11) :
 (#[(i1,x1),(i2,x2),(i3,x3),(i4,x4),(i5,x5),(i6,x6),(i7,x7),(i8,x8),(i9,x9),(i10,x10),(i11,x11)].map fun (i,x)=>(i,ev f x))=#[(i1,v1),(i2,v2),(i3,v3),(i4,v4),(i5,v5),(i6,v6),(i7,v7),(i8,v8),(i9,v9),(i10,v10),(i11,v11)]:=by simp [h1,h2,h3,h4,h5,h6,h7,h8,h9,h10,h11]
theorem B15 {f:Fm} {i1 i2 i3 i4 i5 i6 i7 i8 i9 i10 i11 i12 i13 i14 i15:Nat} {x1 x2 x3 x4 x5 x6 x7 x8 x9 x10 x11 x12 x13 x14 x15:Operand} {v1 v2 v3 v4 v5 v6 v7 v8 v9 v10 v11 v12 v13 v14 v15:Value} (h1:ev f x1=v1) (h2:ev f x2=v2) (h3:ev f x3=v3) (h4:ev f x4=v4) (h5:ev f x5=v5) (h6:ev f x6=v6) (h7:ev f x7=v7) (h8:ev f x8=v8) (h9:ev f x9=v9) (h10:ev f x10=v10) (h11:ev f x11=v11) (h12:ev f x12=v12) (h13:ev f x13=v13) (h14:ev f x14=v14) (h15:ev f x15=v15) :
 (#[(i1,x1),(i2,x2),(i3,x3),(i4,x4),(i5,x5),(i6,x6),(i7,x7),(i8,x8),(i9,x9),(i10,x10),(i11,x11),(i12,x12),(i13,x13),(i14,x14),(i15,x15)].map fun (i,x)=>(i,ev f x))=#[(i1,v1),(i2,v2),(i3,v3),(i4,v4),(i5,v5),(i6,v6),(i7,v7),(i8,v8),(i9,v9),(i10,v10),(i11,v11),(i12,v12),(i13,v13),(i14,v14),(i15,v15)]:=by simp [h1,h2,h3,h4,h5,h6,h7,h8,h9,h10,h11,h12,h13,h14,h15]
end Go.Mr
namespace Go.Mr
open Go.RowKit Go.Pu
section
variable {P:Program} {w:World}
theorem run_append_roomQ (t ty e:TypeId) (i:TypeInfo) (ht:P.underlying t=some (.slice e)) (hi:P.info? e=some i)
 (g off sLen sCap:Nat) (cur:Array Value) (hg:w.heap[g]?=some (.cells cur e (0,0)))
 (a:Addr) (m c:Nat) (news:List Value) (hl:news.length=m * i.size) (hnews:∀ j u,news[j]?=some u→w.cell? (a.add j)=some u) (h1:∀ u∈news,u.oneCell'=true)
 (hroom:sLen + m≤sCap) (hfit:off + sLen * i.size + news.length≤cur.size) :
 (Builtin.append_ #[t,t] ty #[.slice (some ⟨g,off,Option.none⟩) sLen sCap,.slice (some a) m c]).run P w =
  .ok (.slice (some ⟨g,off,Option.none⟩) (sLen + m) sCap) (w.setRow g (cur.toList.take (off + sLen * i.size)++news++cur.toList.drop (off + sLen * i.size + news.length)).toArray):=by
 have hf:=run_firstCells_some (P:=P) w i.size m a m c news hl hnews
 have hst:=run_storeCells_at P g (off + sLen * i.size) e news 0 cur w hg (by simpa using hfit) h1
 simp only [Nat.add_zero] at hst
 simp [Builtin.append_,run_underlying ht,sizeOf,typeInfo,hi,Builtin.lenOf,hroom,hf,Addr.add_lit,hst]
end
section
variable {P:Program} {f:Fm} {w w':World} {d:Option Tmp} {ty:TypeId} {pos:String} {aft:Array Edge} {gd:Option (Nat×Bool)} {x y:Operand} {v u:Value}
variable {H0 H H':GH} {w0:World} {l:List MO} {t e k n:Nat} {z:Value} {A:Type} {En:Enc A}
theorem ownsRowO_of {B:Nat} {cells:List Value} (h:w.ownsRow B e k v n cells):ownsRowO w B e k v n cells:=by
 refine ⟨h.1,?_⟩
 rcases h.2 with hn|⟨g,cap,cur,hv,hb,hg,h1,h2,h3,h4⟩
 · exact .inl hn
 · exact .inr ⟨g,0,cap,cur,hv,hb,hg,h1,h2,by omega,by simpa using h4⟩
theorem St.toQ (h:St H0 w0 H w l) (i:Nat) {cells:List Value} {l':List MO} (hi:l[i]?=some (.row e k v n cells):=by rfl) (hl:l.set i (.rowo e k v n cells)=l':=by rfl):St H0 w0 H w l':=by
 subst hl
 obtain ⟨g1,g2⟩:=h.ok i _ hi
 exact h.upd hi ⟨rfl,rfl,rfl,Nat.le_refl _,fun _ _ _=>rfl⟩ (Nat.le_refl _) ⟨ownsRowO_of g1,g2⟩ (fun b hb=>.inl hb)
theorem St.rowQ_n {cells:List Value} {xs:List A} (h:St H0 w0 H w l) {i:Nat} (hi:l[i]?=some (.rowo e k v n cells)) (he:Els H' En k cells xs) (hk:0 < k):n=xs.length:=by
 obtain ⟨⟨k1,_⟩,_⟩:=h.ok i _ hi
 have hl:=he.length
 rw [k1] at hl
 exact Nat.eq_of_mul_eq_mul_right hk hl
theorem St.rowQ_ln (h:St H0 w0 H w l) {i:Nat} {cells:List Value} (hi:l[i]?=some (.rowo e k v n cells)):Ln v n:=by
 obtain ⟨⟨_,g⟩,_⟩:=h.ok i _ hi
 rcases g with ⟨rfl,rfl⟩|⟨g,off,cap,cur,rfl,_⟩
 · exact ⟨_,_,rfl⟩
 · exact ⟨_,_,rfl⟩
theorem E.lenQ {xs:List A} {cells:List Value} {t e':Nat} (te:TE P t e' k z) (hx:ev f x=v) (h:St H0 w0 H w l) {i:Nat} (hi:l[i]?=some (.rowo e k v n cells)) (he:Els H' En k cells xs) (hk:0 < k) :
 (execOp (ev f) ⟨d,.call ⟨.builtin .len,#[x],#[t]⟩,ty,pos,aft,gd⟩).run P w=.ok (.value (.int .i64 (Pu.len xs))) w:=by
 have:=E.len (P:=P) (f:=f) (w:=w) (d:=d) (ty:=ty) (pos:=pos) (aft:=aft) (gd:=gd) te hx (h.rowQ_ln hi)
 rw [h.rowQ_n hi he hk] at this;exact this
theorem St.rowQ_at {G:GH} {cells:List Value} {xs:List A} (h:St H0 w0 H w l) {i:Nat} (hi:l[i]?=some (.rowo e k v n cells)) (he:Els G En k cells xs) (hk:0 < k)
 {j:Int} {x:A} (hx:ix xs j=some x):∃ p c,PtrOf k v j p∧c.length=k∧WAt w p c∧En.rel G c x:=by
 obtain ⟨h0,h1,h2⟩:=ix_some hx
 obtain ⟨c,g1,g2,g3⟩:=he.get _ _ h2
 have hn:=h.rowQ_n hi he hk
 obtain ⟨⟨k1,k2⟩,_⟩:=h.ok i _ hi
 rcases k2 with ⟨rfl,h3⟩|⟨g,off,cap,cur,rfl,hg,hh,hle,_,hsz,htk⟩
 · omega
 · refine ⟨_,c,⟨⟨g,off,Option.none⟩,_,cap,rfl,h0,by omega,rfl⟩,g1,fun m u hu=>?_,g2⟩
   rw [zb4,Addr.add_lit,cell_of_row w g _ _ _ _ hh]
   have:=g3 m u hu
   rw [← htk,List.getElem?_take] at this
   split at this
   · rw [List.getElem?_drop] at this;simpa using this
   · cases this
theorem St.appendQ' (h:St H0 w0 H w l) (te:TE P t e k z) {i m:Nat} {cells news:List Value} (hi:l[i]?=some (.rowo e k v n cells)) (hs:Src w k u m news)
 (h1:∀ c∈news,c.oneCell'=true) (hb:n + m≤lim) :
 ∃ v' w1,(∀ ty,(Builtin.append_ #[t,t] ty #[v,u]).run P w=.ok v' w1)∧St H0 w0 H w1 (l.set i (.rowo e k v' (n + m) (cells++news))):=by
 obtain ⟨g1,g2⟩:=h.ok i _ hi
 have hone:∀ c∈cells++news,c.oneCell'=true:=fun c hc=>by
  rcases List.mem_append.1 hc with hc|hc
  · exact g2 c hc
  · exact h1 c hc
 obtain ⟨info,hinf,hz,hsz,hby⟩:=te.i
 rcases g1.2 with ⟨rfl,rfl⟩|⟨g,off,cap,cur,rfl,hbg,hg,hnc,hcm,hcs,htake⟩
 · have hx:cells=[]:=List.eq_nil_of_length_eq_zero (by simpa using g1.1)
   subst hx
   obtain ⟨v',w1,hr,h2,h3,h4,h5⟩:=zd3 (P:=P) (ty:=0) te (World.ownsRow_nil w w0.heap.size e k) hs h1 (by omega) h.size
   refine ⟨v',w1,fun ty=>hr,h.upd hi h3 h5 ⟨ownsRowO_of h2,hone⟩ (fun b hb=>h4 b hb)⟩
 · have h63:n + m≤maxLen:=by unfold lim at hb;simp only [maxLen];omega
   have hbytes:(n + m) * info.bytes≤140737488355328:=by
    have:(n + m) * info.bytes≤lim * 4096:=Nat.mul_le_mul hb hby
    unfold lim at this;omega
   subst hsz
   have hlen:(cells++news).length=(n + m) * info.size↔news.length=m * info.size:=by rw [List.length_append,g1.1,Nat.add_mul];omega
   rcases hs with ⟨ad,c,rfl,hl,hnews⟩|⟨rfl,rfl,rfl⟩
   · by_cases hroom:n + m≤cap
     · have hmul:n * info.size + m * info.size≤cap * info.size:=by rw [← Nat.add_mul];exact Nat.mul_le_mul_right _ hroom
       have hfit:off + n * info.size + news.length≤cur.size:=by rw [hl];omega
       refine ⟨.slice (some ⟨g,off,Option.none⟩) (n + m) cap,_,fun ty=>run_append_roomQ (P:=P) t ty e info te.u hinf g off n cap cur hg ad m c news hl hnews h1 hroom hfit,?_⟩
       refine h.upd hi (zcw w g _) (Nat.le_refl _) ⟨⟨hlen.2 hl,.inr ⟨g,off,cap,_,rfl,hbg,setRow_heap w g cur _ e _ hg,hroom,hcm,?_,?_⟩⟩,hone⟩ (fun b hb=>.inl hb)
       · simp only [List.size_toArray,List.length_append,List.length_take,List.length_drop,Array.length_toList]
         omega
       · have e1:(cur.toList.take (off + n * info.size)).drop off=cells:=by
          rw [← htake,List.drop_take,Nat.add_sub_cancel_left]
         have e2:(cur.toList.take (off + n * info.size)).length=off + n * info.size:=by rw [List.length_take,Array.length_toList];omega
         simp only [List.append_assoc]
         rw [List.drop_append_of_le_length (by rw [e2];omega),e1,← List.append_assoc,← hlen.2 hl]
         exact List.take_left
     · have holds:∀ j u,cells[j]?=some u→w.cell? ((⟨g,off,Option.none⟩:Addr).add j)=some u:=fun j u hu=>by
        rw [Addr.add_lit,cell_of_row w g _ _ _ _ hg]
        rw [← htake,List.getElem?_take] at hu
        split at hu
        · rw [List.getElem?_drop] at hu;simpa using hu
        · cases hu
       have hr:=fun ty=>run_append_grow (P:=P) w t ty e info z te.u hinf hz ⟨g,off,Option.none⟩ n cap cells g1.1 holds ad m c news hl hnews (by omega) (by simp only [maxLen] at h63;omega) (growslice_fits (by omega) hbytes)
       have hge:=grownCap_ge w (n + m) cap e
       have hcm:=grownCap_le_maxLen w (n + m) cap e h63
       refine ⟨_,_,hr,h.upd hi ⟨rfl,rfl,rfl,by simp,fun k hk _=>heap_alloc_old w.drew _ hk⟩ (Nat.le_succ _) ⟨⟨hlen.2 hl,.inr ⟨w.heap.size,0,_,_,rfl,h.size,heap_alloc_new w.drew _,hge,hcm,?_,?_⟩⟩,hone⟩ ?_⟩
       · simp only [Array.size_append,List.size_toArray,size_zeroCells,te.zs,g1.1,hl,← Nat.add_mul]
         rw [Nat.zero_add]
         refine Nat.le_of_eq ?_
         congr 1
         omega
       · simp only [Array.toList_append,List.append_assoc,List.drop_zero]
         rw [← List.append_assoc,← hlen.2 hl]
         exact List.take_left
       · intro b hb
         simp [MO.blk,Value.ownBlock] at hb;omega
   · refine ⟨.slice (some ⟨g,off,Option.none⟩) n cap,w,fun ty=>?_,?_⟩
     · simp [Builtin.append_,run_underlying te.u,sizeOf,typeInfo,hinf,Builtin.lenOf,Builtin.firstCells,hnc,storeCells]
     · have:=h.upd (o':=.rowo e info.size (.slice (some ⟨g,off,Option.none⟩) n cap) (n + 0) (cells++[])) hi ⟨rfl,rfl,rfl,Nat.le_refl _,fun _ _ _=>rfl⟩ (Nat.le_refl _) (by simpa using ⟨g1,g2⟩) (fun b hb=>.inl hb)
       exact this
theorem St.appendQ {G:GH} {xs ys zs:List A} {c1 c2:List Value} {e2 n2:Nat} (h:St H0 w0 H w l) (te:TE P t e k z) {i j:Nat} (hi:l[i]?=some (.rowo e k v n c1)) (he:Els G En k c1 xs)
 (hj:l[j]?=some (.row e2 k u n2 c2)) (hy:Els G En k c2 ys) (hz:app xs ys=some zs) :
 ∃ v' w1 n' c',(∀ ty,(Builtin.append_ #[t,t] ty #[v,u]).run P w=.ok v' w1)∧St H0 w0 H w1 (l.set i (.rowo e k v' n' c'))∧Els G En k c' zs∧c'=c1++c2:=by
 obtain ⟨hb,rfl⟩:=app_some hz
 have hn:=h.rowQ_n hi he te.kp
 have hn2:=h.row_n hj hy te.kp
 obtain ⟨v',w1,hr,hS⟩:=h.appendQ' (P:=P) te hi (h.row_src hj) (h.ok j _ hj).2 (by omega)
 exact ⟨v',w1,_,_,hr,hS,he.app hy,rfl⟩
theorem els_dropQ {cells:List Value} {xs:List A} (h:Els H En k cells xs):∀ m,m≤xs.length→Els H En k (cells.drop (m * k)) (xs.drop m):=by
 induction h with
 | nil=>intro m hm;simp;exact .nil
 | snoc hs hc hx ih =>
  rename_i cells xs c x
  intro m hm
  have hl:=hs.length
  rcases Nat.lt_or_ge xs.length m with hlt|hge
  · have:m=xs.length + 1:=by simp at hm;omega
    subst this
    rw [List.drop_of_length_le (by rw [List.length_append,hl,hc,Nat.add_mul,Nat.one_mul];exact Nat.le_refl _),List.drop_of_length_le (by simp)]
    exact .nil
  · rw [List.drop_append_of_le_length hge,List.drop_append_of_le_length (by rw [hl];exact Nat.mul_le_mul_right _ hge)]
    exact .snoc (ih m hge) hc hx
theorem St.cutTailQ {G:GH} (h:St H0 w0 H w l) (te:TE P t e k z) {i:Nat} {cells:List Value} (hi:l[i]?=some (.rowo e k v n cells)) {xs ys:List A} (he:Els G En k cells xs) {a:Int} {kk:IntKind} (hc:Pu.cut xs a (len xs)=some ys) :
 ∃ v' n' cells',(∀ w,(Instr.slice t v (some (.int kk a)) Option.none Option.none).run P w=.ok v' w)∧St H0 w0 H w (l.set i (.rowo e k v' n' cells'))∧Els G En k cells' ys:=by
 obtain ⟨h0,h1,h2,rfl⟩:=cut_some hc
 have hn:=h.rowQ_n hi he te.kp
 obtain ⟨⟨g1,g2⟩,g3⟩:=h.ok i _ hi
 simp only [Pu.len] at h1
 have hels:Els G En k (cells.drop (a.toNat * k)) (List.drop a.toNat (List.take (Pu.len xs).toNat xs)):=by
  have e:List.take (Pu.len xs).toNat xs=xs:=List.take_of_length_le (by unfold Pu.len;omega)
  rw [e];exact els_dropQ he _ (by omega)
 have hone:∀ u∈cells.drop (a.toNat * k),u.oneCell'=true:=fun u hu=>g3 u (List.mem_of_mem_drop hu)
 have hdl:(cells.drop (a.toNat * k)).length=(n - a.toNat) * k:=by rw [List.length_drop,g1,Nat.sub_mul]
 have hg0:w.grownBy w (MO.rowo e k v n cells).blk:=⟨rfl,rfl,rfl,Nat.le_refl _,fun _ _ _=>rfl⟩
 rcases g2 with ⟨rfl,h3⟩|⟨g,off,cap,cur,rfl,hg,hh,hle,hcm,hsz,htk⟩
 · have ha:a.toNat=0:=by omega
   refine ⟨.slice Option.none 0 0,0,_,fun w=>?_,h.upd hi hg0 (Nat.le_refl _) ⟨⟨by rw [hdl];simp [h3],.inl ⟨rfl,rfl⟩⟩,hone⟩ (fun b hb=>.inl hb),hels⟩
   have:=zbR (w:=w) te (a:=Option.none) (len:=0) (cap:=0) (p:=a) (q:=0) h0 (by omega) (by omega) (.inr ⟨kk,rfl⟩) (.inl ⟨rfl,rfl⟩)
   simpa [ha] using this
 · have hr:=fun w=>zbR (P:=P) (w:=w) te (a:=some ⟨g,off,Option.none⟩) (len:=n) (cap:=cap) (p:=a) (q:=n) (lo:=some (.int kk a)) (hi:=Option.none) h0 (by omega) (by omega) (.inr ⟨kk,rfl⟩) (.inl ⟨rfl,rfl⟩)
   have hmul:a.toNat * k≤n * k:=Nat.mul_le_mul_right _ (by omega)
   have hmul2:n * k≤cap * k:=Nat.mul_le_mul_right _ hle
   have hsub:(cap - a.toNat) * k=cap * k - a.toNat * k:=Nat.sub_mul ..
   have htake:(cur.toList.drop (off + a.toNat * k)).take ((n - a.toNat) * k)=cells.drop (a.toNat * k):=by
    rw [← htk,List.drop_take,List.drop_drop,Nat.sub_mul]
   by_cases hca:cap=a.toNat
   · refine ⟨.slice (some ⟨g,off,Option.none⟩) (n - a.toNat) (cap - a.toNat),n - a.toNat,_,fun w=>?_,h.upd hi hg0 (Nat.le_refl _) ⟨⟨hdl,.inr ⟨g,off,cap - a.toNat,cur,rfl,hg,hh,by omega,by omega,by omega,?_⟩⟩,hone⟩ (fun b hb=>.inl hb),hels⟩
     · have:=hr w;rw [if_pos hca] at this;simpa using this
     · have e0:n - a.toNat=0:=by omega
       have e1:cells.drop (a.toNat * k)=[]:=List.eq_nil_of_length_eq_zero (by rw [hdl,e0];simp)
       rw [e0,e1];simp
   · refine ⟨.slice (some ⟨g,off + a.toNat * k,Option.none⟩) (n - a.toNat) (cap - a.toNat),n - a.toNat,_,fun w=>?_,h.upd hi hg0 (Nat.le_refl _) ⟨⟨hdl,.inr ⟨g,off + a.toNat * k,cap - a.toNat,cur,rfl,hg,hh,by omega,by omega,by omega,htake⟩⟩,hone⟩ (fun b hb=>.inl hb),hels⟩
     have:=hr w;rw [if_neg hca] at this;simpa [Addr.add_lit] using this
theorem St.sealRowQ {xs:List A} (h:St H0 w0 H w l) {i:Nat} {cells:List Value} {l':List MO} (hi:l[i]?=some (.rowo e k v n cells)) (he:Els H En k cells xs) (hk:0 < k) (hl:l.eraseIdx i=l') :
 ∃ H1,St H0 w0 H1 w l'∧Inc H H1∧RSl H1 En k v xs:=by
 subst hl
 obtain ⟨H1,h1,h2,h3⟩:=h.sealed hi
 refine ⟨H1,h1,h2,?_⟩
 have hn:=h.rowQ_n hi he hk
 obtain ⟨⟨k1,k2⟩,k3⟩:=h.ok i _ hi
 subst hn
 rcases k2 with ⟨rfl,h4⟩|⟨g,off,cap,cur,rfl,hg,hh,hle,hcm,hsz,htk⟩
 · have:xs=[]:=List.eq_nil_of_length_eq_zero h4
   subst this;exact RSl.nil _ _ _
 · refine ⟨_,cap,rfl,⟨by omega,(fun e=>by cases e),hle⟩,fun j x hx=>?_⟩
   obtain ⟨c,g1,g2,g3⟩:=he.get _ _ hx
   refine ⟨_,c,rfl,g1,⟨cur,e,(0,0),?_,?_,fun m u hu=>?_⟩,En.mono h2 g2⟩
   · rw [Addr.add_lit];exact h3 g _ rfl hh
   · rw [Addr.add_lit]
   · rw [Addr.add_lit]
     have:=g3 m u hu
     rw [← htk,List.getElem?_take] at this
     split at this
     · rw [List.getElem?_drop] at this;simpa [Nat.add_assoc] using this
     · cases this
theorem St.sealRowUQ {xs:List A} (h:St H0 w0 H w l) {i:Nat} {cells:List Value} {l':List MO} (hi:l[i]?=some (.rowo e k v n cells)) (he:Els (up w0.heap.size H) En k cells xs) (hk:0 < k) (hl:l.eraseIdx i=l') :
 ∃ H1,St H0 w0 H1 w l'∧Inc H H1∧RSl (up w0.heap.size H1) En k v xs∧New H [v]:=by
 obtain ⟨H1,h1,h2,h3⟩:=h.sealRowQ hi (he.mono upI) hk hl
 refine ⟨H1,h1,h2,?_,fun b hb=>?_⟩
 · obtain ⟨a,cap,rfl,g1,g2⟩:=h3
   refine ⟨a,cap,rfl,g1,fun j x hx=>?_⟩
   obtain ⟨p,cs,rfl,g4,⟨arr,t,fr,g5,g6⟩,_⟩:=g2 j x hx
   obtain ⟨c,q1,q2,q3⟩:=he.get _ _ hx
   obtain ⟨⟨k1,k2⟩,_⟩:=h.ok i _ hi
   rcases k2 with ⟨hv,_⟩|⟨g,off,cap',cur,hv,hg,hh,hle,hcm,hsz,htk⟩
   · cases hv
   · cases hv
     refine ⟨_,c,rfl,q1,⟨arr,t,fr,?_,g6.1,fun m u hu=>?_⟩,En.mono (zaf h2) q2⟩
     · have hnow:=h1.sl _ _ g5
       rw [Addr.add_lit] at g5 hnow ⊢
       simp only at g5 hnow ⊢
       rw [hh] at hnow
       cases hnow
       exact up_iff.2 ⟨hg,g5,rfl⟩
     · have h4:=q3 m u hu
       rw [Addr.add_lit] at g5
       have hnow:=h1.sl _ _ g5
       simp only at hnow
       rw [hh] at hnow
       cases hnow
       rw [← htk,List.getElem?_take] at h4
       split at h4
       · rw [List.getElem?_drop] at h4;rw [Addr.add_lit];simpa [Nat.add_assoc] using h4
       · cases h4
 · obtain ⟨u,hu,hn⟩:=mem_bl hb
   simp only [List.mem_singleton] at hu
   subst hu
   refine h.out i _ b hi ?_
   cases u <;> simp only [neb] at hn <;> try (cases hn)
   rename_i a m c
   cases a with
   | none=>cases hn
   | some a =>
    simp only at hn
    split at hn
    · cases hn
    · exact hn
end
end Go.Mr
