/- Helpers of the walks and plain laws. -/
import Derived.Test.YtkaikagbfoadpaaGreatPpLB
import Derived.ProofKit
import Derived.OpenShut
import Derived.WideKeyArgs
import Derived.Lib.ItoaNum
import Derived.Shelf.SlSortCmp.Kit1
import Derived.Sort.LotA
import Derived.Lib.SlicesCompact
import Derived.Shelf.SlicesE.Compact
import Derived.Ground.SlgnProg
import Derived.Shelf.Sort.Plain
import Derived.Shelf.Slices.In.SortNone
import Derived.RangeFuncRecord
import Derived.Shelf.SlicesE.Delete
import Derived.Test.YtkaikagbfoadpaaGreatPpLA
import Derived.Laws.StructEq
import Derived.KernelRfl
import Derived.Lib.AppendZerosOnto
import Derived.Shelf.Strconv.Itoa3
import Derived.Lib.ItoaLen
import Derived.Laws.Slices
import Derived.ChangeKeysEq
set_option linter.unusedVariables false
namespace Go.Mr
open Go.RowKit Go.Pu
def hpOf (w:World):GH:=fun b=>w.heap[b]?
theorem sl_hpOf (w:World):Sl (hpOf w) w:=fun _ _ h=>h
def RdT (P:Program) (w:World) (t:TypeId) {A:Type} (En:Enc A) (ok:A→Prop):Prop :=
 ∀ {H:Type} {enc:TypeId×Value→H} {base:Nat} {spare:Nat→Bool} {held:Bool} {fuel:Nat} {cs:List Value} {x:DataW H×List MemPlace},DataW.trod enc P w base spare held fuel t cs=some x→∃ a,En.rel (hpOf w) cs a∧ok a
section
variable {P:Program} {w:World} {t e k:Nat} {A:Type} {En:Enc A} {ok:A→Prop}
theorem cell_block {p:Addr} {c:Value} (h:w.cell? p=some c):p.spot=Option.none∧∃ arr e fr,w.heap[p.block]?=some (.cells arr e fr)∧arr[p.off]?=some c:=by
 have hs:=World.cell?_spot h
 refine ⟨hs,?_⟩
 unfold World.cell? at h
 split at h
 · rename_i arr e fr hb
   split at h
   · cases h
   · exact ⟨arr,e,fr,hb,h⟩
 · cases h
theorem cat_of_cells {base:Nat} {p:Addr} {cs:List Value} (hk:0 < k) (h:w.cells? base p k=some cs):cs.length=k∧CAt (hpOf w) p cs:=by
 obtain ⟨_,hl,hc⟩:=World.cells?_some h
 refine ⟨hl,?_⟩
 obtain ⟨c0,h0⟩:∃ c0,cs[0]?=some c0:=⟨cs[0]'(by omega),List.getElem?_eq_getElem (by omega)⟩
 have:=hc 0 hk
 rw [h0,Addr.add_zero'] at this
 obtain ⟨hs,arr,e,fr,hb,_⟩:=cell_block this
 refine ⟨arr,e,fr,hb,hs,fun j c hj=>?_⟩
 have hjk:j < k:=by rw [← hl];exact (List.getElem?_eq_some_iff.1 hj).1
 have h2:=hc j hjk
 rw [hj] at h2
 obtain ⟨_,arr',e',fr',hb',hc'⟩:=cell_block h2
 have hbl:(p.add j).block=p.block:=by unfold Addr.add;split <;> rfl
 rw [hbl,hb] at hb'
 cases hb'
 rw [addr_eta hs] at hc'
 exact hc'
theorem RdT.slice (ht:P.underlying t=some (.slice e)) (hc:P.cellsOf e=k) (hk:0 < k) (he:RdT P w e En ok):RdT P w t (eL En k) (okL ok):=fun {H enc base spare held fuel cs x} h=>by
 rcases DataW.trod_slice ht h with ⟨rfl,_⟩|⟨a,len,cap,elems,rest,n,_,rfl,_,_,hle,hm,hlen,hel,_⟩
 · exact ⟨[],⟨_,rfl,RSl.nil _ _ _⟩,by simp,by simp⟩
 · rw [hc] at hel
   have key:∀ m,m≤len→∃ xs:List A,xs.length=m∧∀ i x,xs[i]?=some x→∃ cs,cs.length=k∧CAt (hpOf w) (a.add (i * k)) cs∧En.rel (hpOf w) cs x∧ok x:=by
    intro m
    induction m with
    | zero=>intro _;exact ⟨[],rfl,by simp⟩
    | succ m ih =>
     intro hlt
     obtain ⟨xs,h1,h2⟩:=ih (by omega)
     have h3:=hel m (by omega)
     rw [List.getElem?_eq_getElem (by omega)] at h3
     obtain ⟨cs',h4,h5⟩:=Option.bind_eq_some_iff.1 h3
     obtain ⟨y,hy,hok⟩:=he h5
     obtain ⟨h6,h7⟩:=cat_of_cells hk h4
     refine ⟨xs++[y],by simp [h1],fun i x hx=>?_⟩
     rcases Nat.lt_or_ge i xs.length with hi|hi
     · rw [List.getElem?_append_left hi] at hx;exact h2 i x hx
     · have:i=xs.length:=by have:=(List.getElem?_eq_some_iff.1 hx).1;simp at this;omega
       subst this
       simp at hx;subst hx
       rw [h1]
       exact ⟨cs',h6,h7,hy,hok⟩
   obtain ⟨xs,h1,h2⟩:=key len (Nat.le_refl _)
   subst h1
   refine ⟨xs,⟨_,rfl,some a,cap,rfl,⟨by omega,nofun,hle⟩,fun i x hx=>let ⟨cs,g1,g2,g3,_⟩:=h2 i x hx;⟨a,cs,rfl,g1,g2,g3⟩⟩,by simp only [maxLen] at hm;omega,fun x hx=>?_⟩
   obtain ⟨i,hi⟩:=List.mem_iff_getElem?.1 hx
   obtain ⟨_,_,_,_,h⟩:=h2 i x hi
   exact h
variable {H:Type} {enc:TypeId×Value→H} {base b0:Nat} {spare:Nat→Bool} {held:Bool} {r:Reach} {v:Value} {d:DataW H} {ps:List MemPlace}
theorem arg_slice (ht:P.underlying t=some (.slice e)) (hc:P.cellsOf e=k) (hk:0 < k) (he:RdT P w e En ok) (hval:Value.okWide P w r b0 t v) (h:DataW.Trod enc P w base spare held t v d ps):∃ xs:List A,RSl (hpOf w) En k v xs∧okL ok xs:=by
 obtain ⟨a,len,cap,rfl⟩:=WideShapes.okWide_slice ht hval
 obtain ⟨fuel,h⟩:=h
 obtain ⟨xs,⟨v',h1,h2⟩,h3⟩:=RdT.slice ht hc hk he h
 simp only [Value.cells,List.cons.injEq,and_true] at h1
 subst h1
 exact ⟨xs,h2,h3⟩
theorem trod_stays {W W':World} (hl:laidOutB P=true) (hr:P.readableRec t=true) (hrow:t < P.types.size) (hb:Below W.heap.size W W') {ps:List MemPlace} (hp:∀ p∈ps,p.block < W.heap.size)
 (h:DataW.Trod enc P W base (fun _=>true) true t v d ps):DataW.Trod enc P W' base (fun b=>decide (b < W.heap.size)) true t v d ps :=
 WideElems.Trod_stays hl hr hrow h (fun p h=>hb.same (hp p h)) (fun p h=>by simpa using hp p h)
end
theorem post_law {H:Type} {enc:TypeId×Value→H} {P:Program} {f:Func} {s:ChangeSpec} {W W':World} {args:Array Value} {ds:List (DataW H)} {p:List MemPlace} {tb:TypeId}
 (hW:DataW.Whole enc P f.params.toList s.vars false W args.toList ds [] (p++[])) (hv:s.vars=[]) (hf:(s.fn H (ds++[]))={ results:=[.lit (.bool true)],args:=ds }) (hrt:f.resultTypes.toList=[tb]) (hrs:f.resultTypes.size=1)
 (htb:P.underlying tb=some .bool) (hA:DataW.TrodAll enc P W' 0 (fun b=>decide (b < W.heap.size)) true f.params.toList args.toList ds p) (hb:Below W.heap.size W W') :
 s.post enc P f false true false false W args (.bool true) W':=by
 refine ⟨ds,[],p++[],[],p,[],hW,?_,?_,?_,hb.frame _,fun h=>by cases h⟩
 · rw [hf,hrt,hrs]
   exact trodAll_cons_mk (shut_bool htb _) ChangeShapes.trodAll_mk0
 · rw [hf];exact hA
 · rw [hf,hv];rfl
end Go.Mr
namespace Go.Pu
def catS (a b:ByteArray):Option ByteArray:=if a.size + b.size≤9223372036854775807 then some (a++b) else none
def itoaS (n:Int):ByteArray:=⟨(Go.Lib.itoa n).toArray⟩
def numT (n:Int):Option ByteArray:=if -9223372036854775808 < n∧n≤9223372036854775807 then some (itoaS n) else none
end Go.Pu
namespace Go.Pu
def ixS (s:ByteArray) (i:Int):Option Int:=if 0≤i then (s.data[i.toNat]?).map fun b=>(b.toNat:Int) else none
theorem ixS_some {s:ByteArray} {i b:Int} (h:ixS s i=some b):0≤i∧∃ u:UInt8,s.data[i.toNat]?=some u∧b=(u.toNat:Int):=by
 unfold ixS at h
 split at h
 · rename_i h0
   cases hu:s.data[i.toNat]? with
   | none=>rw [hu] at h;cases h
   | some u=>rw [hu] at h;cases h;exact ⟨h0,u,rfl,rfl⟩
 · cases h
def cutS (s:ByteArray) (a b:Int):Option ByteArray:=if 0≤a∧a≤b∧b≤s.size then some (s.extract a.toNat b.toNat) else none
theorem cutS_some {s r:ByteArray} {a b:Int} (h:cutS s a b=some r):0≤a∧a≤b∧b≤s.size∧r=s.extract a.toNat b.toNat:=by
 unfold cutS at h;split at h
 · rename_i h0;cases h;exact ⟨h0.1,h0.2.1,h0.2.2,rfl⟩
 · cases h
def okU8 (n:Int):Prop:=0≤n∧n≤255
end Go.Pu
namespace Go.Mr
open Go.RowKit Go.Pu
theorem RdT.u8 {P:Program} {w:World} {t:TypeId} (ht:P.underlying t=some (.int .u8)):RdT P w t (eN .u8) okU8:=fun h=>by
 obtain ⟨n,rfl,_,hw⟩:=DataW.trod_int ht h
 refine ⟨n,rfl,?_⟩
 simp [Lit.wf,IntKind.min,IntKind.max,IntKind.signed,IntKind.bits] at hw
 exact hw
end Go.Mr
namespace Go.Mr
open Go.RowKit Go.Pu
section
variable {P:Program} {w w':World} {H0 H Hs:GH} {w0:World} {l l0 T:List MO} {N:Nat} {f:Fm}
variable {J:List MO→World→Prop}
@[reducible] def iterPost (K:Nat→World→Prop) (Kx:World→Prop) (n:Nat):Ending→World→Prop:=fun e W'=>(∃ v,e=.returned v)∧(K n W'∨Kx W')
@[reducible] def rndQ {S X:Type} (id:Nat) (J:List MO→S→World→Prop) (E:List MO→X→World→Prop) (T:List MO) (o:Lp S X):FQ:=fun e _ W =>
 match o with
 | .nx s=>e=.normal∧J T s W
 | .bk s=>e=.exit id∧J T s W
 | .rt x=>e=.ret∧E T x W
end
end Go.Mr
namespace Go.Mr
open Go.RowKit Go.Pu
section
variable {δ:List Nat} {P:Program} {N:Nat} {f:Fm} {w:World} {ops:Array Oper} {S:World→Prop} {M:Fm→World→Prop} {n:Nat} {ls l':Array Bool}
theorem E.asB {o:Oper} {a b:Bool} (h:(execOp (ev f) o).run P w=.ok (.value (.bool a)) w) (e:a=b):(execOp (ev f) o).run P w=.ok (.value (.bool b)) w:=e ▸ h
end
end Go.Mr
namespace Go.Mr
open Go.RowKit Go.Pu Go.Shelf Go.Sort
section
variable {P:Program} {H0 H:GH} {w0 w:World} {l:List MO} {e n:Nat} {v:Value} {A:Type} {En:Enc A}
abbrev OC:={ v:Value // v.oneCell'=true }
instance:Inhabited OC:=⟨⟨.int .i64 0,rfl⟩⟩
variable {f:Fm} {d:Option Tmp} {ty:TypeId} {pos:String} {aft:Array Edge} {gd:Option (Nat×Bool)} {x:Operand} {k:Nat} {z:Value}
theorem PtrOf.uniq {i:Int} {p q:Addr} (h1:PtrOf k v i p) (h2:PtrOf k v i q):p=q:=by
 obtain ⟨a,m,c,rfl,_,_,rfl⟩:=h1
 obtain ⟨a',m',c',hv,_,_,rfl⟩:=h2
 cases hv;rfl
end
end Go.Mr
namespace Go.Mr
open Go.RowKit Go.Pu
section
variable {P:Program} {f:Fm} {w:World} {d:Option Tmp} {ty:TypeId} {pos:String} {aft:Array Edge} {gd:Option (Nat×Bool)} {x y:Operand}
variable {k yk:IntKind} {a b:Int} {t t':TypeId}
theorem wrk_eq (k:IntKind) (n:Int):k.wrap n=wrk k.signed k.bits n:=rfl
theorem E.addK (hx:ev f x=.int k a) (hy:ev f y=.int k b):(execOp (ev f) ⟨d,.binOp .add t x y t',ty,pos,aft,gd⟩).run P w=.ok (.value (.int k (wrk k.signed k.bits (a + b)))) w:=by
 simp [execOp,eqGuard,binOp,hx,hy,Op.intArith,wrk_eq]
theorem E.subK (hx:ev f x=.int k a) (hy:ev f y=.int k b):(execOp (ev f) ⟨d,.binOp .sub t x y t',ty,pos,aft,gd⟩).run P w=.ok (.value (.int k (wrk k.signed k.bits (a - b)))) w:=by
 simp [execOp,eqGuard,binOp,hx,hy,Op.intArith,wrk_eq]
theorem E.mulK (hx:ev f x=.int k a) (hy:ev f y=.int k b):(execOp (ev f) ⟨d,.binOp .mul t x y t',ty,pos,aft,gd⟩).run P w=.ok (.value (.int k (wrk k.signed k.bits (a * b)))) w:=by
 simp [execOp,eqGuard,binOp,hx,hy,Op.intArith,wrk_eq]
theorem E.and (hx:ev f x=.int k a) (hy:ev f y=.int k b):(execOp (ev f) ⟨d,.binOp .and t x y t',ty,pos,aft,gd⟩).run P w=.ok (.value (.int k (andK k.signed k.bits a b))) w:=by
 simp [execOp,eqGuard,binOp,hx,hy,Op.intBits,andK,wrk_eq]
theorem E.shl (hx:ev f x=.int k a) (hy:ev f y=.int yk b) (hb:¬ b < 0):(execOp (ev f) ⟨d,.binOp .shl t x y t',ty,pos,aft,gd⟩).run P w=.ok (.value (.int k (shlK k.signed k.bits a b))) w:=by
 simp [execOp,eqGuard,binOp,hx,hy,Op.shift,shlK,wrk_eq,hb]
theorem E.shr (hx:ev f x=.int k a) (hy:ev f y=.int yk b) (hb:¬ b < 0):(execOp (ev f) ⟨d,.binOp .shr t x y t',ty,pos,aft,gd⟩).run P w=.ok (.value (.int k (shrK k.bits a b))) w:=by
 simp [execOp,eqGuard,binOp,hx,hy,Op.shift,shrK,hb]
theorem E.nilCheck {p:Addr} (hx:ev f x=.pointer (some p)):(execOp (ev f) ⟨d,.nilCheck x,ty,pos,aft,gd⟩).run P w=.ok (.value (.pointer (some p))) w:=by simp [execOp,hx]
theorem E.conv {s:TypeDesc} (hs:∀ w,(underlying t).run P w=.ok s w) (ht:∀ w,(underlying t').run P w=.ok (.int k) w) (hx:ev f x=.int yk a) :
 (execOp (ev f) ⟨d,.convert t t' x,ty,pos,aft,gd⟩).run P w=.ok (.value (.int k (wrk k.signed k.bits a))) w:=by
 simp [execOp,convert,hs,ht,hx,Conv.intToInt,wrk_eq]
end
end Go.Mr
namespace Go.Mr
open Go.RowKit Go.Pu
@[reducible] def OP {α:Type} (R:Addr→α→Prop) (v:Value) (x:Option α):Prop:=match x with|none=>v=.pointer none|some y=>∃ q,v=.pointer (some q)∧R q y
def SX (H0:GH) (w0:World) (Hr:GH) (l0:List MO) (w:World):Prop:=∃ H,St H0 w0 H w l0∧Inc Hr H
section
variable {H0 Hr H:GH} {w0 w:World} {l0 l:List MO} {e k n:Nat} {v:Value}
theorem SX.sl (h:SX H0 w0 Hr l0 w):Sl Hr w:=let ⟨_,s,i⟩:=h;Sl.of_inc i s.sl
theorem SX.box_now (h:SX H0 w0 Hr l0 w) {i b t:Nat} {cs:List Value} (hi:l0[i]?=some (.box b t cs)):WAt w ⟨b,0,Option.none⟩ cs:=let ⟨_,s,_⟩:=h;s.box_now hi
theorem SX.use {Q:Prop} (h:SX H0 w0 Hr l0 w) (f:∀ H,St H0 w0 H w l0→Q):Q:=let ⟨_,s,_⟩:=h;f _ s
theorem St.row_atA {α:Type} {G:GH} {En:Enc α} {cells:List Value} {xs:List α} (h:St H0 w0 H w l) {i:Nat} (hi:l[i]?=some (.row e k v n cells)) (he:Els G En k cells xs) (hk:0 < k)
 {j:Int} {x:α} (hx:ix xs j=some x):∃ p c,PtrOf k v j p∧c.length=k∧WAt w p c∧En.rel G c x∧∀ (H':GH) (w':World) (l':List MO) (i':Nat),St H0 w0 H' w' l'→l'[i']?=some (.row e k v n cells)→WAt w' p c:=by
 obtain ⟨h0,h1,h2⟩:=ix_some hx
 obtain ⟨c,g1,g2,g3⟩:=he.get _ _ h2
 have key:∀ (H':GH) (w':World) (l':List MO) (i':Nat),St H0 w0 H' w' l'→l'[i']?=some (.row e k v n cells)→∃ p,PtrOf k v j p∧WAt w' p c:=by
  intro H' w' l' i' h' hi'
  obtain ⟨⟨k1,k2⟩,_⟩:=h'.ok i' _ hi'
  have hl:=he.length
  have hn:n=xs.length:=by
   rw [k1] at hl
   exact Nat.eq_of_mul_eq_mul_right hk hl
  rcases k2 with ⟨rfl,h3⟩|⟨g,cap,cur,rfl,hg,hh,hle,_,hsz,htk⟩
  · omega
  · refine ⟨_,⟨⟨g,0,Option.none⟩,_,cap,rfl,h0,by omega,rfl⟩,fun m u hu=>?_⟩
    rw [zcM,Addr.add_lit,Nat.zero_add,cell_of_row w' g _ _ _ _ hh]
    have:=g3 m u hu
    rw [← htk,List.getElem?_take] at this
    split at this
    · simpa using this
    · cases this
 obtain ⟨p,hp,hw⟩:=key H w l i h hi
 exact ⟨p,c,hp,g1,hw,g2,fun H' w' l' i' h' hi'=>by
  obtain ⟨q,hq,hw'⟩:=key H' w' l' i' h' hi'
  obtain rfl:=PtrOf.uniq hq hp
  exact hw'⟩
end
section
variable {f:Fm}
theorem B7 {i1 i2 i3 i4 i5 i6 i7:Nat} {x1 x2 x3 x4 x5 x6 x7:Operand} {v1 v2 v3 v4 v5 v6 v7:Value} (h1:ev f x1=v1) (h2:ev f x2=v2) (h3:ev f x3=v3) (h4:ev f x4=v4) (h5:ev f x5=v5) (h6:ev f x6=v6) (h7:ev f x7=v7) :
 ((#[(i1,x1),(i2,x2),(i3,x3),(i4,x4),(i5,x5),(i6,x6),(i7,x7)]:Array (Nat×Operand)).map fun (i,x)=>(i,ev f x))=#[(i1,v1),(i2,v2),(i3,v3),(i4,v4),(i5,v5),(i6,v6),(i7,v7)]:=by simp [h1,h2,h3,h4,h5,h6,h7]
theorem B8 {i1 i2 i3 i4 i5 i6 i7 i8:Nat} {x1 x2 x3 x4 x5 x6 x7 x8:Operand} {v1 v2 v3 v4 v5 v6 v7 v8:Value} (h1:ev f x1=v1) (h2:ev f x2=v2) (h3:ev f x3=v3) (h4:ev f x4=v4) (h5:ev f x5=v5) (h6:ev f x6=v6) (h7:ev f x7=v7) (h8:ev f x8=v8) :
 ((#[(i1,x1),(i2,x2),(i3,x3),(i4,x4),(i5,x5),(i6,x6),(i7,x7),(i8,x8)]:Array (Nat×Operand)).map fun (i,x)=>(i,ev f x))=#[(i1,v1),(i2,v2),(i3,v3),(i4,v4),(i5,v5),(i6,v6),(i7,v7),(i8,v8)]:=by simp [h1,h2,h3,h4,h5,h6,h7,h8]
theorem B10 {i1 i2 i3 i4 i5 i6 i7 i8 i9 i10:Nat} {x1 x2 x3 x4 x5 x6 x7 x8 x9 x10:Operand} {v1 v2 v3 v4 v5 v6 v7 v8 v9 v10:Value} (h1:ev f x1=v1) (h2:ev f x2=v2) (h3:ev f x3=v3) (h4:ev f x4=v4) (h5:ev f x5=v5) (h6:ev f x6=v6) (h7:ev f x7=v7) (h8:ev f x8=v8) (h9:ev f x9=v9) (h10:ev f x10=v10) :
 ((#[(i1,x1),(i2,x2),(i3,x3),(i4,x4),(i5,x5),(i6,x6),(i7,x7),(i8,x8),(i9,x9),(i10,x10)]:Array (Nat×Operand)).map fun (i,x)=>(i,ev f x))=#[(i1,v1),(i2,v2),(i3,v3),(i4,v4),(i5,v5),(i6,v6),(i7,v7),(i8,v8),(i9,v9),(i10,v10)]:=by simp [h1,h2,h3,h4,h5,h6,h7,h8,h9,h10]
end
section
variable {P:Program} {f:Fm} {w:World} {d:Option Tmp} {ty:TypeId} {pos:String} {aft:Array Edge} {gd:Option (Nat×Bool)} {x y:Operand} {t t':TypeId}
end
end Go.Mr
namespace Go.Mr
open Go.RowKit Go.Pu
structure SP (B:World→Prop) (ps:List (List Nat×(World→Prop))) (ls:Array Bool) (w:World):Prop where
 base:B w
 ph:∀ p∈ps,(∀ h∈p.1,ls.getD h true=false)→p.2 w
theorem SP.nil {B:World→Prop} {ls:Array Bool} {w:World} (hB:B w):SP B [] ls w:=⟨hB,nofun⟩
theorem SP.on {B R:World→Prop} {Hs:List Nat} {ps:List (List Nat×(World→Prop))} {ls:Array Bool} {w:World} (hR:R w) (h:SP B ps ls w):SP B ((Hs,R)::ps) ls w :=
 ⟨h.base,fun p hp hn=>by
  rcases List.mem_cons.1 hp with rfl|hp
  · exact hR
  · exact h.ph p hp hn⟩
theorem SP.off {B R:World→Prop} {Hs:List Nat} {ps:List (List Nat×(World→Prop))} {ls:Array Bool} {w:World} (hH:(Hs.any fun h=>ls.getD h true)=true) (h:SP B ps ls w):SP B ((Hs,R)::ps) ls w :=
 ⟨h.base,fun p hp hn=>by
  rcases List.mem_cons.1 hp with rfl|hp
  · obtain ⟨k,hk,ht⟩:=List.any_eq_true.1 hH
    have:=hn k hk
    rw [this] at ht;cases ht
  · exact h.ph p hp hn⟩
theorem SP.iff {B:World→Prop} {ps:List (List Nat×(World→Prop))} {i:Nat} (hi:(ps.all fun p=>!p.1.contains i)=true) {ls:Array Bool} {w:World}:SP B ps (ls.setIfInBounds i true) w↔SP B ps ls w:=by
 have key:∀ p∈ps,∀ h∈p.1,(ls.setIfInBounds i true).getD h true=ls.getD h true:=fun p hp h hh=>by
  refine getD_set_ne true fun e=>?_
  have:=List.all_eq_true.1 hi p hp
  rw [e] at this
  simp [hh] at this
 exact ⟨fun k=>⟨k.base,fun p hp hn=>k.ph p hp fun h hh=>by rw [key p hp h hh];exact hn h hh⟩,fun k=>⟨k.base,fun p hp hn=>k.ph p hp fun h hh=>by rw [← key p hp h hh];exact hn h hh⟩⟩
section
variable {P:Program} {ops:Array Oper} {Q:Exit→Act→World→Prop} {md:Region.Mode}
def zbd (P:Program) (md:Region.Mode) (ops:Array Oper) (Q:Exit→Act→World→Prop) (S:Array Bool→World→Prop):Nat→Array Bool→Act→World→Prop
 | 0,ls,a,w=>Region.ready md ops ls=[]∧Q .normal a w
 | n + 1,ls,a,w=>(Region.ready md ops ls=[]→Q .normal a w) ∧
  ∀ i∈Region.ready md ops ls,wpOp P ops Q i (fun a w=>S (ls.setIfInBounds i true) w∧zbd P md ops Q S n (ls.setIfInBounds i true) a w) a w
theorem zbd.mono {S S':Array Bool→World→Prop} (hS:∀ ls w,S ls w→S' ls w):∀ (n:Nat) (ls:Array Bool) (a:Act) (w:World),zbd P md ops Q S n ls a w→zbd P md ops Q S' n ls a w
 | 0,_,_,_,h=>h
 | n + 1,_,_,_,h=>⟨h.1,fun i hi=>wpOp_mono (fun _ _ k=>⟨hS _ _ k.1,zbd.mono hS n _ _ _ k.2⟩) (h.2 i hi)⟩
theorem zbd.held {S:Array Bool→World→Prop}:∀ (n:Nat) (ls:Array Bool) (a:Act) (w:World),zbd P md ops Q S n ls a w→wpAnyH P md ops Q (fun _=>True) n ls a w
 | 0,_,_,_,h=>h
 | n + 1,_,_,_,h=>⟨h.1,fun i hi=>wpOp_mono (fun _ _ k=>⟨trivial,zbd.held n _ _ _ k.2⟩) (h.2 i hi)⟩
theorem zbd.first {S:Array Bool→World→Prop} {i:Nat} {oi:Oper} {v:Value} (C:Nat→Prop) (hi:ops[i]?=some oi) (hsel:∀ (j:Nat) (o:Oper) cs b,ops[j]?=some o→o.op≠.select cs b)
 (hQ:∀ c a w,Q (.panic c) (a.put oi.dst v) w→Q (.panic c) a w) (hSi:∀ ls w,S (ls.setIfInBounds i true) w↔S ls w)
 (hC:∀ j,C j→∃ oj,ops[j]?=some oj∧∃ e∈oj.after,Region.binds md e=true∧(C e.on∨e.on=i)):∀ (n:Nat) (ls:Array Bool) (a:Act) (w:World),
  (∀ j oj,ops[j]?=some oj→j≠i→ls.getD j true=false→(∀ e∈oj.after,Region.binds md e=true→e.on≠i)→oi.apart ops oj=true) →
  i∈Region.ready md ops ls→(∀ j,C j→ls.getD j true=false)→YieldsIf P ops (fun w'=>∃ ls',(∀ j,C j→ls'.getD j true=false)∧S ls' w') oi v a→S ls w →
  zbd P md ops Q S n (ls.setIfInBounds i true) (a.put oi.dst v) w→zbd P md ops Q S (n + 1) ls a w:=by
 intro n
 induction n with
 | zero =>
  intro ls a w _ hr hn hy hS H
  refine ⟨fun h=>(by rw [h] at hr;cases hr),fun j hj=>?_⟩
  by_cases hji:j=i
  · subst hji;exact hy.wpOp hi ⟨ls,hn,hS⟩ ⟨(hSi ls w).2 hS,H⟩
  · have hm:=ready_mono hj hji
    rw [H.1] at hm
    cases hm
 | succ n ih =>
  intro ls a w hfree hr hn hy hS H
  refine ⟨fun h=>(by rw [h] at hr;cases hr),fun j hj=>?_⟩
  by_cases hji:j=i
  · subst hji;exact hy.wpOp hi ⟨ls,hn,hS⟩ ⟨(hSi ls w).2 hS,H⟩
  · have h1:=H.2 j (ready_mono hj hji)
    obtain ⟨hun,oj,hoj,hall⟩:=mem_ready.1 hj
    have hir:=(mem_ready.1 hr).1
    have off:∀ k,ls.getD k true=false→ls.getD k false=true→False:=fun k h0 h1=>by
     rcases Nat.lt_or_ge k ls.size with h'|h'
     · simp [h'] at h0 h1;rw [h0] at h1;cases h1
     · simp [Array.getElem?_eq_none h'] at h1
    have hno:∀ e∈oj.after,Region.binds md e=true→e.on≠i:=fun e he hb heq=>off i hir (heq ▸ hall e he hb)
    have hCj:¬ C j:=fun hc=>by
     obtain ⟨oj',ho',e,he,hb,hd⟩:=hC j hc
     rw [hoj] at ho';cases ho'
     rcases hd with hd|hd
     · exact off _ (hn _ hd) (hall e he hb)
     · exact hno e he hb hd
    have hn':∀ k,C k→(ls.setIfInBounds j true).getD k true=false:=fun k hk=>by
     rw [getD_set_ne true (fun (e:j=k)=>hCj (by rw [e];exact hk))];exact hn k hk
    have h2:=wpOp_putIf hoj (hfree j oj hoj hji hun hno) (fun cs b=>hsel i oi cs b hi) (fun cs b=>hsel j oj cs b hoj) hQ hy h1
    refine wpOp_mono (fun a' w' h3=>?_) h2
    have e:=Array.setIfInBounds_comm (xs:=ls) true true hji
    have hS':S (ls.setIfInBounds j true) w':=(hSi _ _).1 (by rw [e];exact h3.2.1)
    refine ⟨hS',ih (ls.setIfInBounds j true) a' w' (fun k ok hk hki hun' hno'=>?_) (ready_mono hr (Ne.symm hji)) hn' h3.1 hS' (by rw [e];exact h3.2.2)⟩
    refine hfree k ok hk hki ?_ hno'
    by_cases hjk:j=k
    · subst hjk;exact hun
    · rw [getD_set_ne true hjk] at hun';exact hun'
def certB (ops:Array Oper) (C:List Nat) (i:Nat) (ls:Array Bool) (ps:List (List Nat×(World→Prop))):Bool :=
 (C.all fun j=>!ls.getD j true && match ops[j]? with|some oj=>oj.after.any fun e=>Region.binds .any e && (C.contains e.on || e.on == i)|none=>false) && ps.all fun p=>!p.1.contains i
end
def FB {δ:List Nat} (P:Program) (N:Nat) (ops:Array Oper) (B:World→Prop) (M:Fm→World→Prop) (ps:List (List Nat×(World→Prop))) (n:Nat) (ls:Array Bool) (f:Fm) (w:World):Prop :=
 ∀ a,Fr (δ:=δ) N a f→zbd P .any ops (lift (δ:=δ) N fun e f w=>e=.normal∧M f w) (SP B ps) n ls a w
def FC {δ:List Nat} (P:Program) (N:Nat) (ops:Array Oper) (B:World→Prop) (M:Fm→World→Prop) (ps:List (List Nat×(World→Prop))) (n:Nat) (ls:Array Bool) (i:Nat) (f:Fm) (w:World):Prop :=
 ∀ a,Fr (δ:=δ) N a f→wpOp P ops (lift (δ:=δ) N fun e f w=>e=.normal∧M f w) i (fun a w=>SP B ps (ls.setIfInBounds i true) w∧zbd P .any ops (lift (δ:=δ) N fun e f w=>e=.normal∧M f w) (SP B ps) n (ls.setIfInBounds i true) a w) a w
section
variable {δ:List Nat} {P:Program} {N:Nat} {f:Fm} {w w':World} {ops:Array Oper} {B:World→Prop} {M:Fm→World→Prop} {ps:List (List Nat×(World→Prop))} {n:Nat} {ls l':Array Bool} {H:GH}
theorem FW.drawB {Q:FQ} {id:Nat} {l:List Oper} (B:World→Prop) (M:Fm→World→Prop) (hm:P.follows .mixedOrders=true) (hs:Sl H w)
 (h:∀ w1,Run w.heap.size H w H w1→FB (δ:=δ) P N l.toArray B M [] l.length (Array.replicate l.length false) f w1) (hQ:∀ f w,M f w→Q .normal f w):FW (ρ:=none) (δ:=δ) P N (.region id l.toArray true) Q f w:=by
 intro n a ha
 refine wpIn_wide.2 ?_
 refine Code.wp_mono (Q:=lift (δ:=δ) N fun e f w=>e=.normal∧M f w) (fun e a w ⟨f,hf,he,hM⟩=>he ▸ ⟨f,hf,hQ f w hM⟩) (wp_region_held (S:=fun _=>True) hm (zbd.held (S:=SP B []) _ _ _ _ ?_))
 have:=h _ (zaR hs) a ha
 simpa using this
theorem FB.phase (Hs:List Nat) (R:World→Prop) (h:FB (δ:=δ) P N ops B M ((Hs,R)::ps) n ls f w):FB (δ:=δ) P N ops B M ps n ls f w :=
 fun a ha=>zbd.mono (fun _ _ k=>⟨k.base,fun p hp=>k.ph p (by simp [hp])⟩) _ _ _ _ (h a ha)
theorem FB.take0 {S':World→Prop} {i d:Nat} {o:Oper} {v:Value} (C:List Nat) (hi:ops[i]?=some o) (hs:Region.noSelect ops=true) (hf:Region.free .any ops ls i=true) (hr:(Region.ready .any ops ls).contains i=true)
 (hl:ls.setIfInBounds i true=l') (hc:certB ops C i ls ps=true) (hS:SP B ps ls w) (hd:o.dst=some d) (hlt:Nat.blt d N=true)
 (hy:∀ a,Fr (δ:=δ) N a f→YieldsIf P ops S' o v a) (hS':∀ ls' w',(∀ j∈C,ls'.getD j true=false)→SP B ps ls' w'→S' w')
 (h:FB (δ:=δ) P N ops B M ps n l' (upd f d v) w):FB (δ:=δ) P N ops B M ps (n + 1) ls f w:=by
 subst hl
 intro a ha
 unfold certB at hc
 rw [Bool.and_eq_true] at hc
 have hC:=List.all_eq_true.1 hc.1
 refine zbd.first (v:=v) (fun j=>j∈C) hi (Region.noSelect_spec hs) (fun c a w hq=>?_) (fun ls w=>SP.iff hc.2) (fun j hj=>?_) n ls a w (Region.free_spec hi hf) (by simpa using hr) (fun j hj=>?_) ?_ hS ?_
 · obtain ⟨_,_,h0,_⟩:=hq;cases h0
 · have:=hC j hj
   rw [Bool.and_eq_true] at this
   cases ho:ops[j]? with
   | none=>rw [ho] at this;cases this.2
   | some oj =>
    rw [ho] at this
    obtain ⟨e,he,hb⟩:=Array.any_eq_true'.1 this.2
    rw [Bool.and_eq_true,Bool.or_eq_true] at hb
    exact ⟨oj,rfl,e,he,hb.1,hb.2.imp (fun h=>by simpa using h) fun h=>by simpa using h⟩
 · have:=hC j hj
   rw [Bool.and_eq_true] at this
   simpa using this.1
 · exact (hy a ha).imp (fun ⟨h1,h2⟩=>⟨h1,fun w' ⟨ls',k1,k2⟩=>h2 w' (hS' ls' w' k1 k2)⟩) id
 · rw [hd];exact h _ (ha.put (nblt hlt) v)
theorem FB.take {i d:Nat} {o:Oper} {v:Value} (hi:ops[i]?=some o) (hs:Region.noSelect ops=true) (hf:Region.free .any ops ls i=true) (hr:(Region.ready .any ops ls).contains i=true)
 (hl:ls.setIfInBounds i true=l') (hc:certB ops [] i ls ps=true) (hS:SP B ps ls w) (hw:wF ops f o=true) (hd:o.dst=some d) (hlt:Nat.blt d N=true) (hrun:∀ w',B w'→(execOp (ev f) o).run P w'=.ok (.value v) w')
 (h:FB (δ:=δ) P N ops B M ps n l' (upd f d v) w):FB (δ:=δ) P N ops B M ps (n + 1) ls f w :=
 FB.take0 (S':=B) [] hi hs hf hr hl hc hS hd hlt (fun a ha=>.inl ⟨by rw [ha.yielded];exact hw,fun w' hw'=>by rw [ha.eval];exact hrun w' hw'⟩) (fun _ _ _ k=>k.base) h
theorem FB.takeP {Hs:List Nat} {R:World→Prop} {i d:Nat} {o:Oper} {v:Value} (q:Nat) (C:List Nat) (hq:ps[q]?=some (Hs,R)) (hi:ops[i]?=some o) (hs:Region.noSelect ops=true) (hf:Region.free .any ops ls i=true) (hr:(Region.ready .any ops ls).contains i=true)
 (hl:ls.setIfInBounds i true=l') (hc:certB ops C i ls ps=true) (hH:Hs.all (C.contains ·)=true) (hS:SP B ps ls w) (hw:wF ops f o=true) (hd:o.dst=some d) (hlt:Nat.blt d N=true)
 (hrun:∀ w',R w'→(execOp (ev f) o).run P w'=.ok (.value v) w')
 (h:FB (δ:=δ) P N ops B M ps n l' (upd f d v) w):FB (δ:=δ) P N ops B M ps (n + 1) ls f w :=
 FB.take0 (S':=R) C hi hs hf hr hl hc hS hd hlt (fun a ha=>.inl ⟨by rw [ha.yielded];exact hw,fun w' hw'=>by rw [ha.eval];exact hrun w' hw'⟩)
  (fun ls' w' k1 k2=>k2.ph (Hs,R) (List.mem_of_getElem? hq) fun h hh=>k1 h (by have:=List.all_eq_true.1 hH h hh;simpa using this)) h
theorem FB.skip {i:Nat} {o:Oper} (hi:ops[i]?=some o) (hs:Region.noSelect ops=true) (hf:Region.free .any ops ls i=true) (hr:(Region.ready .any ops ls).contains i=true)
 (hl:ls.setIfInBounds i true=l') (hc:certB ops [] i ls ps=true) (hS:SP B ps ls w) {d:Nat} (hw:wF ops f o=false) (hd:o.dst=some d) (hlt:Nat.blt d N=true)
 (h:FB (δ:=δ) P N ops B M ps n l' (upd f d undef) w):FB (δ:=δ) P N ops B M ps (n + 1) ls f w :=
 FB.take0 (S':=B) [] hi hs hf hr hl hc hS hd hlt (fun a ha=>.inr ⟨by rw [ha.yielded];exact hw,rfl⟩) (fun _ _ _ k=>k.base) h
theorem FB.done (hr:Region.ready .any ops ls=[]) (h:M f w):FB (δ:=δ) P N ops B M ps n ls f w:=fun _ ha=>by
 cases n with
 | zero=>exact ⟨hr,⟨f,ha,rfl,h⟩⟩
 | succ n=>exact ⟨fun _=>⟨f,ha,rfl,h⟩,fun i hi=>by rw [hr] at hi;cases hi⟩
theorem FB.all {rs:List Nat} (hr:Region.ready .any ops ls=rs) (hne:rs≠[]) (h:∀ i∈rs,FC (δ:=δ) P N ops B M ps n ls i f w):FB (δ:=δ) P N ops B M ps (n + 1) ls f w :=
 fun a ha=>⟨fun h0=>absurd (hr ▸ h0) hne,fun i hi=>h i (hr ▸ hi) a ha⟩
theorem FB.all1 {i:Nat} (hr:Region.ready .any ops ls=[i]) (h:FC (δ:=δ) P N ops B M ps n ls i f w):FB (δ:=δ) P N ops B M ps (n + 1) ls f w :=
 FB.all hr (by simp) fun j hj=>by simp at hj;subst hj;exact h
theorem FB.all2 {i j:Nat} (hr:Region.ready .any ops ls=[i,j]) (h1:FC (δ:=δ) P N ops B M ps n ls i f w) (h2:FC (δ:=δ) P N ops B M ps n ls j f w):FB (δ:=δ) P N ops B M ps (n + 1) ls f w :=
 FB.all hr (by simp) fun m hm=>by
  simp at hm;rcases hm with rfl|rfl
  · exact h1
  · exact h2
theorem FB.all3 {i j k:Nat} (hr:Region.ready .any ops ls=[i,j,k]) (h1:FC (δ:=δ) P N ops B M ps n ls i f w) (h2:FC (δ:=δ) P N ops B M ps n ls j f w) (h3:FC (δ:=δ) P N ops B M ps n ls k f w):FB (δ:=δ) P N ops B M ps (n + 1) ls f w :=
 FB.all hr (by simp) fun m hm=>by
  simp at hm;rcases hm with rfl|rfl|rfl
  · exact h1
  · exact h2
  · exact h3
def bs (n m:Nat):Array Bool:=((List.range n).map fun i=>m.testBit i).toArray
theorem FB.t {i d:Nat} {o:Oper} {v:Value} (l':Array Bool) (hi:ops[i]?=some o) (hS:SP B ps ls w) (hw:wF ops f o=true) (hrun:∀ w',B w'→(execOp (ev f) o).run P w'=.ok (.value v) w')
 (h:FB (δ:=δ) P N ops B M ps n l' (upd f d v) w) (hd:o.dst=some d:=by rfl) (hlt:Nat.blt d N=true:=by rfl) (hs:Region.noSelect ops=true:=by kernel_rfl) (hf:Region.free .any ops ls i=true:=by kernel_rfl)
 (hr:(Region.ready .any ops ls).contains i=true:=by kernel_rfl) (hl:ls.setIfInBounds i true=l':=by kernel_rfl) (hc:certB ops [] i ls ps=true:=by kernel_rfl):FB (δ:=δ) P N ops B M ps (n + 1) ls f w :=
 FB.take hi hs hf hr hl hc hS hw hd hlt hrun h
theorem FB.p {Hs:List Nat} {R:World→Prop} {i d:Nat} {o:Oper} {v:Value} (l':Array Bool) (q:Nat) (C:List Nat) (hi:ops[i]?=some o) (hS:SP B ps ls w) (hw:wF ops f o=true) (hq:ps[q]?=some (Hs,R)) (hrun:∀ w',R w'→(execOp (ev f) o).run P w'=.ok (.value v) w')
 (h:FB (δ:=δ) P N ops B M ps n l' (upd f d v) w) (hd:o.dst=some d:=by rfl) (hlt:Nat.blt d N=true:=by rfl) (hs:Region.noSelect ops=true:=by kernel_rfl) (hf:Region.free .any ops ls i=true:=by kernel_rfl)
 (hr:(Region.ready .any ops ls).contains i=true:=by kernel_rfl) (hl:ls.setIfInBounds i true=l':=by kernel_rfl) (hc:certB ops C i ls ps=true:=by kernel_rfl) (hH:Hs.all (C.contains ·)=true:=by kernel_rfl):FB (δ:=δ) P N ops B M ps (n + 1) ls f w :=
 FB.takeP q C hq hi hs hf hr hl hc hH hS hw hd hlt hrun h
theorem SP.o {B R:World→Prop} {Hs:List Nat} {ps:List (List Nat×(World→Prop))} {ls:Array Bool} {w:World} (h:SP B ps ls w) (hH:(Hs.any fun h=>ls.getD h true)=true:=by kernel_rfl):SP B ((Hs,R)::ps) ls w:=SP.off hH h
theorem FC.val {i d:Nat} {o:Oper} {v:Value} (hi:ops[i]?=some o) (hl:ls.setIfInBounds i true=l') (hw:wF ops f o=true) (hd:o.dst=some d) (hlt:Nat.blt d N=true)
 (hr:(execOp (ev f) o).run P w=.ok (.value v) w') (h:SP B ps l' w'∧FB (δ:=δ) P N ops B M ps n l' (upd f d v) w'):FC (δ:=δ) P N ops B M ps n ls i f w:=by
 subst hl
 intro a ha
 unfold wpOp
 simp only [hi]
 rw [ha.yielded,if_pos (show Region.wanted o (yF ops f)=true from hw)]
 refine .inl ?_
 unfold Oper.wp
 rw [ha.eval,hr,Oper.upon_value,hd]
 exact ⟨h.1,h.2 _ (ha.put (nblt hlt) v)⟩
theorem FC.act {i:Nat} {o:Oper} (hi:ops[i]?=some o) (hl:ls.setIfInBounds i true=l') (hw:wF ops f o=true) (hd:o.dst=none)
 (hr:(execOp (ev f) o).run P w=.ok .skip w') (h:SP B ps l' w'∧FB (δ:=δ) P N ops B M ps n l' f w'):FC (δ:=δ) P N ops B M ps n ls i f w:=by
 subst hl
 intro a ha
 unfold wpOp
 simp only [hi]
 rw [ha.yielded,if_pos (show Region.wanted o (yF ops f)=true from hw)]
 refine .inl ?_
 unfold Oper.wp
 rw [ha.eval,hr,Oper.upon_skip,hd]
 exact ⟨h.1,h.2 _ ha⟩
theorem FC.call {i d fid:Nat} {o:Oper} {args:Array Value} {R:Ending→World→Prop} (hi:ops[i]?=some o) (hl:ls.setIfInBounds i true=l') (hw:wF ops f o=true) (hd:o.dst=some d) (hlt:Nat.blt d N=true)
 (hr:(execOp (ev f) o).run P w=.ok (.enter fid args) w) (hc:Calls P fid args w R)
 (h:∀ e w',R e w'→∃ v,e=.returned v∧SP B ps l' w'∧FB (δ:=δ) P N ops B M ps n l' (upd f d v) w'):FC (δ:=δ) P N ops B M ps n ls i f w:=by
 subst hl
 intro a ha
 unfold wpOp
 simp only [hi]
 rw [ha.yielded,if_pos (show Region.wanted o (yF ops f)=true from hw)]
 refine .inl ?_
 unfold Oper.wp
 rw [ha.eval,hr,Oper.upon_enter,hd]
 refine hc.mono fun e w' r=>?_
 obtain ⟨v,rfl,hS,hv⟩:=h e w' r
 exact ⟨hS,hv _ (ha.put (nblt hlt) v)⟩
end
section
variable {P:Program} {f:Fm} {d:Option Tmp} {ty:TypeId} {pos:String} {aft:Array Edge} {gd:Option (Nat×Bool)} {x:Operand} {H0 H H':GH} {w0 w w':World} {l:List MO} {e k n:Nat} {z v:Value}
theorem E.lenOW {α:Type} {En:Enc α} {xs:List α} {cells:List Value} {t e':Nat} (te:TE P t e' k z) (hx:ev f x=v) (h:St H0 w0 H w l) {i:Nat} (hi:l[i]?=some (.row e k v n cells)) (he:Els H' En k cells xs) (hk:0 < k) :
 (execOp (ev f) ⟨d,.call ⟨.builtin .len,#[x],#[t]⟩,ty,pos,aft,gd⟩).run P w'=.ok (.value (.int .i64 (Pu.len xs))) w':=by
 have:=E.len (P:=P) (f:=f) (w:=w') (d:=d) (ty:=ty) (pos:=pos) (aft:=aft) (gd:=gd) te hx (h.row_ln hi)
 rw [h.row_n hi he hk] at this;exact this
end
section
variable {ρ:Option Nat} {δ:List Nat} {P:Program} {N:Nat} {Q:FQ} {f:Fm} {w:World} {ops:Array Oper} {o:Oper} {rest:List Oper}
theorem FL.v {d:Nat} {v:Value} {w':World} (hr:(execOp (ev f) o).run P w=.ok (.value v) w') (h:FL (ρ:=ρ) (δ:=δ) P N ops Q rest (upd f d v) w')
 (hw:wF ops f o=true:=by rfl) (hd:o.dst=some d:=by rfl) (hlt:Nat.blt d N=true:=by rfl):FL (ρ:=ρ) (δ:=δ) P N ops Q (o::rest) f w:=FL.val hw hd hlt hr h
end
end Go.Mr
namespace Go.Mr
open Go.RowKit Go.Pu
structure KeyNow (P:Program) (kt:TypeId) {K:Type} [BEq K] (ek:K→Value):Prop where
 kd:∃ kd,(∀ w,(underlying kt).run P w=.ok kd w)∧∀ a b,Instr.sameNow kd (ek a) (ek b)=some (a == b)
 eq:∀ a b:K,(a == b)=true→a=b
 bits:∀ a,Instr.sameBits 10000 (ek a) (ek a)=true
 chk:∀ e a w,(Instr.checkKey e 10000 kt (ek a)).run P w=.ok () w
section
variable {H0 H:GH} {w0 w:World} {l:List MO} {P:Program} {K V:Type} {ek:K→Value} {en:V→Value} {kt et t:TypeId} {o:Obj} {m:List (K×V)} {i b:Nat}
end
end Go.Mr
namespace Go.Mr
open Go.RowKit Go.Pu
section
variable {H0 H G G':GH} {w0 w:World} {l:List MO} {P:Program} {t e n:Nat} {v u:Value} {α:Type} {En:Enc α} {cells c0:List Value} {xs ys:List α} {j:Int} {x:α} {i:Nat}
structure Pend (G:GH) (En:Enc α) (cells:List Value) (xs:List α) (j:Int) (u:Value):Prop where
 pd:∃ c0,Els G En 1 c0 xs∧0≤j∧j < xs.length∧cells=c0.take (j.toNat * 1)++[u]++c0.drop (j.toNat * 1 + 1)
end
end Go.Mr
namespace Go.Mr
open Go.RowKit Go.Pu
abbrev vI (n:Int):Value:=.int .i64 n
abbrev vB (b:Bool):Value:=.bool b
abbrev vP (a:Addr):Value:=.pointer (some a)
theorem wY {ops:Array Oper} {f:Fm} {o:Oper} {j t:Nat} {b c:Bool} (hc:c=b) (hg:o.guard=some (j,b):=by rfl) (hj:(ops[j]?).bind (·.dst)=some t:=by rfl) (hv:f t=.bool c:=by rfl):wF ops f o=true:=zaQ hg hj hv hc
theorem wN {ops:Array Oper} {f:Fm} {o:Oper} {j t:Nat} {b c:Bool} (hc:c=!b) (hg:o.guard=some (j,b):=by rfl) (hj:(ops[j]?).bind (·.dst)=some t:=by rfl) (hv:f t=.bool c:=by rfl):wF ops f o=false:=wF_no hg hj hv hc
abbrev vA (xs:Array Value):Value:=.agg xs
theorem I0 {H:GH}:Inc H H:=Inc.rfl H
theorem oC {c:Value} {l:List Value} (h:c.oneCell'=true) (hl:∀ u∈l,u.oneCell'=true):∀ u∈c::l,u.oneCell'=true:=zbu h hl
theorem nB {m n:Nat} (h:Nat.ble m n=true):m≤n:=Nat.le_of_ble_eq_true h
abbrev vN:Value:=.slice none 0 0
section
variable {ρ:Option Nat} {δ:List Nat} {P:Program} {N:Nat} {Q:FQ} {f:Fm} {w:World} {ops:Array Oper} {o:Oper} {rest:List Oper} {C:World→Prop} {Qd:Fm→Prop}
theorem FW.sr {id:Nat} {l:List Oper} {y:Code} (h:FL (ρ:=ρ) (δ:=δ) P N l.toArray (thenF (fun f w=>FW (ρ:=ρ) (δ:=δ) P N y Q f w) Q) l f w):FW (ρ:=ρ) (δ:=δ) P N (.seq (.region id l.toArray false) y) Q f w:=FW.seq (FW.region h)
theorem FL.mv {d:Nat} {v:Value} {x:Operand} {ty:TypeId} {pos:String} {aft:Array Edge} {gd:Option (Nat×Bool)} (hx:ev f x=v) (h:FL (ρ:=ρ) (δ:=δ) P N ops Q rest (upd f d v) w)
 (hw:wF ops f ⟨some d,.move x,ty,pos,aft,gd⟩=true:=by rfl) (hlt:Nat.blt d N=true:=by rfl):FL (ρ:=ρ) (δ:=δ) P N ops Q (⟨some d,.move x,ty,pos,aft,gd⟩::rest) f w:=FL.val hw rfl hlt (E.move hx) h
theorem FL.as {d:Nat} {v:Value} {x:Operand} {ty:TypeId} {pos:String} {aft:Array Edge} {gd:Option (Nat×Bool)} (hx:ev f x=v) (h:FL (ρ:=ρ) (δ:=δ) P N ops Q rest (upd f d v) w)
 (hw:wF ops f ⟨some d,.assign x,ty,pos,aft,gd⟩=true:=by rfl) (hlt:Nat.blt d N=true:=by rfl):FL (ρ:=ρ) (δ:=δ) P N ops Q (⟨some d,.assign x,ty,pos,aft,gd⟩::rest) f w:=FL.val hw rfl hlt (E.assign hx) h
theorem FL.c {d fid:Nat} {args:Array Value} {R:Ending→World→Prop} (hr:(execOp (ev f) o).run P w=.ok (.enter fid args) w) (hc:Calls P fid args w R)
 (h:∀ e w',R e w'→∃ v,e=.returned v∧FL (ρ:=ρ) (δ:=δ) P N ops Q rest (upd f d v) w') (hw:wF ops f o=true:=by rfl) (hd:o.dst=some d:=by rfl) (hlt:Nat.blt d N=true:=by rfl):FL (ρ:=ρ) (δ:=δ) P N ops Q (o::rest) f w:=FL.call hw hd hlt hr hc h
theorem FD.v {d:Nat} {v:Value} (hr:∀ w,C w→(execOp (ev f) o).run P w=.ok (.value v) w) (h:FD (δ:=δ) P N ops C Qd rest (upd f d v))
 (hw:wF ops f o=true:=by rfl) (hd:o.dst=some d:=by rfl) (hlt:Nat.blt d N=true:=by rfl):FD (δ:=δ) P N ops C Qd (o::rest) f:=FD.val hw hd hlt hr h
theorem FD.y {d:Nat} {v:Value} (hw:wF ops f o=true) (hr:∀ w,C w→(execOp (ev f) o).run P w=.ok (.value v) w) (h:FD (δ:=δ) P N ops C Qd rest (upd f d v))
 (hd:o.dst=some d:=by rfl) (hlt:Nat.blt d N=true:=by rfl):FD (δ:=δ) P N ops C Qd (o::rest) f:=FD.val hw hd hlt hr h
theorem FL.y {d:Nat} {v:Value} {w':World} (hw:wF ops f o=true) (hr:(execOp (ev f) o).run P w=.ok (.value v) w') (h:FL (ρ:=ρ) (δ:=δ) P N ops Q rest (upd f d v) w')
 (hd:o.dst=some d:=by rfl) (hlt:Nat.blt d N=true:=by rfl):FL (ρ:=ρ) (δ:=δ) P N ops Q (o::rest) f w:=FL.val hw hd hlt hr h
end
section
variable {δ:List Nat} {P:Program} {N:Nat} {f:Fm} {w w':World} {ops:Array Oper} {B:World→Prop} {M:Fm→World→Prop} {ps:List (List Nat×(World→Prop))} {n:Nat} {ls l':Array Bool}
theorem FB.S {o:Oper} (i k m:Nat) (hB:B w) {j t:Nat} {b c:Bool} (hw:c=!b) {d:Nat} (h:FB (δ:=δ) P N ops B M [] n (bs k m) (upd f d undef) w)
 (hi:ops[i]?=some o:=by rfl) (hg:o.guard=some (j,b):=by rfl) (hj:(ops[j]?).bind (·.dst)=some t:=by rfl) (hv:f t=.bool c:=by rfl) (hd:o.dst=some d:=by rfl) (hlt:Nat.blt d N=true:=by rfl) (hs:Region.noSelect ops=true:=by kernel_rfl) (hf:Region.free .any ops ls i=true:=by kernel_rfl)
 (hr:(Region.ready .any ops ls).contains i=true:=by kernel_rfl) (hl:ls.setIfInBounds i true=bs k m:=by kernel_rfl) (hc:certB ops [] i ls []=true:=by kernel_rfl):FB (δ:=δ) P N ops B M [] (n + 1) ls f w :=
 FB.skip hi hs hf hr hl hc (SP.nil hB) (wF_no hg hj hv hw) hd hlt h
theorem FB.T {d:Nat} {o:Oper} {v:Value} (i k m:Nat) (hi:ops[i]?=some o) (hB:B w) (hw:wF ops f o=true) (hrun:∀ w',B w'→(execOp (ev f) o).run P w'=.ok (.value v) w')
 (h:FB (δ:=δ) P N ops B M [] n (bs k m) (upd f d v) w) (hd:o.dst=some d:=by rfl) (hlt:Nat.blt d N=true:=by rfl) (hs:Region.noSelect ops=true:=by kernel_rfl) (hf:Region.free .any ops ls i=true:=by kernel_rfl)
 (hr:(Region.ready .any ops ls).contains i=true:=by kernel_rfl) (hl:ls.setIfInBounds i true=bs k m:=by kernel_rfl) (hc:certB ops [] i ls []=true:=by kernel_rfl):FB (δ:=δ) P N ops B M [] (n + 1) ls f w :=
 FB.take hi hs hf hr hl hc (SP.nil hB) hw hd hlt hrun h
end
end Go.Mr
namespace Go.Mr
open Go.RowKit Go.Pu
abbrev vJ (n:Int):Value:=.int .u64 n
abbrev vT (n:ByteArray):Value:=.string n
abbrev vK (b:Nat):Value:=vP (⟨b,0,Option.none⟩:Addr)
section
variable {ρ:Option Nat} {δ:List Nat} {P:Program} {N:Nat} {Q:FQ} {f:Fm} {w:World} {ops:Array Oper} {o:Oper} {rest:List Oper} {C:World→Prop} {Qd:Fm→Prop}
theorem FL.n {j t:Nat} {b c:Bool} (hc:c=!b) (h:FL (ρ:=ρ) (δ:=δ) P N ops Q rest (putF f o.dst undef) w) (hg:o.guard=some (j,b):=by rfl) (hj:(ops[j]?).bind (·.dst)=some t:=by rfl) (hv:f t=.bool c:=by rfl)
 (hlt:(o.dst.all fun t=>Nat.blt t N)=true:=by rfl):FL (ρ:=ρ) (δ:=δ) P N ops Q (o::rest) f w:=FL.skip (wN hc hg hj hv) hlt h
theorem FD.n {j t:Nat} {b c:Bool} (hc:c=!b) (h:FD (δ:=δ) P N ops C Qd rest (putF f o.dst undef)) (hg:o.guard=some (j,b):=by rfl) (hj:(ops[j]?).bind (·.dst)=some t:=by rfl) (hv:f t=.bool c:=by rfl)
 (hlt:(o.dst.all fun t=>Nat.blt t N)=true:=by rfl):FD (δ:=δ) P N ops C Qd (o::rest) f:=FD.skip (wN hc hg hj hv) hlt h
theorem FW.iB {α:Type} {b:Bool} {p q:Option α} {r:α} {c:Operand} {x y:Code} (hp:(bif b then p else q)=some r) (hc:ev f c=.bool b)
 (hT:b=true→p=some r→FW (ρ:=ρ) (δ:=δ) P N x Q f w) (hF:b=false→q=some r→FW (ρ:=ρ) (δ:=δ) P N y Q f w):FW (ρ:=ρ) (δ:=δ) P N (.cond c x y) Q f w:=by
 cases b
 · exact FW.condF hc rfl (hF rfl hp)
 · exact FW.condT hc rfl (hT rfl hp)
theorem FW.iT {α:Type} {b:Bool} {p q:α} {r:α} {c:Operand} {x y:Code} (hp:(bif b then p else q)=r) (hc:ev f c=.bool b)
 (hT:b=true→p=r→FW (ρ:=ρ) (δ:=δ) P N x Q f w) (hF:b=false→q=r→FW (ρ:=ρ) (δ:=δ) P N y Q f w):FW (ρ:=ρ) (δ:=δ) P N (.cond c x y) Q f w:=by
 cases b
 · exact FW.condF hc rfl (hF rfl hp)
 · exact FW.condT hc rfl (hT rfl hp)
end
section
variable {P:Program} {H0 H:GH} {w0 w:World} {l:List MO} {t e k:Nat} {z:Value}
theorem St.s0 {t n:Nat} (h:St H0 w0 H w l) (i:Nat) (c:List Value) {b t0:Nat} {cs:List Value} {l':List MO} (ts:∀ w,(sizeOf t).run P w=.ok n w) (h1:∀ u∈c,u.oneCell'=true) (hi:l[i]?=some (.box b t0 cs):=by rfl)
 (hcn:c.length=n:=by rfl) (hj:Nat.ble n cs.length=true:=by rfl) (hcs:c++cs.drop n=c:=by rfl) (hl:l.set i (.box b t0 c)=l':=by rfl) :
 ∃ w1,(Instr.storeAt t (.pointer (some ⟨b,0,Option.none⟩)) (vA c.toArray)).run P w=.ok () w1∧St H0 w0 H w1 l' :=
 h.store0 (cs':=c) (v:=vA c.toArray) (c:=c) hi ts rfl hcn h1 (nB hj) hcs hl
theorem St.b0 (h:St H0 w0 H w l) (te:TE P t e k z):∃ v w1,(Instr.buildSlice t 0 #[]).run P w=.ok v w1∧St H0 w0 H w1 (.row e k v 0 []::l) :=
 h.buildSlice te [] (parts:=#[]) (cells:=[]) rfl zb6 fc_nil zac (by simp)
theorem St.b1 (h:St H0 w0 H w l) (te:TE P t e 1 z) {v:Value} (hc:v.cells=#[v]) (h1:v.oneCell'=true):∃ u w1,(Instr.buildSlice t 1 #[(0,v)]).run P w=.ok u w1∧St H0 w0 H w1 (.row e 1 u 1 [v]::l) :=
 h.buildSlice te [v] (parts:=#[(0,v)]) (cells:=[v]) rfl (zaS (zdb hc) zb6) (zaV hc fc_nil) (oC h1 zac) (by simp)
theorem St.bA (h:St H0 w0 H w l) (te:TE P t e k z) (c:List Value) (h1:∀ u∈c,u.oneCell'=true) (hk:c.length=k:=by rfl) (hb:Nat.ble k 16777216=true:=by rfl):∃ u w1,(Instr.buildSlice t 1 #[(0,vA c.toArray)]).run P w=.ok u w1∧St H0 w0 H w1 (.row e k u 1 c::l) :=
 h.buildSlice te [vA c.toArray] (parts:=#[(0,vA c.toArray)]) (cells:=c) rfl (zaS (by rw [← hk];simp [Value.cells]) zb6) (by simp [Value.cells]) h1 (by have:=Nat.le_of_ble_eq_true hb;simp;omega)
end
end Go.Mr
namespace Go.Mr
open Go.RowKit Go.Pu
def iC (xs:List Int):List Value:=xs.map (Value.int .i64)
def iP (xs:List Int):Array (Nat×Value):=((xs.zipIdx 0).map fun p=>(p.2,Value.int .i64 p.1)).toArray
theorem els_ints (G:GH) (xs:List Int):Els G eI 1 (iC xs) xs:=by
 have key:∀ ys:List Int,Els G eI 1 (iC ys.reverse) ys.reverse:=by
  intro ys
  induction ys with
  | nil=>exact .nil
  | cons x ys ih =>
   have:=Els.snoc (c:=[Value.int .i64 x]) (x:=x) ih rfl (show eI.rel G [Value.int .i64 x] x from rfl)
   unfold iC at this ⊢
   rw [List.reverse_cons,List.map_append]
   exact this
 have:=key xs.reverse
 rwa [List.reverse_reverse] at this
theorem flat_ints (xs:List Int):((xs.map (Value.int .i64)).map (·.cells.toList)).flatten=iC xs:=by
 unfold iC
 induction xs with
 | nil=>rfl
 | cons x xs ih=>rw [List.map_cons,List.map_cons,List.flatten_cons,ih];rfl
theorem St.ints {P:Program} {H0 H:GH} {w0 w:World} {l:List MO} {t e:Nat} {z:Value} (h:St H0 w0 H w l) (te:TE P t e 1 z) (G:GH) (n:Nat) (xs:List Int) (hn:xs.length=n:=by rfl) (hsm:Nat.ble n 1000=true:=by rfl) :
 ∃ v w1,(Instr.buildSlice t n (iP xs)).run P w=.ok v w1∧St H0 w0 H w1 (.row e 1 v n (iC xs)::l)∧Els G eI 1 (iC xs) xs:=by
 subst hn
 have hl:(xs.map (Value.int .i64)).length=xs.length:=List.length_map _
 obtain ⟨v,w1,h1,h2⟩:=h.buildSlice (P:=P) te (xs.map (Value.int .i64)) (parts:=iP xs) (cells:=iC xs) (by
  unfold iP
  show List.map _ _=_
  rw [List.zipIdx_map,List.map_map];rfl) (fun v hv=>by obtain ⟨x,_,rfl⟩:=List.mem_map.1 hv;rfl) (flat_ints xs) (fun c hc=>by unfold iC at hc;obtain ⟨x,_,rfl⟩:=List.mem_map.1 hc;rfl) (by have:=Nat.le_of_ble_eq_true hsm;rw [hl];omega)
 rw [hl] at h1 h2
 exact ⟨v,w1,h1,h2,els_ints G xs⟩
theorem sgo {A B:Prop} (a:A) (h:A→B):A∧B:=⟨a,h a⟩
section
variable {δ:List Nat} {P:Program} {N:Nat} {f:Fm} {w w':World} {ops:Array Oper} {B:World→Prop} {M:Fm→World→Prop} {ps:List (List Nat×(World→Prop))} {n:Nat} {ls l':Array Bool}
theorem FB.go (hS:SP B ps ls w) (h:SP B ps ls w→FB (δ:=δ) P N ops B M ps n ls f w):FB (δ:=δ) P N ops B M ps n ls f w:=h hS
theorem sp_next {C:List Nat} {i:Nat} (hc:certB ops C i ls ps=true) (hl:ls.setIfInBounds i true=l') (hS:SP B ps ls w):SP B ps l' w:=by
 subst hl
 unfold certB at hc
 rw [Bool.and_eq_true] at hc
 exact (SP.iff hc.2).2 hS
theorem FB.r {d:Nat} {o:Oper} {v:Value} (i k m:Nat) (hi:ops[i]?=some o) (hS:SP B ps ls w) (hrun:∀ w',B w'→(execOp (ev f) o).run P w'=.ok (.value v) w')
 (h:SP B ps (bs k m) w→FB (δ:=δ) P N ops B M ps n (bs k m) (upd f d v) w) (hw:wF ops f o=true:=by rfl) (hd:o.dst=some d:=by rfl) (hlt:Nat.blt d N=true:=by rfl) (hs:Region.noSelect ops=true:=by kernel_rfl) (hf:Region.free .any ops ls i=true:=by kernel_rfl)
 (hr:(Region.ready .any ops ls).contains i=true:=by kernel_rfl) (hl:ls.setIfInBounds i true=bs k m:=by kernel_rfl) (hc:certB ops [] i ls ps=true:=by kernel_rfl):FB (δ:=δ) P N ops B M ps (n + 1) ls f w :=
 FB.take hi hs hf hr hl hc hS hw hd hlt hrun (h (sp_next hc hl hS))
theorem FB.q {Hs:List Nat} {R:World→Prop} {d:Nat} {o:Oper} {v:Value} (i k m:Nat) (q:Nat) (C:List Nat) (hi:ops[i]?=some o) (hS:SP B ps ls w) (hq:ps[q]?=some (Hs,R)) (hrun:∀ w',R w'→(execOp (ev f) o).run P w'=.ok (.value v) w')
 (h:SP B ps (bs k m) w→FB (δ:=δ) P N ops B M ps n (bs k m) (upd f d v) w) (hw:wF ops f o=true:=by rfl) (hd:o.dst=some d:=by rfl) (hlt:Nat.blt d N=true:=by rfl) (hs:Region.noSelect ops=true:=by kernel_rfl) (hf:Region.free .any ops ls i=true:=by kernel_rfl)
 (hr:(Region.ready .any ops ls).contains i=true:=by kernel_rfl) (hl:ls.setIfInBounds i true=bs k m:=by kernel_rfl) (hc:certB ops C i ls ps=true:=by kernel_rfl) (hH:Hs.all (C.contains ·)=true:=by kernel_rfl):FB (δ:=δ) P N ops B M ps (n + 1) ls f w :=
 FB.takeP q C hq hi hs hf hr hl hc hH hS hw hd hlt hrun (h (sp_next hc hl hS))
end
end Go.Mr
namespace Go.Mr
open Go.RowKit Go.Pu
def TabH (P:Program) (name:String) (k:IntKind) (zs:List Int) (H:GH):Prop:=∃ g e fr,P.globalNamed name=some g∧H g=some (.cells (zs.map fun z=>Value.int k z).toArray e fr)
@[reducible] def TabI (P:Program) (H:GH):Prop:=TabH P "internal/strconv.uint64pow10" .u64 Lib.pow10Tab H
section
variable {P:Program} {f:Fm} {w:World} {d:Option Tmp} {ty:TypeId} {pos:String} {aft:Array Edge} {gd:Option (Nat×Bool)} {x y:Operand} {t t':TypeId}
theorem E.addT {a b c:ByteArray} (hx:ev f x=.string a) (hy:ev f y=.string b) (h:catS a b=some c):(execOp (ev f) ⟨d,.binOp .add t x y t',ty,pos,aft,gd⟩).run P w=.ok (.value (.string c)) w :=
 E.addS (catS:=catS) hx hy h fun a b c h=>by
  unfold catS at h;split at h
  · rename_i hh;cases h;exact ⟨hh,rfl⟩
  · cases h
theorem E.sliceS {s:ByteArray} {lo hi:Operand} {kl kh:IntKind} {a b:Int} (ht:P.underlying t=some .string) (hx:ev f x=.string s) (hl:ev f lo=.int kl a) (hh:ev f hi=.int kh b) (h0:0≤a) (h1:a≤b) (h2:b≤s.size) :
 (execOp (ev f) ⟨d,.slice t x (some lo) (some hi) none,ty,pos,aft,gd⟩).run P w=.ok (.value (.string (s.extract a.toNat b.toNat))) w:=by
 have hb:0≤b:=by omega
 have hab:a.toNat≤b.toNat:=by omega
 have hbs:b.toNat≤s.size:=by omega
 have e1:(a.toNat:Int)=a:=Int.toNat_of_nonneg h0
 have e2:(b.toNat:Int)=b:=Int.toNat_of_nonneg hb
 simp [execOp,Instr.sliceAt,Instr.slice,run_underlying ht,Instr.sliceBounds,run_sliceBound, *]
end
theorem ba_app (a b:Array UInt8):(⟨a⟩:ByteArray)++⟨b⟩=⟨a++b⟩:=by
 apply ByteArray.ext
 rw [ByteArray.data_append]
theorem itoaS_neg {n:Int} (h:n < 0):itoaS n=(⟨#[45]⟩:ByteArray)++itoaS (-n):=by
 unfold itoaS Go.Lib.itoa
 rw [if_pos h,if_neg (by omega),ba_app]
 congr 1
 rw [show n.natAbs=(-n).toNat by omega];simp
theorem itoaS_one {n:Int} (h0:0≤n) (h:n < 10):itoaS n=⟨#[UInt8.ofNat (48 + n.toNat)]⟩:=by
 unfold itoaS Go.Lib.itoa
 rw [if_neg (by omega),Go.Lib.decDigits,dif_pos (by omega)]
theorem itoaS_more {n:Int} (h:10≤n):itoaS n=itoaS (n.tdiv 10)++(⟨#[UInt8.ofNat (48 + (n.tmod 10).toNat)]⟩:ByteArray):=by
 obtain ⟨k,rfl⟩:=Int.eq_ofNat_of_zero_le (show 0≤n by omega)
 have e1:((k:Nat):Int).tdiv 10=((k / 10:Nat):Int):=rfl
 have e2:((k:Nat):Int).tmod 10=((k % 10:Nat):Int):=rfl
 rw [e1,e2]
 unfold itoaS Go.Lib.itoa
 rw [if_neg (by omega),if_neg (by omega),ba_app]
 congr 1
 rw [Int.toNat_natCast,Int.toNat_natCast,Int.toNat_natCast,Go.Lib.decDigits,dif_neg (by omega)]
 simp
theorem digit_of {n:Int} (h0:0≤n) (h:n < 10):(ByteArray.mk #[48,49,50,51,52,53,54,55,56,57]).extract n.toNat (n + 1).toNat=⟨#[UInt8.ofNat (48 + n.toNat)]⟩:=by
 obtain ⟨k,rfl⟩:=Int.eq_ofNat_of_zero_le h0
 have hk:k < 10:=by omega
 have key:∀ k:Fin 10,(ByteArray.mk #[48,49,50,51,52,53,54,55,56,57]).extract k.val (k.val + 1)=⟨#[UInt8.ofNat (48 + k.val)]⟩:=by decide +kernel
 exact key ⟨k,hk⟩
theorem itoaS_size (n:Int) (h0:-9223372036854775808≤n) (h1:n≤9223372036854775807):(itoaS n).size≤100:=by
 have:=Go.Lib.itoa_length_le n h0 h1
 show (Go.Lib.itoa n).toArray.size≤100
 simp;omega
end Go.Mr
namespace Go.Mr
open Go.RowKit Go.Pu
section
variable {P:Program} {H0 H:GH} {w0 w:World} {l:List MO} {e t:TypeId} {k n:Nat} {v u:Value}
theorem St.putRowAt (h:St H0 w0 H w l) {i:Nat} {cells:List Value} (hi:l[i]?=some (.row e k v n cells)) {j:Int} {p:Addr} (hp:PtrOf k v j p) {off m:Nat} (hom:off + m≤k)
 (ts:∀ w,(sizeOf t).run P w=.ok m w) (hu:u.cells.size=m) (h1:∀ c∈u.cells.toList,c.oneCell'=true) {l':MO→List MO} (hl:∀ o,l.set i o=l' o) :
 ∃ w1,(Instr.storeAt t (.pointer (some (p.add off))) u).run P w=.ok () w1∧St H0 w0 H w1 (l' (.row e k v n (cells.take (j.toNat * k + off)++u.cells.toList++cells.drop (j.toNat * k + off + m)))):=by
 obtain ⟨⟨k1,k2⟩,k3⟩:=h.ok i _ hi
 obtain ⟨a,len,cap,rfl,h0,hlt,rfl⟩:=hp
 rcases k2 with ⟨h3,_⟩|⟨g,cap',cur,hv,hg,hh,hle,hcm,hsz,htk⟩
 · cases h3
 · cases hv
   have hlt':j.toNat < n:=by omega
   have hmul:j.toNat * k + k≤n * k:=by
    rw [show j.toNat * k + k=(j.toNat + 1) * k by rw [Nat.add_mul,Nat.one_mul]];exact Nat.mul_le_mul_right _ hlt'
   have hmul2:n * k≤cap * k:=Nat.mul_le_mul_right _ hle
   generalize j.toNat * k=q at *
   have hst:=run_storeCells_at P g (q + off) e u.cells.toList 0 cur w hh (by simp [hu];omega) h1
   simp only [Nat.add_zero,Array.length_toList,hu] at hst
   refine ⟨w.setRow g (List.take (q + off) cur.toList++u.cells.toList++List.drop (q + off + m) cur.toList).toArray,?_,?_⟩
   · rw [zcM]
     simp only [Addr.add_lit,Nat.zero_add]
     simp [Instr.storeAt,Instr.sureAddr,storeVar,ts,hu,hst]
   · rw [← hl]
     refine h.upd hi (zeK w g _) (Nat.le_refl _) ⟨⟨?_,.inr ⟨g,cap,_,rfl,hg,setRow_heap w g _ _ _ _ hh,hle,hcm,?_,?_⟩⟩,?_⟩ (fun b hb=>.inl hb)
     · simp only [List.length_append,List.length_take,List.length_drop,Array.length_toList,hu,k1];omega
     · simp only [List.size_toArray,List.length_append,List.length_take,List.length_drop,Array.length_toList,hu,hsz];omega
     · simp only [List.append_assoc]
       rw [← htk,List.take_take,Nat.min_eq_left (by omega),List.take_append,List.take_take,List.length_take,Array.length_toList,hsz,Nat.min_eq_left (show q + off≤cap * k by omega),Nat.min_eq_right (show q + off≤n * k by omega),
        List.take_append,List.take_of_length_le (show u.cells.toList.length≤n * k - (q + off) by simp [hu];omega),Array.length_toList,hu,List.drop_take]
       rw [show n * k - (q + off) - m=n * k - (q + off + m) by omega]
     · intro c hc
       simp only [List.append_assoc,List.mem_append] at hc
       rcases hc with hc|hc|hc
       · exact k3 c (List.mem_of_mem_take hc)
       · exact h1 c hc
       · exact k3 c (List.mem_of_mem_drop hc)
theorem St.cells_at (h:St H0 w0 H w l) {i:Nat} {cells:List Value} (hi:l[i]?=some (.row e k v n cells)) {j:Int} {p:Addr} (hp:PtrOf k v j p) {cs:List Value} (hcs:cs.length=k) (hc:WAt w p cs) :
 (cells.drop (j.toNat * k)).take k=cs∧j.toNat * k + k≤cells.length:=by
 obtain ⟨⟨k1,k2⟩,k3⟩:=h.ok i _ hi
 obtain ⟨a,len,cap,rfl,h0,hlt,rfl⟩:=hp
 rcases k2 with ⟨h3,_⟩|⟨g,cap',cur,hv,hg,hh,hle,hcm,hsz,htk⟩
 · cases h3
 · cases hv
   have hlt':j.toNat < n:=by omega
   have hmul:j.toNat * k + k≤n * k:=by
    rw [show j.toNat * k + k=(j.toNat + 1) * k by rw [Nat.add_mul,Nat.one_mul]];exact Nat.mul_le_mul_right _ hlt'
   refine ⟨?_,by rw [k1];exact hmul⟩
   apply List.ext_getElem?
   intro m
   rw [List.getElem?_take,List.getElem?_drop]
   by_cases hm:m < k
   · rw [if_pos hm]
     have hm2:m < cs.length:=by omega
     have h2:=hc m cs[m] (List.getElem?_eq_getElem hm2)
     rw [zcM,Addr.add_lit,Nat.zero_add,cell_of_row w g _ _ _ _ hh] at h2
     rw [List.getElem?_eq_getElem hm2,← h2,← htk,List.getElem?_take,if_pos (by omega)]
     simp
   · rw [if_neg hm,List.getElem?_eq_none (by omega)]
theorem St.putPart {α:Type} {G:GH} {En:Enc α} {xs ys:List α} {x0:α} {cells c cs c2:List Value} (h:St H0 w0 H w l) {i:Nat} (hi:l[i]?=some (.row e k v n cells)) (he:Els G En k cells xs) {j:Int}
 (hy:put xs j x0=some ys) {p:Addr} (hp:PtrOf k v j p) (hcs:cs.length=k) (hc:WAt w p cs) {off m:Nat} (ts:∀ w,(sizeOf t).run P w=.ok m w) (hu:u.cells=c.toArray) (hcm:c.length=m) (hom:off + m≤k) (h1:∀ b∈c,b.oneCell'=true)
 (h2:cs.take off++c++cs.drop (off + m)=c2) (hr:En.rel G c2 x0) :
 ∃ w1 cells',(Instr.storeAt t (.pointer (some (p.add off))) u).run P w=.ok () w1∧St H0 w0 H w1 (l.set i (.row e k v n cells'))∧Els G En k cells' ys∧cells'=cells.take (j.toNat * k)++c2++cells.drop (j.toNat * k + k):=by
 obtain ⟨h0,h3,rfl⟩:=put_some hy
 obtain ⟨w1,hst,hS⟩:=h.putRowAt (P:=P) (l':=fun o=>l.set i o) hi hp hom ts (u:=u) (by rw [hu];simpa using hcm) (by rw [hu];simpa using h1) (fun o=>rfl)
 rw [hu] at hS
 obtain ⟨g1,g2⟩:=h.cells_at hi hp hcs hc
 have hlen:c2.length=k:=by rw [← h2];simp only [List.length_append,List.length_take,List.length_drop,hcs,hcm];omega
 have heq:cells.take (j.toNat * k + off)++c++cells.drop (j.toNat * k + off + m)=cells.take (j.toNat * k)++c2++cells.drop (j.toNat * k + k):=by
  rw [← h2,← g1]
  generalize j.toNat * k=q at *
  have e1:cells.take (q + off)=cells.take q++(cells.drop q).take off:=by rw [List.take_add]
  have e2:cells.drop (q + off + m)=((cells.drop q).take k).drop (off + m)++cells.drop (q + k):=by
   rw [List.drop_take,List.drop_drop]
   have:cells.drop (q + k)=(cells.drop (q + (off + m))).drop (k - (off + m)):=by rw [List.drop_drop];congr 1;omega
   rw [this,List.take_append_drop];congr 1;omega
  rw [e1,e2,List.take_take,Nat.min_eq_left (by omega)]
  simp only [List.append_assoc]
 refine ⟨w1,_,hst,?_,he.put hlen hr _ (by omega),rfl⟩
 rw [← heq]
 simpa using hS
end
section
variable {δ:List Nat} {fn:Func} {N:Nat} {P:Program} {w:World} {R:Ending→World→Prop} {f:Fm}
end
end Go.Mr
namespace Go.Mr
open Go.RowKit Go.Pu
section
variable {P:Program} {f:Fm} {w:World} {d:Option Tmp} {ty:TypeId} {pos:String} {aft:Array Edge} {gd:Option (Nat×Bool)} {x y:Operand} {t t':TypeId}
theorem E.ixS {s:ByteArray} {k:IntKind} {i b:Int} (ht:∀ w,(underlying t).run P w=.ok .string w) (hx:ev f x=.string s) (hy:ev f y=.int k i) (h:ixS s i=some b) :
 (execOp (ev f) ⟨d,.index t x y,ty,pos,aft,gd⟩).run P w=.ok (.value (.int .u8 b)) w:=by
 obtain ⟨h0,u,hu,rfl⟩:=ixS_some h
 have hu':s[i.toNat]?=some u:=by
  obtain ⟨h1,h2⟩:=Array.getElem?_eq_some_iff.1 hu
  exact (getElem?_pos s i.toNat h1).trans (congrArg some h2)
 simp [execOp,Instr.index,ht,hx,hy,h0,hu',asIntOf]
theorem E.cutS {s r:ByteArray} {kl kh:IntKind} {a b:Int} {lo hi:Option Operand} (ht:P.underlying t=some .string) (hx:ev f x=.string s)
 (hl:(lo=none∧a=0)∨∃ l,lo=some l∧ev f l=.int kl a) (hh:(hi=none∧b=s.size)∨∃ l,hi=some l∧ev f l=.int kh b) (h:cutS s a b=some r) :
 (execOp (ev f) ⟨d,.slice t x lo hi none,ty,pos,aft,gd⟩).run P w=.ok (.value (.string r)) w:=by
 obtain ⟨h0,h1,h2,rfl⟩:=cutS_some h
 have hb:0≤b:=by omega
 have hab:a.toNat≤b.toNat:=by omega
 have hbs:b.toNat≤s.size:=by omega
 have e1:(a.toNat:Int)=a:=Int.toNat_of_nonneg h0
 have e2:(b.toNat:Int)=b:=Int.toNat_of_nonneg hb
 rcases hl with ⟨rfl,rfl⟩|⟨l,rfl,hl⟩ <;> rcases hh with ⟨rfl,rfl⟩|⟨l',rfl,hh⟩ <;> simp [execOp,Instr.sliceAt,Instr.slice,run_underlying ht,Instr.sliceBounds,run_sliceBound, *]
end
theorem E.lenS {P:Program} {f:Fm} {w:World} {d:Option Tmp} {ty t:TypeId} {pos:String} {aft:Array Edge} {gd:Option (Nat×Bool)} {x:Operand} {s:ByteArray} (ht:∀ w,(underlying t).run P w=.ok .string w) (hx:ev f x=.string s) :
 (execOp (ev f) ⟨d,.call ⟨.builtin .len,#[x],#[t]⟩,ty,pos,aft,gd⟩).run P w=.ok (.value (.int .i64 (s.size:Int))) w:=by
 simp [execOp,resolve,invoke,builtin,Builtin.len_,hx,ht,goInt]
theorem B11 {f:Fm} {i1 i2 i3 i4 i5 i6 i7 i8 i9 i10 i11:Nat} {x1 x2 x3 x4 x5 x6 x7 x8 x9 x10 x11:Operand} {v1 v2 v3 v4 v5 v6 v7 v8 v9 v10 v11:Value} (h1:ev f x1=v1) (h2:ev f x2=v2) (h3:ev f x3=v3) (h4:ev f x4=v4) (h5:ev f x5=v5) (h6:ev f x6=v6) (h7:ev f x7=v7) (h8:ev f x8=v8) (h9:ev f x9=v9) (h10:ev f x10=v10) (h11:ev f x11=v11) :
 (#[(i1,x1),(i2,x2),(i3,x3),(i4,x4),(i5,x5),(i6,x6),(i7,x7),(i8,x8),(i9,x9),(i10,x10),(i11,x11)].map fun (i,x)=>(i,ev f x))=#[(i1,v1),(i2,v2),(i3,v3),(i4,v4),(i5,v5),(i6,v6),(i7,v7),(i8,v8),(i9,v9),(i10,v10),(i11,v11)]:=by simp [h1,h2,h3,h4,h5,h6,h7,h8,h9,h10,h11]
theorem B15 {f:Fm} {i1 i2 i3 i4 i5 i6 i7 i8 i9 i10 i11 i12 i13 i14 i15:Nat} {x1 x2 x3 x4 x5 x6 x7 x8 x9 x10 x11 x12 x13 x14 x15:Operand} {v1 v2 v3 v4 v5 v6 v7 v8 v9 v10 v11 v12 v13 v14 v15:Value} (h1:ev f x1=v1) (h2:ev f x2=v2) (h3:ev f x3=v3) (h4:ev f x4=v4) (h5:ev f x5=v5) (h6:ev f x6=v6) (h7:ev f x7=v7) (h8:ev f x8=v8) (h9:ev f x9=v9) (h10:ev f x10=v10) (h11:ev f x11=v11) (h12:ev f x12=v12) (h13:ev f x13=v13) (h14:ev f x14=v14) (h15:ev f x15=v15) :
 (#[(i1,x1),(i2,x2),(i3,x3),(i4,x4),(i5,x5),(i6,x6),(i7,x7),(i8,x8),(i9,x9),(i10,x10),(i11,x11),(i12,x12),(i13,x13),(i14,x14),(i15,x15)].map fun (i,x)=>(i,ev f x))=#[(i1,v1),(i2,v2),(i3,v3),(i4,v4),(i5,v5),(i6,v6),(i7,v7),(i8,v8),(i9,v9),(i10,v10),(i11,v11),(i12,v12),(i13,v13),(i14,v14),(i15,v15)]:=by simp [h1,h2,h3,h4,h5,h6,h7,h8,h9,h10,h11,h12,h13,h14,h15]
end Go.Mr
