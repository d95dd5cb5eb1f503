/- Helpers of the walks and plain laws. -/
import Derived.Test.YtkaikagbfoadpaaGreatFcLA
import Derived.OrdersHeld
import Derived.Lib.SliceRun
import Derived.ProofKit
import Derived.OpenShut
import Derived.WideKeyArgs
import Derived.Lib.ItoaNum
set_option linter.unusedVariables false
namespace Go.Mr
open Go.RowKit Go.Pu
section
variable {ρ:Option Nat} {δ:List Nat} {P:Program} {N:Nat} {Q:FQ} {f:Fm} {w:World}
theorem least {p:Nat→Prop} (h:∃ m,p m):∃ m,p m∧∀ k,p k→m≤k:=by
 classical
 obtain ⟨m,hm⟩:=h
 induction m using Nat.strongRecOn with
 | _ m ih =>
  by_cases hx:∃ k,k < m∧p k
  · obtain ⟨k,hk,hp⟩:=hx;exact ih k hk hp
  · exact ⟨m,hm,fun k hk=>Nat.le_of_not_lt fun hlt=>hx ⟨k,hlt,hk⟩⟩
theorem FW.loopG {c:Code} (G:Nat→Fm→World→Prop) (h:∀ m f w,G m f w→FW (ρ:=ρ) (δ:=δ) P N c (thenF (fun f' w'=>∃ m',m' < m∧G m' f' w') Q) f w) {m:Nat} (h0:G m f w):FW (ρ:=ρ) (δ:=δ) P N (.loop c) Q f w:=by
 classical
 intro n a ha
 let S:Act→World→Nat→Prop:=fun a w m=>∃ f,Fr (δ:=δ) N a f∧G m f w
 let μ:Act→World→Nat:=fun a w=>if hx:∃ m,S a w m then Classical.choose (least hx) else 0
 refine wpIn_loop (fun a w=>∃ m,S a w m) μ ⟨m,f,ha,h0⟩ ?_
 intro a w hx
 have hμ:μ a w=Classical.choose (least hx):=by show (if hx:∃ m,S a w m then Classical.choose (least hx) else 0)=_;rw [dif_pos hx]
 obtain ⟨f1,hf1,hg⟩:=(Classical.choose_spec (least hx)).1
 refine Code.wpIn_mono ?_ (h _ f1 w hg n a hf1)
 rintro e a' w' ⟨f',hf',q⟩
 cases e with
 | normal =>
  obtain ⟨m',hlt,hg'⟩:=q
  have hx':∃ m,S a' w' m:=⟨m',f',hf',hg'⟩
  have hμ':μ a' w'=Classical.choose (least hx'):=by show (if hx:∃ m,S a' w' m then Classical.choose (least hx) else 0)=_;rw [dif_pos hx']
  refine ⟨hx',?_⟩
  rw [hμ,hμ']
  exact Nat.lt_of_le_of_lt ((Classical.choose_spec (least hx')).2 _ ⟨f',hf',hg'⟩) hlt
 | exit i=>exact ⟨f',hf',q⟩
 | goto i=>exact ⟨f',hf',q⟩
 | ret=>exact ⟨f',hf',q⟩
 | panic c=>exact ⟨f',hf',q⟩
 | outgrown=>exact ⟨f',hf',q⟩
def Rd {S X:Type} (I:S→Fm→World→Prop) (Dn:Rs S X→FQ):Lp S X→FQ
 | .nx s,e,f,w=>e=.normal∧I s f w
 | .bk s,e,f,w=>e≠.normal∧Dn (.go s) e f w
 | .rt x,e,f,w=>e≠.normal∧Dn (.rt x) e f w
theorem zbG {K:Fm→World→Prop} {e:Exit} {w:World} {f:Fm} (he:e≠.normal) (h:Q e f w):thenF K Q e f w:=by
 cases e <;> first|exact h|exact absurd rfl he
theorem FW.forL {α S X:Type} {c:Code} {l:List α} {body:Nat→α→S→Option (Lp S X)} (I:Nat→S→Fm→World→Prop) (Dn:Rs S X→FQ) {s:S} {q:Rs S X} (hq:Pu.forL l body s=some q) (h0:I 0 s f w)
 (hbody:∀ i x s f w,I i s f w→l[i]?=some x→∀ o,body i x s=some o→FW (ρ:=ρ) (δ:=δ) P N c (Rd (I (i + 1)) Dn o) f w)
 (hend:∀ s f w,I l.length s f w→FW (ρ:=ρ) (δ:=δ) P N c (fun e f w=>e≠.normal∧Dn (.go s) e f w) f w):FW (ρ:=ρ) (δ:=δ) P N (.loop c) (Dn q) f w:=by
 refine FW.loopG (fun m f w=>∃ i s,i + m=l.length∧I i s f w∧zaL body (l.drop i) i s=some q) (m:=l.length) ?_ ⟨0,s,by omega,h0,by simpa [Pu.forL] using hq⟩
 rintro m f w ⟨i,s,hm,hI,hs⟩
 cases m with
 | zero =>
  rw [List.drop_of_length_le (by omega)] at hs
  simp only [zaL,Option.some.injEq] at hs
  subst hs
  have:i=l.length:=by omega
  subst this
  exact (hend s f w hI).mono fun e f w ⟨he,h⟩=>zbG he h
 | succ m =>
  have hlt:i < l.length:=by omega
  rw [List.drop_eq_getElem_cons hlt] at hs
  simp only [zaL] at hs
  cases hb:body i l[i] s with
  | none=>rw [hb] at hs;cases hs
  | some o =>
   rw [hb] at hs
   refine (hbody i _ s f w hI (List.getElem?_eq_getElem hlt) o hb).mono fun e f' w' h=>?_
   cases o with
   | nx s'=>obtain ⟨rfl,h⟩:=h;exact ⟨m,by omega,i + 1,s',by omega,h,hs⟩
   | bk s'=>obtain ⟨he,h⟩:=h;simp only [Option.some.injEq] at hs;subst hs;exact zbG he h
   | rt x=>obtain ⟨he,h⟩:=h;simp only [Option.some.injEq] at hs;subst hs;exact zbG he h
inductive IterH {S X:Type} (body:S→Option (Lp S X)):Nat→S→Rs S X→Prop where
 | nx {m s s' q}:body s=some (.nx s')→IterH body m s' q→IterH body (m + 1) s q
 | bk {s s'}:body s=some (.bk s')→IterH body 0 s (.go s')
 | rt {s x}:body s=some (.rt x)→IterH body 0 s (.rt x)
theorem iterH_of {S X:Type} {body:S→Option (Lp S X)} {s:S} {q:Rs S X} (h:Iter body s q):∃ m,IterH body m s q:=by
 induction h with
 | nx hb _ ih=>obtain ⟨m,hm⟩:=ih;exact ⟨m + 1,.nx hb hm⟩
 | bk hb=>exact ⟨0,.bk hb⟩
 | rt hb=>exact ⟨0,.rt hb⟩
theorem FW.iter {S X:Type} {c:Code} {body:S→Option (Lp S X)} (I:S→Fm→World→Prop) (Dn:Rs S X→FQ) {s:S} {q:Rs S X} (hq:Pu.iter body s=some q) (h0:I s f w)
 (hbody:∀ s f w,I s f w→∀ o,body s=some o→FW (ρ:=ρ) (δ:=δ) P N c (Rd I Dn o) f w):FW (ρ:=ρ) (δ:=δ) P N (.loop c) (Dn q) f w:=by
 obtain ⟨m,hm⟩:=iterH_of (zbQ.1 hq)
 refine FW.loopG (fun m f w=>∃ s,I s f w∧IterH body m s q) (m:=m) ?_ ⟨s,h0,hm⟩
 rintro m f w ⟨s,hI,hs⟩
 cases hs with
 | nx hb hs=>exact (hbody s f w hI _ hb).mono fun e f' w' ⟨he,h⟩=>by subst he;exact ⟨_,by omega,_,h,hs⟩
 | bk hb=>exact (hbody s f w hI _ hb).mono fun e f' w' ⟨he,h⟩=>zbG he h
 | rt hb=>exact (hbody s f w hI _ hb).mono fun e f' w' ⟨he,h⟩=>zbG he h
def Jn {S X:Type} (J:S→Fm→World→Prop) (Lf:X→FQ):Rs S X→FQ
 | .go s,e,f,w=>e=.normal∧J s f w
 | .rt x,e,f,w=>e≠.normal∧Lf x e f w
theorem FW.joinE {S X:Type} {c:Code} {q:Rs S X} (J:S→Fm→World→Prop) (Lf:X→FQ) (h:FW (ρ:=ρ) (δ:=δ) P N c (Jn J Lf q) f w)
 (hgo:∀ s,q=.go s→∀ f w,J s f w→Q .normal f w) (hrt:∀ x,q=.rt x→∀ e f w,e≠.normal→Lf x e f w→Q e f w):FW (ρ:=ρ) (δ:=δ) P N c Q f w:=by
 refine h.mono fun e f w k=>?_
 cases q with
 | go s=>obtain ⟨rfl,k⟩:=k;exact hgo s rfl f w k
 | rt x=>obtain ⟨he,k⟩:=k;exact hrt x rfl e f w he k
end
def fr0 (args:List Value):Fm:=fun k=>args.getD k undef
theorem fr0_ok (args:List Value) (N:Nat):∀ k,(args.toArray++Array.replicate (N - args.length) undef).getD k undef=fr0 args k:=by
 intro k
 simp only [Array.getD_eq_getD_getElem?,fr0,List.getD_eq_getElem?_getD,Array.getElem?_append,List.size_toArray,List.getElem?_toArray]
 split
 · rfl
 · rename_i h
   rw [List.getElem?_eq_none (by omega),Array.getElem?_replicate]
   split <;> rfl
theorem zaj {P:Program} {fid N:Nat} {fn:Func} {c:Code} {args:List Value} {w:World} {R:Ending→World→Prop}
 (hf:P.funcs[fid]?=some fn) (hb:fn.body=some c) (hn:fn.ntmps=N) (hsz:Nat.ble args.length N=true)
 (h:FW (ρ:=none) (δ:=[]) P N c (fun e f' w'=>(e=.normal∨e=.ret)∧∀ a,Fr (δ:=[]) N a f'→∃ v,(results fn a.tmps).run P w'=.ok v w'∧R (.returned v) w') (fr0 args) w) :
 Calls P fid args.toArray w R :=
 calls_of_FW hf hb hn (by simpa using Nat.le_of_ble_eq_true hsz) (by simpa using fr0_ok args N) h
theorem res1 {δ:List Nat} {fn:Func} {t N:Nat} {P:Program} {w:World} {R:Ending→World→Prop} {f:Fm} {v:Value} (hr:fn.results=#[.tmp t]) (hv:f t=v) (hR:R (.returned v) w) :
 ∀ a,Fr (δ:=δ) N a f→∃ v,(results fn a.tmps).run P w=.ok v w∧R (.returned v) w:=fun a ha=>⟨v,by rw [results_tmp hr,ha.val,hv],hR⟩
theorem res2 {δ:List Nat} {fn:Func} {t u N:Nat} {P:Program} {w:World} {R:Ending→World→Prop} {f:Fm} {v1 v2:Value} (hr:fn.results=#[.tmp t,.tmp u]) (h1:f t=v1) (h2:f u=v2)
 (hR:R (.returned (.tuple #[v1,v2])) w):∀ a,Fr (δ:=δ) N a f→∃ v,(results fn a.tmps).run P w=.ok v w∧R (.returned v) w :=
 fun a ha=>⟨_,by rw [results_tmp2 hr,ha.val,ha.val,h1,h2],hR⟩
theorem resC {δ:List Nat} {fn:Func} {t N ty:Nat} {P:Program} {w:World} {R:Ending→World→Prop} {f:Fm} {v:Value} {p:Addr} (hr:fn.results=#[.cell t ty]) (hv:f t=.pointer (some p))
 (hl:(loadVar ty p).run P w=.ok v w) (hR:R (.returned v) w) :
 ∀ a,Fr (δ:=δ) N a f→∃ v,(results fn a.tmps).run P w=.ok v w∧R (.returned v) w:=fun a ha=>⟨v,by simp [results,hr,ha.val,hv,asAddr,hl],hR⟩
theorem resC2 {δ:List Nat} {fn:Func} {t u N ty:Nat} {P:Program} {w:World} {R:Ending→World→Prop} {f:Fm} {v v2:Value} {p:Addr} (hr:fn.results=#[.cell t ty,.tmp u]) (hv:f t=.pointer (some p))
 (hl:(loadVar ty p).run P w=.ok v w) (h2:f u=v2) (hR:R (.returned (.tuple #[v,v2])) w) :
 ∀ a,Fr (δ:=δ) N a f→∃ v,(results fn a.tmps).run P w=.ok v w∧R (.returned v) w:=fun a ha=>⟨_,by simp [results,hr,ha.val,hv,asAddr,hl,h2],hR⟩
end Go.Mr
namespace Go.Mr
open Go.RowKit Go.Pu
section
variable {P:Program} {f:Fm} {w w':World} {d:Option Tmp} {ty:TypeId} {pos:String} {aft:Array Edge} {gd:Option (Nat×Bool)} {x y:Operand} {v u:Value}
variable {H0 H H':GH} {w0:World} {l:List MO} {t e k n:Nat} {z:Value}
theorem zao {H:GH} {cs:List Value} {x:Int} (h:eI.rel H cs x):cs=[.int .i64 x]:=h
theorem eB_open {H:GH} {cs:List Value} {x:Bool} (h:eB.rel H cs x):cs=[.bool x]:=h
theorem eS_open {H:GH} {cs:List Value} {x:ByteArray} (h:eS.rel H cs x):cs=[.string x]:=h
theorem zbr {α:Type} {E:Enc α} {k:Nat} {H:GH} {cs:List Value} {xs:List α} (h:(eL E k).rel H cs xs):∃ v,cs=[v]∧RSl H E k v xs:=h
def eN (kk:IntKind):Enc Int:=⟨fun _ cs n=>cs=[.int kk n],fun _ h=>h,by intro H cs x h;subst h;simp [Value.oneCell'],by intro H cs x h;subst h;simp [bl,neb]⟩
theorem eN_open {kk:IntKind} {H:GH} {cs:List Value} {x:Int} (h:(eN kk).rel H cs x):cs=[.int kk x]:=h
theorem RSl.cells {α:Type} {E:Enc α} {v:Value} {xs:List α} (h:RSl H E k v xs):v.cells=#[v]:=by obtain ⟨a,cap,rfl,_⟩:=h;rfl
theorem zba {v u:Value} (h:v.cells=#[u]):v.cells.size=1:=by rw [h];rfl
theorem zam:(([]:List Value).map (·.cells.toList)).flatten=[]:=rfl
theorem zar {v:Value} {vs c cs:List Value} (h:v.cells=c.toArray) (t:(vs.map (·.cells.toList)).flatten=cs):((v::vs).map (·.cells.toList)).flatten=c++cs:=by simp [h,t]
theorem zae:∀ u∈([]:List Value),u.oneCell'=true:=by simp
theorem zab {c:Value} {l:List Value} (h:c.oneCell'=true) (hl:∀ u∈l,u.oneCell'=true):∀ u∈c::l,u.oneCell'=true:=by
 intro u hu;rcases List.mem_cons.1 hu with rfl|hu
 · exact h
 · exact hl u hu
theorem zan {k:Nat}:∀ v∈([]:List Value),v.cells.size=k:=by simp
theorem zas {c:Value} {l:List Value} {k:Nat} (h:c.cells.size=k) (hl:∀ v∈l,v.cells.size=k):∀ v∈c::l,v.cells.size=k:=by
 intro u hu;rcases List.mem_cons.1 hu with rfl|hu
 · exact h
 · exact hl u hu
theorem appA {xs:Array Operand} {a:Array Value} (h:xs.map (ev f)=a) (c:Array Value):xs.map (ev f)++c=a++c:=by rw [h]
theorem B0:((#[]:Array (Nat×Operand)).map fun (i,x)=>(i,ev f x))=#[]:=by simp
theorem B1 {i1:Nat} {x1:Operand} {v1:Value} (h1:ev f x1=v1):(#[(i1,x1)].map fun (i,x)=>(i,ev f x))=#[(i1,v1)]:=by simp [h1]
theorem B2 {i1 i2:Nat} {x1 x2:Operand} {v1 v2:Value} (h1:ev f x1=v1) (h2:ev f x2=v2):(#[(i1,x1),(i2,x2)].map fun (i,x)=>(i,ev f x))=#[(i1,v1),(i2,v2)]:=by simp [h1,h2]
theorem B3 {i1 i2 i3:Nat} {x1 x2 x3:Operand} {v1 v2 v3:Value} (h1:ev f x1=v1) (h2:ev f x2=v2) (h3:ev f x3=v3) :
 (#[(i1,x1),(i2,x2),(i3,x3)].map fun (i,x)=>(i,ev f x))=#[(i1,v1),(i2,v2),(i3,v3)]:=by simp [h1,h2,h3]
theorem B4 {i1 i2 i3 i4:Nat} {x1 x2 x3 x4:Operand} {v1 v2 v3 v4:Value} (h1:ev f x1=v1) (h2:ev f x2=v2) (h3:ev f x3=v3) (h4:ev f x4=v4) :
 (#[(i1,x1),(i2,x2),(i3,x3),(i4,x4)].map fun (i,x)=>(i,ev f x))=#[(i1,v1),(i2,v2),(i3,v3),(i4,v4)]:=by simp [h1,h2,h3,h4]
theorem B5 {i1 i2 i3 i4 i5:Nat} {x1 x2 x3 x4 x5:Operand} {v1 v2 v3 v4 v5:Value} (h1:ev f x1=v1) (h2:ev f x2=v2) (h3:ev f x3=v3) (h4:ev f x4=v4) (h5:ev f x5=v5) :
 (#[(i1,x1),(i2,x2),(i3,x3),(i4,x4),(i5,x5)].map fun (i,x)=>(i,ev f x))=#[(i1,v1),(i2,v2),(i3,v3),(i4,v4),(i5,v5)]:=by simp [h1,h2,h3,h4,h5]
theorem E.build {ps:Array (Nat×Operand)} {parts:Array (Nat×Value)} (hp:(ps.map fun (i,x)=>(i,ev f x))=parts) (hr:(Instr.build t parts).run P w=.ok v w') :
 (execOp (ev f) ⟨d,.build t ps,ty,pos,aft,gd⟩).run P w=.ok (.value v) w':=by
 subst hp;simp [execOp,hr]
theorem E.lssT {k:IntKind} {a b:Int} {t t':TypeId} (hx:ev f x=.int k a) (hy:ev f y=.int k b) (h:decide (a < b)=true) :
 (execOp (ev f) ⟨d,.binOp .lss t x y t',ty,pos,aft,gd⟩).run P w=.ok (.value (.bool true)) w:=by
 have:=E.lss (P:=P) (w:=w) (d:=d) (ty:=ty) (pos:=pos) (aft:=aft) (gd:=gd) (t:=t) (t':=t') hx hy
 rwa [h] at this
theorem zaF {α:Type} {xs:List α} {i:Nat} {x:α} (h:xs[i]?=some x):decide (((i:Nat):Int) < len xs)=true:=by
 have:=zaB h
 simp [len];omega
theorem lss_natlen {α:Type} {xs:List α} {i:Nat} (h:i < xs.length):decide (((i:Nat):Int) < len xs)=true:=by simp [len];omega
theorem lss_chk {i m:Nat} {n:Int} (h:i < m) (hc:chk n=some m):decide (((i:Nat):Int) < n)=true:=by
 unfold chk at hc;split at hc
 · cases hc;simp;omega
 · cases hc
theorem zaG {α:Type} {xs:List α}:decide (((xs.length:Nat):Int) < len xs)=false:=by simp [len]
theorem dlt_maxlen {α:Type} {xs:List α} {a:Nat}:decide (((max a xs.length:Nat):Int) < len xs)=false:=by simp [len];omega
theorem dlt_maxchk {a m:Nat} {n:Int} (hc:chk n=some m):decide (((max a m:Nat):Int) < n)=false:=by
 unfold chk at hc;split at hc
 · cases hc;simp;omega
 · cases hc
theorem chk_le {m:Nat} {n:Int} (hc:chk n=some m):m≤maxLen:=by
 unfold chk at hc;split at hc
 · cases hc;simp only [maxLen];omega
 · cases hc
theorem zaw {f:Fm} {s i n:Nat} (h:f s=.int .i64 (wr (((i:Nat):Int) + 1))) (hi:i < n) (hn:n≤maxLen):f s=.int .i64 ((i + 1:Nat):Int):=by
 rw [h,wr_of _ (by omega) (by simp only [maxLen] at hn;omega)];rfl
theorem zaA {p:Addr} {cs:List Value} {n:Nat} (ta:∀ w,(isAgg t).run P w=.ok true w) (ts:∀ w,(sizeOf t).run P w=.ok n w) (hw:WAt w p cs) (hn:cs.length=n) :
 (loadVar t p).run P w=.ok (.agg cs.toArray) w:=by
 subst hn
 simp [loadVar,ta,ts,run_loadCells_list w p cs hw]
theorem WAt.cls {p:Addr} {cs:List Value} (h:WAt w p cs) (hw:Run w.heap.size H w H' w'):WAt w' p cs:=by
 intro j c hc
 have h1:=h j c hc
 have hlt:(p.add j).block < w.heap.size:=World.block_lt_of_cell? w _ h1
 rw [World.cell?_of_block (hw.bel.block _ hlt)];exact h1
theorem Calls.cls {fid:Nat} {args:Array Value} (hw:Run w.heap.size H w H w') (h:Calls P fid args w' (Sc H w' v)) :
 Calls P fid args w' (fun e w''=>e=.returned v∧Run w.heap.size H w H w'') :=
 h.mono fun _ _ ⟨he,hr⟩=>⟨he,hw.tr hr hw.bel.size⟩
theorem St.sel (h:St H0 w0 H w l) (is:List Nat) (hnd:is.Nodup) {l':List MO} (hl:is.filterMap (l[·]?)=l'):St H0 w0 H w l':=by
 subst hl
 have key:∀ (is:List Nat),∃ g:Nat→Nat,(∀ (j:Nat) (o:MO),(is.filterMap (l[·]?))[j]?=some o→l[g j]?=some o∧g j∈is) ∧
  (is.Nodup→∀ (j j':Nat) (o o':MO),(is.filterMap (l[·]?))[j]?=some o→(is.filterMap (l[·]?))[j']?=some o'→g j=g j'→j=j'):=by
  intro is
  induction is with
  | nil=>exact ⟨id,by simp,by simp⟩
  | cons i is ih =>
   obtain ⟨g,h1,h2⟩:=ih
   cases hi:l[i]? with
   | none =>
    refine ⟨g,fun j o hj=>?_,fun hn j j' o o' hj hj'=>?_⟩
    · simp only [List.filterMap_cons,hi] at hj
      obtain ⟨a,b⟩:=h1 j o hj;exact ⟨a,by simp [b]⟩
    · simp only [List.filterMap_cons,hi] at hj hj'
      exact h2 (List.nodup_cons.1 hn).2 j j' o o' hj hj'
   | some oi =>
    refine ⟨fun j=>match j with|0=>i|j + 1=>g j,fun j o hj=>?_,fun hn j j' o o' hj hj' he=>?_⟩
    · simp only [List.filterMap_cons,hi] at hj
      cases j with
      | zero=>simp at hj;subst hj;exact ⟨hi,by simp⟩
      | succ j=>obtain ⟨a,b⟩:=h1 j o (by simpa using hj);exact ⟨a,by simp [b]⟩
    · simp only [List.filterMap_cons,hi] at hj hj'
      obtain ⟨hn1,hn2⟩:=List.nodup_cons.1 hn
      cases j with
      | zero=>cases j' with
       | zero=>rfl
       | succ j'=>have:=(h1 j' o' (by simpa using hj')).2;simp only at he;rw [← he] at this;exact absurd this hn1
      | succ j=>cases j' with
       | zero=>have:=(h1 j o (by simpa using hj)).2;simp only at he;rw [he] at this;exact absurd this hn1
       | succ j'=>have:=h2 hn2 j j' o o' (by simpa using hj) (by simpa using hj') he;omega
 obtain ⟨g,h1,h2⟩:=key is
 exact ⟨h.run,fun i o hi=>h.ok _ o (h1 i o hi).1,fun i o b hi hb=>h.out _ o b (h1 i o hi).1 hb,
  fun i j oi oj b hi hj hbi hbj=>h2 hnd i j oi oj hi hj (h.dis _ _ oi oj b (h1 i oi hi).1 (h1 j oj hj).1 hbi hbj)⟩
theorem St.row_n {α:Type} {En:Enc α} {xs:List α} {cells:List Value} (h:St H0 w0 H w l) {i:Nat} (hi:l[i]?=some (.row e k v n cells)) (he:Els H' En k cells xs) (hk:0 < k):n=xs.length:=by
 obtain ⟨⟨k1,_⟩,_⟩:=h.ok i _ hi
 have hl:=he.length
 rw [k1] at hl
 exact Nat.eq_of_mul_eq_mul_right hk hl
theorem E.lenO {α:Type} {En:Enc α} {xs:List α} {cells:List Value} {t e':Nat} (te:TE P t e' k z) (hx:ev f x=v) (h:St H0 w0 H w l) {i:Nat} (hi:l[i]?=some (.row e k v n cells)) (he:Els H' En k cells xs) (hk:0 < k) :
 (execOp (ev f) ⟨d,.call ⟨.builtin .len,#[x],#[t]⟩,ty,pos,aft,gd⟩).run P w=.ok (.value (.int .i64 (Pu.len xs))) w:=by
 have:=E.len (P:=P) (f:=f) (w:=w) (d:=d) (ty:=ty) (pos:=pos) (aft:=aft) (gd:=gd) te hx (h.row_ln hi)
 rw [h.row_n hi he hk] at this;exact this
theorem St.appendO {α:Type} {G:GH} {En:Enc α} {xs ys zs:List α} {c1 c2:List Value} {e2 n2:Nat} (h:St H0 w0 H w l) (te:TE P t e k z) {i j:Nat} (hi:l[i]?=some (.row e k v n c1)) (he:Els G En k c1 xs)
 (hj:l[j]?=some (.row e2 k u n2 c2)) (hy:Els G En k c2 ys) (hz:app xs ys=some zs) :
 ∃ v' w1 n' c',(∀ ty,(Builtin.append_ #[t,t] ty #[v,u]).run P w=.ok v' w1)∧St H0 w0 H w1 (l.set i (.row e k v' n' c'))∧Els G En k c' zs∧c'=c1++c2:=by
 obtain ⟨hb,rfl⟩:=app_some hz
 have hn:=h.row_n hi he te.kp
 have hn2:=h.row_n hj hy te.kp
 obtain ⟨v',w1,hr,hS⟩:=h.append (P:=P) te (l':=fun o=>l.set i (o.headD (.box 0 0 []))) hi (h.row_src hj) (h.ok j _ hj).2 (by omega) (fun o=>rfl)
 exact ⟨v',w1,_,_,hr,hS,he.app hy,rfl⟩
theorem St.appendP {α:Type} {G:GH} (hg:Inc G H) {En:Enc α} {xs ys zs:List α} {c1:List Value} (h:St H0 w0 H w l) (te:TE P t e k z) {i:Nat} (hi:l[i]?=some (.row e k v n c1)) (he:Els G En k c1 xs)
 (hy:RSl G En k u ys) (hz:app xs ys=some zs) :
 ∃ v' w1 n' c',(∀ ty,(Builtin.append_ #[t,t] ty #[v,u]).run P w=.ok v' w1)∧St H0 w0 H w1 (l.set i (.row e k v' n' c'))∧Els G En k c' zs:=by
 obtain ⟨hb,rfl⟩:=app_some hz
 have hn:=h.row_n hi he te.kp
 obtain ⟨news,g1,g2,g3⟩:=hy.src (fun b o hb=>h.sl b o (hg b o hb))
 obtain ⟨v',w1,hr,hS⟩:=h.append (P:=P) te (l':=fun o=>l.set i (o.headD (.box 0 0 []))) hi g3 g2 (by omega) (fun o=>rfl)
 exact ⟨v',w1,_,_,hr,hS,he.app g1⟩
theorem St.putEls {α:Type} {G:GH} {En:Enc α} {xs ys:List α} {x0:α} {cells c:List Value} (h:St H0 w0 H w l) {i:Nat} (hi:l[i]?=some (.row e k v n cells)) (he:Els G En k cells xs) {j:Int}
 (hy:put xs j x0=some ys) {p:Addr} (hp:PtrOf k v j p) (ts:∀ w,(sizeOf t).run P w=.ok k w) (hu:u.cells=c.toArray) (hck:c.length=k) (h1:∀ b∈c,b.oneCell'=true) (hr:En.rel G c x0) :
 ∃ w1 cells',(Instr.storeAt t (.pointer (some p)) u).run P w=.ok () w1∧St H0 w0 H w1 (l.set i (.row e k v n cells'))∧Els G En k cells' ys∧cells'=cells.take (j.toNat * k)++c++cells.drop (j.toNat * k + k):=by
 obtain ⟨h0,h2,rfl⟩:=put_some hy
 obtain ⟨w1,hst,hS⟩:=h.putRow (P:=P) (l':=fun o=>l.set i o) hi hp ts (u:=u) (by rw [hu];simpa using hck) (by rw [hu];simpa using h1) (fun o=>rfl)
 rw [hu] at hS
 exact ⟨w1,_,hst,hS,he.put hck hr _ (by omega),rfl⟩
theorem St.makeEls {α:Type} {G:GH} {En:Enc α} {x0:α} {xs:List α} {a c:Int} (h:St H0 w0 H w l) (te:TE P t e k z) (hm:mk2 x0 a c=some xs) (hz:En.rel G z.cells.toList x0) (h1:∀ u∈z.cells.toList,u.oneCell'=true) (kl kc:IntKind) :
 ∃ v w1 n cells,(Instr.makeSlice t (.int kl a) (.int kc c)).run P w=.ok v w1∧St H0 w0 H w1 (.row e k v n cells::l)∧Els G En k cells xs∧((∀ u∈z.cells.toList,neb u=Option.none)→bl cells=[]):=by
 obtain ⟨h0,hac,hc,rfl⟩:=mk2_some hm
 obtain ⟨v,w1,hr,hS⟩:=h.make (P:=P) te kl kc h0 hac hc h1
 refine ⟨v,w1,_,_,hr,hS,Els.made te.zs hz _,fun hb=>?_⟩
 unfold bl
 rw [List.filterMap_eq_nil_iff]
 intro u hu
 simp only [madeCells,Array.toList_map,Array.toList_range,List.mem_map] at hu
 obtain ⟨j,_,rfl⟩:=hu
 have hk:=te.kp
 have hlt:j % z.cells.size < z.cells.size:=Nat.mod_lt _ (by rw [te.zs];exact hk)
 rw [getElem!_pos z.cells _ hlt]
 exact hb _ (by simp)
theorem E.addS {a b c:ByteArray} {t t':TypeId} {catS:ByteArray→ByteArray→Option ByteArray} (hx:ev f x=.string a) (hy:ev f y=.string b) (h:catS a b=some c) (hc:∀ a b c,catS a b=some c→a.size + b.size≤9223372036854775807∧c=a++b) :
 (execOp (ev f) ⟨d,.binOp .add t x y t',ty,pos,aft,gd⟩).run P w=.ok (.value (.string c)) w:=by
 obtain ⟨h1,rfl⟩:=hc a b c h
 have:¬ (((a.size + b.size:Nat):Int) > IntKind.i64.max):=by simp [IntKind.max,IntKind.signed,IntKind.bits];omega
 simp [execOp,eqGuard,binOp,hx,hy,Op.stringOp]
 omega
end
section
variable {P:Program} {N:Nat} {Q:FQ} {f:Fm} {w:World}
theorem FW.forR {ρ:Option Nat} {δ:List Nat} {S X:Type} {c:Code} {a n:Nat} {body:Nat→S→Option (Lp S X)} (I:Nat→S→Fm→World→Prop) (Dn:Rs S X→FQ) {s:S} {q:Rs S X} (hq:Pu.forR a n body s=some q) (h0:I a s f w)
 (hbody:∀ i s f w,I i s f w→a≤i→i < n→∀ o,body i s=some o→FW (ρ:=ρ) (δ:=δ) P N c (Rd (I (i + 1)) Dn o) f w)
 (hend:∀ s f w,I (max a n) s f w→FW (ρ:=ρ) (δ:=δ) P N c (fun e f w=>e≠.normal∧Dn (.go s) e f w) f w):FW (ρ:=ρ) (δ:=δ) P N (.loop c) (Dn q) f w:=by
 refine FW.loopG (fun m f w=>∃ i s,a≤i∧i + m=max a n∧I i s f w∧zbp body m i s=some q) (m:=n - a) ?_ ⟨a,s,Nat.le_refl _,by omega,h0,hq⟩
 rintro m f w ⟨i,s,hai,hm,hI,hs⟩
 cases m with
 | zero =>
  simp only [zbp,Option.some.injEq] at hs
  subst hs
  have:i=max a n:=by omega
  subst this
  exact (hend s f w hI).mono fun e f w ⟨he,h⟩=>zbG he h
 | succ m =>
  simp only [zbp] at hs
  cases hb:body i s with
  | none=>rw [hb] at hs;cases hs
  | some o =>
   rw [hb] at hs
   refine (hbody i s f w hI hai (by omega) o hb).mono fun e f' w' h=>?_
   cases o with
   | nx s'=>obtain ⟨rfl,h⟩:=h;exact ⟨m,by omega,i + 1,s',by omega,by omega,h,hs⟩
   | bk s'=>obtain ⟨he,h⟩:=h;simp only [Option.some.injEq] at hs;subst hs;exact zbG he h
   | rt x=>obtain ⟨he,h⟩:=h;simp only [Option.some.injEq] at hs;subst hs;exact zbG he h
end
section
variable {A:Type} {En:Enc A}
theorem els1_some {H:GH} {cells:List Value} {xs:List A} (h:Els H En 1 cells xs) {i:Nat} {x:A} (hx:xs[i]?=some x):∃ c,cells[i]?=some c∧En.rel H [c] x:=by
 obtain ⟨c,h1,h2,h3⟩:=h.get i x hx
 obtain ⟨c0,rfl⟩:∃ c0,c=[c0]:=by
  match c,h1 with
  | [c0],_=>exact ⟨c0,rfl⟩
 exact ⟨c0,by simpa using h3 0 c0 rfl,h2⟩
end
theorem Ln.one {v:Value} {n:Nat} (h:Ln v n):v.oneCell'=true:=by obtain ⟨a,c,rfl⟩:=h;rfl
theorem Ln.cells {v:Value} {n:Nat} (h:Ln v n):v.cells=#[v]:=by obtain ⟨a,c,rfl⟩:=h;rfl
end Go.Mr
namespace Go.Mr
open Go.RowKit Go.Pu
section
variable {P:Program} {w w':World} {H0 H H':GH} {w0:World} {l:List MO} {t e k n:Nat} {v z:Value} {A:Type} {En:Enc A}
theorem St.reidx (h:St H0 w0 H w l) (l':List MO) (φ:Nat→Nat) (hφ:∀ (j:Nat) (o:MO),l'[j]?=some o→l[φ j]?=some o) (inj:∀ j j',j < l'.length→j' < l'.length→φ j=φ j'→j=j'):St H0 w0 H w l' :=
 ⟨h.run,fun j o hj=>h.ok _ o (hφ j o hj),fun j o b hj hb=>h.out _ o b (hφ j o hj) hb,fun i j oi oj b hi hj h1 h2 =>
  inj i j (List.getElem?_eq_some_iff.1 hi).1 (List.getElem?_eq_some_iff.1 hj).1 (h.dis _ _ oi oj b (hφ i oi hi) (hφ j oj hj) h1 h2)⟩
theorem St.front (h:St H0 w0 H w l) (i:Nat) {o:MO} (hi:l[i]?=some o) {l':List MO} (hl:o::l.eraseIdx i=l'):St H0 w0 H w l':=by
 subst hl
 refine h.reidx _ (fun j=>if j=0 then i else if j - 1 < i then j - 1 else j) (fun j o' hj=>?_) (fun j j' h1 h2 he=>?_)
 · cases j with
   | zero=>simp at hj;subst hj;simpa using hi
   | succ j =>
    simp only [List.getElem?_cons_succ,List.getElem?_eraseIdx] at hj
    simp only [Nat.add_one_ne_zero,if_false,Nat.add_sub_cancel]
    split at hj
    · rename_i hlt;rw [if_pos hlt];exact hj
    · rename_i hlt;rw [if_neg hlt];exact hj
 · have key:∀ m,(if m=0 then i else if m - 1 < i then m - 1 else m)=if m=0 then i else if m - 1 < i then m - 1 else m:=fun _=>rfl
   by_cases a1:j=0 <;> by_cases a2:j'=0 <;> by_cases a3:j - 1 < i <;> by_cases a4:j' - 1 < i <;> simp only [a1,a2,a3,a4,if_true,if_false] at he <;> omega
theorem Run.lend {Hl:GH} (_hi:Inc H Hl) (hs:Sl H w) (hr:Run w.heap.size Hl w H' w'):Run w.heap.size H w H w' :=
 ⟨hr.bel,fun _ _=>rfl,fun b o hb=>by
  have:=hs b o hb
  rw [hr.bel.block b (Array.getElem?_eq_some_iff.1 this).1];exact this,Inc.rfl H,hr.drw,fun _ _ h=>.inl h⟩
def TailOf (k:Nat) (v:Value) (a:Int) (v':Value):Prop:=∃ p len cap,v=.slice p len cap∧0≤a∧a≤len∧len≤cap ∧
 v'=.slice (if cap=a.toNat then p else p.map (·.add (a.toNat * k))) (len - a.toNat) (cap - a.toNat)
theorem St.tail {G:GH} (h:St H0 w0 H w l) (te:TE P t e k z) {i:Nat} {cells:List Value} (hi:l[i]?=some (.row e k v n cells)) {xs ys:List A} (he:Els G En k cells xs) {a:Int} {kk:IntKind} (hc:Pu.cut xs a (len xs)=some ys) :
 ∃ v',(∀ w,(Instr.slice t v (some (.int kk a)) Option.none Option.none).run P w=.ok v' w)∧TailOf k v a v':=by
 obtain ⟨h0,h1,h2,rfl⟩:=cut_some hc
 have hn:=h.row_n hi he te.kp
 obtain ⟨⟨g1,g2⟩,g3⟩:=h.ok i _ hi
 simp only [Pu.len] at h1
 rcases g2 with ⟨rfl,h3⟩|⟨g,cap,cur,rfl,hg,hh,hle,hcm,hsz,htk⟩
 · exact ⟨.slice (if 0=a.toNat then Option.none else Option.map (fun q:Addr=>q.add (a.toNat * k)) Option.none) (0 - a.toNat) (0 - a.toNat),fun w=>by
    have:=zbR (w:=w) te (a:=Option.none) (len:=0) (cap:=0) (p:=a) (q:=0) h0 (by omega) (by omega) (.inr ⟨kk,rfl⟩) (.inl ⟨rfl,rfl⟩)
    simpa using this,_,_,_,rfl,h0,by omega,by omega,rfl⟩
 · exact ⟨.slice (if cap=a.toNat then some ⟨g,0,Option.none⟩ else Option.map (fun q:Addr=>q.add (a.toNat * k)) (some ⟨g,0,Option.none⟩)) (n - a.toNat) (cap - a.toNat),fun w=>by
    have:=zbR (w:=w) te (a:=some ⟨g,0,Option.none⟩) (len:=n) (cap:=cap) (p:=a) (q:=n) h0 (by omega) (by omega) (.inr ⟨kk,rfl⟩) (.inl ⟨rfl,rfl⟩)
    simpa using this,_,_,_,rfl,h0,by omega,hle,rfl⟩
theorem els_take {cells:List Value} {xs:List A} (h:Els H En k cells xs):∀ m,m≤xs.length→Els H En k (cells.take (m * k)) (xs.take m):=by
 induction h with
 | nil=>intro m hm;simp;exact .nil
 | snoc hs hc hx ih =>
  rename_i cells xs c x
  intro m hm
  have hl:=hs.length
  rcases Nat.lt_or_ge xs.length m with hlt|hge
  · have:m=xs.length + 1:=by simp at hm;omega
    subst this
    have t1:List.take ((xs.length + 1) * k) (cells++c)=cells++c:=List.take_of_length_le (by rw [List.length_append,hl,hc,Nat.add_mul,Nat.one_mul];exact Nat.le_refl _)
    have t2:List.take (xs.length + 1) (xs++[x])=xs++[x]:=List.take_of_length_le (by simp)
    rw [t1,t2]
    exact .snoc hs hc hx
  · rw [List.take_append_of_le_length hge,List.take_append_of_le_length (by rw [hl];exact Nat.mul_le_mul_right _ hge)]
    exact ih m hge
theorem St.clearTail {G:GH} (h:St H0 w0 H w l) (te:TE P t e k z) {i:Nat} {cells:List Value} (hi:l[i]?=some (.row e k v n cells)) {xs:List A} (he:Els G En k cells xs) {a:Int} {v':Value} (hv:TailOf k v a v')
 {x0:A} (hz:En.rel G z.cells.toList x0) (h1:∀ u∈z.cells.toList,u.oneCell'=true) :
 ∃ w1 cells',(∀ ty,(Builtin.clear_ #[t] ty #[v']).run P w=.ok (.tuple #[]) w1)∧St H0 w0 H w1 (l.set i (.row e k v n cells'))∧Els G En k cells' (clearL x0 xs a):=by
 unfold clearL
 have hn:=h.row_n hi he te.kp
 obtain ⟨⟨g1,g2⟩,g3⟩:=h.ok i _ hi
 have hlen:=he.length
 have hset:l.set i (.row e k v n cells)=l:=by
  apply List.ext_getElem?
  intro j
  rw [List.getElem?_set]
  split
  · rename_i hij;subst hij;rw [hi];simp [(List.getElem?_eq_some_iff.1 hi).1]
  · rfl
 obtain ⟨p,len,cap,rfl,h0,ha,hlc,rfl⟩:=hv
 have hlenn:len=n:=by
  rcases g2 with ⟨hv,h3⟩|⟨g,cap',cur,hv,_⟩ <;> cases hv <;> omega
 subst hlenn
 obtain ⟨info,hinf,hzz,hsz,hby⟩:=te.i
 have hzv:∀ w,(zeroValue e).run P w=.ok z w:=fun w=>by simp [zeroValue,typeInfo,hinf,hzz]
 by_cases hfull:len - a.toNat=0
 · refine ⟨w,cells,fun ty=>?_,by rw [hset];exact h,?_⟩
   · rw [hfull];cases (if cap=a.toNat then p else p.map (·.add (a.toNat * k))) <;> simp [Builtin.clear_,run_underlying te.u]
   · rw [List.take_of_length_le (by omega),show xs.length - a.toNat=0 by omega];simpa using he
 · rcases g2 with ⟨hv,h3⟩|⟨g,cap',cur,hv,hg,hh,hle,hcm,hszc,htk⟩
   · omega
   · cases hv
     rw [if_neg (by omega)]
     obtain ⟨m,hm⟩:∃ m,len - a.toNat=m + 1:=⟨len - a.toNat - 1,by omega⟩
     have hzs:(Builtin.zeroCells z.cells (m + 1))=madeCells z.cells ((m + 1) * k):=by simp only [Builtin.zeroCells,madeCells,te.zs]
     have hml:(madeCells z.cells ((m + 1) * k)).toList.length=(m + 1) * k:=by simp [size_madeCells]
     have hmul:a.toNat * k + (m + 1) * k=len * k:=by rw [← Nat.add_mul];congr 1;omega
     have hmul2:len * k≤cap * k:=Nat.mul_le_mul_right _ hlc
     have hm1:∀ u∈(madeCells z.cells ((m + 1) * k)).toList,u.oneCell'=true:=by
      intro u hu
      simp only [madeCells,Array.toList_map,Array.toList_range,List.mem_map] at hu
      obtain ⟨j,_,rfl⟩:=hu
      have hk:=te.kp
      have hlt:j % z.cells.size < z.cells.size:=Nat.mod_lt _ (by rw [te.zs];exact hk)
      rw [getElem!_pos z.cells _ hlt]
      exact h1 _ (by simp)
     have hst:=run_storeCells_at P g (a.toNat * k) e (madeCells z.cells ((m + 1) * k)).toList 0 cur w hh (by rw [hml];omega) hm1
     simp only [Nat.add_zero,hml] at hst
     have hcr:∀ ty,(Builtin.clear_ #[t] ty #[.slice (Option.map (fun q:Addr=>q.add (a.toNat * k)) (some ⟨g,0,Option.none⟩)) (len - a.toNat) (cap - a.toNat)]).run P w=.ok (.tuple #[]) (w.setRow g (List.take (a.toNat * k) cur.toList++(madeCells z.cells ((m + 1) * k)).toList++List.drop (a.toNat * k + (m + 1) * k) cur.toList).toArray):=by
      intro ty
      rw [hm]
      simp only [Option.map_some,Addr.add_lit,Nat.zero_add]
      simp [Builtin.clear_,run_underlying te.u,hzv,hzs,hst]
     refine ⟨_,cells.take (a.toNat * k)++(madeCells z.cells ((m + 1) * k)).toList,hcr,?_,?_⟩
     · refine h.upd hi (zcw w g _) (Nat.le_refl _) ⟨⟨?_,.inr ⟨g,cap,_,rfl,hg,setRow_heap w g _ _ _ _ hh,hle,hcm,?_,?_⟩⟩,?_⟩ (fun b hb=>.inl hb)
       · rw [List.length_append,hml,List.length_take,g1];omega
       · simp only [List.size_toArray,List.length_append,List.length_take,List.length_drop,Array.length_toList,hml,hszc];omega
       · simp only [List.append_assoc]
         rw [← htk,List.take_take,Nat.min_eq_left (by omega),← List.append_assoc,List.take_left']
         rw [List.length_append,hml,List.length_take,Array.length_toList,hszc];omega
       · intro c hc
         simp only [List.mem_append] at hc
         rcases hc with hc|hc
         · exact g3 c (List.mem_of_mem_take hc)
         · exact hm1 c hc
     · rw [show xs.length - a.toNat=m + 1 by omega]
       exact (els_take he a.toNat (by omega)).app (Els.made te.zs hz _)
theorem St.cutRow {G:GH} (h:St H0 w0 H w l) (te:TE P t e k z) {i:Nat} {cells:List Value} (hi:l[i]?=some (.row e k v n cells)) {xs ys:List A} (he:Els G En k cells xs) {b:Int} {kk:IntKind} (hc:Pu.cut xs 0 b=some ys) :
 ∃ v' n' cells',(∀ w,(Instr.slice t v Option.none (some (.int kk b)) Option.none).run P w=.ok v' w)∧St H0 w0 H w (l.set i (.row e k v' n' cells'))∧Els G En k cells' ys∧((bl cells).Nodup→(bl cells').Nodup):=by
 obtain ⟨h0,h1,h2,rfl⟩:=cut_some hc
 have hn:=h.row_n hi he te.kp
 obtain ⟨⟨g1,g2⟩,g3⟩:=h.ok i _ hi
 have hle:b.toNat * k≤n * k:=Nat.mul_le_mul_right _ (by omega)
 have hels:Els G En k (cells.take (b.toNat * k)) (List.drop (Int.toNat 0) (List.take b.toNat xs)):=by
  simpa using els_take he b.toNat (by omega)
 have hnd:(bl cells).Nodup→(bl (cells.take (b.toNat * k))).Nodup:=fun h=>h.sublist ((List.take_sublist _ _).filterMap _)
 have hone:∀ u∈cells.take (b.toNat * k),u.oneCell'=true:=fun u hu=>g3 u (List.mem_of_mem_take hu)
 rcases g2 with ⟨rfl,h3⟩|⟨g,cap,cur,rfl,hg,hh,hlc,hcm,hsz,htk⟩
 · have hb0:b.toNat=0:=by omega
   have hr:∀ w,(Instr.slice t (.slice Option.none 0 0) Option.none (some (.int kk b)) Option.none).run P w=.ok (.slice Option.none 0 0) w:=fun w=>by
    have:=zbR (w:=w) te (a:=Option.none) (len:=0) (cap:=0) (p:=0) (q:=b) (Int.le_refl 0) (by omega) (by omega) (.inl ⟨rfl,rfl⟩) (.inr ⟨kk,rfl⟩)
    simpa [hb0] using this
   refine ⟨_,b.toNat,_,hr,?_,hels,hnd⟩
   rw [show .slice Option.none 0 0=Value.slice Option.none 0 0 from rfl]
   refine h.upd hi ⟨rfl,rfl,rfl,Nat.le_refl _,fun _ _ _=>rfl⟩ (Nat.le_refl _) ⟨⟨?_,.inl ⟨rfl,hb0⟩⟩,hone⟩ (fun b hb=>.inl hb)
   rw [List.length_take,g1];omega
 · have hr:∀ w,(Instr.slice t (.slice (some ⟨g,0,Option.none⟩) n cap) Option.none (some (.int kk b)) Option.none).run P w=.ok (.slice (some ⟨g,0,Option.none⟩) b.toNat cap) w:=fun w=>by
    have:=zbR (w:=w) te (a:=some ⟨g,0,Option.none⟩) (len:=n) (cap:=cap) (p:=0) (q:=b) (Int.le_refl 0) (by omega) (by omega) (.inl ⟨rfl,rfl⟩) (.inr ⟨kk,rfl⟩)
    simpa [Addr.add_lit] using this
   refine ⟨_,b.toNat,_,hr,?_,hels,hnd⟩
   refine h.upd hi ⟨rfl,rfl,rfl,Nat.le_refl _,fun _ _ _=>rfl⟩ (Nat.le_refl _) ⟨⟨?_,.inr ⟨g,cap,cur,rfl,hg,hh,by omega,hcm,hsz,?_⟩⟩,hone⟩ (fun b hb=>.inl hb)
   · rw [List.length_take,g1];omega
   · rw [← htk,List.take_take,Nat.min_eq_left hle]
theorem St.selT {a L:List MO} (h:St H0 w0 H w (a++L)) (is:List Nat) (hnd:is.Nodup) {l':List MO} (hl:is.map (a[·]?)=l'.map some):St H0 w0 H w (l'++L):=by
 have hlen:is.length=l'.length:=by simpa using congrArg List.length hl
 have key:∀ (j:Nat) (o:MO),l'[j]?=some o→∃ i,is[j]?=some i∧a[i]?=some o:=by
  intro j o hj
  have h1:(l'.map some)[j]?=some (some o):=by simp [hj]
  rw [← hl,List.getElem?_map] at h1
  cases hi:is[j]? with
  | none=>rw [hi] at h1;cases h1
  | some i=>rw [hi] at h1;exact ⟨i,rfl,by simpa using h1⟩
 refine h.reidx _ (fun j=>if j < l'.length then is.getD j 0 else a.length + (j - l'.length)) (fun j o hj=>?_) (fun j j' h1 h2 he=>?_)
 · by_cases hlt:j < l'.length
   · rw [List.getElem?_append_left hlt] at hj
     obtain ⟨i,g1,g2⟩:=key j o hj
     have:is.getD j 0=i:=by rw [List.getD_eq_getElem?_getD,g1];rfl
     rw [if_pos hlt,this,List.getElem?_append_left (List.getElem?_eq_some_iff.1 g2).1];exact g2
   · rw [List.getElem?_append_right (by omega)] at hj
     rw [if_neg hlt,List.getElem?_append_right (by omega)]
     simpa using hj
 · have small:∀ j,j < l'.length→is.getD j 0 < a.length:=fun j hlt=>by
    obtain ⟨i,g1,g2⟩:=key j l'[j] (by simp [hlt])
    have:is.getD j 0=i:=by rw [List.getD_eq_getElem?_getD,g1];rfl
    rw [this];exact (List.getElem?_eq_some_iff.1 g2).1
   by_cases a1:j < l'.length <;> by_cases a2:j' < l'.length <;> simp only [a1,a2,if_true,if_false] at he
   · have e1:is[j]'(by omega)=is[j']'(by omega):=by
      have x1:is.getD j 0=is[j]'(by omega):=by rw [List.getD_eq_getElem?_getD,List.getElem?_eq_getElem (by omega)];rfl
      have x2:is.getD j' 0=is[j']'(by omega):=by rw [List.getD_eq_getElem?_getD,List.getElem?_eq_getElem (by omega)];rfl
      rw [← x1,← x2];exact he
     exact (List.getElem_inj hnd).1 e1
   · have:=small j a1;omega
   · have:=small j' a2;omega
   · omega
theorem E.clear {f:Fm} {x:Operand} {d:Option Tmp} {ty:TypeId} {pos:String} {aft:Array Edge} {gd:Option (Nat×Bool)} (hx:ev f x=v) (hr:∀ ty,(Builtin.clear_ #[t] ty #[v]).run P w=.ok (.tuple #[]) w') :
 (execOp (ev f) ⟨d,.call ⟨.builtin .clear,#[x],#[t]⟩,ty,pos,aft,gd⟩).run P w=.ok (.value (.tuple #[])) w':=by
 simp [execOp,resolve,invoke,builtin,hx,hr]
end
end Go.Mr
namespace Go.Mr
open Go.RowKit Go.Pu
theorem Sl.of_inc {H H':GH} {w:World} (hi:Inc H H') (h:Sl H' w):Sl H w:=fun b o hb=>h b o (hi b o hb)
section
variable {δ:List Nat} {P:Program} {N:Nat} {f:Fm} {w w':World} {ops:Array Oper} {S:World→Prop} {M:Fm→World→Prop} {n:Nat} {ls l':Array Bool} {H:GH}
end
theorem RSl.nilTest {α:Type} {P:Program} {H:GH} {En:Enc α} {t e k:Nat} {z v:Value} {xs:List α} (te:TE P t e k z) (h:RSl H En k v xs) :
 ∃ b,(∀ (f:Fm) (x y:Operand) (n c:Nat) (d:Option Tmp) (t' ty:TypeId) (pos:String) (aft:Array Edge) (gd:Option (Nat×Bool)) (w:World),ev f x=v→ev f y=.slice none n c →
  (execOp (ev f) ⟨d,.binOp .eql t x y t',ty,pos,aft,gd⟩).run P w=.ok (.value (.bool b)) w)∧(b=true→xs=[]):=by
 obtain ⟨a,cap,rfl,⟨_,_,_⟩,hx⟩:=h
 refine ⟨a.isNone,fun f x y n c d t' ty pos aft gd w h1 h2=>?_,fun hn=>?_⟩
 · simp [execOp,h1,h2,Go.Lib.run_eql_slice_nil w t e a xs.length cap n c te.u,eqGuard_at_slice]
 · cases a with
   | some a=>cases hn
   | none =>
    cases xs with
    | nil=>rfl
    | cons x xs =>
     obtain ⟨p,_,h0,_⟩:=hx 0 x rfl
     cases h0
theorem app_nil2 {α:Type}:app ([]:List α) []=some []:=rfl
theorem growNil {α:Type} {P:Program} {H:GH} {w:World} {t e k fid:Nat} {z:Value} {En:Enc α} (te:TE P t e k z) (hs:Sl H w) {a:Int} (h0:0≤a) (hl:a≤lim)
 (k0:∀ w,Calls P fid #[.slice none 0 0,.int .i64 0] w fun e' w'=>e'=.returned (.slice none 0 0)∧w'=w)
 (k1:∀ (n:Nat) w,0 < n→n≤lim→Calls P fid #[.slice none 0 0,.int .i64 n] w fun e' w'=>e'=.returned (.slice (some ⟨w.heap.size,0,none⟩) 0 (grownCap w n 0 e)) ∧
  w'=w.drew.alloc (.cells (Builtin.zeroCells z.cells n++Builtin.zeroCells z.cells (grownCap w n 0 e - n)) e)) :
 Calls P fid #[.slice none 0 0,.int .i64 a] w fun e' w'=>∃ v n c,e'=.returned v∧St H w H w' [.row e k v n c]∧∀ G,Els G En k c []:=by
 obtain ⟨n,rfl⟩:=Int.eq_ofNat_of_zero_le h0
 rcases Nat.eq_zero_or_pos n with rfl|hn
 · refine (k0 w).mono ?_
   rintro _ _ ⟨rfl,rfl⟩
   exact ⟨_,_,_,rfl,(St.init hs).nil e k,fun _=>.nil⟩
 · have hl':n≤lim:=by omega
   refine (k1 n w hn hl').mono ?_
   rintro _ _ ⟨rfl,rfl⟩
   have hd:=(St.init hs).call (zaQ hs)
   have hge:=grownCap_ge w n 0 e
   refine ⟨_,0,[],rfl,hd.push (.row e k (.slice (some ⟨w.heap.size,0,none⟩) 0 (grownCap w n 0 e)) 0 []) _ ⟨⟨by simp,.inr ⟨w.heap.size,_,_,rfl,Nat.le_refl _,heap_alloc_new w.drew _,Nat.zero_le _,?_,?_,by simp⟩⟩,by simp⟩ ?_,fun _=>.nil⟩
   · exact grownCap_le_maxLen w n 0 e (by unfold lim at hl';simp only [maxLen];omega)
   · rw [Array.size_append,size_zeroCells,size_zeroCells,te.zs,← Nat.add_mul];congr 1;omega
   · intro b hb;simpa [MO.blk,Value.ownBlock] using hb.symm
end Go.Mr
namespace Go.Mr
open Go.RowKit Go.Pu
def okO:Obj→Bool
 | .cells _ _ fr=>fr == (0,0)
 | _=>false
def up (B:Nat) (H:GH):GH:=fun b=>if b < B then none else (H b).filter okO
theorem up_iff {B:Nat} {H:GH} {b:Nat} {o:Obj}:up B H b=some o↔B≤b∧H b=some o∧okO o=true:=by
 unfold up
 split
 · exact ⟨nofun,fun h=>by omega⟩
 · rename_i hlt
   rw [Option.filter_eq_some_iff]
   exact ⟨fun h=>⟨by omega,h.1,h.2⟩,fun h=>⟨h.2.1,h.2.2⟩⟩
theorem upI {B:Nat} {H:GH}:Inc (up B H) H:=fun _ _ h=>(up_iff.1 h).2.1
theorem zaf {B:Nat} {H H':GH} (h:Inc H H'):Inc (up B H) (up B H'):=fun b o hb=>by
 rw [up_iff] at *;exact ⟨hb.1,h b o hb.2.1,hb.2.2⟩
theorem up_le {B B':Nat} {H:GH} (h:B≤B'):Inc (up B' H) (up B H):=fun b o hb=>by
 rw [up_iff] at *;exact ⟨Nat.le_trans h hb.1,hb.2⟩
def New (H:GH) (cs:List Value):Prop:=∀ b∈bl cs,H b=none
theorem New.anti {H H':GH} {cs:List Value} (h:New H' cs) (hi:Inc H H'):New H cs:=fun b hb=>by
 cases hh:H b with
 | none=>rfl
 | some o=>have:=hi b o hh;rw [h b hb] at this;cases this
section
variable {P:Program} {w w':World} {H0 H H':GH} {w0:World} {l:List MO} {e k n:Nat} {v:Value} {A:Type} {En:Enc A}
theorem Els.dom {cells:List Value} {xs:List A} (h:Els H En k cells xs):∀ b∈bl cells,H b≠none:=by
 induction h with
 | nil=>intro b hb;cases hb
 | snoc _ _ hx ih =>
  intro b hb
  rw [bl_app] at hb
  rcases List.mem_append.1 hb with h|h
  · exact ih b h
  · exact En.dom hx b h
theorem zaS {a b:List Value} (ha:(bl a).Nodup) (hb:(bl b).Nodup) (hd:∀ x∈bl a,H x≠none) (hn:New H b):(bl (a++b)).Nodup:=by
 rw [bl_app]
 exact List.nodup_append.2 ⟨ha,hb,fun x hx y hy e=>hd x hx (e ▸ hn y hy)⟩
theorem zaT (v:Value):(bl [v]).Nodup:=by
 unfold bl
 cases h:neb v <;> simp [h]
theorem nd_put {a b:List Value} {i j:Nat} (hij:i≤j) (ha:(bl a).Nodup) (hb:(bl b).Nodup) (hd:∀ x∈bl a,H x≠none) (hn:New H b):(bl (a.take i++b++a.drop j)).Nodup:=by
 have h1:(bl (a++b)).Nodup:=zaS ha hb hd hn
 have h2:(bl (a.take i++a.drop j++b)).Nodup:=by
  have hs:(a.take i++a.drop j).Sublist a:=by
   have:=(List.Sublist.refl (a.take i)).append (List.drop_sublist_drop_left a hij)
   rwa [List.take_append_drop] at this
  have hs2:(bl (a.take i++a.drop j++b)).Sublist (bl (a++b)):=(hs.append (List.Sublist.refl b)).filterMap neb
  exact h1.sublist hs2
 have hp:(bl (a.take i++b++a.drop j)).Perm (bl (a.take i++a.drop j++b)):=by
  unfold bl
  refine List.Perm.filterMap neb ?_
  rw [List.append_assoc,List.append_assoc]
  exact List.Perm.append_left _ List.perm_append_comm
 exact hp.nodup_iff.2 h2
theorem St.sealRowU {xs:List A} (h:St H0 w0 H w l) {i:Nat} {cells:List Value} {l':List MO} (hi:l[i]?=some (.row e k v n cells)) (he:Els (up w0.heap.size H) En k cells xs) (hk:0 < k) (hl:l.eraseIdx i=l') :
 ∃ H1,St H0 w0 H1 w l'∧Inc H H1∧RSl (up w0.heap.size H1) En k v xs∧New H [v]:=by
 obtain ⟨H1,h1,h2,h3⟩:=h.sealRow hi (he.mono upI) hk hl
 refine ⟨H1,h1,h2,?_,fun b hb=>?_⟩
 · obtain ⟨a,cap,rfl,g1,g2⟩:=h3
   refine ⟨a,cap,rfl,g1,fun j x hx=>?_⟩
   obtain ⟨p,cs,rfl,g4,⟨arr,t,fr,g5,g6⟩,_⟩:=g2 j x hx
   obtain ⟨c,q1,q2,q3⟩:=he.get _ _ hx
   obtain ⟨⟨k1,k2⟩,_⟩:=h.ok i _ hi
   rcases k2 with ⟨hv,_⟩|⟨g,cap',cur,hv,hg,hh,hle,hcm,hsz,htk⟩
   · cases hv
   · cases hv
     refine ⟨_,c,rfl,q1,⟨arr,t,fr,?_,g6.1,fun m u hu=>?_⟩,En.mono (zaf h2) q2⟩
     · have hnow:=h1.sl _ _ g5
       rw [Addr.add_lit] at g5 hnow ⊢
       simp only at g5 hnow ⊢
       rw [hh] at hnow
       cases hnow
       exact up_iff.2 ⟨hg,g5,rfl⟩
     · have h4:=q3 m u hu
       rw [Addr.add_lit] at g5
       have hnow:=h1.sl _ _ g5
       simp only at hnow
       rw [hh] at hnow
       cases hnow
       rw [← htk,List.getElem?_take] at h4
       split at h4
       · rw [Addr.add_lit];simpa using h4
       · cases h4
 · obtain ⟨u,hu,hn⟩:=mem_bl hb
   simp only [List.mem_singleton] at hu
   subst hu
   refine h.out i _ b hi ?_
   cases u <;> simp only [neb] at hn <;> try (cases hn)
   rename_i a m c
   cases a with
   | none=>cases hn
   | some a =>
    simp only at hn
    split at hn
    · cases hn
    · exact hn
theorem New.of_up (hs:Sl H w) {cs:List Value} (hd:∀ b∈bl cs,up w.heap.size H' b≠none):New H cs:=fun b hb=>by
 cases hh:H b with
 | none=>rfl
 | some o =>
  have h1:=(Array.getElem?_eq_some_iff.1 (hs b o hh)).1
  have:=hd b hb
  unfold up at this
  rw [if_pos h1] at this
  exact absurd rfl this
def over (B:Nat) (H H':GH):GH:=fun b=>if b < B then H b else (H' b).filter Obj.isCells
theorem okO_cells {o:Obj} (h:okO o=true):o.isCells=true:=by cases o <;> first|rfl|cases h
theorem over_ge {B:Nat} {H H':GH} {b:Nat} {o:Obj} (hb:B≤b):over B H H' b=some o↔H' b=some o∧o.isCells=true:=by
 unfold over;rw [if_neg (by omega),Option.filter_eq_some_iff]
theorem Run.lendM {Hl:GH} (_hi:Inc H Hl) (hs:Sl H w) (hr:Run w.heap.size Hl w H' w'):Run w.heap.size H w (over w.heap.size H H') w':=by
 refine ⟨hr.bel,fun b hb=>by unfold over;rw [if_pos hb],fun b o hb=>?_,fun b o hb=>?_,hr.drw,fun b o hb=>?_⟩
 · by_cases hlt:b < w.heap.size
   · unfold over at hb;rw [if_pos hlt] at hb
     rw [hr.bel.block b hlt];exact hs b o hb
   · exact hr.sl b o ((over_ge (by omega)).1 hb).1
 · have hlt:=(Array.getElem?_eq_some_iff.1 (hs b o hb)).1
   unfold over;rw [if_pos hlt];exact hb
 · by_cases hlt:b < w.heap.size
   · unfold over at hb;rw [if_pos hlt] at hb;exact .inl hb
   · exact .inr ((over_ge (by omega)).1 hb).2
theorem St.lendM {Hl:GH} {lo:List MO} (hi:Inc H Hl) (hs:Sl H w) (hr:St Hl w H' w' lo):St H w (over w.heap.size H H') w' lo:=by
 refine ⟨Run.lendM hi hs hr.run,hr.ok,fun i o b hi' hb=>?_,hr.dis⟩
 have:=((hr.ok i o hi').lt b hb).1
 unfold over
 rw [if_neg (by omega),hr.out i o b hi' hb];rfl
theorem up_over {B:Nat} {H H':GH}:Inc (up B H') (up B (over B H H')):=fun b o h=>by
 have h:=up_iff.1 h
 exact up_iff.2 ⟨h.1,(over_ge h.1).2 ⟨h.2.1,okO_cells h.2.2⟩,h.2.2⟩
theorem Run.lendX {Hl:GH} (hi:Inc H Hl) (hs:Sl H w) (hr:Run w.heap.size Hl w H' w'):∃ Hm,Run w.heap.size H w Hm w'∧Inc (up w.heap.size H') (up w.heap.size Hm) :=
 ⟨_,Run.lendM hi hs hr,up_over⟩
theorem St.lendX {Hl:GH} {lo:List MO} (hi:Inc H Hl) (hs:Sl H w) (hr:St Hl w H' w' lo):∃ Hm,St H w Hm w' lo∧Inc (up w.heap.size H') (up w.heap.size Hm) :=
 ⟨_,St.lendM hi hs hr,up_over⟩
theorem Els.any {cells:List Value} {xs:List A} (h:Els H En k cells xs) (hE:∀ (H H':GH) cs x,En.rel H cs x→En.rel H' cs x):Els H' En k cells xs:=by
 induction h with
 | nil=>exact .nil
 | snoc _ hc hx ih=>exact .snoc ih hc (hE _ _ _ _ hx)
end
end Go.Mr
namespace Go.Mr
open Go.RowKit Go.Pu
section
variable {P:Program} {w w':World} {H0 H H':GH} {w0:World} {l:List MO} {e k n t:Nat} {v u:Value} {A:Type} {En:Enc A}
def Nest {A:Type} (G:GH) (En:Enc A) (k:Nat) (v:Value) (xs:List A) (c:List Value):Prop :=
 RSl G En k v xs∧Els G En k c xs∧(∀ a len cap,v=.slice (some a) len cap→xs≠[]→CAt G a c)∧(bl c).Nodup∧∀ b∈bl [v],b ∉ bl c
theorem St.sealRowN {xs:List A} (h:St H0 w0 H w l) {i:Nat} {cells:List Value} {l':List MO} (hi:l[i]?=some (.row e k v n cells)) (he:Els (up w0.heap.size H) En k cells xs) (nd:(bl cells).Nodup) (hk:0 < k) (hl:l.eraseIdx i=l') :
 ∃ H1,St H0 w0 H1 w l'∧Inc H H1∧Nest (up w0.heap.size H1) En k v xs cells∧New H [v]:=by
 obtain ⟨H1,h1,h2,h3,h4⟩:=h.sealRowU hi he hk hl
 refine ⟨H1,h1,h2,⟨h3,he.mono (zaf h2),?_,nd,fun b hb hc=>?_⟩,h4⟩
 · rintro a len cap rfl hne
   obtain ⟨x,hx⟩:∃ x,xs[0]?=some x:=by
    cases xs with
    | nil=>exact absurd rfl hne
    | cons x xs=>exact ⟨x,rfl⟩
   obtain ⟨a',cap',hv,_,g2⟩:=h3
   cases hv
   obtain ⟨p,cs,hp,_,⟨arr,t,fr,g4,g5,_⟩,_⟩:=g2 0 x hx
   cases hp
   rw [Nat.zero_mul,Addr.add_zero'] at g4 g5
   obtain ⟨⟨k1,k2⟩,_⟩:=h.ok i _ hi
   rcases k2 with ⟨hv,_⟩|⟨g,cap',cur,hv,hg,hh,hle,hcm,hsz,htk⟩
   · cases hv
   · cases hv
     have hnow:=h1.sl _ _ (upI _ _ g4)
     simp only at hnow
     rw [hh] at hnow
     cases hnow
     refine ⟨_,_,_,g4,rfl,fun j c hc=>?_⟩
     rw [← htk,List.getElem?_take] at hc
     split at hc
     · simpa using hc
     · cases hc
 · have:=h4 b hb
   exact Els.dom (he.mono upI) b hc this
end
end Go.Mr
namespace Go.Mr
open Go.RowKit Go.Pu
section
variable {P:Program} {w w':World} {H0 H H' Hs:GH} {w0:World} {l:List MO} {t e k:Nat} {v u:Value} {A:Type} {En:Enc A} {B lo hi:Nat}
def sg (lo hi:Nat) (H:GH):GH:=fun b=>if b < hi then up lo H b else none
theorem Nest.mono {G G':GH} {xs:List A} {c:List Value} (h:Nest G En k v xs c) (hi:Inc G G'):Nest G' En k v xs c :=
 ⟨h.1.mono hi,h.2.1.mono hi,fun a len cap hv hne=>(h.2.2.1 a len cap hv hne).mono hi,h.2.2.2⟩
theorem Nest.rsl {G:GH} {xs:List A} {c:List Value} (h:Nest G En k v xs c):RSl G En k v xs:=h.1
theorem Nest.dom {G:GH} {xs:List A} {c:List Value} (h:Nest G En k v xs c):∀ b,b∈bl [v]∨b∈bl c→G b≠none:=fun b hb=>by
 rcases hb with hb|hb
 · exact h.1.dom b hb
 · exact h.2.1.dom b hb
structure Wr (Hs H:GH) (p:Addr) (ci ci':List Value):Prop where
 out:∀ b,b≠p.block→b ∉ bl ci→H b=Hs b
 arr:∃ arr arr' e,Hs p.block=some (.cells arr e (0,0))∧H p.block=some (.cells arr' e (0,0))∧arr'.size=arr.size∧(∀ (j:Nat) u,ci'[j]?=some u→arr'[p.off + j]?=some u) ∧
  ∀ j,j < p.off∨p.off + ci.length≤j→arr'[j]?=arr[j]?
 len:ci'.length=ci.length
 spot:p.spot=none
 blk:bl ci'=bl ci
 own:p.block ∉ bl ci
theorem addr_eta {p:Addr} (h:p.spot=none) (j:Nat):p.add j=⟨p.block,p.off + j,none⟩:=by
 unfold Addr.add
 split
 · rename_i h0;subst h0;cases p;simp_all
 · rfl
@[reducible] def M1 (H0:GH) (w0:World) (Ha:GH) (l:List MO) {A:Type} (En:Enc A) (k:Nat) (v:Value) (r:List A×Int):Ending→World→Prop:=fun e w' =>
 ∃ H':GH,e=.returned (.int .i64 r.2)∧St H0 w0 H' w' l∧RSl (up w0.heap.size H') En k v r.1∧∀ b,b ∉ bl [v]→H' b=Ha b
@[reducible] def M2 (H0:GH) (w0:World) (Ha:GH) (l:List MO) {A:Type} (En:Enc A) (k:Nat) (v:Value) (c0:List Value) (r:List A×Int):Ending→World→Prop:=fun e w' =>
 ∃ (H':GH) (c':List Value),e=.returned (.int .i64 r.2)∧St H0 w0 H' w' l∧Nest (up w0.heap.size H') En k v r.1 c'∧bl c'=bl c0∧∀ b,b ∉ bl [v]→b ∉ bl c0→∀ o,Ha b=some o→H' b=some o
theorem Nest.nil {G:GH}:Nest G En k (.slice Option.none 0 0) [] []:=⟨RSl.nil _ _ _,.nil,(fun _ _ _ hv=>by cases hv),List.nodup_nil,fun _ _ h=>by cases h⟩
end
end Go.Mr
namespace Go.Pu
def okI (n:Int):Prop:=-9223372036854775808≤n∧n≤9223372036854775807
def okL {A:Type} (ok:A→Prop) (xs:List A):Prop:=xs.length≤9223372036854775807∧∀ x∈xs,ok x
section
variable {α β S X:Type}
theorem zb5 {body:Nat→α→S→Option (Lp S X)} (I:Nat→S→Prop) {l:List α} {s:S} (h0:I 0 s)
 (hb:∀ i x s,l[i]?=some x→I i s→∃ s',body i x s=some (.nx s')∧I (i + 1) s'):∃ s',forL l body s=some (.go s')∧I l.length s':=by
 have key:∀ (m p:List α) (s:S),l=p++m→I p.length s→∃ s',zaL body m p.length s=some (.go s')∧I l.length s':=by
  intro m
  induction m with
  | nil =>
   intro p s hm hi
   refine ⟨s,rfl,?_⟩
   rw [hm,List.append_nil];exact hi
  | cons x m ih =>
   intro p s hm hi
   have hx:l[p.length]?=some x:=by rw [hm];simp
   obtain ⟨s',h1,h2⟩:=hb p.length x s hx hi
   obtain ⟨s'',h3,h4⟩:=ih (p++[x]) s' (by rw [hm];simp) (by simpa using h2)
   refine ⟨s'',?_,h4⟩
   rw [zaL,h1]
   simpa using h3
 exact key l [] s rfl h0
theorem forL_fold {body:Nat→α→S→Option (Lp S X)} (g:S→α→S) {l:List α} {s:S} (h:∀ i x t,l[i]?=some x→body i x t=some (.nx (g t x))):forL l body s=some (.go (l.foldl g s)):=by
 obtain ⟨s',h1,h2⟩:=zb5 (X:=X) (body:=body) (fun i t=>t=(l.take i).foldl g s) (l:=l) (s:=s) (by simp) (fun i x t hx ht=>⟨g t x,h i x t hx,by
  subst ht
  rw [List.take_add_one,hx]
  simp⟩)
 rw [h1,h2,List.take_length]
theorem forL_foldI {body:Nat→α→S→Option (Lp S X)} (g:S→α→S) {l:List α} {s:S} (I:Nat→S→Prop) (h0:I 0 s) (h:∀ i x t,l[i]?=some x→I i t→body i x t=some (.nx (g t x))∧I (i + 1) (g t x)):forL l body s=some (.go (l.foldl g s))∧I l.length (l.foldl g s):=by
 obtain ⟨s',h1,h2,h3⟩:=zb5 (X:=X) (body:=body) (fun i t=>t=(l.take i).foldl g s∧I i t) (l:=l) (s:=s) ⟨by simp,h0⟩ (fun i x t hx ht=>⟨g t x,(h i x t hx ht.2).1,by
  obtain ⟨rfl,_⟩:=ht
  rw [List.take_add_one,hx]
  simp,(h i x t hx ht.2).2⟩)
 rw [List.take_length] at h2
 subst h2
 exact ⟨h1,h3⟩
theorem forL_push {f:Nat→α→Option β} {g:α→β} {l:List α} {s:List β} (hf:∀ (i:Nat) x,l[i]?=some x→f i x=some (g x)) (hl:s.length + l.length≤lim) :
 forL (X:=X) l (fun i x s=>bd (f i x) fun r=>bd (app s [r]) fun s'=>some (.nx s')) s=some (.go (s++l.map g)):=by
 obtain ⟨s',h1,h2⟩:=zb5 (X:=X) (body:=fun i x s=>bd (f i x) fun r=>bd (app s [r]) fun s'=>some (.nx s')) (fun i t=>t=s++(l.take i).map g) (l:=l) (s:=s) (by simp)
  (fun i x t hx ht=>by
   have hi:=(List.getElem?_eq_some_iff.1 hx).1
   refine ⟨t++[g x],?_,?_⟩
   · simp only [hf i x hx,zad]
     have:t.length + [g x].length≤lim:=by
      rw [ht];simp;omega
     unfold app
     rw [if_pos this];rfl
   · rw [ht,List.take_add_one,hx];simp)
 rw [h1,h2,List.take_length]
def anyI (p:Nat→α→Bool):List α→Nat→Bool
 | [],_=>false
 | y::l,i=>p i y || anyI p l (i + 1)
theorem zbz (p:α→Bool) (l:List α) (i:Nat):anyI (fun _ y=>p y) l i=l.any p:=by
 induction l generalizing i with
 | nil=>rfl
 | cons y l ih=>simp [anyI,ih]
theorem anyI_false {p:Nat→α→Bool}:∀ {l:List α} {k:Nat},anyI p l k=false↔∀ i y,l[i]?=some y→p (k + i) y=false:=by
 intro l
 induction l with
 | nil=>intro k;simp [anyI]
 | cons y l ih =>
  intro k
  simp only [anyI,Bool.or_eq_false_iff,ih]
  constructor
  · rintro ⟨h1,h2⟩ i z hz
    cases i with
    | zero=>simp at hz;subst hz;simpa using h1
    | succ i=>have:=h2 i z (by simpa using hz);rwa [show k + 1 + i=k + (i + 1) by omega] at this
  · intro h
    refine ⟨by simpa using h 0 y rfl,fun i z hz=>?_⟩
    have:=h (i + 1) z (by simpa using hz);rwa [show k + (i + 1)=k + 1 + i by omega] at this
theorem zb6 {body:Nat→α→Unit→Option (Lp Unit X)} {p:Nat→α→Bool} {v:X} {l:List α} {u:Unit} (h:∀ i y,l[i]?=some y→body i y ()=(bif p i y then some (.rt v) else some (.nx ()))) :
 forL l body u=some (bif anyI p l 0 then .rt v else .go ()):=by
 have key:∀ (m:List α) (k:Nat),(∀ i y,m[i]?=some y→body (k + i) y ()=(bif p (k + i) y then some (.rt v) else some (.nx ())))→zaL body m k ()=some (bif anyI p m k then .rt v else .go ()):=by
  intro m
  induction m with
  | nil=>intro k _;rfl
  | cons y m ih =>
   intro k hm
   have h0:=hm 0 y rfl
   rw [Nat.add_zero] at h0
   rw [zaL,h0]
   cases hp:p k y with
   | true=>simp [anyI,hp]
   | false =>
    simp only [cond_false,anyI,hp,Bool.false_or]
    exact ih (k + 1) fun i z hz=>by have:=hm (i + 1) z (by simpa using hz);rwa [show k + (i + 1)=k + 1 + i by omega] at this
 exact key l 0 fun i y hy=>by rw [Nat.zero_add];exact h i y hy
def findI (p:Nat→α→Bool):List α→Nat→Option (Nat×α)
 | [],_=>none
 | y::l,i=>bif p i y then some (i,y) else findI p l (i + 1)
theorem forL_find {body:Nat→α→Unit→Option (Lp Unit X)} {p:Nat→α→Bool} {v:Nat→α→X} {l:List α} {u:Unit} (h:∀ i y,l[i]?=some y→body i y ()=(bif p i y then some (.rt (v i y)) else some (.nx ()))) :
 forL l body u=some (match findI p l 0 with|some z=>.rt (v z.1 z.2)|none=>.go ()):=by
 have key:∀ (m:List α) (k:Nat),(∀ i y,m[i]?=some y→body (k + i) y ()=(bif p (k + i) y then some (.rt (v (k + i) y)) else some (.nx ())))→zaL body m k ()=some (match findI p m k with|some z=>.rt (v z.1 z.2)|none=>.go ()):=by
  intro m
  induction m with
  | nil=>intro k _;rfl
  | cons y m ih =>
   intro k hm
   have h0:=hm 0 y rfl
   rw [Nat.add_zero] at h0
   rw [zaL,h0]
   cases hp:p k y with
   | true=>simp [findI,hp]
   | false =>
    simp only [cond_false,findI,hp]
    exact ih (k + 1) fun i z hz=>by have:=hm (i + 1) z (by simpa using hz);rwa [show k + (i + 1)=k + 1 + i by omega] at this
 exact key l 0 fun i y hy=>by rw [Nat.zero_add];exact h i y hy
theorem zcx {p:Nat→α→Bool}:∀ {l:List α} {k:Nat},findI p l k=none↔anyI p l k=false:=by
 intro l
 induction l with
 | nil=>intro k;simp [findI,anyI]
 | cons y l ih =>
  intro k
  simp only [findI,anyI]
  cases p k y <;> simp [ih]
theorem zcy {p:Nat→α→Bool}:∀ {l:List α} {k:Nat} {z:Nat×α},findI p l k=some z→k≤z.1∧l[z.1 - k]?=some z.2∧p z.1 z.2=true∧anyI p l k=true:=by
 intro l
 induction l with
 | nil=>intro k z h;simp [findI] at h
 | cons y l ih =>
  intro k z h
  simp only [findI] at h
  cases hp:p k y with
  | true=>rw [hp] at h;simp at h;subst h;simp [anyI,hp]
  | false =>
   rw [hp] at h
   simp only [cond_false] at h
   obtain ⟨h1,h2,h3,h4⟩:=ih h
   refine ⟨by omega,?_,h3,by simp [anyI,h4]⟩
   rw [show z.1 - k=(z.1 - (k + 1)) + 1 by omega,List.getElem?_cons_succ];exact h2
theorem iter_any {xs:List α} {body:Int→Option (Lp Int X)} {p:Nat→α→Bool} {v:X} (h:∀ (i:Nat) y,xs[i]?=some y→body (i:Int)=(bif p i y then some (.rt v) else some (.nx ((i:Int) + 1)))) (he:body (xs.length:Int)=some (.bk (xs.length:Int))) :
 iter body 0=some (bif anyI p xs 0 then .rt v else .go (xs.length:Int)):=by
 have key:∀ (m:List α) (k:Nat),k + m.length=xs.length→(∀ i y,m[i]?=some y→xs[k + i]?=some y)→iter body (k:Int)=some (bif anyI p m k then .rt v else .go (xs.length:Int)):=by
  intro m
  induction m with
  | nil =>
   intro k hk _
   simp only [List.length_nil,Nat.add_zero] at hk
   subst hk
   rw [za9 he];rfl
  | cons y m ih =>
   intro k hk hm
   have h0:=h k y (by have:=hm 0 y rfl;simpa using this)
   cases hp:p k y with
   | true=>rw [hp] at h0;rw [iter_rt h0];simp [anyI,hp]
   | false =>
    rw [hp] at h0
    rw [zbq h0]
    simp only [anyI,hp,Bool.false_or]
    exact ih (k + 1) (by simp at hk;omega) fun i z hz=>by have:=hm (i + 1) z (by simpa using hz);rwa [show k + (i + 1)=k + 1 + i by omega] at this
 have:=key xs 0 (by simp) (by simp)
 simpa using this
theorem iter_while {xs:List α} {body:Int→Option (Lp Int X)} {p:α→Bool} (h:∀ (i:Nat) y,xs[i]?=some y→body (i:Int)=(bif p y then some (.nx ((i:Int) + 1)) else some (.bk (i:Int)))) (he:body (xs.length:Int)=some (.bk (xs.length:Int))) :
 iter body 0=some (.go ((xs.takeWhile p).length:Int)):=by
 have key:∀ (m:List α) (k:Nat),k + m.length=xs.length→(∀ i y,m[i]?=some y→xs[k + i]?=some y)→iter body (k:Int)=some (.go ((k + (m.takeWhile p).length:Nat):Int)):=by
  intro m
  induction m with
  | nil =>
   intro k hk _
   simp only [List.length_nil,Nat.add_zero] at hk
   subst hk
   rw [za9 he];rfl
  | cons y m ih =>
   intro k hk hm
   have h0:=h k y (by have:=hm 0 y rfl;simpa using this)
   cases hp:p y with
   | true =>
    rw [hp] at h0
    rw [zbq h0,List.takeWhile_cons,if_pos hp]
    have:=ih (k + 1) (by simp at hk;omega) fun i z hz=>by have:=hm (i + 1) z (by simpa using hz);rwa [show k + (i + 1)=k + 1 + i by omega] at this
    rw [show ((k:Int) + 1)=((k + 1:Nat):Int) by simp,this]
    simp;omega
   | false =>
    rw [hp] at h0
    rw [za9 h0,List.takeWhile_cons,if_neg (by simp [hp])];simp
 have:=key xs 0 (by simp) (by simp)
 simpa using this
theorem zaR {xs:List α} {i:Nat}:ix xs (i:Int)=xs[i]?:=by simp [ix]
theorem ix_of {xs:List α} {i:Int} (h0:0≤i) (h1:i < xs.length):∃ x,ix xs i=some x∧xs[i.toNat]?=some x:=by
 refine ⟨xs[i.toNat]'(by omega),?_,List.getElem?_eq_getElem (by omega)⟩
 unfold ix;rw [if_pos h0];exact List.getElem?_eq_getElem (by omega)
theorem wr_pred {i n:Nat} (hi:0 < i) (h:i < n) (hn:n≤9223372036854775807):wr ((i:Int) - 1)=((i - 1:Nat):Int):=by rw [wr_of _ (by omega) (by omega)];omega
theorem wr_succ {i n:Nat} (h:i < n) (hn:n≤9223372036854775807):wr ((i:Int) + 1)=(i:Int) + 1:=wr_of _ (by omega) (by omega)
theorem zaD {xs ys:List α} (h:xs.length + ys.length≤lim):app xs ys=some (xs++ys):=by unfold app;rw [if_pos h]
theorem cut_ok {xs:List α} {a b:Nat} (h:a≤b) (hb:b≤xs.length):cut xs (a:Int) (b:Int)=some ((xs.take b).drop a):=by unfold cut;rw [if_pos (by omega)];simp
theorem put_ok {xs:List α} {i:Nat} {x:α} (h:i < xs.length):put xs (i:Int) x=some (xs.set i x):=by unfold put;rw [if_pos (by omega)];simp
theorem mk2_ok {z:α} {n:Nat} (h:n≤lim):mk2 z (n:Int) (n:Int)=some (List.replicate n z):=by unfold mk2;rw [if_pos (by unfold lim at h ⊢;omega)];simp
theorem zai (xs:List α):len xs=(xs.length:Int):=rfl
@[simp] theorem bif_ff {c d:Bool}:(bif c then d else false)=(c && d):=by cases c <;> rfl
@[simp] theorem bif_tt {c d:Bool}:(bif c then true else d)=(c || d):=by cases c <;> rfl
def adj (r:α→α→Bool):List α→Bool
 | a::b::l=>r a b && adj r (b::l)
 | _=>true
theorem anyI_adj {q:α→Bool} {r:α→α→Bool} {l:List α} {p:Nat→α→Bool} (h0:∀ y,l[0]?=some y→p 0 y=q y) (h:∀ (i:Nat) x y,l[i]?=some x→l[i + 1]?=some y→p (i + 1) y=(q y || !r x y)) :
 anyI p l 0 = !(l.all (fun y => !q y) && adj r l):=by
 have key:∀ (m:List α) (k:Nat) (x:α),l[k]?=some x→(∀ i y,m[i]?=some y→l[k + 1 + i]?=some y)→anyI p m (k + 1) = !(m.all (fun y => !q y) && adj r (x::m)):=by
  intro m
  induction m with
  | nil=>intro k x _ _;rfl
  | cons y m ih =>
   intro k x hx hm
   have hy:l[k + 1]?=some y:=by simpa using hm 0 y rfl
   simp only [anyI,List.all_cons,adj]
   rw [h k x y hx hy,ih (k + 1) y hy fun i z hz=>by have:=hm (i + 1) z (by simpa using hz);rwa [show k + 1 + (i + 1)=k + 1 + 1 + i by omega] at this]
   cases q y <;> cases r x y <;> cases m.all (fun y => !q y) <;> simp
 cases l with
 | nil=>rfl
 | cons x m =>
  simp only [anyI,List.all_cons]
  rw [h0 x rfl,Nat.zero_add,key m 0 x rfl (by intro i y hy;rw [show 0 + 1 + i=i + 1 by omega];simpa using hy)]
  cases q x <;> simp
theorem zdk {α S X:Type} {body:Nat→α→S→Option (Lp S X)} {a:α} {l:List α} {i:Nat} {s s':S} (h:body i a s=some (.nx s')):zaL body (a::l) i s=zaL body l (i + 1) s':=by
 simp only [zaL,h]
theorem forLFrom_nil {α S X:Type} {body:Nat→α→S→Option (Lp S X)} {i:Nat} {s:S}:zaL body [] i s=some (.go s):=rfl
theorem iter_foldI {σ:Type} {xs:List α} {body:σ×Int→Option (Lp (σ×Int) X)} {F:σ→α→σ} (I:Nat→σ→Prop) {s0:σ} (h0:I 0 s0)
 (h:∀ (i:Nat) x s,xs[i]?=some x→I i s→body (s,(i:Int))=some (.nx (F s x,(i:Int) + 1))∧I (i + 1) (F s x)) (he:∀ s,body (s,(xs.length:Int))=some (.bk (s,(xs.length:Int)))) :
 iter body (s0,0)=some (.go (xs.foldl F s0,(xs.length:Int)))∧I xs.length (xs.foldl F s0):=by
 have key:∀ (m:List α) (k:Nat) (s:σ),k + m.length=xs.length→(∀ i y,m[i]?=some y→xs[k + i]?=some y)→I k s→iter body (s,(k:Int))=some (.go (m.foldl F s,(xs.length:Int)))∧I xs.length (m.foldl F s):=by
  intro m
  induction m with
  | nil =>
   intro k s hk _ hI
   simp only [List.length_nil,Nat.add_zero] at hk
   subst hk
   exact ⟨za9 (he s),hI⟩
  | cons y m ih =>
   intro k s hk hm hI
   obtain ⟨h1,h2⟩:=h k y s (by have:=hm 0 y rfl;simpa using this) hI
   rw [zbq h1]
   exact ih (k + 1) (F s y) (by simp at hk;omega) (fun i z hz=>by have:=hm (i + 1) z (by simpa using hz);rwa [show k + (i + 1)=k + 1 + i by omega] at this) h2
 have:=key xs 0 s0 (by simp) (by simp) h0
 simpa using this
end
end Go.Pu
namespace Go.Mr
open Go.RowKit Go.Pu
def hpOf (w:World):GH:=fun b=>w.heap[b]?
theorem sl_hpOf (w:World):Sl (hpOf w) w:=fun _ _ h=>h
def RdT (P:Program) (w:World) (t:TypeId) {A:Type} (En:Enc A) (ok:A→Prop):Prop :=
 ∀ {H:Type} {enc:TypeId×Value→H} {base:Nat} {spare:Nat→Bool} {held:Bool} {fuel:Nat} {cs:List Value} {x:DataW H×List MemPlace},DataW.trod enc P w base spare held fuel t cs=some x→∃ a,En.rel (hpOf w) cs a∧ok a
section
variable {P:Program} {w:World} {t e k:Nat} {A:Type} {En:Enc A} {ok:A→Prop}
theorem cell_block {p:Addr} {c:Value} (h:w.cell? p=some c):p.spot=Option.none∧∃ arr e fr,w.heap[p.block]?=some (.cells arr e fr)∧arr[p.off]?=some c:=by
 have hs:=World.cell?_spot h
 refine ⟨hs,?_⟩
 unfold World.cell? at h
 split at h
 · rename_i arr e fr hb
   split at h
   · cases h
   · exact ⟨arr,e,fr,hb,h⟩
 · cases h
theorem cat_of_cells {base:Nat} {p:Addr} {cs:List Value} (hk:0 < k) (h:w.cells? base p k=some cs):cs.length=k∧CAt (hpOf w) p cs:=by
 obtain ⟨_,hl,hc⟩:=World.cells?_some h
 refine ⟨hl,?_⟩
 obtain ⟨c0,h0⟩:∃ c0,cs[0]?=some c0:=⟨cs[0]'(by omega),List.getElem?_eq_getElem (by omega)⟩
 have:=hc 0 hk
 rw [h0,Addr.add_zero'] at this
 obtain ⟨hs,arr,e,fr,hb,_⟩:=cell_block this
 refine ⟨arr,e,fr,hb,hs,fun j c hj=>?_⟩
 have hjk:j < k:=by rw [← hl];exact (List.getElem?_eq_some_iff.1 hj).1
 have h2:=hc j hjk
 rw [hj] at h2
 obtain ⟨_,arr',e',fr',hb',hc'⟩:=cell_block h2
 have hbl:(p.add j).block=p.block:=by unfold Addr.add;split <;> rfl
 rw [hbl,hb] at hb'
 cases hb'
 rw [addr_eta hs] at hc'
 exact hc'
theorem RdT.slice (ht:P.underlying t=some (.slice e)) (hc:P.cellsOf e=k) (hk:0 < k) (he:RdT P w e En ok):RdT P w t (eL En k) (okL ok):=fun {H enc base spare held fuel cs x} h=>by
 rcases DataW.trod_slice ht h with ⟨rfl,_⟩|⟨a,len,cap,elems,rest,n,_,rfl,_,_,hle,hm,hlen,hel,_⟩
 · exact ⟨[],⟨_,rfl,RSl.nil _ _ _⟩,by simp,by simp⟩
 · rw [hc] at hel
   have key:∀ m,m≤len→∃ xs:List A,xs.length=m∧∀ i x,xs[i]?=some x→∃ cs,cs.length=k∧CAt (hpOf w) (a.add (i * k)) cs∧En.rel (hpOf w) cs x∧ok x:=by
    intro m
    induction m with
    | zero=>intro _;exact ⟨[],rfl,by simp⟩
    | succ m ih =>
     intro hlt
     obtain ⟨xs,h1,h2⟩:=ih (by omega)
     have h3:=hel m (by omega)
     rw [List.getElem?_eq_getElem (by omega)] at h3
     obtain ⟨cs',h4,h5⟩:=Option.bind_eq_some_iff.1 h3
     obtain ⟨y,hy,hok⟩:=he h5
     obtain ⟨h6,h7⟩:=cat_of_cells hk h4
     refine ⟨xs++[y],by simp [h1],fun i x hx=>?_⟩
     rcases Nat.lt_or_ge i xs.length with hi|hi
     · rw [List.getElem?_append_left hi] at hx;exact h2 i x hx
     · have:i=xs.length:=by have:=(List.getElem?_eq_some_iff.1 hx).1;simp at this;omega
       subst this
       simp at hx;subst hx
       rw [h1]
       exact ⟨cs',h6,h7,hy,hok⟩
   obtain ⟨xs,h1,h2⟩:=key len (Nat.le_refl _)
   subst h1
   refine ⟨xs,⟨_,rfl,some a,cap,rfl,⟨by omega,nofun,hle⟩,fun i x hx=>let ⟨cs,g1,g2,g3,_⟩:=h2 i x hx;⟨a,cs,rfl,g1,g2,g3⟩⟩,by simp only [maxLen] at hm;omega,fun x hx=>?_⟩
   obtain ⟨i,hi⟩:=List.mem_iff_getElem?.1 hx
   obtain ⟨_,_,_,_,h⟩:=h2 i x hi
   exact h
variable {H:Type} {enc:TypeId×Value→H} {base b0:Nat} {spare:Nat→Bool} {held:Bool} {r:Reach} {v:Value} {d:DataW H} {ps:List MemPlace}
theorem arg_slice (ht:P.underlying t=some (.slice e)) (hc:P.cellsOf e=k) (hk:0 < k) (he:RdT P w e En ok) (hval:Value.okWide P w r b0 t v) (h:DataW.Trod enc P w base spare held t v d ps):∃ xs:List A,RSl (hpOf w) En k v xs∧okL ok xs:=by
 obtain ⟨a,len,cap,rfl⟩:=WideShapes.okWide_slice ht hval
 obtain ⟨fuel,h⟩:=h
 obtain ⟨xs,⟨v',h1,h2⟩,h3⟩:=RdT.slice ht hc hk he h
 simp only [Value.cells,List.cons.injEq,and_true] at h1
 subst h1
 exact ⟨xs,h2,h3⟩
theorem trod_stays {W W':World} (hl:laidOutB P=true) (hr:P.readableRec t=true) (hrow:t < P.types.size) (hb:Below W.heap.size W W') {ps:List MemPlace} (hp:∀ p∈ps,p.block < W.heap.size)
 (h:DataW.Trod enc P W base (fun _=>true) true t v d ps):DataW.Trod enc P W' base (fun b=>decide (b < W.heap.size)) true t v d ps :=
 WideElems.Trod_stays hl hr hrow h (fun p h=>hb.same (hp p h)) (fun p h=>by simpa using hp p h)
end
theorem post_law {H:Type} {enc:TypeId×Value→H} {P:Program} {f:Func} {s:ChangeSpec} {W W':World} {args:Array Value} {ds:List (DataW H)} {p:List MemPlace} {tb:TypeId}
 (hW:DataW.Whole enc P f.params.toList s.vars false W args.toList ds [] (p++[])) (hv:s.vars=[]) (hf:(s.fn H (ds++[]))={ results:=[.lit (.bool true)],args:=ds }) (hrt:f.resultTypes.toList=[tb]) (hrs:f.resultTypes.size=1)
 (htb:P.underlying tb=some .bool) (hA:DataW.TrodAll enc P W' 0 (fun b=>decide (b < W.heap.size)) true f.params.toList args.toList ds p) (hb:Below W.heap.size W W') :
 s.post enc P f false true false false W args (.bool true) W':=by
 refine ⟨ds,[],p++[],[],p,[],hW,?_,?_,?_,hb.frame _,fun h=>by cases h⟩
 · rw [hf,hrt,hrs]
   exact trodAll_cons_mk (shut_bool htb _) ChangeShapes.trodAll_mk0
 · rw [hf];exact hA
 · rw [hf,hv];rfl
end Go.Mr
namespace Go.Pu
def catS (a b:ByteArray):Option ByteArray:=if a.size + b.size≤9223372036854775807 then some (a++b) else none
def itoaS (n:Int):ByteArray:=⟨(Go.Lib.itoa n).toArray⟩
def numT (n:Int):Option ByteArray:=if -9223372036854775808 < n∧n≤9223372036854775807 then some (itoaS n) else none
end Go.Pu
namespace Go.Pu
def ixS (s:ByteArray) (i:Int):Option Int:=if 0≤i then (s.data[i.toNat]?).map fun b=>(b.toNat:Int) else none
theorem ixS_some {s:ByteArray} {i b:Int} (h:ixS s i=some b):0≤i∧∃ u:UInt8,s.data[i.toNat]?=some u∧b=(u.toNat:Int):=by
 unfold ixS at h
 split at h
 · rename_i h0
   cases hu:s.data[i.toNat]? with
   | none=>rw [hu] at h;cases h
   | some u=>rw [hu] at h;cases h;exact ⟨h0,u,rfl,rfl⟩
 · cases h
def cutS (s:ByteArray) (a b:Int):Option ByteArray:=if 0≤a∧a≤b∧b≤s.size then some (s.extract a.toNat b.toNat) else none
theorem cutS_some {s r:ByteArray} {a b:Int} (h:cutS s a b=some r):0≤a∧a≤b∧b≤s.size∧r=s.extract a.toNat b.toNat:=by
 unfold cutS at h;split at h
 · rename_i h0;cases h;exact ⟨h0.1,h0.2.1,h0.2.2,rfl⟩
 · cases h
def okU8 (n:Int):Prop:=0≤n∧n≤255
end Go.Pu
namespace Go.Mr
open Go.RowKit Go.Pu
theorem RdT.u8 {P:Program} {w:World} {t:TypeId} (ht:P.underlying t=some (.int .u8)):RdT P w t (eN .u8) okU8:=fun h=>by
 obtain ⟨n,rfl,_,hw⟩:=DataW.trod_int ht h
 refine ⟨n,rfl,?_⟩
 simp [Lit.wf,IntKind.min,IntKind.max,IntKind.signed,IntKind.bits] at hw
 exact hw
end Go.Mr
