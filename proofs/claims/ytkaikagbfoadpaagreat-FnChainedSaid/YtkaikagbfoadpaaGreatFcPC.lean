/- Helpers of the walks and plain laws. -/
import Derived.Test.YtkaikagbfoadpaaGreatFcPB
import Derived.Test.YtkaikagbfoadpaaGreatFcPA
set_option linter.unusedVariables false
namespace Go.PF
open Go.Pu
theorem cnfB_rng {f:Cnf} (h:cnfB f=true):0≤f.vars∧f.vars≤12:=by
 unfold cnfB at h
 simp only [Bool.and_eq_true] at h
 exact varsB_iff.1 h.1.1
theorem cnfB_isC {f:Cnf} (h:cnfB f=true):∀ c∈f.clauses,IsC f.vars c:=fun c hc=>by
 unfold cnfB at h
 simp only [Bool.and_eq_true] at h
 exact zbc.1 (List.all_eq_true.1 h.2 c hc)
theorem cnfB_len {f:Cnf} (h:cnfB f=true):f.clauses.length≤60:=by
 unfold cnfB at h
 simp only [Bool.and_eq_true] at h
 have:=of_decide_eq_true h.1.2
 rw [zai] at this
 omega
theorem dr_hard {n:Nat} {c:l1Cur} (h:okC (n + 200) c):Dr n (zcf c) (SmC 62 12):=by
 have hlim:lim=4294967296:=rfl
 unfold zcf
 refine (dr_of (n:=n + 190) h.le (l:=zbB) (by unfold zbB;simp)).bind fun t c1 h1 ht=>?_
 obtain ⟨f,hf,hg,hv4⟩:=known_ok ht
 have hv:=cnfB_rng hg;have hN:=cnfB_len hg
 show Dr n (bd (zbT t) _) _
 rw [hf,zad]
 refine dr_loop (fun s=>(f.vars + 1 - s.2.2.2.2).toNat) (fun s=>okC (n + 100 + 2 * (f.vars + 1 - s.2.2.2.2).toNat) (l1Cur.mk s.2.1 s.2.2.1 s.2.2.2.1)∧1≤s.2.2.2.2∧s.2.2.2.2≤f.vars + 1∧s.1.length≤s.2.2.2.2.toNat∧okIs s.1)
  (fun s=>okC (n + 100) (l1Cur.mk s.2.1 s.2.2.1 s.2.2.2.1)∧s.1.length≤10∧okIs s.1)
  ⟨h1.le (by dsimp only;omega),by dsimp only;omega,by dsimp only;omega,by simp,fun x h=>by cases h⟩ ?_ ?_
 · rintro ⟨to,cd,at_,sd,v⟩ ⟨g1,g2,g3,g4,g5⟩
   simp only at g1 g2 g3 g4 g5 ⊢
   cases hd:decide (v≤f.vars) with
   | false=>exact .inr ⟨_,rfl,g1.le,by dsimp only;omega,g5⟩
   | true =>
    have hv2:v≤f.vars:=of_decide_eq_true hd
    have hw:wr (v + 1)=v + 1:=wr_of _ (by omega) (by omega)
    left
    simp only [cond_true]
    have e0:n + 100 + 2 * (f.vars + 1 - v).toNat=(n + 100 + 2 * (f.vars + 1 - (v + 1)).toNat) + 2:=by omega
    rw [e0] at g1
    obtain ⟨b,c3,e2,k3,_⟩:=zbj g1 4
    rw [e2,zad]
    have fin:∀ y,okI y→okIs (to++[y]):=fun y hy x hx=>by
     rcases List.mem_append.1 hx with g|g
     · exact g5 x g
     · rw [List.mem_singleton] at g;subst g;exact hy
    cases b with
    | true =>
     simp only [cond_true]
     rw [zaD (by simp;omega),zad]
     exact ⟨_,rfl,⟨by dsimp only;rw [hw];exact k3,by dsimp only;rw [hw];omega,by dsimp only;rw [hw];omega,by dsimp only;rw [hw,List.length_append,List.length_singleton];omega,fin _ (zbk _)⟩,by dsimp only;rw [hw];omega⟩
    | false =>
     simp only [cond_false]
     rw [zaD (by simp;omega),zad]
     exact ⟨_,rfl,⟨by dsimp only;rw [hw];exact k3,by dsimp only;rw [hw];omega,by dsimp only;rw [hw];omega,by dsimp only;rw [hw,List.length_append,List.length_singleton];omega,fin _ (by unfold okI;omega)⟩,by dsimp only;rw [hw];omega⟩
 · rintro ⟨to,cd,at_,sd,v⟩ ⟨g1,g2,g3⟩
   simp only at g1 g2 g3 ⊢
   obtain ⟨r,hr,hs⟩:=rename_ok hg hN (by omega) g3 (by omega)
   rw [hr,zad]
   refine (za2 (n:=n + 98) g1 3).bind fun k c2 h2 hk=>?_
   have hk3:k≤2:=by omega
   refine dr_loop (fun s=>s.2.2.2.2.2.toNat) (fun s=>okC (n + 30 * s.2.2.2.2.2.toNat) (l1Cur.mk s.2.1 s.2.2.1 s.2.2.2.1)∧0≤s.2.2.2.2.2∧s.1.length + s.2.2.2.2.2≤62∧okI s.2.2.2.2.1∧∀ c∈s.1,c.length≤12∧okIs c)
    (fun s=>okC n (l1Cur.mk s.2.1 s.2.2.1 s.2.2.2.1)∧s.1.length≤62∧okI s.2.2.2.2.1∧∀ c∈s.1,c.length≤12∧okIs c)
    ⟨h2.le (by dsimp only;omega),by dsimp only;omega,by dsimp only;have:=hs.len;omega,hs.vars,hs.cl⟩ ?_ (fun s hs=>⟨_,_,rfl,hs.1,hs.2.2.1,hs.2.1,hs.2.2.2⟩)
   rintro ⟨out,cd,at_,sd,v,j⟩ ⟨g1,g2,g3,g4,g5⟩
   simp only at g1 g2 g3 g4 g5 ⊢
   cases hd:(bif decide (0 < j) then decide (0 < v) else false) with
   | false=>exact .inr ⟨_,rfl,g1.le,by dsimp only;omega,g4,g5⟩
   | true =>
    have hj:0 < j:=by
     cases hx:decide (0 < j) with
     | true=>exact of_decide_eq_true hx
     | false=>rw [hx] at hd;cases hd
    have hw:wr (j - 1)=j - 1:=wr_of _ (by omega) (by omega)
    left
    simp only [cond_true]
    have e0:n + 30 * j.toNat=(n + 30 * (j - 1).toNat) + 30:=by omega
    rw [e0] at g1
    obtain ⟨l,c3,e2,k3,hl⟩:=zcE g1 v
    rw [e2,zad,zaD (by simp;omega),zad]
    refine ⟨_,rfl,⟨by dsimp only;rw [hw];exact k3,by dsimp only;rw [hw];omega,by dsimp only;rw [hw,List.length_append,List.length_singleton];omega,g4,fun x hx=>?_⟩,by dsimp only;rw [hw];omega⟩
    rcases List.mem_append.1 hx with g|g
    · exact g5 x g
    · rw [List.mem_singleton] at g;subst g;exact ⟨by omega,hl.2⟩
theorem SmC.le {N M N2 M2:Nat} {f:Cnf} (h:SmC N M f) (h1:N≤N2) (h2:M≤M2):SmC N2 M2 f:=⟨h.vars,by have:=h.len;omega,fun c hc=>⟨by have:=(h.cl c hc).1;omega,(h.cl c hc).2⟩⟩
theorem dr_cnf {n:Nat} {c:l1Cur} (h:okC (n + 1000) c):Dr n (zcN c) (SmC 100 12):=by
 have hlim:lim=4294967296:=rfl
 unfold zcN
 refine (zbj (n:=n + 990) h.le 4).bind fun b c1 h1 _=>?_
 show Dr n (bif b then _ else _) _
 cases b with
 | true=>exact (dr_hard (n:=n) h1.le).bind fun f c2 h2 hf=>⟨_,_,rfl,h2,hf.le (by omega) (by omega)⟩
 | false =>
 simp only [cond_false]
 refine (zbs (n:=n + 988) h1 (by simp)).bind fun v c2 h2 hv=>?_
 have hv':okI v:=by simp only [List.mem_cons,List.not_mem_nil,or_false] at hv;unfold okI;omega
 refine (za2 (n:=n + 986) h2 10).bind fun k c3 h3 hk=>?_
 have hk9:k≤9:=by omega
 refine dr_loop (fun s=>s.2.2.2.2.2.toNat) (fun s=>okC (n + 600 + 30 * s.2.2.2.2.2.toNat) (l1Cur.mk s.2.1 s.2.2.1 s.2.2.2.1)∧0≤s.2.2.2.2.2∧s.1.length + s.2.2.2.2.2≤9∧okI s.2.2.2.2.1∧∀ c∈s.1,c.length≤12∧okIs c)
  (fun s=>okC (n + 600) (l1Cur.mk s.2.1 s.2.2.1 s.2.2.2.1)∧s.1.length≤9∧okI s.2.2.2.2.1∧∀ c∈s.1,c.length≤12∧okIs c)
  ⟨h3.le (by dsimp only;omega),hk.1,by dsimp only;simp;omega,hv',fun c hc=>by cases hc⟩ ?_ ?_
 · rintro ⟨out,cd,at_,sd,v,j⟩ ⟨g1,g2,g3,g4,g5⟩
   simp only at g1 g2 g3 g4 g5 ⊢
   cases hd:decide (0 < j) with
   | false=>exact .inr ⟨_,rfl,g1.le,by dsimp only;omega,g4,g5⟩
   | true =>
    have hj:0 < j:=of_decide_eq_true hd
    have hw:wr (j - 1)=j - 1:=wr_of _ (by omega) (by omega)
    left
    simp only [cond_true]
    have e0:n + 600 + 30 * j.toNat=(n + 600 + 30 * (j - 1).toNat) + 30:=by omega
    rw [e0] at g1
    obtain ⟨l,c3,e2,k3,hl⟩:=zcE g1 v
    rw [e2,zad,zaD (by simp;omega),zad]
    refine ⟨_,rfl,⟨by dsimp only;rw [hw];exact k3,by dsimp only;rw [hw];omega,by dsimp only;rw [hw,List.length_append,List.length_singleton];omega,g4,fun x hx=>?_⟩,by dsimp only;rw [hw];omega⟩
    rcases List.mem_append.1 hx with g|g
    · exact g5 x g
    · rw [List.mem_singleton] at g;subst g;exact ⟨by omega,hl.2⟩
 · rintro ⟨out,cd,at_,sd,v,j⟩ ⟨g1,g3,g4,g5⟩
   simp only at g1 g3 g4 g5 ⊢
   have cat:∀ ys:List (List Int),(∀ c∈ys,c.length≤12∧okIs c)→∀ c∈out++ys,c.length≤12∧okIs c:=fun ys hy c hc=>by
    rcases List.mem_append.1 hc with g|g
    · exact g5 c g
    · exact hy c g
   refine (za2 (n:=n + 598) g1 40).bind fun k c2 h2 _=>?_
   show Dr n (bif (k == 0) then _ else _) _
   cases k == 0 with
   | true =>
    refine (zbs (n:=n) h2.le (by simp)).bind fun x c3 h3 hx=>⟨_,_,rfl,h3,?_,by dsimp only;omega,g5⟩
    simp only [List.mem_cons,List.not_mem_nil,or_false] at hx;dsimp only;unfold okI;omega
   | false =>
   show Dr n (bif (k == 1) then _ else _) _
   cases k == 1 with
   | true =>
    refine (dr_anyClause (n:=n) h2.le v).bind fun l c3 h3 hl=>?_
    rw [zaD (by simp;omega)]
    exact ⟨_,_,rfl,h3,g4,by dsimp only;rw [List.length_append,List.length_singleton];omega,cat [l] fun c hc=>by rw [List.mem_singleton] at hc;subst hc;exact ⟨by omega,hl.2⟩⟩
   | false =>
   show Dr n (bif (k == 2) then _ else _) _
   cases k == 2 with
   | true =>
    simp only [cond_true]
    refine dr_loop (fun s=>61 - s.1.length) (fun s=>okC (n + 2 + 2 * (61 - s.1.length)) (l1Cur.mk s.2.1 s.2.2.1 s.2.2.2.1)∧s.1.length≤61∧okI s.2.2.2.2∧∀ c∈s.1,c.length≤12∧okIs c)
     (fun s=>okC n (l1Cur.mk s.2.1 s.2.2.1 s.2.2.2.1)∧s.1.length≤61∧okI s.2.2.2.2∧∀ c∈s.1,c.length≤12∧okIs c)
     ⟨h2.le (by dsimp only;omega),by dsimp only;omega,g4,g5⟩ ?_ (fun s hs=>⟨_,_,rfl,hs.1,hs.2.2.1,by have:=hs.2.1;dsimp only;omega,hs.2.2.2⟩)
    rintro ⟨os,cd,at_,sd,v⟩ ⟨k1,k2,k3,k4⟩
    simp only at k1 k2 k3 k4 ⊢
    have e0:n + 2 + 2 * (61 - os.length)=(n + 2 * (61 - os.length)) + 2:=by omega
    rw [e0] at k1
    obtain ⟨b,c4,e2,m3,hb⟩:=za2 k1 2
    rw [e2,zad]
    have hb1:b≤1:=by omega
    have hw:wr (60 + b)=60 + b:=wr_of _ (by omega) (by omega)
    simp only
    rw [hw]
    cases hd:decide (len os < 60 + b) with
    | false=>exact .inr ⟨_,rfl,m3.le,k2,k3,k4⟩
    | true =>
     have hlt:(os.length:Int) < 60 + b:=by have:=of_decide_eq_true hd;rwa [zai] at this
     left
     simp only [cond_true]
     rw [zaD (by simp;omega),zad]
     refine ⟨_,rfl,⟨m3.le (by dsimp only;rw [List.length_append,List.length_singleton];omega),by dsimp only;rw [List.length_append,List.length_singleton];omega,k3,fun x hx=>?_⟩,by dsimp only;rw [List.length_append,List.length_singleton];omega⟩
     rcases List.mem_append.1 hx with g|g
     · exact k4 x g
     · rw [List.mem_singleton] at g;subst g
       exact ⟨by simp,fun y hy=>by rw [List.mem_singleton] at hy;subst hy;unfold okI;omega⟩
   | false =>
   show Dr n (bif (k == 3) then _ else _) _
   cases k == 3 with
   | true =>
    refine (zcE (n:=n) h2.le v).bind fun l c3 h3 hl=>?_
    rw [zaD (by simp;omega)]
    refine ⟨_,_,rfl,h3,g4,by dsimp only;rw [List.length_append];simp;omega,cat [l,[]] fun c hc=>?_⟩
    simp only [List.mem_cons,List.not_mem_nil,or_false] at hc
    rcases hc with rfl|rfl
    · exact ⟨by omega,hl.2⟩
    · exact ⟨by simp,fun x h=>by cases h⟩
   | false=>exact ⟨_,_,rfl,h2.le,g4,by dsimp only;omega,g5⟩
theorem okC_begin {cs:List Int} (h:okL okU8 cs) (s:Int):okC 1000000000 (l1Cur.mk cs 0 s):=⟨h,by dsimp only;omega,by dsimp only;omega⟩
end Go.PF
namespace Go.PF
open Go.Pu
theorem loop_ix {T σ α X B:Type} (mk:σ→Int→T) {xs:List α} {body:T→Option (Lp T X)} {t0:T} {k:T→Option B} {lx:X→Option B} {R:B→Prop} (I:Nat→σ→Prop) {s0:σ} (ht:t0=mk s0 0) (h0:I 0 s0)
 (h:∀ (i:Nat) x s,xs[i]?=some x→I i s→∃ s',body (mk s (i:Int))=some (.nx (mk s' ((i:Int) + 1)))∧I (i + 1) s') (he:∀ s,I xs.length s→body (mk s (xs.length:Int))=some (.bk (mk s (xs.length:Int))))
 (hk:∀ s,I xs.length s→∃ r,k (mk s (xs.length:Int))=some r∧R r):∃ r,bdR (iter body t0) k lx=some r∧R r:=by
 subst ht
 have key:∀ (m:List α) (j:Nat) (s:σ),j + m.length=xs.length→(∀ i y,m[i]?=some y→xs[j + i]?=some y)→I j s→∃ s',iter body (mk s (j:Int))=some (.go (mk s' (xs.length:Int)))∧I xs.length s':=by
  intro m
  induction m with
  | nil =>
   intro j s hj _ hI
   simp only [List.length_nil,Nat.add_zero] at hj
   subst hj
   exact ⟨s,za9 (he s hI),hI⟩
  | cons y m ih =>
   intro j s hj hm hI
   obtain ⟨s',h1,h2⟩:=h j y s (by have:=hm 0 y rfl;simpa using this) hI
   rw [zbq h1]
   exact ih (j + 1) s' (by simp at hj;omega) (fun i z hz=>by have:=hm (i + 1) z (by simpa using hz);rwa [show j + (i + 1)=j + 1 + i by omega] at this) h2
 obtain ⟨s',h1,h2⟩:=key xs 0 s0 (by simp) (by simp) h0
 have h1':iter body (mk s0 0)=some (.go (mk s' (xs.length:Int))):=h1
 rw [h1',zau]
 exact hk s' h2
end Go.PF
namespace Go.PF
open Go.Pu
structure Sat (V:Int) (S:List zaa):Prop where
 clause:∀ x∈S,IsC V x.clause
 nums:∀ (i:Nat) (x:zaa),S[i]?=some x→(x.left=-1∧0≤x.right∧x.right≤100∧x.pivot=0)∨(0≤x.left∧x.left < i∧0≤x.right∧x.right < i∧0≤x.pivot∧x.pivot≤12)
theorem Sat.X {V:Int} {S:List zaa} (h:Sat V S) (hl:S.length≤200):IsX V S :=
 ⟨hl,fun hx=>h.clause _ hx,fun hx=>by
  rcases h.nums _ _ hx with g|g
  · exact .inl ⟨g.1,trivial⟩
  · exact .inr (.inr ⟨g.1,g.2.1,g.2.2.1,g.2.2.2.1,trivial⟩)⟩
theorem Sat.add {V:Int} {S:List zaa} (h:Sat V S) {x:zaa} (hc:IsC V x.clause) (hn:(x.left=-1∧0≤x.right∧x.right≤100∧x.pivot=0)∨(0≤x.left∧x.left < S.length∧0≤x.right∧x.right < S.length∧0≤x.pivot∧x.pivot≤12)):Sat V (S++[x]):=by
 refine ⟨fun y hy=>?_,fun i y hy=>?_⟩
 · rcases List.mem_append.1 hy with g|g
   · exact h.clause y g
   · rw [List.mem_singleton] at g;subst g;exact hc
 · rcases Nat.lt_or_ge i S.length with g|g
   · rw [List.getElem?_append_left g] at hy;exact h.nums i y hy
   · have hi:=(List.getElem?_eq_some_iff.1 hy).1
     rw [List.length_append,List.length_singleton] at hi
     have e:i=S.length:=by omega
     subst e
     rw [List.getElem?_append_right (Nat.le_refl _),Nat.sub_self] at hy
     cases hy;exact hn
def okR (S:List zaa):Prop:=S.length≤200∧∀ x∈S,zaE x
theorem Sat.okR {V:Int} {S:List zaa} (h:Sat V S) (hl:S.length≤200):okR S:=by
 refine ⟨hl,fun x hx=>?_⟩
 obtain ⟨i,hi,rfl⟩:=List.getElem_of_mem hx
 have hn:=h.nums i _ (List.getElem?_eq_getElem hi)
 exact ⟨(h.clause _ hx).ok,by unfold okI;omega,by unfold okI;omega,by unfold okI;omega⟩
theorem Sat.trim {V:Int} {S:List zaa} (h:Sat V S) (hl:S.length≤200):∃ R,za7 S=some R∧PF.okR R:=by
 have hX:=h.X hl
 have hlt:∀ i∈need S,i < S.length:=fun i hi=>needTo_lt (S:=S) i hi
 have hle:=need_le S
 refine ⟨_,spec_l7Trim_eqX hX,by rw [trimL_len hlt];omega,fun y hy=>?_⟩
 unfold trimL at hy
 obtain ⟨i,hi,hy⟩:=List.mem_filterMap.1 hy
 unfold trimAt at hy
 cases hx:S[i]? with
 | none=>rw [hx] at hy;cases hy
 | some x =>
  rw [hx] at hy
  have e:trimX S x=y:=by simpa using hy
  subst e
  have hn:=h.nums i x hx
  have hc:=(h.clause x (List.mem_of_getElem? hx)).ok
  have hi:=(List.getElem?_eq_some_iff.1 hx).1
  have hp:∀ k:Int,k≤200→0≤posN S k∧posN S k≤200:=fun k hk=>by
   unfold posN
   have:=needTo_le S k.toNat
   omega
  have hl:=hp x.left (by omega);have hr:=hp x.right (by omega)
  unfold trimX
  cases decide (0≤x.left) <;> cases decide (0≤x.right) <;> simp only [cond_true,cond_false] <;> exact ⟨hc,by unfold okI;(try dsimp only);omega,by unfold okI;(try dsimp only);omega,by unfold okI;(try dsimp only);omega⟩
theorem sat_step {F:Cnf} (hV:0≤F.vars∧F.vars≤12) {out:List zaa} (h:Sat F.vars out) (hl:out.length≤199) {a b v:Int} (ha:0≤a∧a < out.length) (hb:0≤b∧b < out.length) (hv:1≤v∧v≤12) {r:List Int×Bool} (hr:r.2=true→IsC F.vars r.1) :
 ∃ q,(bdR (iter (S:=(Bool×Int)) (X:=Empty) (fun s343220=>(bif (bif (decide (s343220.2 < (len out))) then s343220.1 else false) then bd (ix out s343220.2) (fun x343319=>bd (PF.za6 x343319.clause r.1) (fun r343328=>some (Lp.nx ((!r343328),(wr (s343220.2 + 1)))))) else some (Lp.bk (s343220.1,s343220.2)))) (r.2,0)) (fun s343220=>(bif s343220.1 then bd (app out [(zaa.mk r.1 a b v)]) (fun xs343361=>(bif ((len r.1) == 0) then bd (PF.za7 xs343361) (fun r343380=>some (Lp.rt (Lp.rt (Lp.rt r343380)))) else some (Lp.nx (xs343361,(wr (v + 1)))))) else some (Lp.nx (out,(wr (v + 1)))))) (fun x343220=>nomatch x343220))=(some q:Option (Lp (List zaa×Int) (Lp (List zaa×Int) (Lp (List zaa×Int) (List zaa)))))∧((∃ out',q=.nx (out',v + 1)∧Sat F.vars out'∧out.length≤out'.length∧out'.length≤out.length + 1)∨∃ R,q=.rt (.rt (.rt R))∧okR R):=by
 have hlim:lim=4294967296:=rfl
 have hw:wr (v + 1)=v + 1:=wr_of _ (by omega) (by omega)
 rw [hw]
 refine loop_ex (T:=Bool×Int) (B:=(Lp (List zaa×Int) (Lp (List zaa×Int) (Lp (List zaa×Int) (List zaa))))) (fun s=>out.length - s.2.toNat) (fun s=>0≤s.2∧s.2≤out.length∧(s.1=true→r.2=true)) (fun s=>s.1=true→r.2=true) ⟨Int.le_refl _,by dsimp only;omega,id⟩ ?_ ?_
 · rintro ⟨c,i⟩ ⟨s1,s2,s3⟩
   dsimp only at s1 s2 s3 ⊢
   cases hd:decide (i < len out) with
   | false=>exact .inr ⟨_,rfl,s3⟩
   | true =>
   cases c with
   | false=>exact .inr ⟨_,rfl,s3⟩
   | true =>
    have hi:i < out.length:=by have:=of_decide_eq_true hd;rwa [zai] at this
    obtain ⟨y,hy,hg⟩:=ix_of (xs:=out) (i:=i) s1 hi
    left
    simp only [cond_true]
    rw [hy,zad,spec_l2Sub_eq,zad,wr_of (i + 1) (by omega) (by omega)]
    exact ⟨_,rfl,⟨by dsimp only;omega,by dsimp only;omega,fun _=>s3 rfl⟩,by dsimp only;omega⟩
 · rintro ⟨c,i⟩ hc
   dsimp only at hc ⊢
   cases c with
   | false=>exact ⟨_,rfl,.inl ⟨_,rfl,h,Nat.le_refl _,Nat.le_succ _⟩⟩
   | true =>
    have hC:=hr (hc rfl)
    have h2:Sat F.vars (out++[zaa.mk r.1 a b v]):=h.add hC (.inr ⟨ha.1,ha.2,hb.1,hb.2,by dsimp only;omega,by dsimp only;omega⟩)
    have hl2:(out++[zaa.mk r.1 a b v]).length=out.length + 1:=by simp
    simp only [cond_true]
    rw [zaD (by simp;omega),zad]
    cases (len r.1 == 0) with
    | false=>exact ⟨_,rfl,.inl ⟨_,rfl,h2,by omega,by omega⟩⟩
    | true =>
     obtain ⟨R,hR,hok⟩:=h2.trim (by omega)
     simp only [cond_true]
     rw [hR,zad]
     exact ⟨_,rfl,.inr ⟨_,rfl,hok⟩⟩
theorem res_ok2 {V:Int} {a b:List Int} (ha:IsC V a) (hb:IsC V b) (v:Int):zaM a b v=some (res a b v)∧((res a b v).2=true→IsC V (res a b v).1):=by
 have h1:=ha.len;have h2:=hb.len
 have h3:=ha.hi
 exact ⟨zca (by unfold lim;omega),fun _=>res_isC ha hb⟩
theorem sat_v {F:Cnf} (hV:0≤F.vars∧F.vars≤12) {out:List zaa} (h:Sat F.vars out) (hl:out.length≤119) {a b:Int} (ha:0≤a∧a < out.length) (hb:0≤b∧b < out.length) :
 ∃ q,iter (S:=((List zaa)×Int)) (X:=(Lp (List zaa×Int) (Lp (List zaa×Int) (List zaa)))) (fun s171834=>(bif (decide (s171834.2≤F.vars)) then bd (ix s171834.1 b) (fun x286190=>bd (PF.zaX x286190.clause (wr (-s171834.2))) (fun r286194=>(bif r286194 then bd (ix s171834.1 a) (fun x295206=>bd (ix s171834.1 b) (fun x310206=>bd (PF.zaM x295206.clause x310206.clause s171834.2) (fun r322200=>bdR (iter (S:=(Bool×Int)) (X:=Empty) (fun s343220=>(bif (bif (decide (s343220.2 < (len s171834.1))) then s343220.1 else false) then bd (ix s171834.1 s343220.2) (fun x343319=>bd (PF.za6 x343319.clause r322200.1) (fun r343328=>some (Lp.nx ((!r343328),(wr (s343220.2 + 1)))))) else some (Lp.bk (s343220.1,s343220.2)))) (r322200.2,0)) (fun s343220=>(bif s343220.1 then bd (app s171834.1 [(zaa.mk r322200.1 a b s171834.2)]) (fun xs343361=>(bif ((len r322200.1) == 0) then bd (PF.za7 xs343361) (fun r343380=>some (Lp.rt (Lp.rt (Lp.rt r343380)))) else some (Lp.nx (xs343361,(wr (s171834.2 + 1)))))) else some (Lp.nx (s171834.1,(wr (s171834.2 + 1)))))) (fun x343220=>nomatch x343220)))) else bd (ix s171834.1 b) (fun x352400=>bd (ix s171834.1 a) (fun x367400=>bd (PF.zaM x352400.clause x367400.clause s171834.2) (fun r379394=>bdR (iter (S:=(Bool×Int)) (X:=Empty) (fun s400414=>(bif (bif (decide (s400414.2 < (len s171834.1))) then s400414.1 else false) then bd (ix s171834.1 s400414.2) (fun x400513=>bd (PF.za6 x400513.clause r379394.1) (fun r400522=>some (Lp.nx ((!r400522),(wr (s400414.2 + 1)))))) else some (Lp.bk (s400414.1,s400414.2)))) (r379394.2,0)) (fun s400414=>(bif s400414.1 then bd (app s171834.1 [(zaa.mk r379394.1 b a s171834.2)]) (fun xs400555=>(bif ((len r379394.1) == 0) then bd (PF.za7 xs400555) (fun r400574=>some (Lp.rt (Lp.rt (Lp.rt r400574)))) else some (Lp.nx (xs400555,(wr (s171834.2 + 1)))))) else some (Lp.nx (s171834.1,(wr (s171834.2 + 1)))))) (fun x400414=>nomatch x400414))))))) else some (Lp.bk (s171834.1,s171834.2)))) (out,1)=some q∧((∃ out' v,q=.go (out',v)∧Sat F.vars out'∧out.length≤out'.length∧out'.length≤131)∨∃ R,q=.rt (.rt (.rt R))∧okR R):=by
 refine zbt (T:=List zaa×Int) (X:=(Lp (List zaa×Int) (Lp (List zaa×Int) (List zaa)))) (fun s=>(13 - s.2).toNat) (fun s=>Sat F.vars s.1∧1≤s.2∧s.2≤13∧out.length≤s.1.length∧(s.1.length:Int)≤119 + (s.2 - 1)) _ ?_ _ ⟨h,Int.le_refl _,by dsimp only;omega,Nat.le_refl _,by dsimp only;omega⟩
 rintro ⟨os,v⟩ ⟨s1,s2,s3,s4,s5⟩
 dsimp only at s1 s2 s3 s4 s5 ⊢
 cases hd:decide (v≤F.vars) with
 | false=>exact .inr (.inl ⟨_,rfl,.inl ⟨_,_,rfl,s1,s4,by omega⟩⟩)
 | true =>
  have hv:=of_decide_eq_true hd
  obtain ⟨x,hx,hgx⟩:=ix_of (xs:=os) (i:=b) hb.1 (by omega)
  obtain ⟨y,hy,hgy⟩:=ix_of (xs:=os) (i:=a) ha.1 (by omega)
  have cx:=s1.clause x (List.mem_of_getElem? hgx)
  have cy:=s1.clause y (List.mem_of_getElem? hgy)
  simp only [cond_true]
  rw [hx,hy]
  simp only [zad]
  rw [zbH,zad]
  cases x.clause.contains (wr (-v)) with
  | true =>
   obtain ⟨e1,e2⟩:=res_ok2 cy cx v
   simp only [cond_true]
   rw [e1,zad]
   obtain ⟨q,hq,hp⟩:=sat_step hV s1 (by omega) (a:=a) (b:=b) (v:=v) ⟨ha.1,by omega⟩ ⟨hb.1,by omega⟩ ⟨s2,by omega⟩ (r:=res y.clause x.clause v) e2
   rcases hp with ⟨o',rfl,g1,g2,g3⟩|⟨R,rfl,hR⟩
   · exact .inl ⟨_,hq,⟨g1,by dsimp only;omega,by dsimp only;omega,by dsimp only;omega,by dsimp only;omega⟩,by dsimp only;omega⟩
   · exact .inr (.inr ⟨_,hq,.inr ⟨R,rfl,hR⟩⟩)
  | false =>
   obtain ⟨e1,e2⟩:=res_ok2 cx cy v
   simp only [cond_false]
   rw [e1,zad]
   obtain ⟨q,hq,hp⟩:=sat_step hV s1 (by omega) (a:=b) (b:=a) (v:=v) ⟨hb.1,by omega⟩ ⟨ha.1,by omega⟩ ⟨s2,by omega⟩ (r:=res x.clause y.clause v) e2
   rcases hp with ⟨o',rfl,g1,g2,g3⟩|⟨R,rfl,hR⟩
   · exact .inl ⟨_,hq,⟨g1,by dsimp only;omega,by dsimp only;omega,by dsimp only;omega,by dsimp only;omega⟩,by dsimp only;omega⟩
   · exact .inr (.inr ⟨_,hq,.inr ⟨R,rfl,hR⟩⟩)
theorem sat_a {F:Cnf} (hV:0≤F.vars∧F.vars≤12) {out:List zaa} (h:Sat F.vars out) (hl:out.length≤131) {b:Int} (hb:0≤b∧b < out.length) :
 ∃ q,iter (S:=((List zaa)×Int)) (X:=(Lp (List zaa×Int) (List zaa))) (fun s57421=>(bif (bif (decide (s57421.2 < b)) then (decide ((len s57421.1) < 120)) else false) then bdR (iter (S:=((List zaa)×Int)) (X:=(Lp ((List zaa)×Int) (Lp ((List zaa)×Int) (List zaa)))) (fun s171834=>(bif (decide (s171834.2≤F.vars)) then bd (ix s171834.1 b) (fun x286190=>bd (PF.zaX x286190.clause (wr (-s171834.2))) (fun r286194=>(bif r286194 then bd (ix s171834.1 s57421.2) (fun x295206=>bd (ix s171834.1 b) (fun x310206=>bd (PF.zaM x295206.clause x310206.clause s171834.2) (fun r322200=>bdR (iter (S:=(Bool×Int)) (X:=Empty) (fun s343220=>(bif (bif (decide (s343220.2 < (len s171834.1))) then s343220.1 else false) then bd (ix s171834.1 s343220.2) (fun x343319=>bd (PF.za6 x343319.clause r322200.1) (fun r343328=>some (Lp.nx ((!r343328),(wr (s343220.2 + 1)))))) else some (Lp.bk (s343220.1,s343220.2)))) (r322200.2,0)) (fun s343220=>(bif s343220.1 then bd (app s171834.1 [(zaa.mk r322200.1 s57421.2 b s171834.2)]) (fun xs343361=>(bif ((len r322200.1) == 0) then bd (PF.za7 xs343361) (fun r343380=>some (Lp.rt (Lp.rt (Lp.rt r343380)))) else some (Lp.nx (xs343361,(wr (s171834.2 + 1)))))) else some (Lp.nx (s171834.1,(wr (s171834.2 + 1)))))) (fun x343220=>nomatch x343220)))) else bd (ix s171834.1 b) (fun x352400=>bd (ix s171834.1 s57421.2) (fun x367400=>bd (PF.zaM x352400.clause x367400.clause s171834.2) (fun r379394=>bdR (iter (S:=(Bool×Int)) (X:=Empty) (fun s400414=>(bif (bif (decide (s400414.2 < (len s171834.1))) then s400414.1 else false) then bd (ix s171834.1 s400414.2) (fun x400513=>bd (PF.za6 x400513.clause r379394.1) (fun r400522=>some (Lp.nx ((!r400522),(wr (s400414.2 + 1)))))) else some (Lp.bk (s400414.1,s400414.2)))) (r379394.2,0)) (fun s400414=>(bif s400414.1 then bd (app s171834.1 [(zaa.mk r379394.1 b s57421.2 s171834.2)]) (fun xs400555=>(bif ((len r379394.1) == 0) then bd (PF.za7 xs400555) (fun r400574=>some (Lp.rt (Lp.rt (Lp.rt r400574)))) else some (Lp.nx (xs400555,(wr (s171834.2 + 1)))))) else some (Lp.nx (s171834.1,(wr (s171834.2 + 1)))))) (fun x400414=>nomatch x400414))))))) else some (Lp.bk (s171834.1,s171834.2)))) (s57421.1,1)) (fun s171834=>some (Lp.nx (s171834.1,(wr (s57421.2 + 1))))) (fun x171834=>some x171834) else some (Lp.bk (s57421.1,s57421.2)))) (out,0)=some q∧((∃ out' a,q=.go (out',a)∧Sat F.vars out'∧out.length≤out'.length∧out'.length≤131)∨∃ R,q=.rt (.rt R)∧okR R):=by
 refine zbt (T:=List zaa×Int) (X:=(Lp (List zaa×Int) (List zaa))) (fun s=>(b - s.2).toNat) (fun s=>Sat F.vars s.1∧0≤s.2∧s.2≤b∧out.length≤s.1.length∧s.1.length≤131) _ ?_ _ ⟨h,Int.le_refl _,by dsimp only;omega,Nat.le_refl _,hl⟩
 rintro ⟨os,a⟩ ⟨s1,s2,s3,s4,s5⟩
 dsimp only at s1 s2 s3 s4 s5 ⊢
 cases hd:decide (a < b) with
 | false=>exact .inr (.inl ⟨_,rfl,.inl ⟨_,_,rfl,s1,s4,s5⟩⟩)
 | true =>
 cases he:decide (len os < 120) with
 | false=>exact .inr (.inl ⟨_,rfl,.inl ⟨_,_,rfl,s1,s4,s5⟩⟩)
 | true =>
  have h1:=of_decide_eq_true hd;have h2:=of_decide_eq_true he
  rw [zai] at h2
  have hw:wr (a + 1)=a + 1:=wr_of _ (by omega) (by omega)
  simp only [cond_true]
  obtain ⟨q,hq,hp⟩:=sat_v hV s1 (by omega) (a:=a) (b:=b) ⟨s2,by omega⟩ ⟨hb.1,by omega⟩
  rcases hp with ⟨o',v,rfl,g1,g2,g3⟩|⟨R,rfl,hR⟩
  · refine .inl ⟨(o',a + 1),(congrArg (fun z=>bdR z _ _) hq).trans ?_,⟨g1,by dsimp only;omega,by dsimp only;omega,by dsimp only;omega,g3⟩,by dsimp only;omega⟩
    rw [zau,hw]
  · refine .inr (.inr ⟨_,(congrArg (fun z=>bdR z _ _) hq).trans ?_,.inr ⟨R,rfl,hR⟩⟩)
    rw [bdR_rt]
theorem sat_b {F:Cnf} (hV:0≤F.vars∧F.vars≤12) {out:List zaa} (h:Sat F.vars out) (hl:out.length≤131) :
 ∃ q,iter (S:=((List zaa)×Int)) (X:=(List zaa)) (fun s123=>(bif (decide (s123.2 < (len s123.1))) then bdR (iter (S:=((List zaa)×Int)) (X:=(Lp ((List zaa)×Int) (List zaa))) (fun s57421=>(bif (bif (decide (s57421.2 < s123.2)) then (decide ((len s57421.1) < 120)) else false) then bdR (iter (S:=((List zaa)×Int)) (X:=(Lp ((List zaa)×Int) (Lp ((List zaa)×Int) (List zaa)))) (fun s171834=>(bif (decide (s171834.2≤F.vars)) then bd (ix s171834.1 s123.2) (fun x286190=>bd (PF.zaX x286190.clause (wr (-s171834.2))) (fun r286194=>(bif r286194 then bd (ix s171834.1 s57421.2) (fun x295206=>bd (ix s171834.1 s123.2) (fun x310206=>bd (PF.zaM x295206.clause x310206.clause s171834.2) (fun r322200=>bdR (iter (S:=(Bool×Int)) (X:=Empty) (fun s343220=>(bif (bif (decide (s343220.2 < (len s171834.1))) then s343220.1 else false) then bd (ix s171834.1 s343220.2) (fun x343319=>bd (PF.za6 x343319.clause r322200.1) (fun r343328=>some (Lp.nx ((!r343328),(wr (s343220.2 + 1)))))) else some (Lp.bk (s343220.1,s343220.2)))) (r322200.2,0)) (fun s343220=>(bif s343220.1 then bd (app s171834.1 [(zaa.mk r322200.1 s57421.2 s123.2 s171834.2)]) (fun xs343361=>(bif ((len r322200.1) == 0) then bd (PF.za7 xs343361) (fun r343380=>some (Lp.rt (Lp.rt (Lp.rt r343380)))) else some (Lp.nx (xs343361,(wr (s171834.2 + 1)))))) else some (Lp.nx (s171834.1,(wr (s171834.2 + 1)))))) (fun x343220=>nomatch x343220)))) else bd (ix s171834.1 s123.2) (fun x352400=>bd (ix s171834.1 s57421.2) (fun x367400=>bd (PF.zaM x352400.clause x367400.clause s171834.2) (fun r379394=>bdR (iter (S:=(Bool×Int)) (X:=Empty) (fun s400414=>(bif (bif (decide (s400414.2 < (len s171834.1))) then s400414.1 else false) then bd (ix s171834.1 s400414.2) (fun x400513=>bd (PF.za6 x400513.clause r379394.1) (fun r400522=>some (Lp.nx ((!r400522),(wr (s400414.2 + 1)))))) else some (Lp.bk (s400414.1,s400414.2)))) (r379394.2,0)) (fun s400414=>(bif s400414.1 then bd (app s171834.1 [(zaa.mk r379394.1 s123.2 s57421.2 s171834.2)]) (fun xs400555=>(bif ((len r379394.1) == 0) then bd (PF.za7 xs400555) (fun r400574=>some (Lp.rt (Lp.rt (Lp.rt r400574)))) else some (Lp.nx (xs400555,(wr (s171834.2 + 1)))))) else some (Lp.nx (s171834.1,(wr (s171834.2 + 1)))))) (fun x400414=>nomatch x400414))))))) else some (Lp.bk (s171834.1,s171834.2)))) (s57421.1,1)) (fun s171834=>some (Lp.nx (s171834.1,(wr (s57421.2 + 1))))) (fun x171834=>some x171834) else some (Lp.bk (s57421.1,s57421.2)))) (s123.1,0)) (fun s57421=>some (Lp.nx (s57421.1,(wr (s123.2 + 1))))) (fun x57421=>some x57421) else some (Lp.bk (s123.1,s123.2)))) (out,0)=some q∧((∃ out' b,q=.go (out',b)∧okR out')∨∃ R,q=.rt R∧okR R):=by
 refine zbt (T:=List zaa×Int) (X:=(List zaa)) (fun s=>(200 - s.2).toNat) (fun s=>Sat F.vars s.1∧0≤s.2∧s.2≤199∧s.1.length≤131) _ ?_ _ ⟨h,Int.le_refl _,by dsimp only;omega,hl⟩
 rintro ⟨os,b⟩ ⟨s1,s2,s3,s5⟩
 dsimp only at s1 s2 s3 s5 ⊢
 cases hd:decide (b < len os) with
 | false=>exact .inr (.inl ⟨_,rfl,.inl ⟨_,_,rfl,s1.okR (by omega)⟩⟩)
 | true =>
  have h1:=of_decide_eq_true hd
  rw [zai] at h1
  have hw:wr (b + 1)=b + 1:=wr_of _ (by omega) (by omega)
  simp only [cond_true]
  obtain ⟨q,hq,hp⟩:=sat_a hV s1 s5 (b:=b) ⟨s2,h1⟩
  rcases hp with ⟨o',v,rfl,g1,g2,g3⟩|⟨R,rfl,hR⟩
  · refine .inl ⟨(o',b + 1),(congrArg (fun z=>bdR z _ _) hq).trans ?_,⟨g1,by dsimp only;omega,by dsimp only;omega,g3⟩,by dsimp only;omega⟩
    rw [zau,hw]
  · refine .inr (.inr ⟨_,(congrArg (fun z=>bdR z _ _) hq).trans ?_,.inr ⟨R,rfl,hR⟩⟩)
    rw [bdR_rt]
theorem saturate_ok {F:Cnf} (hF:cnfB F=true):∃ R,zcP F 120=some R∧okR R:=by
 have hV:=cnfB_rng hF
 have hC:=cnfB_isC hF
 have hN:=cnfB_len hF
 have hlim:lim=4294967296:=rfl
 unfold zcP
 refine loop_ix (T:=List zaa×Int) (fun s i=>(s,i)) (xs:=F.clauses) (s0:=([]:List zaa)) (fun i s=>Sat F.vars s∧s.length=i) rfl ⟨⟨fun x hx=>(by cases hx),fun i x hx=>(by simp at hx)⟩,rfl⟩ (fun i c s hx hI=>?_) (fun s hI=>?_) (fun s hI=>?_)
 · have hi:=(List.getElem?_eq_some_iff.1 hx).1
   have hc:=hC c (List.mem_of_getElem? hx)
   have hcl:=hc.len;have hc2:=hc.hi
   have hd:decide ((i:Int) < len F.clauses)=true:=decide_eq_true (by rw [zai];omega)
   dsimp only
   unfold zcg
   simp only [hd,cond_true]
   rw [zaR,hx,zad,zb8 (by omega),zad,zad,zaD (by simp;omega),zad,wr_of ((i:Int) + 1) (by omega) (by omega)]
   exact ⟨_,rfl,hI.1.add hc (.inl ⟨rfl,by dsimp only;omega,by dsimp only;omega,rfl⟩),by simp;omega⟩
 · have hd:decide ((F.clauses.length:Int) < len F.clauses)=false:=decide_eq_false (by rw [zai];omega)
   dsimp only
   rw [hd];rfl
 · obtain ⟨q,hq,hp⟩:=sat_b hV hI.1 (by omega)
   rcases hp with ⟨o',b,rfl,g⟩|⟨R,rfl,hR⟩
   · exact ⟨o',(congrArg (fun z=>bdR z _ _) hq).trans (by rw [zau]),g⟩
   · exact ⟨R,(congrArg (fun z=>bdR z _ _) hq).trans (by rw [bdR_rt]),hR⟩
theorem dr_refutation {n:Nat} {c:l1Cur} (h:okC n c) {F:Cnf} (hF:okCnf F):Dr n (zcQ c F) okR:=by
 unfold zcQ
 rw [zdm hF,zad]
 cases hC:cnfB F with
 | false=>exact ⟨_,_,rfl,h,by simp,fun x hx=>by cases hx⟩
 | true =>
  obtain ⟨R,hR,hok⟩:=saturate_ok hC
  simp only [Bool.not_true,cond_false]
  rw [hR,zad]
  exact ⟨_,_,rfl,h,hok⟩
end Go.PF
namespace Go.PF
open Go.Pu
def sh (n:Int) (y:zaa):zaa:=bif decide (0≤y.left) then (bif decide (0≤y.right) then ⟨y.clause,n + y.left,n + y.right,y.pivot⟩ else ⟨y.clause,n + y.left,y.right,y.pivot⟩) else y
theorem sh_zero (y:zaa):sh 0 y=y:=by
 unfold sh
 cases decide (0≤y.left) <;> cases decide (0≤y.right) <;> simp
def zbd (n m:Nat):List Int:=(List.range m).map fun k=>((n + k:Nat):Int)
theorem places_get {n m:Nat} {k:Int} (h0:0≤k) (h1:k < m):ix (zbd n m) k=some (n + k):=by
 unfold ix zbd
 rw [if_pos h0,List.getElem?_map,List.getElem?_range (by omega)]
 simp;omega
theorem places_succ (n m:Nat):zbd n (m + 1)=zbd n m++[((n + m:Nat):Int)]:=by
 unfold zbd;rw [List.range_succ,List.map_append];rfl
theorem places_len (n m:Nat):(zbd n m).length=m:=by unfold zbd;simp
theorem spec_l7Moved_eq {F:Cnf} {S:List zaa} (h:IsD F S) {i n:Nat} {x:zaa} (hx:S[i]?=some x):zbl x (zbd n (i + 1))=some (sh n x):=by
 have hc:=(h.clause (List.mem_of_getElem? hx)).len
 unfold zbl sh
 rw [zb8 (by unfold lim;omega),zad]
 cases hl:decide (0≤x.left) with
 | false=>rfl
 | true =>
  have h0:=of_decide_eq_true hl
  obtain ⟨h1,h2⟩:=h.before hx h0
  simp only [cond_true]
  rw [places_get h0 (by omega),zad]
  cases hr:decide (0≤x.right) with
  | false=>rfl
  | true =>
   have h3:=of_decide_eq_true hr
   simp only [cond_true]
   rw [places_get h3 (by have:=h2 h3;omega),zad]
theorem behind_loop {F:Cnf} {S:List zaa} (h:IsD F S) {n:Nat} {out:List zaa} (ho:out.length≤200) {f:Nat→zaa→List Int×List zaa→Option (Lp (List Int×List zaa) Empty)} {w:Nat→Int}
 (hf:∀ i y s,f i y s=bd (app s.1 [w i]) fun xs=>bd (zbl y xs) fun r=>bd (app s.2 [r]) fun ys=>some (.nx (xs,ys))) (hw:∀ i,i < S.length→w i=((n + i:Nat):Int)) :
 forL S f ([],out)=some (.go (zbd n S.length,out++S.map (sh n))):=by
 have hS:=h.le
 obtain ⟨s',h1,h2⟩:=zb5 (X:=Empty) (body:=f) (fun i t=>t=(zbd n i,out++(S.take i).map (sh n))∧i≤S.length) (l:=S) (s:=([],out)) ⟨by simp [zbd],by omega⟩ (fun i x t hx ht=>by
  obtain ⟨rfl,hi'⟩:=ht
  have hi:=(List.getElem?_eq_some_iff.1 hx).1
  refine ⟨(zbd n (i + 1),out++(S.take (i + 1)).map (sh n)),?_,rfl,by omega⟩
  rw [hf]
  simp only
  rw [hw i hi,zaD (by rw [places_len];unfold lim;simp;omega),zad,← places_succ,spec_l7Moved_eq h hx,zad,zaD (by unfold lim;simp;omega),zad]
  rw [List.take_add_one,hx];simp)
 rw [h1,h2.1,List.take_length]
theorem spec_l7Behind_eq {F G:Cnf} {a b:List zaa} (ha:IsD F a) (hb:IsD G b):zc9 a b=some (a++b.map (sh a.length)):=by
 have hal:=ha.le;have hbl:=hb.le
 unfold zc9
 rw [behind_loop ha (n:=0) (by simp) (w:=fun i=>(i:Int)) (fun _ _ _=>by rfl) (fun i _=>by simp),zau]
 simp only
 rw [behind_loop hb (n:=a.length) (w:=fun i=>wr (len a + (i:Int))) (by simp;omega) (fun _ _ _=>by rfl) (fun i hi=>by rw [wr_of _ (by rw [zai];omega) (by rw [zai];omega),zai];simp),zau]
 simp only [List.nil_append]
 congr 2
 rw [List.map_congr_left (g:=id) (fun x _=>by rw [show (((0:Nat):Int))=0 from rfl,sh_zero];rfl),List.map_id]
theorem impl_moved_eq {F:Cnf} {S:List zaa} (h:IsD F S) {n i:Nat} {x:zaa} (hx:S[i]?=some x) (hn:n≤200):zcp x (fun x0=>some (PF.zbO x0 (n:Int)))=some (sh n x):=by
 have hc:=(h.clause (List.mem_of_getElem? hx)).len
 have hS:=h.le
 have hi:=(List.getElem?_eq_some_iff.1 hx).1
 have hb:=h.before hx
 unfold zcp sh zbN zbF zbO
 rw [zcB (by unfold lim;omega),zad]
 by_cases hl:0≤x.left
 · obtain ⟨h1,h2⟩:=hb hl
   have hl':¬ x.left < 0:=by omega
   have e1:wr (x.left + (n:Int))=n + x.left:=by rw [wr_of _ (by omega) (by omega)];omega
   by_cases hr:0≤x.right
   · have h3:=h2 hr
     have e2:wr (x.right + (n:Int))=n + x.right:=by rw [wr_of _ (by omega) (by omega)];omega
     simp only [hl,hr,hl',decide_true,decide_false,cond_true,Bool.not_false,zad,zau,e1,e2]
   · simp only [hl,hr,hl',decide_true,decide_false,cond_true,cond_false,Bool.not_false,zad,zau,e1]
 · have hl':x.left < 0:=by omega
   simp only [hl,hl',decide_true,decide_false,cond_false,Bool.not_true,zau]
theorem impl_cloneSteps_eq {F:Cnf} {S:List zaa} (h:IsD F S):zc6 S=some S:=by
 have hS:=h.le
 unfold zc6
 have:=forL_push (X:=Empty) (f:=fun _ (y:zaa)=>bd (zbw y.clause) fun r=>some (zaa.mk r y.left y.right y.pivot)) (g:=id) (l:=S) (s:=[]) (fun i x hx=>by
  have hc:=(h.clause (List.mem_of_getElem? hx)).len
  rw [zcB (by unfold lim;omega),zad];rfl) (by unfold lim;simp;omega)
 rw [List.map_id,List.nil_append] at this
 simp only [bd_assoc,zad] at this
 rw [this,zau]
def zbe (F:Cnf) (a b:List zaa) (v:Int):List zaa×Bool :=
 match a.getLast?,b.getLast? with
 | some x,some y=>bif derB F a && (derB F b && (decide (len a + len b < 200) && (inB v 1 F.vars && (res x.clause y.clause v).2))) then (a++b.map (sh a.length)++[⟨(res x.clause y.clause v).1,len a - 1,len a + len b - 1,v⟩],true) else ([],false)
 | _,_=>([],false)
theorem last_get {A:Type} {l:List A} {x:A} (hl:l.length≤9223372036854775807) (h:l.getLast?=some x):ix l (wr (len l - 1))=some x:=by
 cases l with
 | nil=>simp at h
 | cons y l =>
  rw [wr_len hl,zai]
  rw [List.getLast?_eq_getElem?] at h
  rw [show ((((y::l).length:Nat):Int) - 1)=(((y::l).length - 1:Nat):Int) by simp,zaR];exact h
theorem spec_ChainSteps_eq {F:Cnf} {a b:List zaa} {v:Int} (hF:okCnf F) (ha:okL zaE a) (hb:okL zaE b):zda F a b v=some (zbe F a b v):=by
 unfold zda zbe
 rw [zdN hF ha,zad,zdN hF hb]
 cases h1:derB F a with
 | false=>cases a.getLast? <;> cases b.getLast? <;> rfl
 | true =>
  cases h2:derB F b with
  | false=>cases a.getLast? <;> cases b.getLast? <;> rfl
  | true =>
   have da:=zbA.1 h1;have db:=zbA.1 h2
   have la:=da.le;have lb:=db.le
   simp only [Bool.not_true,cond_false,zad,bif_tt,Bool.false_or,Bool.true_and]
   cases hga:a.getLast? with
   | none=>rw [List.getLast?_eq_none_iff.1 hga];rfl
   | some x =>
    cases hgb:b.getLast? with
    | none=>rw [List.getLast?_eq_none_iff.1 hgb];simp [zai]
    | some y =>
     have hxa:x∈a:=List.mem_of_getLast? hga
     have hyb:y∈b:=List.mem_of_getLast? hgb
     have na:(len a == 0)=false:=by rw [zai];cases a with|nil=>simp at hga|cons _ _=>simp;omega
     have nb:(len b == 0)=false:=by rw [zai];cases b with|nil=>simp at hgb|cons _ _=>simp;omega
     have e1:wr (len a + len b)=len a + len b:=wr_of _ (by rw [zai,zai];omega) (by rw [zai,zai];omega)
     have e2:wr (len a + len b - 1)=len a + len b - 1:=wr_of _ (by rw [zai,zai];omega) (by rw [zai,zai];omega)
     have e3:decide (200≤len a + len b) = !decide (len a + len b < 200):=by
      rw [Bool.eq_iff_iff];simp
     simp only [na,nb,e1,e2,e3,Bool.false_or,zb7]
     cases hlen:decide (len a + len b < 200) with
     | false=>rfl
     | true =>
      have hlen':=of_decide_eq_true hlen
      rw [zai,zai] at hlen'
      cases hv:inB v 1 F.vars with
      | false=>rfl
      | true =>
       simp only [Bool.not_true,Bool.or_false,cond_false,Bool.true_and]
       unfold zc8
       have cx:=(da.clause hxa).len;have cy:=(db.clause hyb).len
       rw [last_get ha.1 hga,zad,zad,last_get hb.1 hgb,zad,zad,zca (by unfold lim;omega),zad]
       cases (res x.clause y.clause v).2 with
       | false=>rfl
       | true =>
        simp only [Bool.not_true,cond_false,cond_true]
        rw [spec_l7Behind_eq da db,zad,zaD (by unfold lim;simp;omega),zad,wr_len ha.1]
theorem impl_ChainSteps_eq {F:Cnf} {a b:List zaa} {v:Int} (hF:okCnf F) (ha:okL zaE a) (hb:okL zaE b):zc7 F a b v=some (zbe F a b v):=by
 unfold zc7 zbe
 rw [zdp hF ha,zad,zdp hF hb]
 cases h1:derB F a with
 | false=>cases a.getLast? <;> cases b.getLast? <;> rfl
 | true =>
  cases h2:derB F b with
  | false=>cases a.getLast? <;> cases b.getLast? <;> rfl
  | true =>
   have da:=zbA.1 h1;have db:=zbA.1 h2
   have la:=da.le;have lb:=db.le
   simp only [Bool.not_true,cond_false,zad,bif_tt,Bool.false_or,Bool.true_and]
   cases hga:a.getLast? with
   | none=>rw [List.getLast?_eq_none_iff.1 hga];rfl
   | some x =>
    cases hgb:b.getLast? with
    | none=>rw [List.getLast?_eq_none_iff.1 hgb];simp [zai]
    | some y =>
     have hxa:x∈a:=List.mem_of_getLast? hga
     have hyb:y∈b:=List.mem_of_getLast? hgb
     have na:(len a == 0)=false:=by rw [zai];cases a with|nil=>simp at hga|cons _ _=>simp;omega
     have nb:(len b == 0)=false:=by rw [zai];cases b with|nil=>simp at hgb|cons _ _=>simp;omega
     have e1:wr (len a + len b)=len a + len b:=wr_of _ (by rw [zai,zai];omega) (by rw [zai,zai];omega)
     have e2:wr (len a + len b + 1)=len a + len b + 1:=wr_of _ (by rw [zai,zai];omega) (by rw [zai,zai];omega)
     have e3:decide (200 < len a + len b + 1) = !decide (len a + len b < 200):=by
      by_cases h:len a + len b < 200
      · simp [h];omega
      · simp [h];omega
     simp only [na,nb,e1,e2,e3,Bool.false_or,zdG]
     cases hlen:decide (len a + len b < 200) with
     | false=>cases inB v 1 F.vars <;> rfl
     | true =>
      have hlen':=of_decide_eq_true hlen
      rw [zai,zai] at hlen'
      cases hv:inB v 1 F.vars with
      | false=>rfl
      | true =>
       simp only [Bool.not_true,Bool.or_false,cond_false,Bool.true_and]
       unfold zb0
       rw [last_get ha.1 hga,zad,zad,last_get hb.1 hgb,zad,zad,zdM (da.clause hxa) (db.clause hyb),zad]
       cases (res x.clause y.clause v).2 with
       | false=>rfl
       | true =>
        simp only [Bool.not_true,cond_false,cond_true]
        rw [impl_cloneSteps_eq da,zad]
        have hp:=forL_push (X:=Empty) (f:=fun _ (y:zaa)=>zcp y (fun x0=>some (PF.zbO x0 (len a)))) (g:=sh a.length) (l:=b) (s:=a) (fun i z hz=>impl_moved_eq db hz la) (by unfold lim;omega)
        rw [hp,zau,zaD (by unfold lim;simp;omega),zad,wr_len ha.1]
        have hlb:wr (len (a++b.map (sh a.length)) - 1)=len a + len b - 1:=by
         rw [wr_of _ (by rw [zai];simp;omega) (by rw [zai];simp;omega),zai,zai,zai];simp
        rw [hlb]
theorem joinL_len:∀ {b s t:List Int},joinL s b=some t→t.length≤s.length + b.length:=by
 intro b
 induction b with
 | nil=>intro s t h;simp only [joinL,Option.some.injEq] at h;subst h;simp
 | cons y b ih =>
  intro s t h
  simp only [joinL] at h
  cases hc:s.contains (wr (-y)) with
  | true=>rw [hc] at h;cases h
  | false =>
   rw [hc,cond_false] at h
   have:=ih h
   cases hy:s.contains y with
   | true=>rw [hy] at this;simp only [Bool.not_true,cond_false] at this;simp only [List.length_cons];omega
   | false=>rw [hy] at this;simp only [Bool.not_false,cond_true,zcD] at this;simp only [List.length_cons];omega
theorem res_len (a b:List Int) (v:Int):(res a b v).1.length≤a.length + b.length:=by
 have h1:=zb9 a v;have h2:=zb9 b v
 unfold res joined
 cases !a.contains v || !b.contains (wr (-v)) with
 | true=>simp
 | false =>
  simp only [cond_false]
  cases h:joinL (zaJ a v) (zaJ b v) with
  | none=>simp
  | some t=>have:=joinL_len h;simp only;omega
theorem sh_clause (n:Int) (y:zaa):(sh n y).clause=y.clause:=by
 unfold sh
 cases decide (0≤y.left) <;> cases decide (0≤y.right) <;> rfl
end Go.PF
namespace Go.PF
open Go.Pu
theorem clAt_of' {S:List zaa} {k:Int} {y:zaa} (h:S[k.toNat]?=some y):clAt S k=y.clause:=by unfold clAt;rw [h]
theorem clAt_app {a t:List zaa} {k:Int} (h0:0≤k) (h:k < a.length):clAt (a++t) k=clAt a k:=by
 unfold clAt;rw [List.getElem?_append_left (by omega)]
theorem clAt_sh {a b t:List zaa} {k:Int} (h0:0≤k) (h:k < b.length):clAt (a++b.map (sh a.length)++t) ((a.length:Int) + k)=clAt b k:=by
 unfold clAt
 rw [List.append_assoc,List.getElem?_append_right (by omega),show ((a.length:Int) + k).toNat - a.length=k.toNat by omega,List.getElem?_append_left (by simp;omega),List.getElem?_map]
 obtain ⟨y,hy⟩:∃ y,b[k.toNat]?=some y:=⟨_,List.getElem?_eq_getElem (by omega)⟩
 rw [hy]
 exact sh_clause _ _
section
variable {F:Cnf} {a b:List zaa} {x y:zaa} {v:Int}
theorem last_cl {S:List zaa} {x:zaa} (h:S.getLast?=some x):S.length≠0∧clAt S ((S.length:Int) - 1)=x.clause:=by
 have h0:S.length≠0:=by
  intro e
  have:S=[]:=List.eq_nil_of_length_eq_zero e
  subst this;cases h
 refine ⟨h0,clAt_of' ?_⟩
 rw [List.getLast?_eq_getElem?] at h
 rw [show ((S.length:Int) - 1).toNat=S.length - 1 by omega];exact h
theorem chain_D (da:IsD F a) (db:IsD F b) (hx:a.getLast?=some x) (hy:b.getLast?=some y) (hl:a.length + b.length < 200) (hv:inB v 1 F.vars=true) (hr:(res x.clause y.clause v).2=true) :
 IsD F (a++b.map (sh a.length)++[⟨(res x.clause y.clause v).1,len a - 1,len a + len b - 1,v⟩]):=by
 have cx:=da.clause (List.mem_of_getLast? hx)
 have cy:=db.clause (List.mem_of_getLast? hy)
 obtain ⟨na,la⟩:=last_cl hx
 obtain ⟨nb,lb⟩:=last_cl hy
 refine ⟨da.cnf,by simp;omega,fun i z hz=>?_⟩
 rcases Nat.lt_or_ge i a.length with h1|h1
 · -- a step of the first
   rw [List.append_assoc,List.getElem?_append_left h1] at hz
   have hs:=da.step i z hz
   have hn:=da.nums hz
   unfold stepB zaW at hs ⊢
   rw [List.append_assoc]
   rcases hn with hn|hn|hn
   · rw [hn.1] at hs ⊢;exact hs
   · rw [clAt_app (t:=b.map (sh a.length)++_) hn.1 (by omega)]
     rw [hn.2.2.1] at hs ⊢;exact hs
   · rw [clAt_app (t:=b.map (sh a.length)++_) hn.1 (by omega),clAt_app (t:=b.map (sh a.length)++_) hn.2.2.1 (by omega)]
     exact hs
 · rcases Nat.lt_or_ge i (a.length + b.length) with h2|h2
   · -- a step of the second
     have hz2:=hz
     rw [List.append_assoc,List.getElem?_append_right h1,List.getElem?_append_left (by simp;omega),List.getElem?_map] at hz2
     obtain ⟨u,hu⟩:∃ u,b[i - a.length]?=some u:=⟨_,List.getElem?_eq_getElem (by omega)⟩
     rw [hu] at hz2
     have e:sh a.length u=z:=by simpa using hz2
     subst e
     have hs:=db.step _ u hu
     have hn:=db.nums hu
     unfold stepB zaW at hs ⊢
     rw [sh_clause]
     rcases hn with hn|hn|hn
     · have e:sh a.length u=u:=by unfold sh;rw [decide_eq_false (by omega)];rfl
       rw [e]
       rw [hn.1] at hs ⊢;exact hs
     · have e:sh a.length u=⟨u.clause,a.length + u.left,u.right,u.pivot⟩:=by unfold sh;rw [decide_eq_true hn.1,decide_eq_false (by omega)];rfl
       rw [e]
       dsimp only
       rw [clAt_sh hn.1 (by omega)]
       have q1:(u.left == -1)=false:=by rw [beq_eq_false_iff_ne];omega
       have q2:((a.length:Int) + u.left == -1)=false:=by rw [beq_eq_false_iff_ne];omega
       rw [q1] at hs
       rw [q2]
       rw [hn.2.2.1] at hs ⊢
       simp only [cond_false,Bool.and_eq_true] at hs ⊢
       exact ⟨hs.1,⟨zbb.2 (by omega),hs.2.1.2⟩,hs.2.2⟩
     · have e:sh a.length u=⟨u.clause,a.length + u.left,a.length + u.right,u.pivot⟩:=by unfold sh;rw [decide_eq_true hn.1,decide_eq_true hn.2.2.1];rfl
       rw [e]
       dsimp only
       rw [clAt_sh hn.1 (by omega),clAt_sh hn.2.2.1 (by omega)]
       have q1:(u.left == -1)=false:=by rw [beq_eq_false_iff_ne];omega
       have q2:((a.length:Int) + u.left == -1)=false:=by rw [beq_eq_false_iff_ne];omega
       have q3:(u.right == -1)=false:=by rw [beq_eq_false_iff_ne];omega
       have q4:((a.length:Int) + u.right == -1)=false:=by rw [beq_eq_false_iff_ne];omega
       rw [q1,q3] at hs
       rw [q2,q4]
       simp only [cond_false,Bool.and_eq_true] at hs ⊢
       exact ⟨hs.1,⟨zbb.2 (by omega),hs.2.1.2⟩,⟨zbb.2 (by omega),hs.2.2.1.2⟩,hs.2.2.2⟩
   · -- the resolvent
     have hi:=(List.getElem?_eq_some_iff.1 hz).1
     simp at hi
     have e:i=(a++b.map (sh a.length)).length:=by simp;omega
     subst e
     rw [List.getElem?_append_right (Nat.le_refl _),Nat.sub_self] at hz
     cases hz
     have hR:=res_isC (v:=v) cx cy
     have e1:clAt (a++b.map (sh a.length)++[⟨(res x.clause y.clause v).1,len a - 1,len a + len b - 1,v⟩]) (len a - 1)=x.clause:=by
      rw [List.append_assoc,zai,clAt_app (by omega) (by omega)];exact la
     have e2:clAt (a++b.map (sh a.length)++[⟨(res x.clause y.clause v).1,len a - 1,len a + len b - 1,v⟩]) (len a + len b - 1)=y.clause:=by
      rw [zai,zai,show (a.length:Int) + b.length - 1=a.length + ((b.length:Int) - 1) by omega,clAt_sh (by omega) (by omega)];exact lb
     unfold stepB zaW
     dsimp only
     rw [e1,e2]
     have q2:(len a - 1 == -1)=false:=by rw [beq_eq_false_iff_ne,zai];omega
     have q4:(len a + len b - 1 == -1)=false:=by rw [beq_eq_false_iff_ne,zai,zai];omega
     rw [q2,q4]
     simp only [cond_false,Bool.and_eq_true]
     refine ⟨zbc.2 hR,⟨zbb.2 ?_,zbc.2 cx⟩,⟨zbb.2 ?_,zbc.2 cy⟩,hv,hr,by rw [beq_self_eq_true]⟩
     · rw [zai];simp;omega
     · rw [zai,zai];simp;omega
end
theorem IsD.okS {F:Cnf} {S:List zaa} (h:IsD F S):okL zaE S:=by
 have hl:=h.le
 refine ⟨by omega,fun x hx=>?_⟩
 obtain ⟨i,hi,rfl⟩:=List.getElem_of_mem hx
 have hn:=h.nums (List.getElem?_eq_getElem hi)
 have hN:=cnfB_len h.cnf
 have hV:=cnfB_rng h.cnf
 rw [zai] at hn
 exact ⟨(h.clause (List.getElem_mem hi)).ok,by unfold okI;omega,by unfold okI;omega,by unfold okI;omega⟩
theorem zdS {F:Cnf} {S:List zaa} (hF:okCnf F) (h:IsD F S) {x:zaa} (hx:S.getLast?=some x):zbx F S=some (x.clause,true):=by
 have hS:=h.okS
 have hc:=(h.clause (List.mem_of_getLast? hx))
 have h12:=hc.len;have hhi:=hc.hi
 unfold zbx
 have n0:(len S == 0)=false:=by
  obtain ⟨g,_⟩:=last_cl hx
  rw [beq_eq_false_iff_ne,zai];omega
 rw [zdp hF hS,zad,zbA.2 h,n0]
 simp only [Bool.not_true,cond_false]
 unfold zb0
 rw [last_get hS.1 hx,zad,zad,zcB (by unfold lim;omega),zad]
theorem impl_ResolveOn_eq {V:Int} {c d:List Int} (hc:IsC V c) (hd:IsC V d) {v:Int} (hv:inB v 1 V=true):zcr V c d v=some (res c d v):=by
 unfold zcr
 rw [zcA hc.ok,zad,zbc.2 hc,zcA hd.ok,zdG,hv]
 simp only [Bool.not_true,cond_false,zad,zbc.2 hd]
 rw [zdM hc hd,zad]
theorem impl_depths_len {F:Cnf} {S:List zaa} (h:IsD F S):∃ r,zdd S=some r∧r.length=S.length:=by
 have hl:=h.le
 unfold zdd
 rw [show len S=((S.length:Nat):Int) from rfl,mk2_ok (by unfold lim;omega),zad]
 obtain ⟨s,h1,h2⟩:=zb5 (X:=Empty) (l:=S) (s:=List.replicate S.length (0:Int)) (body:=fun i32 y31 s32=>bd (chk (len (PF.zaY y31))) (fun m180423=>bdR (forR (S:=(List Int)) (X:=Empty) 0 m180423 (fun i180424 s180424=>bd (ix (PF.zaY y31) ((i180424:Nat):Int)) (fun x270529=>bd (ix s180424 ((i32:Nat):Int)) (fun x285537=>bd (ix s180424 x270529) (fun x297537=>bd (ix s180424 ((i32:Nat):Int)) (fun x306537=>bd (put s180424 ((i32:Nat):Int) (mx x285537 x297537)) (fun xs309534=>some (Lp.nx xs309534))))))) s32) (fun s180424=>(bif (PF.zbN y31) then bd (ix s180424 ((i32:Nat):Int)) (fun x315572=>bd (ix s180424 ((i32:Nat):Int)) (fun x315580=>bd (put s180424 ((i32:Nat):Int) (wr (x315572 + 1))) (fun xs315585=>some (Lp.nx xs315585)))) else some (Lp.nx s180424))) (fun x180424=>nomatch x180424)))
  (fun _ s=>s.length=S.length) (by simp) (fun i x s hx hs=>by
   have hi:=(List.getElem?_eq_some_iff.1 hx).1
   have hn:=h.nums hx
   have hp:∀ k∈zaY x,0≤k∧k < i:=by
    unfold zaY zbF zb1
    rcases hn with hn|hn|hn
    · rw [decide_eq_true (show x.left < 0 by omega)];intro k hk;cases hk
    · rw [decide_eq_false (show ¬ x.left < 0 by omega),decide_eq_true hn.1,decide_eq_true (show x.right < 0 by omega)]
      intro k hk
      have hk2:k∈[x.left]:=hk
      rw [List.mem_singleton] at hk2;subst hk2;omega
    · rw [decide_eq_false (show ¬ x.left < 0 by omega),decide_eq_true hn.1,decide_eq_false (show ¬ x.right < 0 by omega)]
      intro k hk
      have hk2:k∈[x.left,x.right]:=hk
      simp only [List.mem_cons,List.not_mem_nil,or_false] at hk2
      rcases hk2 with rfl|rfl <;> omega
   have hlen:(zaY x).length≤2:=by
    unfold zaY
    cases zbF x <;> cases zb1 x <;> simp
   rw [chk_len hlen,zad]
   have inner:∃ s1,forR (S:=(List Int)) (X:=Empty) 0 (zaY x).length (fun i180424 s180424=>bd (ix (PF.zaY x) ((i180424:Nat):Int)) (fun x270529=>bd (ix s180424 ((i:Nat):Int)) (fun x285537=>bd (ix s180424 x270529) (fun x297537=>bd (ix s180424 ((i:Nat):Int)) (fun x306537=>bd (put s180424 ((i:Nat):Int) (mx x285537 x297537)) (fun xs309534=>some (Lp.nx xs309534))))))) s=some (.go s1)∧s1.length=S.length:=by
    have key:∀ (n j:Nat) (s:List Int),j + n=(zaY x).length→s.length=S.length→∃ s1,zbp (S:=(List Int)) (X:=Empty) (fun i180424 s180424=>bd (ix (PF.zaY x) ((i180424:Nat):Int)) (fun x270529=>bd (ix s180424 ((i:Nat):Int)) (fun x285537=>bd (ix s180424 x270529) (fun x297537=>bd (ix s180424 ((i:Nat):Int)) (fun x306537=>bd (put s180424 ((i:Nat):Int) (mx x285537 x297537)) (fun xs309534=>some (Lp.nx xs309534))))))) n j s=some (.go s1)∧s1.length=S.length:=by
     intro n
     induction n with
     | zero=>intro j s _ hs;exact ⟨s,rfl,hs⟩
     | succ n ih =>
      intro j s hj hs
      obtain ⟨k,hk⟩:∃ k,(zaY x)[j]?=some k:=⟨_,List.getElem?_eq_getElem (by omega)⟩
      have hb:=hp k (List.mem_of_getElem? hk)
      obtain ⟨u,hu⟩:∃ u,s[i]?=some u:=⟨_,List.getElem?_eq_getElem (by omega)⟩
      obtain ⟨z,hz,_⟩:=ix_of (xs:=s) (i:=k) hb.1 (by omega)
      unfold zbp
      simp only [zaR,hk,zad,hu,hz,put_ok (show i < s.length by omega)]
      exact ih (j + 1) _ (by omega) (by rw [List.length_set];exact hs)
    exact key _ 0 s (by omega) hs
   obtain ⟨s1,e1,hs1⟩:=inner
   obtain ⟨u,hu⟩:∃ u,s1[i]?=some u:=⟨_,List.getElem?_eq_getElem (by omega)⟩
   cases hr:zbN x with
   | false=>exact ⟨s1,(congrArg (fun z=>bdR z _ _) e1).trans (by rw [zau];rfl),hs1⟩
   | true =>
    refine ⟨s1.set i (wr (u + 1)),(congrArg (fun z=>bdR z _ _) e1).trans ?_,by rw [List.length_set];exact hs1⟩
    rw [zau]
    simp only [cond_true,zaR,hu,zad,put_ok (show i < s1.length by omega)])
 exact ⟨s,(congrArg (fun z=>bdR z _ _) h1).trans (by rw [zau]),h2⟩
theorem zeB {F:Cnf} {S:List zaa} (hF:okCnf F) (h:IsD F S) (h0:S.length≠0):∃ r,zcs F S=some (r,true)∧r.length=S.length:=by
 obtain ⟨r,e,hr⟩:=impl_depths_len h
 refine ⟨r,?_,hr⟩
 unfold zcs
 rw [impl_isProof_eq hF h.okS,zad]
 unfold proofB
 rw [zbA.2 h,decide_eq_true (by rw [zai];omega)]
 simp only [Bool.and_self,Bool.not_true,cond_false]
 rw [e,zad]
end Go.PF
