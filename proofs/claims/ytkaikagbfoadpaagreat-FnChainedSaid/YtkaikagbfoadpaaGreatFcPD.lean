/- Helpers of the walks and plain laws. -/
import Derived.Test.YtkaikagbfoadpaaGreatFcPC
set_option linter.unusedVariables false
namespace Go.PF
open Go.Pu
theorem joinL_mem:∀ {b s t:List Int},joinL s b=some t→∀ x∈t,x∈s∨x∈b:=by
 intro b
 induction b with
 | nil=>intro s t h;simp only [joinL,Option.some.injEq] at h;subst h;exact fun x hx=>.inl hx
 | cons y b ih =>
  intro s t h x hx
  simp only [joinL] at h
  cases hc:s.contains (wr (-y)) with
  | true=>rw [hc] at h;cases h
  | false =>
   rw [hc,cond_false] at h
   rcases ih h x hx with g|g
   · cases hy:s.contains y with
     | true=>rw [hy] at g;exact .inl g
     | false =>
      rw [hy] at g
      simp only [Bool.not_false,cond_true] at g
      rcases zbI.1 g with g|g
      · exact .inr (by rw [g];simp)
      · exact .inl g
   · exact .inr (List.mem_cons_of_mem _ g)
theorem res_mem' {a b:List Int} {v x:Int} (h:x∈(res a b v).1):x∈a∨x∈b:=by
 unfold res joined at h
 cases hc : !a.contains v || !b.contains (wr (-v)) with
 | true=>rw [hc] at h;cases h
 | false =>
  rw [hc,cond_false] at h
  cases hj:joinL (zaJ a v) (zaJ b v) with
  | none=>rw [hj] at h;cases h
  | some t =>
   rw [hj] at h
   rcases joinL_mem hj x h with g|g
   · exact .inl (zdO g)
   · exact .inr (zdO g)
theorem res_okIs {a b:List Int} (ha:okIs a) (hb:okIs b) (v:Int):okIs (res a b v).1:=fun x hx=>by
 rcases res_mem' hx with g|g
 · exact ha x g
 · exact hb x g
theorem var_okI {x:Int} (h:okI x):okI (zaq x):=by
 unfold zaq
 cases decide (x < 0) with
 | false=>exact h
 | true=>exact zbk _
structure OkX (B:Nat) (x:zaa):Prop where
 len:x.clause.length≤B
 cl:okIs x.clause
 l:okI x.left
 r:okI x.right
 p:okI x.pivot
theorem OkX.mono {B C:Nat} {x:zaa} (h:OkX B x) (hc:B≤C):OkX C x:=⟨Nat.le_trans h.len hc,h.cl,h.l,h.r,h.p⟩
theorem OkX.ok {B:Nat} {x:zaa} (h:OkX B x) (hB:B≤1000000000):zaE x:=⟨⟨by have:=h.len;omega,h.cl⟩,h.l,h.r,h.p⟩
theorem okI_n {n:Int} (h:-1000000≤n∧n≤1000000):okI n:=by unfold okI;omega
theorem try_ok {S:List zaa} {B:Nat} (hB:B≤1000000000) (hS:∀ x∈S,OkX B x) (hl:S.length≤1000) {i j:Int} (hi:0≤i∧i < S.length) (hj:0≤j∧j < S.length) :
 ∃ r,zbW S i j=some r∧(r.2=true→OkX (2 * B) r.1):=by
 have hlim:lim=4294967296:=rfl
 obtain ⟨x,hx,gx⟩:=ix_of (xs:=S) (i:=i) hi.1 hi.2
 obtain ⟨y,hy,gy⟩:=ix_of (xs:=S) (i:=j) hj.1 hj.2
 have cx:=hS x (List.mem_of_getElem? gx);have cy:=hS y (List.mem_of_getElem? gy)
 have lx:=cx.len;have ly:=cy.len
 unfold zbW
 rw [hx,hy]
 simp only [zad]
 obtain ⟨q,hq,hp⟩:=zbt (T:=Int) (X:=zaa×Bool) (body:=fun s25=>(bif (decide (s25 < (len x.clause))) then bd (ix x.clause s25) (fun x60150=>(bif (decide (x60150 < 0)) then bd (PF.zaM y.clause x.clause (PF.zaq x60150)) (fun r99153=>(bif r99153.2 then some (Lp.rt ((zaa.mk r99153.1 j i (PF.zaq x60150)),true)) else some (Lp.nx (wr (s25 + 1))))) else bd (PF.zaM x.clause y.clause (PF.zaq x60150)) (fun r159185=>(bif r159185.2 then some (Lp.rt ((zaa.mk r159185.1 i j (PF.zaq x60150)),true)) else some (Lp.nx (wr (s25 + 1))))))) else some (Lp.bk s25)))
  (fun s=>x.clause.length - s.toNat) (fun s=>0≤s) (fun q=>match q with|.go s=>True|.rt r=>r.2=true→OkX (2 * B) r.1) (fun s hs=>by
   cases hd:decide (s < len x.clause) with
   | false=>exact .inr (.inl ⟨_,rfl,trivial⟩)
   | true =>
    have hlt:=of_decide_eq_true hd
    rw [zai] at hlt
    obtain ⟨z,hz,gz⟩:=ix_of (xs:=x.clause) (i:=s) hs hlt
    have oz:=var_okI (cx.cl z (List.mem_of_getElem? gz))
    have hw:wr (s + 1)=s + 1:=wr_of _ (by omega) (by omega)
    simp only [cond_true]
    rw [hz,zad]
    cases decide (z < 0) with
    | true =>
     simp only [cond_true]
     rw [zca (by omega),zad,hw]
     have rl:=res_len y.clause x.clause (zaq z)
     have ro:=res_okIs cy.cl cx.cl (zaq z)
     cases (res y.clause x.clause (zaq z)).2 with
     | true=>exact .inr (.inr ⟨_,rfl,fun _=>⟨by dsimp only;omega,ro,okI_n (by dsimp only;omega),okI_n (by dsimp only;omega),oz⟩⟩)
     | false=>exact .inl ⟨_,rfl,by omega,by omega⟩
    | false =>
     simp only [cond_false]
     rw [zca (by omega),zad,hw]
     have rl:=res_len x.clause y.clause (zaq z)
     have ro:=res_okIs cx.cl cy.cl (zaq z)
     cases (res x.clause y.clause (zaq z)).2 with
     | true=>exact .inr (.inr ⟨_,rfl,fun _=>⟨by dsimp only;omega,ro,okI_n (by dsimp only;omega),okI_n (by dsimp only;omega),oz⟩⟩)
     | false=>exact .inl ⟨_,rfl,by omega,by omega⟩) 0 (Int.le_refl _)
 cases q with
 | go s=>exact ⟨_,(congrArg (fun z=>bdR z _ _) hq).trans (by rw [zau]),fun h=>by cases h⟩
 | rt r=>exact ⟨r,(congrArg (fun z=>bdR z _ _) hq).trans (by rw [bdR_rt]),hp⟩
end Go.PF
namespace Go.PF
open Go.Pu
def okQ (S:List zaa):Prop:=S.length≤201∧∀ x∈S,zaE x
theorem okQ.okL {S:List zaa} (h:okQ S):okL zaE S:=⟨by have:=h.1;omega,h.2⟩
def okE (S:List zaa):Prop:=S.length≤200∧∀ x∈S,OkX 16777216 x
theorem okE.okQ {S:List zaa} (h:okE S):okQ S:=⟨by have:=h.1;omega,fun x hx=>(h.2 x hx).ok (by decide)⟩
theorem back_loop {out:List zaa} {B:Nat} (hB:B≤1000000000) (hS:∀ x∈out,OkX B x) (hl:out.length≤100) {i:Int} (hi:0≤i∧i < out.length) {k0:Int} (hk:k0=(out.length:Int) - 1) :
 ∃ o k,iter (S:=((List zaa)×Int)) (X:=Empty) (fun s270620=>(bif (decide (0≤s270620.2)) then bd (PF.zbW s270620.1 i s270620.2) (fun r270703=>(bif r270703.2 then bd (app s270620.1 [r270703.1]) (fun xs270732=>some (Lp.bk (xs270732,s270620.2))) else some (Lp.nx (s270620.1,(wr (s270620.2 - 1)))))) else some (Lp.bk (s270620.1,s270620.2)))) (out,k0)=some (.go (o,k))∧o.length≤out.length + 1∧∀ x∈o,OkX (2 * B) x:=by
 have hlim:lim=4294967296:=rfl
 obtain ⟨q,hq,hp⟩:=zbt (T:=List zaa×Int) (X:=Empty) (body:=(fun s270620=>(bif (decide (0≤s270620.2)) then bd (PF.zbW s270620.1 i s270620.2) (fun r270703=>(bif r270703.2 then bd (app s270620.1 [r270703.1]) (fun xs270732=>some (Lp.bk (xs270732,s270620.2))) else some (Lp.nx (s270620.1,(wr (s270620.2 - 1)))))) else some (Lp.bk (s270620.1,s270620.2)))))
  (fun s=>(s.2 + 1).toNat) (fun s=>s.1=out∧-1≤s.2∧s.2 < out.length) (fun q=>match q with|.go s=>s.1.length≤out.length + 1∧∀ x∈s.1,OkX (2 * B) x|.rt r=>r.elim) (fun s hs=>by
   obtain ⟨o,k⟩:=s
   obtain ⟨rfl,h1,h2⟩:=hs
   have hl':o.length≤100:=hl
   dsimp only at h1 h2 ⊢
   have old:∀ x∈o,OkX (2 * B) x:=fun x hx=>(hS x hx).mono (by omega)
   cases hd:decide (0≤k) with
   | false=>exact .inr (.inl ⟨_,rfl,Nat.le_succ _,old⟩)
   | true =>
    have hk0:=of_decide_eq_true hd
    obtain ⟨r,er,hr⟩:=try_ok hB hS (by omega) hi (j:=k) ⟨hk0,h2⟩
    simp only [cond_true]
    rw [er,zad,wr_of (k - 1) (by omega) (by omega)]
    cases h:r.2 with
    | false=>exact .inl ⟨_,rfl,⟨rfl,by dsimp only;omega,by dsimp only;omega⟩,by dsimp only;omega⟩
    | true =>
     simp only [cond_true]
     rw [zaD (by simp;omega),zad]
     refine .inr (.inl ⟨_,rfl,by simp,fun x hx=>?_⟩)
     rcases List.mem_append.1 hx with g|g
     · exact old x g
     · rw [List.mem_singleton] at g;subst g;exact hr h) (out,k0) ⟨rfl,by dsimp only;omega,by dsimp only;omega⟩
 cases q with
 | go s=>exact ⟨s.1,s.2,hq,hp⟩
 | rt r=>exact r.elim
theorem dr_derivation {n:Nat} {c:l1Cur} (h:okC (n + 2000) c) {F:Cnf} (hF:okCnf F):Dr n (zci c F) okE:=by
 have hlim:lim=4294967296:=rfl
 unfold zci
 rw [zdm hF,zad]
 cases hC:cnfB F with
 | false=>exact ⟨_,_,rfl,h.le,by simp,fun x hx=>by cases hx⟩
 | true =>
 cases hz:(len F.clauses == 0) with
 | true=>exact ⟨_,_,rfl,h.le,by simp,fun x hx=>by cases hx⟩
 | false =>
 have hV:=cnfB_rng hC
 have hCl:=cnfB_isC hC
 have hlN:=cnfB_len hC
 have hl0:=ne_of_beq_false hz
 rw [zai] at hl0
 simp only [Bool.not_true,cond_false]
 refine (zbs (n:=n + 1990) h.le (by simp)).bind fun k c1 h1 hk=>?_
 have hk9:0≤k∧k≤20:=by simp only [List.mem_cons,List.not_mem_nil,or_false] at hk;omega
 refine dr_loop (fun s=>s.2.2.2.2.toNat) (fun s=>okC (n + 10 + 60 * s.2.2.2.2.toNat) (l1Cur.mk s.2.1 s.2.2.1 s.2.2.2.1)∧0≤s.2.2.2.2∧s.1.length + s.2.2.2.2≤20∧∀ y∈s.1,OkX (16 * 2 ^ (20 - s.2.2.2.2.toNat)) y)
  (fun s=>okC n (l1Cur.mk s.2.1 s.2.2.1 s.2.2.2.1)∧okE s.1) ⟨h1.le (by dsimp only;omega),by dsimp only;omega,by dsimp only;simp;omega,fun s hs=>by cases hs⟩ ?_ (fun s hs=>⟨_,_,rfl,hs⟩)
 rintro ⟨out,cd,at_,sd,j⟩ ⟨g1,g2,g3,g4⟩
 simp only at g1 g2 g3 g4 ⊢
 have hpow:∀ e:Nat,e≤20→16 * 2 ^ e≤16777216:=fun e he=>by
  have:2 ^ e≤2 ^ 20:=Nat.pow_le_pow_right (by omega) he
  omega
 cases hd:decide (0 < j) with
 | false=>exact .inr ⟨_,rfl,g1.le,by dsimp only;omega,fun x hx=>(g4 x hx).mono (hpow _ (by omega))⟩
 | true =>
 have hj:0 < j:=of_decide_eq_true hd
 have hw:wr (j - 1)=j - 1:=wr_of _ (by omega) (by omega)
 left
 simp only [cond_true]
 rw [hw]
 have e0:n + 10 + 60 * j.toNat=(n + 10 + 60 * (j - 1).toNat) + 60:=by omega
 rw [e0] at g1
 obtain ⟨M,hM⟩:∃ M,M=n + 10 + 60 * (j - 1).toNat:=⟨_,rfl⟩
 rw [← hM] at g1
 obtain ⟨B,hB⟩:∃ B,B=16 * 2 ^ (20 - j.toNat):=⟨_,rfl⟩
 have hB2:16 * 2 ^ (20 - (j - 1).toNat)=2 * B:=by
  rw [hB,show 20 - (j - 1).toNat=(20 - j.toNat) + 1 by omega,Nat.pow_succ];omega
 have hBm:=hpow (20 - j.toNat) (by omega)
 rw [← hB] at hBm g4
 have hB16:16≤B:=by
  rw [hB]
  have:=Nat.two_pow_pos (20 - j.toNat)
  omega
 let Q:List zaa×List Int×Int×Int×Int→Prop:=fun s'=>(okC (n + 10 + 60 * s'.2.2.2.2.toNat) (l1Cur.mk s'.2.1 s'.2.2.1 s'.2.2.2.1)∧0≤s'.2.2.2.2∧s'.1.length + s'.2.2.2.2≤20∧∀ y∈s'.1,OkX (16 * 2 ^ (20 - s'.2.2.2.2.toNat)) y)∧s'.2.2.2.2.toNat < j.toNat
 show ∃ s',_=some (Lp.nx s')∧Q s'
 have hQ:∀ {o:List zaa} {c':l1Cur},okC M c'→o.length≤out.length + 1→(∀ y∈o,OkX (2 * B) y)→Q (o,c'.code,c'.at_,c'.seed,j - 1):=fun hc ho hy=>⟨⟨by rw [hM] at hc;exact hc,by dsimp only;omega,by dsimp only;omega,fun y h=>by dsimp only;rw [hB2];exact hy y h⟩,by dsimp only;omega⟩
 have old:∀ x∈out,OkX (2 * B) x:=fun x hx=>(g4 x hx).mono (by omega)
 have one:∀ {z:zaa},OkX (2 * B) z→∀ x∈out++[z],OkX (2 * B) x:=fun hz x hx=>by
  rcases List.mem_append.1 hx with g|g
  · exact old x g
  · rw [List.mem_singleton] at g;subst g;exact hz
 obtain ⟨t,ht,hc,ht2⟩:∃ t:List Int×Int×Int×Bool,(bif (decide ((len out) < 2)) then some (cd,at_,sd,true) else bd (PF.zaK (l1Cur.mk cd at_ sd) 3) (fun r180524=>some (r180524.2.code,r180524.2.at_,r180524.2.seed,r180524.1)))=some t∧okC (M + 50) (l1Cur.mk t.1 t.2.1 t.2.2.1)∧(t.2.2.2=false→2≤out.length):=by
  cases hd:decide (len out < 2) with
  | true=>exact ⟨_,rfl,g1.le,nofun⟩
  | false =>
   have:=of_decide_eq_false hd
   rw [zai] at this
   obtain ⟨b,c2,e2,h2,_⟩:=zbj (n:=M + 50) g1.le 3
   simp only [cond_false]
   rw [e2,zad]
   exact ⟨_,rfl,h2,fun _=>by omega⟩
 rw [ht,zad]
 cases hb:t.2.2.2 with
 | true =>
  simp only [cond_true]
  obtain ⟨i,c3,e3,h3,hi⟩:=za2 (n:=M + 40) hc.le (len F.clauses)
  rw [zai] at hi
  obtain ⟨cl,hcl,hg⟩:=ix_of (xs:=F.clauses) (i:=i) hi.1 (by omega)
  have hC1:=hCl cl (List.mem_of_getElem? hg)
  have hc12:=hC1.len;have hhi:=hC1.hi
  rw [show (len F.clauses)=((F.clauses.length:Nat):Int) from rfl] at e3 ⊢
  rw [e3,zad]
  dsimp only
  unfold zcg
  rw [hcl,zad,zb8 (by omega),zad,zad,zaD (by simp;omega),zad]
  exact ⟨_,rfl,hQ h3.le (by simp) (one ⟨by dsimp only;omega,hC1.ok.2,okI_n (by dsimp only;omega),okI_n (by dsimp only;omega),okI_n (by dsimp only;omega)⟩)⟩
 | false =>
  have ho:=ht2 hb
  simp only [cond_false]
  obtain ⟨i,c3,e3,h3,hi⟩:=za2 (n:=M + 48) hc (len out)
  rw [zai] at hi
  obtain ⟨b,c4,e4,h4,_⟩:=zbj (n:=M + 46) h3 6
  have hii:0≤i∧i < out.length:=⟨hi.1,by omega⟩
  rw [show (len out)=((out.length:Nat):Int) from rfl] at e3 ⊢
  rw [e3,zad]
  dsimp only
  rw [e4,zad]
  dsimp only
  cases b with
  | true =>
   obtain ⟨y,hy,hg⟩:=ix_of (xs:=out) (i:=i) hii.1 hii.2
   have cy:=g4 y (List.mem_of_getElem? hg)
   have ly:=cy.len
   obtain ⟨d,c5,e5,h5,hd5⟩:=zcE (n:=M + 10) (c:=c4) h4.le F.vars
   have ld:d.length≤4:=hd5.1
   simp only [cond_true]
   rw [hy,zad,e5,zad]
   dsimp only
   rw [zeb (by omega),zad]
   cases hjn:joinL y.clause d with
   | none=>exact ⟨_,rfl,hQ h5.le (by omega) old⟩
   | some s =>
    have l1:=joinL_len hjn
    simp only [cond_true]
    rw [zaD (by simp;omega),zad]
    refine ⟨_,rfl,hQ h5.le (by simp) (one ⟨by dsimp only;omega,fun x hx=>?_,okI_n (by dsimp only;omega),okI_n (by dsimp only;omega),okI_n (by dsimp only;omega)⟩)⟩
    rcases joinL_mem hjn x hx with g|g
    · exact cy.cl x g
    · exact hd5.2 x g
  | false =>
   simp only [cond_false]
   obtain ⟨o,k,e6,ho6,hx6⟩:=back_loop (out:=out) (B:=B) (by omega) g4 (by omega) hii (k0:=wr ((len out) - 1)) (by rw [wr_len (by omega),zai])
   refine ⟨_,(congrArg (fun z=>bdR z _ _) e6).trans (by rw [zau]),hQ h4.le ho6 hx6⟩
theorem dr_proof {n:Nat} {c:l1Cur} (h:okC (n + 10000) c):∃ F S c',zcR c=some (F,S,c')∧okC n c'∧okCnf F∧okQ S:=by
 have hlim:lim=4294967296:=rfl
 unfold zcR
 obtain ⟨F0,c1,e1,h1,hF0⟩:=dr_cnf (n:=n + 9000) (c:=c) h.le
 rw [e1,zad]
 dsimp only
 obtain ⟨S0,c2,e2,h2,hS0⟩:=dr_derivation (n:=n + 7000) (c:=c1) h1.le hF0.ok
 rw [e2,zad]
 dsimp only
 obtain ⟨b,c3,e3,h3,_⟩:=zbj (n:=n + 6990) (c:=c2) h2.le 2
 rw [e3,zad]
 dsimp only
 have tail:∀ {s:List zaa×List Int×Int×Int} {G:Cnf},okC (n + 1000) (l1Cur.mk s.2.1 s.2.2.1 s.2.2.2)→okCnf G→okQ s.1→∃ F S c',(fun s363=>bd (PF.zaK (l1Cur.mk s363.2.1 s363.2.2.1 s363.2.2.2) 48) (fun r555=>(bif (bif r555.1 then (decide (0 < (len s363.1))) else false) then bdR (iter (S:=((List zaa)×(List Int)×Int×Int)) (X:=Empty) (fun s576=>bd (PF.zaI (l1Cur.mk s576.2.1 s576.2.2.1 s576.2.2.2) 2) (fun r684=>(bif (decide ((len s576.1) < (wr (200 + r684.1)))) then bd (ix s576.1 0) (fun x699=>bd (app s576.1 [x699]) (fun xs708=>some (Lp.nx (xs708,r684.2.code,r684.2.at_,r684.2.seed)))) else some (Lp.bk (s576.1,r684.2.code,r684.2.at_,r684.2.seed))))) (s363.1,r555.2.code,r555.2.at_,r555.2.seed)) (fun s576=>some (G,s576.1,(l1Cur.mk s576.2.1 s576.2.2.1 s576.2.2.2))) (fun x576=>nomatch x576) else some (G,s363.1,r555.2)))) s=(some (F,S,c'):Option (Cnf×List zaa×l1Cur))∧okC n c'∧okCnf F∧okQ S:=by
  rintro ⟨S,cd,at_,sd⟩ G q1 q2 q3
  dsimp only at q1 q3 ⊢
  obtain ⟨b,c5,e5,h5,_⟩:=zbj (n:=n + 990) q1.le 48
  rw [e5,zad]
  dsimp only
  cases hb:(bif b then decide (0 < len S) else false) with
  | false=>exact ⟨_,_,_,rfl,h5.le,q2,q3⟩
  | true =>
   have hpos:0 < S.length:=by
    cases b with
    | false=>cases hb
    | true=>have:=of_decide_eq_true hb;rw [zai] at this;omega
   simp only [cond_true]
   have:=loop_ex (T:=List zaa×List Int×Int×Int) (B:=Cnf×List zaa×l1Cur) (s0:=(S,c5.code,c5.at_,c5.seed)) (k:=fun s576=>some (G,s576.1,(l1Cur.mk s576.2.1 s576.2.2.1 s576.2.2.2))) (lx:=fun x576=>nomatch x576)
    (body:=fun s576=>bd (PF.zaI (l1Cur.mk s576.2.1 s576.2.2.1 s576.2.2.2) 2) (fun r684=>(bif (decide ((len s576.1) < (wr (200 + r684.1)))) then bd (ix s576.1 0) (fun x699=>bd (app s576.1 [x699]) (fun xs708=>some (Lp.nx (xs708,r684.2.code,r684.2.at_,r684.2.seed)))) else some (Lp.bk (s576.1,r684.2.code,r684.2.at_,r684.2.seed)))))
    (R:=fun r=>okC n r.2.2∧okCnf r.1∧okQ r.2.1)
    (fun s=>202 - s.1.length) (fun s=>okC (n + 10 + 2 * (202 - s.1.length)) (l1Cur.mk s.2.1 s.2.2.1 s.2.2.2)∧0 < s.1.length∧okQ s.1) (fun s=>okC n (l1Cur.mk s.2.1 s.2.2.1 s.2.2.2)∧okQ s.1) ⟨h5.le (by dsimp only;omega),hpos,q3⟩ (fun s hs=>by
     obtain ⟨os,cd,at_,sd⟩:=s
     obtain ⟨k1,k2,k3⟩:=hs
     dsimp only at k1 k2 k3 ⊢
     have l3:=k3.1
     have e0:n + 10 + 2 * (202 - os.length)=(n + 10 + 2 * (201 - os.length)) + 2:=by omega
     rw [e0] at k1
     obtain ⟨b,c6,e6,h6,hb⟩:=za2 k1 2
     rw [e6,zad]
     dsimp only
     rw [wr_of (200 + b) (by omega) (by omega)]
     cases hd:decide (len os < 200 + b) with
     | false=>exact .inr ⟨_,rfl,h6.le,k3⟩
     | true =>
      have hlt:=of_decide_eq_true hd
      rw [zai] at hlt
      obtain ⟨y,hy,hg⟩:=ix0 (l:=os) k2
      left
      simp only [cond_true]
      rw [hy,zad,zaD (by simp;omega),zad]
      refine ⟨_,rfl,⟨h6.le (by dsimp only;rw [List.length_append,List.length_singleton];omega),by simp,by simp;omega,fun x hx=>?_⟩,by dsimp only;rw [List.length_append,List.length_singleton];omega⟩
      rcases List.mem_append.1 hx with g|g
      · exact k3.2 x g
      · rw [List.mem_singleton] at g;subst g;exact k3.2 _ hg)
    (fun s hs=>⟨_,rfl,hs.1,q2,hs.2⟩)
   obtain ⟨r,er,r1,r2,r3⟩:=this
   exact ⟨r.1,r.2.1,r.2.2,er,r1,r2,r3⟩
 have mid:∀ {s:List Int×Int×Int×Int×List (List Int)×List zaa},okC (n + 2000) (l1Cur.mk s.1 s.2.1 s.2.2.1)→okCnf (Cnf.mk s.2.2.2.1 s.2.2.2.2.1)→okQ s.2.2.2.2.2→∃ F S c',((fun s101=>bd (bif (decide (0 < (len s101.2.2.2.2.2))) then bd (PF.zaK (l1Cur.mk s101.1 s101.2.1 s101.2.2.1) 8) (fun r171=>some (r171.2.code,r171.2.at_,r171.2.seed,r171.1)) else some (s101.1,s101.2.1,s101.2.2.1,false)) (fun t167=>bdR (S:=((List zaa)×(List Int)×Int×Int)) (X:=Empty) ((bif t167.2.2.2 then bd (PF.zaI (l1Cur.mk t167.1 t167.2.1 t167.2.2.1) (len s101.2.2.2.2.2)) (fun r373=>bd (PF.zaI r373.2 5) (fun r381=>(bif (r381.1 == 0) then bd (PF.zbV r381.2 s101.2.2.2.1) (fun r390=>bd (ix s101.2.2.2.2.2 r373.1) (fun x408=>bd (put s101.2.2.2.2.2 r373.1 (zaa.mk r390.1 x408.left x408.right x408.pivot)) (fun xs420=>some (Rs.go (xs420,r390.2.code,r390.2.at_,r390.2.seed))))) else (bif (r381.1 == 1) then bd (PF.zaV r381.2 [(-1),0,(-2),(len s101.2.2.2.2.2),1099511627776]) (fun r437=>bd (ix s101.2.2.2.2.2 r373.1) (fun x451=>bd (put s101.2.2.2.2.2 r373.1 (zaa.mk x451.clause r437.1 x451.right x451.pivot)) (fun xs458=>some (Rs.go (xs458,r437.2.code,r437.2.at_,r437.2.seed))))) else (bif (r381.1 == 2) then bd (PF.zaV r381.2 [(-1),0,(-2),60,1099511627776]) (fun r474=>bd (ix s101.2.2.2.2.2 r373.1) (fun x488=>bd (put s101.2.2.2.2.2 r373.1 (zaa.mk x488.clause x488.left r474.1 x488.pivot)) (fun xs495=>some (Rs.go (xs495,r474.2.code,r474.2.at_,r474.2.seed))))) else (bif (r381.1 == 3) then bd (PF.zaV r381.2 [0,1,2,(-1),13]) (fun r511=>bd (ix s101.2.2.2.2.2 r373.1) (fun x525=>bd (put s101.2.2.2.2.2 r373.1 (zaa.mk x525.clause x525.left x525.right r511.1)) (fun xs532=>some (Rs.go (xs532,r511.2.code,r511.2.at_,r511.2.seed))))) else (bif (r381.1 == 4) then bd (cut s101.2.2.2.2.2 1 (len s101.2.2.2.2.2)) (fun xs538=>some (Rs.go (xs538,r381.2.code,r381.2.at_,r381.2.seed))) else some (Rs.go (s101.2.2.2.2.2,r381.2.code,r381.2.at_,r381.2.seed))))))))) else some (Rs.go (s101.2.2.2.2.2,t167.1,t167.2.1,t167.2.2.1)))) (fun s363=>bd (PF.zaK (l1Cur.mk s363.2.1 s363.2.2.1 s363.2.2.2) 48) (fun r555=>(bif (bif r555.1 then (decide (0 < (len s363.1))) else false) then bdR (iter (S:=((List zaa)×(List Int)×Int×Int)) (X:=Empty) (fun s576=>bd (PF.zaI (l1Cur.mk s576.2.1 s576.2.2.1 s576.2.2.2) 2) (fun r684=>(bif (decide ((len s576.1) < (wr (200 + r684.1)))) then bd (ix s576.1 0) (fun x699=>bd (app s576.1 [x699]) (fun xs708=>some (Lp.nx (xs708,r684.2.code,r684.2.at_,r684.2.seed)))) else some (Lp.bk (s576.1,r684.2.code,r684.2.at_,r684.2.seed))))) (s363.1,r555.2.code,r555.2.at_,r555.2.seed)) (fun s576=>some ((Cnf.mk s101.2.2.2.1 s101.2.2.2.2.1),s576.1,(l1Cur.mk s576.2.1 s576.2.2.1 s576.2.2.2))) (fun x576=>nomatch x576) else some ((Cnf.mk s101.2.2.2.1 s101.2.2.2.2.1),s363.1,r555.2)))) (fun x365=>nomatch x365))) s)=(some (F,S,c'):Option (Cnf×List zaa×l1Cur))∧okC n c'∧okCnf F∧okQ S:=by
  rintro ⟨cd,at_,sd,vs,cl,S⟩ q1 q2 q3
  dsimp only at q1 q2 q3 ⊢
  obtain ⟨t,ht,hc,ht2⟩:∃ t:List Int×Int×Int×Bool,(bif (decide (0 < (len S))) then bd (PF.zaK (l1Cur.mk cd at_ sd) 8) (fun r171=>some (r171.2.code,r171.2.at_,r171.2.seed,r171.1)) else some (cd,at_,sd,false))=some t∧okC (n + 1900) (l1Cur.mk t.1 t.2.1 t.2.2.1)∧(t.2.2.2=true→0 < S.length):=by
   cases hd:decide (0 < len S) with
   | false=>exact ⟨_,rfl,q1.le,nofun⟩
   | true =>
    have:=of_decide_eq_true hd
    rw [zai] at this
    obtain ⟨b,c2,e2,h2,_⟩:=zbj (n:=n + 1900) q1.le 8
    simp only [cond_true]
    rw [e2,zad]
    exact ⟨_,rfl,h2,fun _=>by omega⟩
  rw [ht,zad]
  cases hb:t.2.2.2 with
  | false =>
   simp only [cond_false]
   rw [zau]
   exact tail (s:=(S,t.1,t.2.1,t.2.2.1)) hc.le q2 q3
  | true =>
   have hpos:=ht2 hb
   simp only [cond_true]
   obtain ⟨k,c5,e5,h5,hk⟩:=za2 (n:=n + 1800) hc.le (len S)
   rw [zai] at hk
   obtain ⟨z,c6,e6,h6,_⟩:=za2 (n:=n + 1700) (c:=c5) h5.le 5
   obtain ⟨y,hy,hg⟩:=ix_of (xs:=S) (i:=k) hk.1 (by omega)
   have hyo:=q3.2 y (List.mem_of_getElem? hg)
   have l3:=q3.1
   have put:∀ {x:zaa},zaE x→Pu.put S k x=some (S.set k.toNat x)∧okQ (S.set k.toNat x):=fun hx=>by
    refine ⟨by unfold Pu.put;rw [if_pos ⟨hk.1,by omega⟩],by rw [List.length_set];exact l3,fun u hu=>?_⟩
    rcases List.mem_or_eq_of_mem_set hu with g|rfl
    · exact q3.2 u g
    · exact hx
   rw [show (len S)=((S.length:Nat):Int) from rfl] at e5 ⊢
   rw [e5,zad]
   dsimp only
   rw [e6,zad]
   dsimp only
   rw [hy]
   simp only [zad]
   cases z == 0 with
   | true =>
    obtain ⟨d,c7,e7,h7,hd7⟩:=dr_anyClause (n:=n + 1600) (c:=c6) h6.le vs
    have ld:d.length≤5:=hd7.1
    obtain ⟨p1,p2⟩:=put (x:=zaa.mk d y.left y.right y.pivot) ⟨⟨by dsimp only;omega,hd7.2⟩,hyo.2⟩
    simp only [cond_true]
    rw [e7,zad]
    dsimp only
    rw [p1,zad,zau]
    exact tail (s:=(_,c7.code,c7.at_,c7.seed)) h7.le q2 p2
   | false =>
   simp only [cond_false]
   cases z == 1 with
   | true =>
    obtain ⟨x,c7,e7,h7,hx⟩:=zbs (n:=n + 1600) (c:=c6) h6.le (l:=[(-1),0,(-2),((S.length:Nat):Int),1099511627776]) (by simp)
    simp only [List.mem_cons,List.not_mem_nil,or_false] at hx
    obtain ⟨p1,p2⟩:=put (x:=zaa.mk y.clause x y.right y.pivot) ⟨hyo.1,by unfold okI;dsimp only;omega,hyo.2.2⟩
    simp only [cond_true]
    rw [e7,zad]
    dsimp only
    rw [p1,zad,zau]
    exact tail (s:=(_,c7.code,c7.at_,c7.seed)) h7.le q2 p2
   | false =>
   simp only [cond_false]
   cases z == 2 with
   | true =>
    obtain ⟨x,c7,e7,h7,hx⟩:=zbs (n:=n + 1600) (c:=c6) h6.le (l:=[(-1),0,(-2),60,1099511627776]) (by simp)
    simp only [List.mem_cons,List.not_mem_nil,or_false] at hx
    obtain ⟨p1,p2⟩:=put (x:=zaa.mk y.clause y.left x y.pivot) ⟨hyo.1,hyo.2.1,by unfold okI;dsimp only;omega,hyo.2.2.2⟩
    simp only [cond_true]
    rw [e7,zad]
    dsimp only
    rw [p1,zad,zau]
    exact tail (s:=(_,c7.code,c7.at_,c7.seed)) h7.le q2 p2
   | false =>
   simp only [cond_false]
   cases z == 3 with
   | true =>
    obtain ⟨x,c7,e7,h7,hx⟩:=zbs (n:=n + 1600) (c:=c6) h6.le (l:=[0,1,2,(-1),13]) (by simp)
    simp only [List.mem_cons,List.not_mem_nil,or_false] at hx
    obtain ⟨p1,p2⟩:=put (x:=zaa.mk y.clause y.left y.right x) ⟨hyo.1,hyo.2.1,hyo.2.2.1,by unfold okI;dsimp only;omega⟩
    simp only [cond_true]
    rw [e7,zad]
    dsimp only
    rw [p1,zad,zau]
    exact tail (s:=(_,c7.code,c7.at_,c7.seed)) h7.le q2 p2
   | false =>
   simp only [cond_false]
   cases z == 4 with
   | true =>
    simp only [cond_true]
    have hcut:=cut_ok (xs:=S) (a:=1) (b:=S.length) (by omega) (Nat.le_refl _)
    rw [show ((1:Nat):Int)=1 from rfl] at hcut
    rw [hcut,zad,zau]
    refine tail (s:=(_,c6.code,c6.at_,c6.seed)) h6.le q2 ⟨by dsimp only;simp;omega,fun u hu=>q3.2 u (List.mem_of_mem_take (List.mem_of_mem_drop hu))⟩
   | false =>
    simp only [cond_false]
    rw [zau]
    exact tail (s:=(S,c6.code,c6.at_,c6.seed)) h6.le q2 q3
 cases b with
 | false =>
  simp only [cond_false]
  rw [zau]
  exact mid (s:=(c3.code,c3.at_,c3.seed,F0.vars,F0.clauses,S0)) h3.le hF0.ok hS0.okQ
 | true =>
  obtain ⟨G,c5,e5,h5,hG⟩:=dr_hard (n:=n + 5000) (c:=c3) h3.le
  obtain ⟨R,c6,e6,h6,hR⟩:=dr_refutation (n:=n + 5000) (c:=c5) h5 hG.ok
  simp only [cond_true]
  rw [e5,zad]
  dsimp only
  rw [e6,zad,zau]
  exact mid (s:=(c6.code,c6.at_,c6.seed,G.vars,G.clauses,R)) h6.le hG.ok ⟨by have:=hR.1;show R.length≤201;omega,hR.2⟩
end Go.PF
namespace Go.PF
open Go.Pu
def okZ (r:(Cnf×List zaa×List zaa×Int)):Prop:=okCnf r.1∧okL zaE r.2.1∧okL zaE r.2.2.1
theorem okL_take {S:List zaa} (h:okL zaE S) (k:Nat):okL zaE (S.take k):=⟨by have:=h.1;rw [List.length_take];omega,fun x hx=>h.2 x (List.mem_of_mem_take hx)⟩
theorem cut_k {S:List zaa} {k:Int} (h0:0≤k) (h1:k≤S.length):cut S 0 k=some (S.take k.toNat):=by
 have:=cut_ok (xs:=S) (a:=0) (b:=k.toNat) (Nat.zero_le _) (by omega)
 rw [show ((k.toNat:Nat):Int)=k by omega,show ((0:Nat):Int)=0 from rfl,List.drop_zero] at this
 exact this
section
variable {F:Cnf} {S T:List zaa}
theorem pair_v (hF:cnfB F=true) (hD:IsD F S) (hT:okE T) {k m:Int} (hk:1≤k∧k≤S.length) (hm:1≤m∧m≤T.length) {M:Nat} {cd:List Int} {a b:Int} (hc:okC (M + 40) (l1Cur.mk cd a b)) :
 ∃ q,iter (S:=((List Int)×Int×Int×Int)) (X:=(Lp (List Int×Int×Int×Int) (Lp (List Int×Int×Int×Int) (Cnf×List zaa×List zaa×Int)))) (fun s1261446=>(bif (decide (s1261446.2.2.2≤F.vars)) then bd (ix S (wr (k - 1))) (fun x1483635=>bd (ix T (wr (m - 1))) (fun x1501635=>bd (PF.zaM x1483635.clause x1501635.clause s1261446.2.2.2) (fun r1513629=>bd (bif r1513629.2 then bd (PF.zaK (l1Cur.mk s1261446.1 s1261446.2.1 s1261446.2.2.1) 3) (fun r1534657=>some (r1534657.2.code,r1534657.2.at_,r1534657.2.seed,r1534657.1)) else some (s1261446.1,s1261446.2.1,s1261446.2.2.1,false)) (fun t1534653=>(bif t1534653.2.2.2 then bd (cut S 0 k) (fun xs1546681=>bd (cut T 0 m) (fun xs1555681=>some (Lp.rt (Lp.rt (Lp.rt (F,xs1546681,xs1555681,s1261446.2.2.2)))))) else some (Lp.nx (t1534653.1,t1534653.2.1,t1534653.2.2.1,(wr (s1261446.2.2.2 + 1))))))))) else some (Lp.bk (s1261446.1,s1261446.2.1,s1261446.2.2.1,s1261446.2.2.2)))) (cd,a,b,1)=some q∧((∃ cd' a' b' v,q=.go (cd',a',b',v)∧okC M (l1Cur.mk cd' a' b'))∨∃ r,q=.rt (.rt (.rt r))∧okZ r):=by
 have hV:=cnfB_rng hF
 have hS:=hD.okS
 have hSl:=hD.le
 have hTl:=hT.1
 have hok:okCnf F:=⟨by unfold okI;omega,by have:=cnfB_len hF;exact ⟨by omega,fun c h=>(cnfB_isC hF c h).ok⟩⟩
 obtain ⟨x,hx,gx⟩:=ix_of (xs:=S) (i:=k - 1) (by omega) (by omega)
 obtain ⟨y,hy,gy⟩:=ix_of (xs:=T) (i:=m - 1) (by omega) (by omega)
 have cx:=hD.clause (List.mem_of_getElem? gx)
 have cy:=hT.2 y (List.mem_of_getElem? gy)
 have lx:=cx.len;have lh:=cx.hi;have ly:=cy.len
 refine zbt (T:=(List Int×Int×Int×Int)) (X:=(Lp (List Int×Int×Int×Int) (Lp (List Int×Int×Int×Int) (Cnf×List zaa×List zaa×Int)))) (fun s=>(14 - s.2.2.2).toNat) (fun s=>okC (M + 2 * (14 - s.2.2.2).toNat) (l1Cur.mk s.1 s.2.1 s.2.2.1)∧1≤s.2.2.2∧s.2.2.2≤13) _ ?_ _ ⟨hc.le (by dsimp only;omega),Int.le_refl _,by dsimp only;omega⟩
 rintro ⟨cd,a,b,v⟩ ⟨g1,g2,g3⟩
 dsimp only at g1 g2 g3 ⊢
 cases hd:decide (v≤F.vars) with
 | false=>exact .inr (.inl ⟨_,rfl,.inl ⟨_,_,_,_,rfl,g1.le⟩⟩)
 | true =>
  have hv:=of_decide_eq_true hd
  have e0:M + 2 * (14 - v).toNat=(M + 2 * (14 - (v + 1)).toNat) + 2:=by omega
  rw [e0] at g1
  have hw:wr (v + 1)=v + 1:=wr_of _ (by omega) (by omega)
  simp only [cond_true]
  rw [wr_of (k - 1) (by omega) (by omega),wr_of (m - 1) (by omega) (by omega),hx,zad,hy,zad,zca (by unfold lim;omega),zad,hw]
  have next:∀ {c':l1Cur},okC (M + 2 * (14 - (v + 1)).toNat) c'→okC (M + 2 * (14 - ((c'.code,c'.at_,c'.seed,v + 1):(List Int×Int×Int×Int)).2.2.2).toNat) (l1Cur.mk ((c'.code,c'.at_,c'.seed,v + 1):(List Int×Int×Int×Int)).1 ((c'.code,c'.at_,c'.seed,v + 1):(List Int×Int×Int×Int)).2.1 ((c'.code,c'.at_,c'.seed,v + 1):(List Int×Int×Int×Int)).2.2.1)∧1≤((c'.code,c'.at_,c'.seed,v + 1):(List Int×Int×Int×Int)).2.2.2∧((c'.code,c'.at_,c'.seed,v + 1):(List Int×Int×Int×Int)).2.2.2≤13:=fun h=>⟨h,by dsimp only;omega,by dsimp only;omega⟩
  cases (res x.clause y.clause v).2 with
  | false=>exact .inl ⟨(cd,a,b,v + 1),rfl,next (c':=l1Cur.mk cd a b) g1.le,by dsimp only;omega⟩
  | true =>
   obtain ⟨t,c2,e2,h2,_⟩:=zbj g1 3
   simp only [cond_true]
   rw [e2,zad,zad]
   cases t with
   | false=>exact .inl ⟨_,rfl,next (c':=c2) h2,by dsimp only;omega⟩
   | true =>
    simp only [cond_true]
    rw [cut_k (by omega) (by omega),zad,cut_k (by omega) (by omega),zad]
    exact .inr (.inr ⟨_,rfl,.inr ⟨_,rfl,hok,okL_take hS _,okL_take hT.okQ.okL _⟩⟩)
theorem pair_n (hF:cnfB F=true) (hD:IsD F S) (hT:okE T) {k:Int} (hk:1≤k∧k≤S.length) {M:Nat} {cd:List Int} {a b:Int} (hc:okC (M + 10000) (l1Cur.mk cd a b)) :
 ∃ q,iter (S:=((List Int)×Int×Int×Int)) (X:=(Lp (List Int×Int×Int×Int) (Cnf×List zaa×List zaa×Int))) (fun s841016=>(bif (decide (s841016.2.2.2≤(len T))) then bdR (iter (S:=((List Int)×Int×Int×Int)) (X:=(Lp ((List Int)×Int×Int×Int) (Lp ((List Int)×Int×Int×Int) (Cnf×(List zaa)×(List zaa)×Int)))) (fun s1261446=>(bif (decide (s1261446.2.2.2≤F.vars)) then bd (ix S (wr (k - 1))) (fun x1483635=>bd (ix T (wr (s841016.2.2.2 - 1))) (fun x1501635=>bd (PF.zaM x1483635.clause x1501635.clause s1261446.2.2.2) (fun r1513629=>bd (bif r1513629.2 then bd (PF.zaK (l1Cur.mk s1261446.1 s1261446.2.1 s1261446.2.2.1) 3) (fun r1534657=>some (r1534657.2.code,r1534657.2.at_,r1534657.2.seed,r1534657.1)) else some (s1261446.1,s1261446.2.1,s1261446.2.2.1,false)) (fun t1534653=>(bif t1534653.2.2.2 then bd (cut S 0 k) (fun xs1546681=>bd (cut T 0 s841016.2.2.2) (fun xs1555681=>some (Lp.rt (Lp.rt (Lp.rt (F,xs1546681,xs1555681,s1261446.2.2.2)))))) else some (Lp.nx (t1534653.1,t1534653.2.1,t1534653.2.2.1,(wr (s1261446.2.2.2 + 1))))))))) else some (Lp.bk (s1261446.1,s1261446.2.1,s1261446.2.2.1,s1261446.2.2.2)))) (s841016.1,s841016.2.1,s841016.2.2.1,1)) (fun s1261446=>some (Lp.nx (s1261446.1,s1261446.2.1,s1261446.2.2.1,(wr (s841016.2.2.2 + 1))))) (fun x1261446=>some x1261446) else some (Lp.bk (s841016.1,s841016.2.1,s841016.2.2.1,s841016.2.2.2)))) (cd,a,b,1)=some q∧((∃ cd' a' b' v,q=.go (cd',a',b',v)∧okC M (l1Cur.mk cd' a' b'))∨∃ r,q=.rt (.rt r)∧okZ r):=by
 have hTl:=hT.1
 refine zbt (T:=(List Int×Int×Int×Int)) (X:=(Lp (List Int×Int×Int×Int) (Cnf×List zaa×List zaa×Int))) (fun s=>(202 - s.2.2.2).toNat) (fun s=>okC (M + 40 * (202 - s.2.2.2).toNat) (l1Cur.mk s.1 s.2.1 s.2.2.1)∧1≤s.2.2.2∧s.2.2.2≤201) _ ?_ _ ⟨hc.le (by dsimp only;omega),Int.le_refl _,by dsimp only;omega⟩
 rintro ⟨cd,a,b,m⟩ ⟨g1,g2,g3⟩
 dsimp only at g1 g2 g3 ⊢
 cases hd:decide (m≤len T) with
 | false=>exact .inr (.inl ⟨_,rfl,.inl ⟨_,_,_,_,rfl,g1.le⟩⟩)
 | true =>
  have hm:=of_decide_eq_true hd
  rw [zai] at hm
  have e0:M + 40 * (202 - m).toNat=(M + 40 * (202 - (m + 1)).toNat) + 40:=by omega
  rw [e0] at g1
  have hw:wr (m + 1)=m + 1:=wr_of _ (by omega) (by omega)
  simp only [cond_true]
  obtain ⟨q,hq,hp⟩:=pair_v hF hD hT hk ⟨g2,hm⟩ g1
  rcases hp with ⟨cd',a',b',v,rfl,hc'⟩|⟨r,rfl,hr⟩
  · refine .inl ⟨(cd',a',b',m + 1),(congrArg (fun z=>bdR z _ _) hq).trans ?_,⟨hc',by dsimp only;omega,by dsimp only;omega⟩,by dsimp only;omega⟩
    rw [zau,hw]
  · refine .inr (.inr ⟨_,(congrArg (fun z=>bdR z _ _) hq).trans ?_,.inr ⟨r,rfl,hr⟩⟩)
    rw [bdR_rt]
theorem pair_k (hF:cnfB F=true) (hD:IsD F S) (hT:okE T) {M K:Nat} {cd:List Int} {a b:Int} (hK:M + 3000000≤K) (hc:okC K (l1Cur.mk cd a b)) :
 ∃ q,iter (S:=((List Int)×Int×Int×Int)) (X:=(Cnf×List zaa×List zaa×Int)) (fun s97=>(bif (decide (s97.2.2.2≤(len S))) then bdR (iter (S:=((List Int)×Int×Int×Int)) (X:=(Lp ((List Int)×Int×Int×Int) (Cnf×(List zaa)×(List zaa)×Int))) (fun s841016=>(bif (decide (s841016.2.2.2≤(len T))) then bdR (iter (S:=((List Int)×Int×Int×Int)) (X:=(Lp ((List Int)×Int×Int×Int) (Lp ((List Int)×Int×Int×Int) (Cnf×(List zaa)×(List zaa)×Int)))) (fun s1261446=>(bif (decide (s1261446.2.2.2≤F.vars)) then bd (ix S (wr (s97.2.2.2 - 1))) (fun x1483635=>bd (ix T (wr (s841016.2.2.2 - 1))) (fun x1501635=>bd (PF.zaM x1483635.clause x1501635.clause s1261446.2.2.2) (fun r1513629=>bd (bif r1513629.2 then bd (PF.zaK (l1Cur.mk s1261446.1 s1261446.2.1 s1261446.2.2.1) 3) (fun r1534657=>some (r1534657.2.code,r1534657.2.at_,r1534657.2.seed,r1534657.1)) else some (s1261446.1,s1261446.2.1,s1261446.2.2.1,false)) (fun t1534653=>(bif t1534653.2.2.2 then bd (cut S 0 s97.2.2.2) (fun xs1546681=>bd (cut T 0 s841016.2.2.2) (fun xs1555681=>some (Lp.rt (Lp.rt (Lp.rt (F,xs1546681,xs1555681,s1261446.2.2.2)))))) else some (Lp.nx (t1534653.1,t1534653.2.1,t1534653.2.2.1,(wr (s1261446.2.2.2 + 1))))))))) else some (Lp.bk (s1261446.1,s1261446.2.1,s1261446.2.2.1,s1261446.2.2.2)))) (s841016.1,s841016.2.1,s841016.2.2.1,1)) (fun s1261446=>some (Lp.nx (s1261446.1,s1261446.2.1,s1261446.2.2.1,(wr (s841016.2.2.2 + 1))))) (fun x1261446=>some x1261446) else some (Lp.bk (s841016.1,s841016.2.1,s841016.2.2.1,s841016.2.2.2)))) (s97.1,s97.2.1,s97.2.2.1,1)) (fun s841016=>some (Lp.nx (s841016.1,s841016.2.1,s841016.2.2.1,(wr (s97.2.2.2 + 1))))) (fun x841016=>some x841016) else some (Lp.bk (s97.1,s97.2.1,s97.2.2.1,s97.2.2.2)))) (cd,a,b,1)=some q∧((∃ cd' a' b' v,q=.go (cd',a',b',v)∧okC M (l1Cur.mk cd' a' b'))∨∃ r,q=.rt r∧okZ r):=by
 have hSl:=hD.le
 refine zbt (T:=(List Int×Int×Int×Int)) (X:=(Cnf×List zaa×List zaa×Int)) (fun s=>(202 - s.2.2.2).toNat) (fun s=>okC (M + 10000 * (202 - s.2.2.2).toNat) (l1Cur.mk s.1 s.2.1 s.2.2.1)∧1≤s.2.2.2∧s.2.2.2≤201) _ ?_ _ ⟨hc.le (by dsimp only;omega),Int.le_refl _,by dsimp only;omega⟩
 rintro ⟨cd,a,b,m⟩ ⟨g1,g2,g3⟩
 dsimp only at g1 g2 g3 ⊢
 cases hd:decide (m≤len S) with
 | false=>exact .inr (.inl ⟨_,rfl,.inl ⟨_,_,_,_,rfl,g1.le⟩⟩)
 | true =>
  have hm:=of_decide_eq_true hd
  rw [zai] at hm
  have e0:M + 10000 * (202 - m).toNat=(M + 10000 * (202 - (m + 1)).toNat) + 10000:=by omega
  rw [e0] at g1
  have hw:wr (m + 1)=m + 1:=wr_of _ (by omega) (by omega)
  simp only [cond_true]
  obtain ⟨q,hq,hp⟩:=pair_n hF hD hT ⟨g2,hm⟩ g1
  rcases hp with ⟨cd',a',b',v,rfl,hc'⟩|⟨r,rfl,hr⟩
  · refine .inl ⟨(cd',a',b',m + 1),(congrArg (fun z=>bdR z _ _) hq).trans ?_,⟨hc',by dsimp only;omega,by dsimp only;omega⟩,by dsimp only;omega⟩
    rw [zau,hw]
  · refine .inr (.inr ⟨_,(congrArg (fun z=>bdR z _ _) hq).trans ?_,.inr ⟨r,rfl,hr⟩⟩)
    rw [bdR_rt]
end
theorem draw_chain {cs:List Int} (h:okL okU8 cs):∃ F S T v,zcV cs=some (F,S,T,v)∧okCnf F∧okL zaE S∧okL zaE T:=by
 obtain ⟨A,hA⟩:∃ A:Nat,A=4000000:=⟨_,rfl⟩
 have hb:=okC_begin h 0
 obtain ⟨F,S,c1,e1,h1,hF,hS⟩:=dr_proof (n:=A + 2000) (hb.le (by omega))
 obtain ⟨T,c2,e2,h2,hT⟩:=dr_derivation (n:=A) (c:=c1) h1 hF
 unfold zcV
 rw [e1,zad]
 dsimp only
 rw [e2,zad]
 dsimp only
 rw [zdN hF hS.okL,zad]
 have fin:∀ {c':l1Cur},okC 10 c'→∃ F' S' T' v,bd (PF.zaV c' [1,2,0,13]) (fun r=>some (F,S,T,r.1))=(some (F',S',T',v):Option (Cnf×List zaa×List zaa×Int))∧okCnf F'∧okL zaE S'∧okL zaE T':=fun hc=>by
  obtain ⟨v,c3,e3,h3,_⟩:=zbs (n:=8) hc (l:=[1,2,0,13]) (by simp)
  rw [e3,zad]
  exact ⟨_,_,_,_,rfl,hF,hS.okL,hT.okQ.okL⟩
 cases hd:derB F S with
 | false=>exact fin h2.le
 | true =>
  have hD:=zbA.1 hd
  cases decide (0 < len S) with
  | false=>exact fin h2.le
  | true =>
  cases decide (0 < len T) with
  | false=>exact fin h2.le
  | true =>
   simp only [cond_true]
   obtain ⟨q,hq,hp⟩:=pair_k hD.cnf hD hT (M:=100) (cd:=c2.code) (a:=c2.at_) (b:=c2.seed) (K:=A) (by omega) h2
   cases hp with
   | inr hp =>
    obtain ⟨r,hr1,hr⟩:=hp
    subst hr1
    exact ⟨r.1,r.2.1,r.2.2.1,r.2.2.2,(congrArg (fun z=>bdR z _ _) hq).trans (bdR_rt _ _ _),hr⟩
   | inl hp =>
    obtain ⟨cd',a',b',v,hr1,hc'⟩:=hp
    subst hr1
    obtain ⟨F',S',T',v',e,g⟩:=fin (c':=l1Cur.mk cd' a' b') hc'.le
    exact ⟨F',S',T',v',(congrArg (fun z=>bdR z _ _) hq).trans ((zau _ _ _).trans e),g⟩
theorem zef (a b:List Int):zcq a b=some (a == b):=same_eq a b
theorem laws_vSteps_self (a:List zaa):zdb a a=some true:=by
 unfold zdb
 rw [beq_self_eq_true]
 simp only [Bool.not_true,cond_false]
 refine (congrArg (fun z=>bdR z _ _) (forL_fold (fun (s:Unit) (y:zaa)=>s) fun i x s hx=>?_)).trans (by rw [zau])
 simp only [zaR,hx,zad,beq_self_eq_true,Bool.not_true,cond_false,zef]
theorem chained_tail {F:Cnf} {S T R:List zaa} {v:Int} {x y z:zaa} (hF:okCnf F) (hDs:IsD F S) (hDt:IsD F T) (hD:IsD F R) (hx:S.getLast?=some x) (hy:T.getLast?=some y) (hz:R.getLast?=some z) (hRl:R.length=S.length + T.length + 1)
 (hcl:z.clause=(res x.clause y.clause v).1) (h4:inB v 1 F.vars=true) (h5:(res x.clause y.clause v).2=true):((bif true then bd (PF.zbx F S) (fun r144=>bd (PF.zbx F T) (fun r160=>bd (PF.zbx F R) (fun r178=>bd (PF.zcr F.vars r144.1 r160.1 v) (fun r200=>bd (bif (bif (bif (bif (!r144.2) then true else (!r160.2)) then true else (!r178.2)) then true else (!r200.2)) then some true else bd (PF.zcq r178.1 r200.1) (fun r289=>some (!r289))) (fun t272=>(bif (bif t272 then true else (!((len R) == (wr ((wr ((len S) + (len T))) + 1))))) then some false else bd (PF.zcs F R) (fun r316=>(bif (bif (!r316.2) then true else (!((len r316.1) == (len R)))) then some false else some true)))))))) else some true):Option Bool)=some true:=by
 have cx:=hDs.clause (List.mem_of_getLast? hx)
 have cy:=hDt.clause (List.mem_of_getLast? hy)
 have ls:=hDs.le;have lt:=hDt.le
 obtain ⟨ds,hds,hdl⟩:=zeB hF hD (by omega)
 have hlen:(len R == wr (wr (len S + len T) + 1))=true:=by
  rw [beq_iff_eq,wr_of (len S + len T) (by rw [zai,zai];omega) (by rw [zai,zai];omega),wr_of (len S + len T + 1) (by rw [zai,zai];omega) (by rw [zai,zai];omega)]
  rw [zai,zai,zai,hRl];omega
 rw [hlen]
 simp only [cond_true]
 rw [zdS hF hDs hx,zad,zdS hF hDt hy,zad,zdS hF hD hz,zad]
 dsimp only
 rw [impl_ResolveOn_eq cx cy h4,zad,h5,hcl]
 simp only [Bool.not_true,cond_false,zef,beq_self_eq_true,zad]
 have hl2:(len ds == len R)=true:=by rw [beq_iff_eq,zai,zai,hdl]
 rw [hds]
 simp only [Bool.not_true,cond_false,zad,hl2]
theorem plain_FnChained (a0:List Int) (o0:okL okU8 a0):zdv a0=some true:=by
 unfold zdv
 cases zcF a0 with
 | true=>rfl
 | false =>
 simp only [cond_false]
 obtain ⟨F,S,T,v,e,hF,hS,hT⟩:=draw_chain o0
 rw [e,zad]
 dsimp only
 rw [impl_ChainSteps_eq hF hS hT,zad,spec_ChainSteps_eq hF hS hT,zad]
 simp only [beq_self_eq_true,Bool.not_true,cond_false,laws_vSteps_self,zad]
 cases hx:S.getLast? with
 | none =>
  have e2:zbe F S T v=([],false):=by unfold zbe;rw [hx]
  rw [e2];rfl
 | some x =>
 cases hy:T.getLast? with
 | none =>
  have e2:zbe F S T v=([],false):=by unfold zbe;rw [hx,hy]
  rw [e2];rfl
 | some y =>
 cases hc:derB F S && (derB F T && (decide (len S + len T < 200) && (inB v 1 F.vars && (res x.clause y.clause v).2))) with
 | false =>
  have e2:zbe F S T v=([],false):=by unfold zbe;rw [hx,hy];dsimp only;rw [hc];rfl
  rw [e2];rfl
 | true =>
  have e2:zbe F S T v=(S++T.map (sh S.length)++[⟨(res x.clause y.clause v).1,len S - 1,len S + len T - 1,v⟩],true):=by unfold zbe;rw [hx,hy];dsimp only;rw [hc];rfl
  simp only [Bool.and_eq_true] at hc
  obtain ⟨h1,h2,h3,h4,h5⟩:=hc
  have hDs:=zbA.1 h1;have hDt:=zbA.1 h2
  have h3':=of_decide_eq_true h3
  rw [zai,zai] at h3'
  have hD:=chain_D hDs hDt hx hy (by omega) h4 h5
  have hlast:(S++T.map (sh S.length)++[(⟨(res x.clause y.clause v).1,len S - 1,len S + len T - 1,v⟩:zaa)]).getLast?=some ⟨(res x.clause y.clause v).1,len S - 1,len S + len T - 1,v⟩:=by simp
  have hRl:(S++T.map (sh S.length)++[(⟨(res x.clause y.clause v).1,len S - 1,len S + len T - 1,v⟩:zaa)]).length=S.length + T.length + 1:=by
   simp only [List.length_append,List.length_map,List.length_singleton]
  generalize S++T.map (sh S.length)++[(⟨(res x.clause y.clause v).1,len S - 1,len S + len T - 1,v⟩:zaa)]=R at e2 hD hlast hRl
  rw [e2]
  exact chained_tail hF hDs hDt hD hx hy hlast hRl rfl h4 h5
end Go.PF
