/- Helpers of the walks and plain laws. -/
import Derived.Test.YtkaikagbfoadpaaGreatPpPA
import Derived.Test.YtkaikagbfoadpaaGreatPpLB
set_option linter.unusedVariables false
namespace Go.PF
open Go.Pu
theorem zbD {f:Cnf} (h:cnfB f=true):0≤f.vars∧f.vars≤12:=by
 unfold cnfB at h
 simp only [Bool.and_eq_true] at h
 exact zdg.1 h.1.1
theorem cnfB_isC {f:Cnf} (h:cnfB f=true):∀ c∈f.clauses,IsC f.vars c:=fun c hc=>by
 unfold cnfB at h
 simp only [Bool.and_eq_true] at h
 exact zb9.1 (List.all_eq_true.1 h.2 c hc)
theorem zcv {f:Cnf} (h:cnfB f=true):f.clauses.length≤60:=by
 unfold cnfB at h
 simp only [Bool.and_eq_true] at h
 have:=of_decide_eq_true h.1.2
 rw [zak] at this
 omega
theorem dr_hard {n:Nat} {c:l1Cur} (h:okC (n + 200) c):Dr n (zcV c) (SmC 62 12):=by
 have hlim:lim=4294967296:=rfl
 unfold zcV
 refine (dr_of (n:=n + 190) h.le (l:=zb2) (by unfold zb2;simp)).bind fun t c1 h1 ht=>?_
 obtain ⟨f,hf,hg,hv4⟩:=known_ok ht
 have hv:=zbD hg;have hN:=zcv hg
 show Dr n (bd (zcy t) _) _
 rw [hf,zaa]
 refine zcu (fun s=>(f.vars + 1 - s.2.2.2.2).toNat) (fun s=>okC (n + 100 + 2 * (f.vars + 1 - s.2.2.2.2).toNat) (l1Cur.mk s.2.1 s.2.2.1 s.2.2.2.1)∧1≤s.2.2.2.2∧s.2.2.2.2≤f.vars + 1∧s.1.length≤s.2.2.2.2.toNat∧okIs s.1)
  (fun s=>okC (n + 100) (l1Cur.mk s.2.1 s.2.2.1 s.2.2.2.1)∧s.1.length≤10∧okIs s.1)
  ⟨h1.le (by dsimp only;omega),by dsimp only;omega,by dsimp only;omega,by simp,fun x h=>by cases h⟩ ?_ ?_
 · rintro ⟨to,cd,at_,sd,v⟩ ⟨g1,g2,g3,g4,g5⟩
   simp only at g1 g2 g3 g4 g5 ⊢
   cases hd:decide (v≤f.vars) with
   | false=>exact .inr ⟨_,rfl,g1.le,by dsimp only;omega,g5⟩
   | true =>
    have hv2:v≤f.vars:=of_decide_eq_true hd
    have hw:wr (v + 1)=v + 1:=wr_of _ (by omega) (by omega)
    left
    simp only [cond_true]
    have e0:n + 100 + 2 * (f.vars + 1 - v).toNat=(n + 100 + 2 * (f.vars + 1 - (v + 1)).toNat) + 2:=by omega
    rw [e0] at g1
    obtain ⟨b,c3,e2,k3,_⟩:=dr_one g1 4
    rw [e2,zaa]
    have fin:∀ y,okI y→okIs (to++[y]):=fun y hy x hx=>by
     rcases List.mem_append.1 hx with g|g
     · exact g5 x g
     · rw [List.mem_singleton] at g;subst g;exact hy
    cases b with
    | true =>
     simp only [cond_true]
     rw [zaB (by simp;omega),zaa]
     exact ⟨_,rfl,⟨by dsimp only;rw [hw];exact k3,by dsimp only;rw [hw];omega,by dsimp only;rw [hw];omega,by dsimp only;rw [hw,List.length_append,List.length_singleton];omega,fin _ (zbR _)⟩,by dsimp only;rw [hw];omega⟩
    | false =>
     simp only [cond_false]
     rw [zaB (by simp;omega),zaa]
     exact ⟨_,rfl,⟨by dsimp only;rw [hw];exact k3,by dsimp only;rw [hw];omega,by dsimp only;rw [hw];omega,by dsimp only;rw [hw,List.length_append,List.length_singleton];omega,fin _ (by unfold okI;omega)⟩,by dsimp only;rw [hw];omega⟩
 · rintro ⟨to,cd,at_,sd,v⟩ ⟨g1,g2,g3⟩
   simp only at g1 g2 g3 ⊢
   obtain ⟨r,hr,hs⟩:=rename_ok hg hN (by omega) g3 (by omega)
   rw [hr,zaa]
   refine (zaX (n:=n + 98) g1 3).bind fun k c2 h2 hk=>?_
   have hk3:k≤2:=by omega
   refine zcu (fun s=>s.2.2.2.2.2.toNat) (fun s=>okC (n + 30 * s.2.2.2.2.2.toNat) (l1Cur.mk s.2.1 s.2.2.1 s.2.2.2.1)∧0≤s.2.2.2.2.2∧s.1.length + s.2.2.2.2.2≤62∧okI s.2.2.2.2.1∧∀ c∈s.1,c.length≤12∧okIs c)
    (fun s=>okC n (l1Cur.mk s.2.1 s.2.2.1 s.2.2.2.1)∧s.1.length≤62∧okI s.2.2.2.2.1∧∀ c∈s.1,c.length≤12∧okIs c)
    ⟨h2.le (by dsimp only;omega),by dsimp only;omega,by dsimp only;have:=hs.len;omega,hs.vars,hs.cl⟩ ?_ (fun s hs=>⟨_,_,rfl,hs.1,hs.2.2.1,hs.2.1,hs.2.2.2⟩)
   rintro ⟨out,cd,at_,sd,v,j⟩ ⟨g1,g2,g3,g4,g5⟩
   simp only at g1 g2 g3 g4 g5 ⊢
   cases hd:(bif decide (0 < j) then decide (0 < v) else false) with
   | false=>exact .inr ⟨_,rfl,g1.le,by dsimp only;omega,g4,g5⟩
   | true =>
    have hj:0 < j:=by
     cases hx:decide (0 < j) with
     | true=>exact of_decide_eq_true hx
     | false=>rw [hx] at hd;cases hd
    have hw:wr (j - 1)=j - 1:=wr_of _ (by omega) (by omega)
    left
    simp only [cond_true]
    have e0:n + 30 * j.toNat=(n + 30 * (j - 1).toNat) + 30:=by omega
    rw [e0] at g1
    obtain ⟨l,c3,e2,k3,hl⟩:=dr_clause g1 v
    rw [e2,zaa,zaB (by simp;omega),zaa]
    refine ⟨_,rfl,⟨by dsimp only;rw [hw];exact k3,by dsimp only;rw [hw];omega,by dsimp only;rw [hw,List.length_append,List.length_singleton];omega,g4,fun x hx=>?_⟩,by dsimp only;rw [hw];omega⟩
    rcases List.mem_append.1 hx with g|g
    · exact g5 x g
    · rw [List.mem_singleton] at g;subst g;exact ⟨by omega,hl.2⟩
theorem SmC.le {N M N2 M2:Nat} {f:Cnf} (h:SmC N M f) (h1:N≤N2) (h2:M≤M2):SmC N2 M2 f:=⟨h.vars,by have:=h.len;omega,fun c hc=>⟨by have:=(h.cl c hc).1;omega,(h.cl c hc).2⟩⟩
theorem dr_cnf {n:Nat} {c:l1Cur} (h:okC (n + 1000) c):Dr n (zdv c) (SmC 100 12):=by
 have hlim:lim=4294967296:=rfl
 unfold zdv
 refine (dr_one (n:=n + 990) h.le 4).bind fun b c1 h1 _=>?_
 show Dr n (bif b then _ else _) _
 cases b with
 | true=>exact (dr_hard (n:=n) h1.le).bind fun f c2 h2 hf=>⟨_,_,rfl,h2,hf.le (by omega) (by omega)⟩
 | false =>
 simp only [cond_false]
 refine (zb1 (n:=n + 988) h1 (by simp)).bind fun v c2 h2 hv=>?_
 have hv':okI v:=by simp only [List.mem_cons,List.not_mem_nil,or_false] at hv;unfold okI;omega
 refine (zaX (n:=n + 986) h2 10).bind fun k c3 h3 hk=>?_
 have hk9:k≤9:=by omega
 refine zcu (fun s=>s.2.2.2.2.2.toNat) (fun s=>okC (n + 600 + 30 * s.2.2.2.2.2.toNat) (l1Cur.mk s.2.1 s.2.2.1 s.2.2.2.1)∧0≤s.2.2.2.2.2∧s.1.length + s.2.2.2.2.2≤9∧okI s.2.2.2.2.1∧∀ c∈s.1,c.length≤12∧okIs c)
  (fun s=>okC (n + 600) (l1Cur.mk s.2.1 s.2.2.1 s.2.2.2.1)∧s.1.length≤9∧okI s.2.2.2.2.1∧∀ c∈s.1,c.length≤12∧okIs c)
  ⟨h3.le (by dsimp only;omega),hk.1,by dsimp only;simp;omega,hv',fun c hc=>by cases hc⟩ ?_ ?_
 · rintro ⟨out,cd,at_,sd,v,j⟩ ⟨g1,g2,g3,g4,g5⟩
   simp only at g1 g2 g3 g4 g5 ⊢
   cases hd:decide (0 < j) with
   | false=>exact .inr ⟨_,rfl,g1.le,by dsimp only;omega,g4,g5⟩
   | true =>
    have hj:0 < j:=of_decide_eq_true hd
    have hw:wr (j - 1)=j - 1:=wr_of _ (by omega) (by omega)
    left
    simp only [cond_true]
    have e0:n + 600 + 30 * j.toNat=(n + 600 + 30 * (j - 1).toNat) + 30:=by omega
    rw [e0] at g1
    obtain ⟨l,c3,e2,k3,hl⟩:=dr_clause g1 v
    rw [e2,zaa,zaB (by simp;omega),zaa]
    refine ⟨_,rfl,⟨by dsimp only;rw [hw];exact k3,by dsimp only;rw [hw];omega,by dsimp only;rw [hw,List.length_append,List.length_singleton];omega,g4,fun x hx=>?_⟩,by dsimp only;rw [hw];omega⟩
    rcases List.mem_append.1 hx with g|g
    · exact g5 x g
    · rw [List.mem_singleton] at g;subst g;exact ⟨by omega,hl.2⟩
 · rintro ⟨out,cd,at_,sd,v,j⟩ ⟨g1,g3,g4,g5⟩
   simp only at g1 g3 g4 g5 ⊢
   have cat:∀ ys:List (List Int),(∀ c∈ys,c.length≤12∧okIs c)→∀ c∈out++ys,c.length≤12∧okIs c:=fun ys hy c hc=>by
    rcases List.mem_append.1 hc with g|g
    · exact g5 c g
    · exact hy c g
   refine (zaX (n:=n + 598) g1 40).bind fun k c2 h2 _=>?_
   show Dr n (bif (k == 0) then _ else _) _
   cases k == 0 with
   | true =>
    refine (zb1 (n:=n) h2.le (by simp)).bind fun x c3 h3 hx=>⟨_,_,rfl,h3,?_,by dsimp only;omega,g5⟩
    simp only [List.mem_cons,List.not_mem_nil,or_false] at hx;dsimp only;unfold okI;omega
   | false =>
   show Dr n (bif (k == 1) then _ else _) _
   cases k == 1 with
   | true =>
    refine (dr_anyClause (n:=n) h2.le v).bind fun l c3 h3 hl=>?_
    rw [zaB (by simp;omega)]
    exact ⟨_,_,rfl,h3,g4,by dsimp only;rw [List.length_append,List.length_singleton];omega,cat [l] fun c hc=>by rw [List.mem_singleton] at hc;subst hc;exact ⟨by omega,hl.2⟩⟩
   | false =>
   show Dr n (bif (k == 2) then _ else _) _
   cases k == 2 with
   | true =>
    simp only [cond_true]
    refine zcu (fun s=>61 - s.1.length) (fun s=>okC (n + 2 + 2 * (61 - s.1.length)) (l1Cur.mk s.2.1 s.2.2.1 s.2.2.2.1)∧s.1.length≤61∧okI s.2.2.2.2∧∀ c∈s.1,c.length≤12∧okIs c)
     (fun s=>okC n (l1Cur.mk s.2.1 s.2.2.1 s.2.2.2.1)∧s.1.length≤61∧okI s.2.2.2.2∧∀ c∈s.1,c.length≤12∧okIs c)
     ⟨h2.le (by dsimp only;omega),by dsimp only;omega,g4,g5⟩ ?_ (fun s hs=>⟨_,_,rfl,hs.1,hs.2.2.1,by have:=hs.2.1;dsimp only;omega,hs.2.2.2⟩)
    rintro ⟨os,cd,at_,sd,v⟩ ⟨k1,k2,k3,k4⟩
    simp only at k1 k2 k3 k4 ⊢
    have e0:n + 2 + 2 * (61 - os.length)=(n + 2 * (61 - os.length)) + 2:=by omega
    rw [e0] at k1
    obtain ⟨b,c4,e2,m3,hb⟩:=zaX k1 2
    rw [e2,zaa]
    have hb1:b≤1:=by omega
    have hw:wr (60 + b)=60 + b:=wr_of _ (by omega) (by omega)
    simp only
    rw [hw]
    cases hd:decide (len os < 60 + b) with
    | false=>exact .inr ⟨_,rfl,m3.le,k2,k3,k4⟩
    | true =>
     have hlt:(os.length:Int) < 60 + b:=by have:=of_decide_eq_true hd;rwa [zak] at this
     left
     simp only [cond_true]
     rw [zaB (by simp;omega),zaa]
     refine ⟨_,rfl,⟨m3.le (by dsimp only;rw [List.length_append,List.length_singleton];omega),by dsimp only;rw [List.length_append,List.length_singleton];omega,k3,fun x hx=>?_⟩,by dsimp only;rw [List.length_append,List.length_singleton];omega⟩
     rcases List.mem_append.1 hx with g|g
     · exact k4 x g
     · rw [List.mem_singleton] at g;subst g
       exact ⟨by simp,fun y hy=>by rw [List.mem_singleton] at hy;subst hy;unfold okI;omega⟩
   | false =>
   show Dr n (bif (k == 3) then _ else _) _
   cases k == 3 with
   | true =>
    refine (dr_clause (n:=n) h2.le v).bind fun l c3 h3 hl=>?_
    rw [zaB (by simp;omega)]
    refine ⟨_,_,rfl,h3,g4,by dsimp only;rw [List.length_append];simp;omega,cat [l,[]] fun c hc=>?_⟩
    simp only [List.mem_cons,List.not_mem_nil,or_false] at hc
    rcases hc with rfl|rfl
    · exact ⟨by omega,hl.2⟩
    · exact ⟨by simp,fun x h=>by cases h⟩
   | false=>exact ⟨_,_,rfl,h2.le,g4,by dsimp only;omega,g5⟩
theorem okC_begin {cs:List Int} (h:okL okU8 cs) (s:Int):okC 1000000000 (l1Cur.mk cs 0 s):=⟨h,by dsimp only;omega,by dsimp only;omega⟩
end Go.PF
namespace Go.PF
open Go.Pu
def tl (b:Nat→Bool) (l:Int):Bool:=b l.natAbs == decide (0 < l)
def tc (b:Nat→Bool) (c:List Int):Bool:=c.any (tl b)
end Go.PF
namespace Go.PF
open Go.Pu
def lexC:List Int→List Int→Int
 | [],[]=>0
 | [],_::_=>-1
 | _::_,[]=>1
 | x::a,y::b=>bif !(cmpL x y == 0) then cmpL x y else lexC a b
def cmpC (a b:List Int):Int:=if a.length < b.length then -1 else if b.length < a.length then 1 else lexC a b
def sm (c:List Int):Prop:=∀ x∈c,-12≤x∧x≤12∧x≠0
abbrev SrtC (xs:List (List Int)):Prop:=xs.Pairwise fun a b=>cmpC a b < 0
end Go.PF
namespace Go.PF
open Go.Pu
structure Cfg (V:Int) (n:Nat) (xs:List (List Int)):Prop where
 srt:SrtC xs
 len:xs.length≤n
 cl:∀ c∈xs,IsC V c
theorem zfG {c:List (List Int)} {f:List Int→Option Bool} {g:List Int→Bool} (h:∀ y∈c,f y=some (g y)):∃ r,zdL c f=some r∧decide (0≤r)=c.any g:=by
 unfold zdL
 rw [zdd (p:=fun _ y=>g y) (v:=fun i _=>(i:Int)) (fun i y hy=>by rw [h y (List.mem_of_getElem? hy),zaa])]
 cases hf:findI (fun _ y=>g y) c 0 with
 | none =>
  refine ⟨-1,rfl,?_⟩
  have:=zde.1 hf
  rw [zb7] at this;rw [this];rfl
 | some z =>
  obtain ⟨_,_,_,h4⟩:=zdf hf
  rw [zb7] at h4
  exact ⟨_,rfl,by rw [h4];simp⟩
end Go.PF
namespace Go.Pu
theorem wrk_nat {n:Nat} (h:n < 9223372036854775808):wrk true 64 (n:Int)=(n:Int):=by
 unfold wrk
 have h1:((n:Int) % (2 ^ 64:Int))=(n:Int):=Int.emod_eq_of_lt (by omega) (by omega)
 rw [h1]
 simp only [Bool.true_and]
 rw [if_neg]
 simp
 omega
theorem ofInt_nat {w n:Nat}:BitVec.ofInt w (n:Int)=BitVec.ofNat w n:=by
 apply BitVec.eq_of_toNat_eq
 simp
theorem andK_nat {a b:Nat} (ha:a < 9223372036854775808) (hb:b < 9223372036854775808):andK true 64 (a:Int) (b:Int)=((a &&& b:Nat):Int):=by
 unfold andK
 rw [ofInt_nat,ofInt_nat,BitVec.toNat_and,BitVec.toNat_ofNat,BitVec.toNat_ofNat,Nat.mod_eq_of_lt (by omega),Nat.mod_eq_of_lt (by omega)]
 exact wrk_nat (Nat.lt_of_le_of_lt Nat.and_le_left ha)
theorem shlK_nat {k:Nat} (hk:k≤62):shlK true 64 1 (k:Int)=((2 ^ k:Nat):Int):=by
 unfold shlK
 have h1:min ((k:Int)).toNat 64=k:=by simp;omega
 rw [h1]
 have hp:2 ^ k≤2 ^ 62:=Nat.pow_le_pow_right (by omega) hk
 have:=wrk_nat (n:=2 ^ k) (by omega)
 simpa using this
theorem shrK_nat {n k:Nat} (hk:k≤63):shrK 64 (n:Int) (k:Int)=((n >>> k:Nat):Int):=by
 unfold shrK
 have h1:min ((k:Int)).toNat 64=k:=by simp;omega
 rw [h1,Nat.shiftRight_eq_div_pow]
 rw [Int.fdiv_eq_ediv_of_nonneg _ (Int.le_of_lt (Int.pow_pos (by omega)))]
 simp
theorem bit_nat {n k:Nat} (hn:n < 9223372036854775808) (hk:k≤63):(andK true 64 (shrK 64 (n:Int) (k:Int)) 1 == 1)=n.testBit k:=by
 rw [shrK_nat hk]
 have h1:n >>> k < 9223372036854775808:=Nat.lt_of_le_of_lt (Nat.shiftRight_le n k) hn
 have:=andK_nat h1 (show 1 < 9223372036854775808 by omega)
 rw [show (1:Int)=((1:Nat):Int) from rfl,this]
 unfold Nat.testBit
 rw [Nat.and_comm]
 have hb:1 &&& n >>> k=0∨1 &&& n >>> k=1:=by
  have:1 &&& n >>> k≤1:=Nat.and_le_left
  omega
 rcases hb with h|h <;> rw [h] <;> rfl
end Go.Pu
namespace Go.PF
open Go.Pu
def bt' (n:Nat):Nat→Bool:=fun u=>n.testBit (u - 1)
def modB (K:List (List Int)) (n:Nat):Bool:=K.all fun c=>tc (bt' n) c
theorem impl_holds_eq {V:Int} {c:List Int} (hc:IsC V c) {n:Nat} (hn:n < 9223372036854775808):zdN c (n:Int)=some (tc (bt' n) c):=by
 unfold zdN
 rw [zeg (g:=tl (bt' n)) fun l hl=>?_]
 · rfl
 · have h1:=hc.lit l hl;have h2:=hc.hi
   have ha:zbb l=(l.natAbs:Int):=by rw [zeM (by unfold okI;omega),zbP (by omega) (by omega)]
   have hw:wr (zbb l - 1)=((l.natAbs - 1:Nat):Int):=by rw [ha,wr_of _ (by omega) (by omega)];omega
   show bd (nn (wr (zbb l - 1))) _=_
   rw [hw]
   have hnn:nn ((l.natAbs - 1:Nat):Int)=some ():=by unfold nn;rw [if_neg (by omega)]
   rw [hnn,zaa,bit_nat hn (by omega)]
   rfl
theorem contains_LL {c:List (List Int)} {f:List Int→Option Bool} {g:List Int→Bool} (h:∀ y∈c,f y=some (g y)):zdM c f=some (c.any g):=by
 obtain ⟨r,h1,h2⟩:=zfG h
 unfold zdM
 rw [h1,zaa,h2]
theorem zfg {V:Int} {K:List (List Int)} (hK:∀ c∈K,IsC V c) {n:Nat} (hn:n < 9223372036854775808):zcm K (n:Int)=some (modB K n):=by
 unfold zcm
 rw [contains_LL (g:=fun c=>!tc (bt' n) c) fun c hc=>?_]
 · rw [zaa]
   unfold modB
   congr 1
   induction K with
   | nil=>rfl
   | cons c K ih =>
    have:=ih fun d hd=>hK d (List.mem_cons_of_mem _ hd)
    simp only [List.any_cons,List.all_cons,Bool.not_or,Bool.not_not,this]
 · unfold zdO
   rw [impl_holds_eq (hK c hc) hn,zaa]
theorem modB_iff {K:List (List Int)} {n:Nat}:modB K n=true↔∀ c∈K,tc (bt' n) c=true:=by unfold modB;exact List.all_eq_true
end Go.PF
namespace Go.PF
open Go.Pu
def evR (n:Nat):Nat→(Nat→Int)→Int
 | 0,_=>0
 | V + 1,φ=>evR n V φ + (bif n.testBit V then φ V else 0)
theorem evR_congr {n:Nat}:∀ {V:Nat} {φ ψ:Nat→Int},(∀ k,k < V→φ k=ψ k)→evR n V φ=evR n V ψ
 | 0,_,_,_=>rfl
 | V + 1,φ,ψ,h=>by unfold evR;rw [evR_congr fun k hk=>h k (by omega),h V (by omega)]
theorem evR_add {n:Nat} {φ ψ:Nat→Int}:∀ {V:Nat},evR n V (fun k=>φ k + ψ k)=evR n V φ + evR n V ψ
 | 0=>rfl
 | V + 1=>by
  unfold evR;rw [evR_add]
  cases n.testBit V <;> simp only [cond_true,cond_false] <;> omega
theorem evR_mul {n:Nat} {φ:Nat→Int} {c:Int}:∀ {V:Nat},evR n V (fun k=>c * φ k)=c * evR n V φ
 | 0=>by simp [evR]
 | V + 1=>by
  unfold evR;rw [evR_mul,Int.mul_add]
  cases n.testBit V <;> simp
theorem evR_zero {n:Nat} {φ:Nat→Int}:∀ {V:Nat},(∀ k,k < V→φ k=0)→evR n V φ=0
 | 0,_=>rfl
 | V + 1,h=>by
  unfold evR;rw [evR_zero fun k hk=>h k (by omega),h V (by omega)]
  cases n.testBit V <;> rfl
theorem evR_bd {n:Nat} {φ:Nat→Int} {B:Int}:∀ {V:Nat},(∀ k,k < V→-B≤φ k∧φ k≤B)→-(B * V)≤evR n V φ∧evR n V φ≤B * V
 | 0,_=>by simp [evR]
 | V + 1,h=>by
  have h1:=evR_bd (n:=n) fun k hk=>h k (Nat.lt_succ_of_lt hk)
  have h2:=h V (by omega)
  unfold evR
  rw [show ((V + 1:Nat):Int)=(V:Int) + 1 by omega,Int.mul_add,Int.mul_one]
  cases n.testBit V <;> simp only [cond_true,cond_false] <;> omega
def sg (l:Int):Int:=if 0 < l then 1 else -1
theorem evR_lit {n:Nat} {l:Int} (h0:l≠0):∀ {V:Nat},evR n V (cfA [l])=bif decide (l.natAbs≤V) then (bif n.testBit (l.natAbs - 1) then sg l else 0) else 0
 | 0=>by rw [show decide (l.natAbs≤0)=false from decide_eq_false (by omega)];rfl
 | V + 1=>by
  unfold evR;rw [evR_lit h0,cfA_one]
  by_cases h:l.natAbs≤V
  · rw [decide_eq_true h,decide_eq_true (Nat.le_succ_of_le h),if_neg (by omega),if_neg (by omega)]
    simp
  · rw [decide_eq_false h]
    by_cases h1:l.natAbs≤V + 1
    · have e:l.natAbs - 1=V:=by omega
      rw [decide_eq_true h1,e]
      unfold sg
      cases n.testBit V
      · rfl
      · simp only [cond_true,cond_false,Int.zero_add]
        by_cases hp:0 < l
        · rw [if_pos (by omega),if_pos hp]
        · rw [if_neg (by omega),if_pos (by omega),if_neg hp]
    · rw [decide_eq_false h1,if_neg (by omega),if_neg (by omega)]
      simp
theorem evR_sA {n V:Nat}:∀ {ls:List Int},(∀ l∈ls,l≠0∧l.natAbs≤V)→(0≤evR n V (sA ls) + negs ls)∧(tc (bt' n) ls=true→1≤evR n V (sA ls) + negs ls)
 | [],_=>⟨by rw [show evR n V (sA [])=0 from evR_zero fun _ _=>rfl];exact Int.le_refl _,fun h=>by cases h⟩
 | l::ls,h=>by
  have ih:=evR_sA (n:=n) fun x hx=>h x (List.mem_cons_of_mem _ hx)
  have hl:=h l (by simp)
  have e:evR n V (sA (l::ls))=evR n V (cfA [l]) + evR n V (sA ls):=evR_add (φ:=cfA [l]) (ψ:=sA ls)
  have e2:evR n V (cfA [l]) + (if l < 0 then 1 else 0)=bif tl (bt' n) l then 1 else 0:=by
   rw [evR_lit hl.1,decide_eq_true hl.2]
   unfold tl bt' sg
   by_cases hp:0 < l
   · rw [if_pos hp,if_neg (by omega),decide_eq_true hp]
     cases n.testBit (l.natAbs - 1) <;> rfl
   · rw [if_neg hp,if_pos (by omega),decide_eq_false hp]
     cases n.testBit (l.natAbs - 1) <;> rfl
  have e3:tc (bt' n) (l::ls)=(tl (bt' n) l || tc (bt' n) ls):=by unfold tc;rw [List.any_cons]
  rw [e,e3]
  unfold negs
  cases ht:tl (bt' n) l with
  | true=>rw [ht,cond_true] at e2;exact ⟨by omega,fun _=>by omega⟩
  | false =>
   rw [ht,cond_false] at e2
   exact ⟨by omega,fun h2=>by have:=ih.2 (by simpa using h2);omega⟩
theorem ev_clause {V:Int} {c:List Int} (hc:IsC V c) {n:Nat} (h:tc (bt' n) c=true):bC c≤evR n V.toNat (cfA c):=by
 have h0:=hc.lo
 have:=(evR_sA (n:=n) (V:=V.toNat) (ls:=c) fun l hl=>by have:=hc.lit l hl;omega).2 h
 rw [evR_congr (ψ:=cfA c) fun k _=>sA_cfA k hc.srt] at this
 unfold bC;omega
theorem dvd_up {k b s:Int} (hk:0 < k) (h:b≤k * s):-((-b) / k)≤s:=by
 have:-s≤(-b) / k:=(Int.le_ediv_iff_mul_le hk).2 (by rw [Int.neg_mul,Int.mul_comm];omega)
 omega
end Go.PF
namespace Go.PF
open Go.Pu
def gI (st:List zab) (k:Int):zaf:=((st[k.toNat]?).map zab.ineq).getD ⟨[],0⟩
def addQ (q r:zaf):zaf:=⟨List.zipWith (· + ·) q.coeffs r.coeffs,q.bound + r.bound⟩
def halfQ (q:zaf):zaf:=⟨q.coeffs.map (· / 2),upH q.bound⟩
theorem addQ_pl {V:Nat} {φ ψ:Nat→Int} {b d:Int}:addQ (plI V φ b) (plI V ψ d)=plI V (fun k=>φ k + ψ k) (b + d):=by
 unfold addQ plI
 simp only [List.zipWith_map,List.zipWith_self]
theorem halfQ_pl {V:Nat} {φ:Nat→Int} {b:Int}:halfQ (plI V (fun k=>2 * φ k) b)=plI V φ (upH b):=by
 unfold halfQ plI
 simp only [List.map_map]
 congr 1
 refine List.map_congr_left fun k _=>?_
 show 2 * φ k / 2=φ k
 omega
theorem pl_congr {V:Nat} {φ ψ:Nat→Int} {b:Int} (h:∀ k,k < V→φ k=ψ k):plI V φ b=plI V ψ b:=by
 unfold plI
 rw [List.map_congr_left fun k hk=>h k (List.mem_range.1 hk)]
structure AtP (V:Nat) (B:Int) (st:List zab) (k:Int) (φ:Nat→Int):Prop where
 k0:0≤k
 k1:k < st.length
 ex:∃ b,gI st k=plI V φ b∧-B≤b∧b≤B
theorem AtP.ix {V:Nat} {B:Int} {st:List zab} {k:Int} {φ:Nat→Int} (h:AtP V B st k φ):∃ s,Pu.ix st k=some s∧s.ineq=gI st k:=by
 obtain ⟨s,h1,h2⟩:=ix_of (xs:=st) h.k0 h.k1
 exact ⟨s,h1,by unfold gI;rw [h2];rfl⟩
theorem gI_app {st t:List zab} {k:Int} (h0:0≤k) (h1:k < st.length):gI (st++t) k=gI st k:=by
 unfold gI;rw [List.getElem?_append_left (by omega)]
theorem gI_last (st:List zab) (s:zab):gI (st++[s]) (len st)=s.ineq:=by
 unfold gI;rw [zak,Int.toNat_natCast,List.getElem?_append_right (Nat.le_refl _),Nat.sub_self];rfl
theorem AtP.app {V:Nat} {B:Int} {st:List zab} {k:Int} {φ:Nat→Int} (h:AtP V B st k φ) (t:List zab):AtP V B (st++t) k φ:=by
 refine ⟨h.k0,by have:=h.k1;simp;omega,?_⟩
 rw [gI_app h.k0 h.k1];exact h.ex
theorem AtP.mono {V:Nat} {B C:Int} {st:List zab} {k:Int} {φ:Nat→Int} (h:AtP V B st k φ) (hc:B≤C):AtP V C st k φ:=by
 obtain ⟨b,h1,h2,h3⟩:=h.ex
 exact ⟨h.k0,h.k1,b,h1,by omega,by omega⟩
theorem AtP.congr {V:Nat} {B:Int} {st:List zab} {k:Int} {φ ψ:Nat→Int} (h:AtP V B st k φ) (hc:∀ j,j < V→φ j=ψ j):AtP V B st k ψ:=by
 obtain ⟨b,h1,h2,h3⟩:=h.ex
 exact ⟨h.k0,h.k1,b,by rw [h1,pl_congr hc],h2,h3⟩
def lstp (V:Nat) (w:List zab×Int) (l:Int):List zab×Int :=
 (w.1++[⟨plI V (cfA [l]) (bL l),if l < 0 then 3 else 2,vr l,0,0⟩]++[⟨addQ (gI w.1 w.2) (plI V (cfA [l]) (bL l)),4,w.2,len w.1,0⟩],len w.1 + 1)
theorem lstp_at {V:Nat} {B:Int} {w:List zab×Int} {φ:Nat→Int} (h:AtP V B w.1 w.2 φ) (l:Int) :
 AtP V (B + 1) (lstp V w l).1 (lstp V w l).2 (fun k=>φ k + cfA [l] k)∧(lstp V w l).1.length=w.1.length + 2∧∃ t,(lstp V w l).1=w.1++t:=by
 obtain ⟨b,h1,h2,h3⟩:=h.ex
 refine ⟨⟨by unfold lstp;rw [zak];simp only;omega,by unfold lstp;simp [zak] <;> omega,b + bL l,?_,?_,?_⟩,by unfold lstp;simp,_,by unfold lstp;simp only;rw [List.append_assoc]⟩
 · unfold lstp
   simp only
   have:=gI_last (w.1++[⟨plI V (cfA [l]) (bL l),if l < 0 then 3 else 2,vr l,0,0⟩]) ⟨addQ (gI w.1 w.2) (plI V (cfA [l]) (bL l)),4,w.2,len w.1,0⟩
   rw [show len w.1 + 1=len (w.1++[(⟨plI V (cfA [l]) (bL l),if l < 0 then 3 else 2,vr l,0,0⟩:zab)]) by rw [zak,zak];simp,this,h1]
   exact addQ_pl
 · unfold bL;split <;> omega
 · unfold bL;split <;> omega
theorem lits_at {V:Nat}:∀ {ls:List Int} {B:Int} {w:List zab×Int} {φ:Nat→Int},AtP V B w.1 w.2 φ →
 AtP V (B + ls.length) (ls.foldl (lstp V) w).1 (ls.foldl (lstp V) w).2 (fun k=>φ k + sA ls k)∧(ls.foldl (lstp V) w).1.length=w.1.length + 2 * ls.length∧∃ t,(ls.foldl (lstp V) w).1=w.1++t
 | [],B,w,φ,h=>⟨(h.mono (by simp)).congr fun k _=>by simp [sA],rfl,[],by simp⟩
 | l::ls,B,w,φ,h=>by
  obtain ⟨h1,h2,t,h3⟩:=lstp_at h l
  obtain ⟨g1,g2,u,g3⟩:=lits_at (ls:=ls) h1
  rw [List.foldl_cons]
  refine ⟨(g1.mono (by rw [List.length_cons];omega)).congr fun k _=>by simp only [sA];omega,by rw [g2,h2,List.length_cons];omega,t++u,by rw [g3,h3,List.append_assoc]⟩
section
variable {V:Int} (hV:0≤V∧V≤12)
include hV
theorem spec_lround {β:Type} {st:List zab} {now l B:Int} {φ:Nat→Int} (h:AtP V.toNat B st now φ) (hB:B≤100000) (hφ:∀ k,k < V.toNat→-1000≤φ k∧φ k≤1000) (hl:-V≤l∧l≤V∧l≠0) (hs:st.length≤100000) {kind:Int} (hk:kind=if l < 0 then 3 else 2) {K:List zab→Int→Option β} :
 (bd (zbt V l) fun q=>bd (zaD st kind (zaH l) 0 0 q) fun r=>bd (ix r now) fun y=>bd (ix r (wr (len r - 1))) fun z=>bd (zaZ y.ineq z.ineq) fun a=>bd (zaD r 4 now (wr (len r - 1)) 0 a) fun t=>K t (wr (len t - 1)))=K (lstp V.toNat (st,now) l).1 (lstp V.toNat (st,now) l).2:=by
 have hlim:lim=4294967296:=rfl
 obtain ⟨b,b1,b2,b3⟩:=h.ex
 have hbl:-1≤bL l∧bL l≤0:=by unfold bL;split <;> omega
 rw [spec_l17Literal_eq hV hl.1 hl.2.1 hl.2.2,zaa]
 unfold zaD
 rw [zaB (by simp;omega),zaa,zaa]
 obtain ⟨s,s1,s2⟩:=(h.app [⟨plI V.toNat (cfA [l]) (bL l),kind,zaH l,0,0⟩]).ix
 rw [s1,zaa]
 have hw:wr (len (st++[(⟨plI V.toNat (cfA [l]) (bL l),kind,zaH l,0,0⟩:zab)]) - 1)=((st.length:Nat):Int):=by
  rw [zak,List.length_append,List.length_singleton,wr_of _ (by omega) (by omega)];omega
 rw [hw,zaA,List.getElem?_append_right (Nat.le_refl _),Nat.sub_self,List.getElem?_cons_zero,zaa,s2,gI_app h.k0 h.k1,b1]
 simp only
 rw [zeS (by omega) (fun k hk=>by have:=hφ k hk;omega) (fun k hk=>by have:=cfA_bd [l] k;omega) (by omega) (by omega),zaa,zaB (by simp;omega),zaa,zaa]
 unfold lstp
 simp only
 rw [b1,addQ_pl,hk,zak st,zee]
 congr 1
 rw [zak];simp only [List.length_append,List.length_singleton]
 rw [wr_of _ (by omega) (by omega)];omega
theorem spec_lits {ls:List Int} (hls:∀ l∈ls,-V≤l∧l≤V∧l≠0) (hn:ls.length≤12) {body:List zab×Int×Int→Option (Lp (List zab×Int×Int) Empty)}
 (hb:∀ st now (i:Int),body (st,now,i)=bif decide (i < len ls) then bd (ix ls i) (fun x=>bif decide (x < 0) then bd (ix ls i) (fun x1=>bd (ix ls i) fun x2=>bd (zbt V x2) fun q=>bd (zaD st 3 (zaH x1) 0 0 q) fun r=>bd (ix r now) fun y=>bd (ix r (wr (len r - 1))) fun z=>bd (zaZ y.ineq z.ineq) fun a=>bd (zaD r 4 now (wr (len r - 1)) 0 a) fun t=>some (.nx (t,wr (len t - 1),wr (i + 1))))
  else bd (ix ls i) (fun x1=>bd (ix ls i) fun x2=>bd (zbt V x2) fun q=>bd (zaD st 2 (zaH x1) 0 0 q) fun r=>bd (ix r now) fun y=>bd (ix r (wr (len r - 1))) fun z=>bd (zaZ y.ineq z.ineq) fun a=>bd (zaD r 4 now (wr (len r - 1)) 0 a) fun t=>some (.nx (t,wr (len t - 1),wr (i + 1))))) else some (.bk (st,now,i))) :
 ∀ (m:List Int) (k:Nat) (st:List zab) (now B:Int) (φ:Nat→Int),k + m.length=ls.length→(∀ i y,m[i]?=some y→ls[k + i]?=some y)→AtP V.toNat B st now φ→B + m.length≤100000→(∀ j,j < V.toNat→-(1000 - m.length)≤φ j∧φ j≤1000 - m.length)→st.length + 2 * m.length≤100000 →
  iter body (st,now,(k:Int))=some (.go ((m.foldl (lstp V.toNat) (st,now)).1,(m.foldl (lstp V.toNat) (st,now)).2,(ls.length:Int))):=by
 intro m
 induction m with
 | nil =>
  intro k st now B φ hk _ _ _ _ _
  simp only [List.length_nil,Nat.add_zero] at hk
  subst hk
  refine zbc ?_
  rw [hb,show decide ((ls.length:Int) < len ls)=false by rw [decide_eq_false_iff_not,zak];omega];rfl
 | cons l m ih =>
  intro k st now B φ hk hm hA hB hφ hs
  simp only [List.length_cons] at hk hB hφ hs
  have hx:ls[k]?=some l:=by have:=hm 0 l rfl;simpa using this
  have hl:=hls l (List.mem_of_getElem? hx)
  have w1:wr ((k:Int) + 1)=((k + 1:Nat):Int):=by rw [wr_of _ (by omega) (by omega)];omega
  have e:body (st,now,(k:Int))=some (.nx ((lstp V.toNat (st,now) l).1,(lstp V.toNat (st,now) l).2,((k + 1:Nat):Int))):=by
   rw [hb,show decide ((k:Int) < len ls)=true by rw [decide_eq_true_eq,zak];omega,cond_true,zaA,hx,zaa,zaa,zaa,w1]
   by_cases h0:l < 0
   · rw [show decide (l < 0)=true from decide_eq_true h0,cond_true]
     rw [spec_lround hV hA (by omega) (fun j hj=>by have:=hφ j hj;omega) hl (by omega) (kind:=3) (by rw [if_pos h0]) (K:=fun t n=>some (Lp.nx (t,n,((k + 1:Nat):Int))))]
   · rw [show decide (l < 0)=false from decide_eq_false h0,cond_false]
     rw [zaa,zaa,spec_lround hV hA (by omega) (fun j hj=>by have:=hφ j hj;omega) hl (by omega) (kind:=2) (by rw [if_neg h0]) (K:=fun t n=>some (Lp.nx (t,n,((k + 1:Nat):Int))))]
  rw [zbn e,List.foldl_cons]
  obtain ⟨g1,g2,_⟩:=lstp_at (w:=(st,now)) hA l
  exact ih (k + 1) _ _ (B + 1) (fun j=>φ j + cfA [l] j) (by omega) (fun i y hy=>by have:=hm (i + 1) y (by simpa using hy);rwa [show k + (i + 1)=k + 1 + i by omega] at this) g1 (by omega)
   (fun j hj=>by have:=hφ j hj;have:=cfA_bd [l] j;omega) (by rw [g2];simp only;omega)
end
end Go.PF
namespace Go.PF
open Go.Pu
theorem loop_ix {T σ α X B:Type} (mk:σ→Int→T) {xs:List α} {body:T→Option (Lp T X)} {t0:T} {k:T→Option B} {lx:X→Option B} {R:B→Prop} (I:Nat→σ→Prop) {s0:σ} (ht:t0=mk s0 0) (h0:I 0 s0)
 (h:∀ (i:Nat) x s,xs[i]?=some x→I i s→∃ s',body (mk s (i:Int))=some (.nx (mk s' ((i:Int) + 1)))∧I (i + 1) s') (he:∀ s,I xs.length s→body (mk s (xs.length:Int))=some (.bk (mk s (xs.length:Int))))
 (hk:∀ s,I xs.length s→∃ r,k (mk s (xs.length:Int))=some r∧R r):∃ r,bdR (iter body t0) k lx=some r∧R r:=by
 subst ht
 have key:∀ (m:List α) (j:Nat) (s:σ),j + m.length=xs.length→(∀ i y,m[i]?=some y→xs[j + i]?=some y)→I j s→∃ s',iter body (mk s (j:Int))=some (.go (mk s' (xs.length:Int)))∧I xs.length s':=by
  intro m
  induction m with
  | nil =>
   intro j s hj _ hI
   simp only [List.length_nil,Nat.add_zero] at hj
   subst hj
   exact ⟨s,zbc (he s hI),hI⟩
  | cons y m ih =>
   intro j s hj hm hI
   obtain ⟨s',h1,h2⟩:=h j y s (by have:=hm 0 y rfl;simpa using this) hI
   rw [zbn h1]
   exact ih (j + 1) s' (by simp at hj;omega) (fun i z hz=>by have:=hm (i + 1) z (by simpa using hz);rwa [show j + (i + 1)=j + 1 + i by omega] at this) h2
 obtain ⟨s',h1,h2⟩:=key xs 0 s0 (by simp) (by simp) h0
 have h1':iter body (mk s0 0)=some (.go (mk s' (xs.length:Int))):=h1
 rw [h1',zaE]
 exact hk s' h2
theorem loop_l {σ α X B:Type} {xs:List α} {body:Nat→α→σ→Option (Lp σ X)} {k:σ→Option B} {lx:X→Option B} {R:B→Prop} (I:Nat→σ→Prop) {s0:σ} (h0:I 0 s0)
 (h:∀ (i:Nat) x s,xs[i]?=some x→I i s→∃ s',body i x s=some (.nx s')∧I (i + 1) s')
 (hk:∀ s,I xs.length s→∃ r,k s=some r∧R r):∃ r,bdR (forL xs body s0) k lx=some r∧R r:=by
 have key:∀ (m:List α) (j:Nat) (s:σ),j + m.length=xs.length→(∀ i y,m[i]?=some y→xs[j + i]?=some y)→I j s→∃ s',zaU body m j s=some (.go s')∧I xs.length s':=by
  intro m
  induction m with
  | nil =>
   intro j s hj _ hI
   simp only [List.length_nil,Nat.add_zero] at hj
   subst hj
   exact ⟨s,rfl,hI⟩
  | cons y m ih =>
   intro j s hj hm hI
   obtain ⟨s',h1,h2⟩:=h j y s (by have:=hm 0 y rfl;simpa using this) hI
   rw [forLFrom_nx h1]
   exact ih (j + 1) s' (by simp at hj;omega) (fun i z hz=>by have:=hm (i + 1) z (by simpa using hz);rwa [show j + (i + 1)=j + 1 + i by omega] at this) h2
 obtain ⟨s',h1,h2⟩:=key xs 0 s0 (by simp) (by simp) h0
 have h1':forL xs body s0=some (.go s'):=h1
 rw [h1',zaE]
 exact hk s' h2
end Go.PF
namespace Go.PF
open Go.Pu
theorem loop_r {σ X B:Type} {m:Nat} {body:Nat→σ→Option (Lp σ X)} {k:σ→Option B} {lx:X→Option B} {R:B→Prop} (I:Nat→σ→Prop) {s0:σ} (h0:I 0 s0)
 (h:∀ i s,i < m→I i s→(∃ s',body i s=some (.nx s')∧I (i + 1) s')∨∃ x r,body i s=some (.rt x)∧lx x=some r∧R r) (hk:∀ s,I m s→∃ r,k s=some r∧R r):∃ r,bdR (forR 0 m body s0) k lx=some r∧R r:=by
 have key:∀ (n i:Nat) (s:σ),i + n=m→I i s→∃ r,bdR (zbm body n i s) k lx=some r∧R r:=by
  intro n
  induction n with
  | zero=>intro i s hi hI;rw [Nat.add_zero] at hi;subst hi;exact hk s hI
  | succ n ih =>
   intro i s hi hI
   unfold zbm
   rcases h i s (by omega) hI with ⟨s',e,hI'⟩|⟨x,r,e,e2,hr⟩
   · rw [e];exact ih (i + 1) s' (by omega) hI'
   · rw [e];exact ⟨r,e2,hr⟩
 exact key m 0 s0 (by omega) h0
def satB (V:Nat) (K:List (List Int)):Bool:=(List.range (2 ^ V)).any (modB K)
theorem shl_vars {F:Cnf} (hF:cnfB F=true):shlK true 64 1 F.vars=((2 ^ F.vars.toNat:Nat):Int)∧2 ^ F.vars.toNat≤4096∧nn F.vars=some ()∧chk (shlK true 64 1 F.vars)=some (2 ^ F.vars.toNat):=by
 have hv:=zbD hF
 have hp:2 ^ F.vars.toNat≤2 ^ 12:=Nat.pow_le_pow_right (by omega) (by omega)
 have hs:shlK true 64 1 F.vars=((2 ^ F.vars.toNat:Nat):Int):=by
  have:=shlK_nat (k:=F.vars.toNat) (by omega)
  rwa [Int.toNat_of_nonneg hv.1] at this
 refine ⟨hs,hp,by unfold nn;rw [if_neg (by omega)],?_⟩
 rw [hs]
 unfold chk
 rw [if_pos (by omega),Int.toNat_natCast]
theorem zfH {F:Cnf} (hF:cnfB F=true):zd7 F=some (satB F.vars.toNat F.clauses,true):=by
 have hv:=zbD hF;have hC:=cnfB_isC hF;have hN:=zcv hF
 have hok:okCnf F:=⟨by unfold okI;omega,⟨by omega,fun c h=>(hC c h).ok⟩⟩
 obtain ⟨hs,hp,hnn,hck⟩:=shl_vars hF
 have key:∃ r,zd6 F.vars F.clauses=some r∧r=satB F.vars.toNat F.clauses:=by
  unfold zd6
  rw [hnn,zaa,hck,zaa]
  have:=loop_r (B:=Bool) (m:=2 ^ F.vars.toNat) (s0:=false) (k:=fun s=>some s) (lx:=fun x=>some x) (R:=fun r=>r=satB F.vars.toNat F.clauses) (body:=fun i156 s156=>bd (PF.zcm F.clauses ((i156:Nat):Int)) (fun r256=>bd (bif r256 then bd (β:=_) (some (true,false):Option (Bool×Bool)) (fun s278=>some (s278.1,(!s278.2))) else some (s156,false)) (fun t273=>(bif t273.2 then some (Lp.rt t273.1) else some (Lp.nx t273.1)))))
   (fun i s=>s=false∧∀ j,j < i→modB F.clauses j=false) ⟨rfl,fun j hj=>by omega⟩ (fun i s hi hs=>by
    obtain ⟨rfl,hs⟩:=hs
    rw [zfg hC (by omega),zaa]
    cases hm:modB F.clauses i with
    | true=>exact .inr ⟨true,true,rfl,rfl,(List.any_eq_true.2 ⟨i,List.mem_range.2 hi,hm⟩).symm⟩
    | false=>exact .inl ⟨false,rfl,rfl,fun j hj=>by
     rcases Nat.lt_succ_iff_lt_or_eq.1 hj with h|rfl
     · exact hs j h
     · exact hm⟩) (fun s hs=>⟨s,rfl,by
    rw [hs.1]
    symm
    unfold satB
    rw [Bool.eq_false_iff]
    intro h
    obtain ⟨j,hj,hm⟩:=List.any_eq_true.1 h
    rw [hs.2 j (List.mem_range.1 hj)] at hm;cases hm⟩)
  obtain ⟨r,e,hr⟩:=this
  exact ⟨r,by rw [e,zaa],hr⟩
 obtain ⟨r,e,rfl⟩:=key
 unfold zd7
 rw [zcO hok,zaa,hF]
 simp only [Bool.not_true,cond_false]
 rw [e,zaa]
end Go.PF
namespace Go.PF
open Go.Pu
def plB (V:Int) (q:zaf):Bool:=(len q.coeffs == V) && (inB q.bound (-10000) 10000 && q.coeffs.all fun x=>inB x (-1000) 1000)
structure IsPl (V:Int) (q:zaf):Prop where
 len:(q.coeffs.length:Int)=V
 bd:-10000≤q.bound∧q.bound≤10000
 cf:∀ x∈q.coeffs,-1000≤x∧x≤1000
theorem plB_iff {V:Int} {q:zaf}:plB V q=true↔IsPl V q:=by
 unfold plB
 rw [Bool.and_eq_true,Bool.and_eq_true,beq_iff_eq,zaF,List.all_eq_true]
 exact ⟨fun h=>⟨h.1,h.2.1,fun x hx=>zaF.1 (h.2.2 x hx)⟩,fun h=>⟨h.1,h.2,fun x hx=>zaF.2 (h.3 x hx)⟩⟩
theorem chk_ln {A:Type} {xs:List A} (h:xs.length≤1000000):chk (Pu.len xs)=some xs.length:=by
 unfold chk;rw [if_pos (by rw [zak];omega),zak];simp
theorem zeX {V:Int} (hV:0≤V∧V≤12) (q:zaf):zbV V q=some (plB V q):=by
 unfold zbV plB
 rw [zbx]
 cases hl:(Pu.len q.coeffs == V) with
 | false=>rfl
 | true =>
 cases hb:inB q.bound (-10000) 10000 with
 | false=>rfl
 | true =>
  have hl2:Pu.len q.coeffs=V:=eq_of_beq hl
  have hl3:=hl2
  rw [zak] at hl3
  simp only [Bool.not_true,cond_false,Bool.true_and]
  rw [← hl2,chk_ln (by omega),zaa]
  have:=loop_r (X:=Bool) (B:=Bool) (m:=q.coeffs.length) (s0:=()) (k:=fun _:Unit=>some true) (lx:=fun x:Bool=>some x) (R:=fun r=>r=q.coeffs.all fun x=>inB x (-1000) 1000)
   (body:=fun i47 s47=>bd (ix q.coeffs ((i47:Nat):Int)) (fun x82=>(bif (!(PF.zan x82 (-1000) 1000)) then some (Lp.rt false) else some (Lp.nx ()))))
   (fun i _=>∀ j x,j < i→q.coeffs[j]?=some x→inB x (-1000) 1000=true) (fun j x h=>by omega) (fun i s hi hI=>by
    obtain ⟨x,hx⟩:∃ x,q.coeffs[i]?=some x:=⟨_,List.getElem?_eq_getElem hi⟩
    rw [zaA,hx,zaa,zbx]
    cases hb:inB x (-1000) 1000 with
    | true=>exact .inl ⟨(),rfl,fun j y hj hy=>by
     by_cases e:j=i
     · subst e;rw [hx] at hy;cases hy;exact hb
     · exact hI j y (by omega) hy⟩
    | false=>exact .inr ⟨false,false,rfl,rfl,by
     symm;rw [List.all_eq_false]
     exact ⟨x,List.mem_of_getElem? hx,by rw [hb];simp⟩⟩)
   (fun s hI=>⟨true,rfl,by
    symm;rw [List.all_eq_true];intro x hx
    obtain ⟨j,hj,rfl⟩:=List.getElem_of_mem hx
    exact hI j _ hj (List.getElem?_eq_getElem hj)⟩)
  obtain ⟨r,e,rfl⟩:=this
  exact e
theorem zeY {V:Int} (hV:0≤V∧V≤12) (q:zaf):zcB V q=some (plB V q):=by
 unfold zcB plB
 rw [zeN,zdg.2 hV,zb8]
 simp only [cond_true]
 cases hl:(Pu.len q.coeffs == V) with
 | false=>rfl
 | true =>
 cases hb:inB q.bound (-10000) 10000 with
 | false=>rfl
 | true =>
  simp only [cond_true,Bool.true_and]
  rw [zeg (g:=fun y=>!inB y (-1000) 1000) (fun y _=>by unfold zcX;rw [zb8]),zaa,zaa,List.all_eq_not_any_not]
def cf (q:zaf) (k:Nat):Int:=(q.coeffs[k]?).getD 0
theorem zbS {V:Int} {q:zaf} (h:IsPl V q):q=plI V.toNat (cf q) q.bound:=by
 obtain ⟨c,b⟩:=q
 have hl:=h.len
 unfold plI
 congr 1
 refine pl_ext (by dsimp only at hl;omega) fun k hk=>?_
 unfold cf
 dsimp only at hl ⊢
 rw [List.getElem?_eq_getElem (by omega)];rfl
theorem cf_bd {V:Int} {q:zaf} (h:IsPl V q) (k:Nat):-1000≤cf q k∧cf q k≤1000:=by
 unfold cf
 cases hx:q.coeffs[k]? with
 | none=>exact ⟨by decide,by decide⟩
 | some x=>exact h.cf x (List.mem_of_getElem? hx)
theorem mul_sm {x c B C:Int} (h1:-B≤x) (h2:x≤B) (h0:0≤c) (hc:c≤C) (hB:0≤B):-(C * B)≤c * x∧c * x≤C * B:=by
 have a1:=Int.mul_le_mul_of_nonneg_left h2 h0
 have a2:=Int.mul_le_mul_of_nonneg_left h1 h0
 have a3:=Int.mul_le_mul_of_nonneg_right hc hB
 rw [Int.mul_neg] at a2
 omega
def addI (V:Int) (q r:zaf):zaf:=plI V.toNat (fun k=>cf q k + cf r k) (q.bound + r.bound)
def scaI (V:Int) (q:zaf) (c:Int):zaf:=plI V.toNat (fun k=>c * cf q k) (c * q.bound)
def upK (b c:Int):Int:=if b % c=0 then b / c else b / c + 1
def divI (V:Int) (q:zaf) (c:Int):zaf:=plI V.toNat (fun k=>cf q k / c) (upK q.bound c)
def divB (q:zaf) (c:Int):Bool:=q.coeffs.all fun x=>x.tmod c == 0
section
variable {V:Int} {q r:zaf}
theorem spec_add_eq (hV:0≤V∧V≤12) (hq:IsPl V q) (hr:IsPl V r):zaZ q r=some (addI V q r):=by
 have h1:=hq.bd;have h2:=hr.bd
 have:=zeS (V:=V.toNat) (by omega) (φ:=cf q) (ψ:=cf r) (b:=q.bound) (d:=r.bound) (fun k _=>by have:=cf_bd hq k;omega) (fun k _=>by have:=cf_bd hr k;omega) (by omega) (by omega)
 rwa [← zbS hq,← zbS hr] at this
theorem impl_add_eq (hV:0≤V∧V≤12) (hq:IsPl V q) (hr:IsPl V r):zc0 q r=some (addI V q r):=by
 have h1:=hq.bd;have h2:=hr.bd
 have:=impl_addPlanes_eq (V:=V.toNat) (by omega) (φ:=cf q) (ψ:=cf r) (b:=q.bound) (d:=r.bound) (fun k _=>by have:=cf_bd hq k;omega) (fun k _=>by have:=cf_bd hr k;omega) (by omega) (by omega)
 rwa [← zbS hq,← zbS hr] at this
theorem pl_len {V:Nat} {φ:Nat→Int} {b:Int}:Pu.len (plI V φ b).coeffs=(V:Int):=by rw [zak];show (((List.range V).map φ).length:Int)=_;simp
theorem spec_sca_pl {V:Nat} (hV:V≤12) {φ:Nat→Int} {b c:Int} (hφ:∀ k,k < V→-1000≤φ k∧φ k≤1000) (hb:-10000≤b∧b≤10000) (hc:0≤c∧c≤1000):zcA (plI V φ b) c=some (plI V (fun k=>c * φ k) (c * b)):=by
 have hlim:lim=4294967296:=rfl
 unfold zcA
 have hB:=mul_sm (c:=c) hb.1 hb.2 hc.1 hc.2 (by decide)
 rw [show wr ((plI V φ b).bound * c)=c * b from by rw [Int.mul_comm];exact wr_of _ (by show _≤c * b;omega) (by show c * b≤_;omega)]
 rw [zej (n:=V) (by omega) (f:=fun k=>c * φ k) (b:=c * b) (fun acc k hk ha=>by
  have h1:=hφ k hk
  have h2:=mul_sm (c:=c) h1.1 h1.2 hc.1 hc.2 (by decide)
  simp only [pl_len,show decide ((k:Int) < (V:Int))=true by rw [decide_eq_true_eq];omega,cond_true]
  rw [zaA,show (plI V φ b).coeffs[k]?=some (φ k) from pl_at φ hk,zaa,zaB (by simp;omega),zaa,Int.mul_comm,wr_of (c * φ k) (by omega) (by omega)])
  (fun acc=>by simp only [pl_len,show decide ((V:Int) < (V:Int))=false by rw [decide_eq_false_iff_not];omega,cond_false])]
 rfl
theorem spec_sca_eq (hV:0≤V∧V≤12) (hq:IsPl V q) {c:Int} (hc:0≤c∧c≤1000):zcA q c=some (scaI V q c):=by
 have:=spec_sca_pl (V:=V.toNat) (by omega) (φ:=cf q) (b:=q.bound) (c:=c) (fun k _=>cf_bd hq k) hq.bd hc
 rwa [← zbS hq] at this
theorem impl_sca_eq (hV:0≤V∧V≤12) (hq:IsPl V q) {c:Int} (hc:0≤c∧c≤1000):zdA q c=some (scaI V q c):=by
 unfold zdA
 have hB:=mul_sm (c:=c) hq.bd.1 hq.bd.2 hc.1 hc.2 (by decide)
 have:=zeT (V:=V.toNat) (by omega) (φ:=cf q) (ψ:=cf q) (b:=q.bound) (d:=q.bound) (f:=fun x0 x1=>some (PF.zcj x0 x1 c)) (g:=fun k=>c * cf q k) (e:=c * q.bound) (by unfold zcj;rw [wr_of _ (by omega) (by omega)]) (fun k hk=>by
  have h1:=cf_bd hq k
  have h2:=mul_sm (c:=c) h1.1 h1.2 hc.1 hc.2 (by decide)
  unfold zcj;rw [wr_of _ (by omega) (by omega)])
 rw [← zbS hq] at this
 rw [this,zaa];rfl
theorem tdiv_c (a c:Int):a.tdiv c=if 0≤a then a / c else -((-a) / c):=by
 split
 · exact Int.tdiv_eq_ediv_of_nonneg (by omega)
 · rw [← Int.neg_neg a,Int.neg_tdiv,Int.tdiv_eq_ediv_of_nonneg (by omega),Int.neg_neg]
theorem tmod_c (a c:Int):a.tmod c=if 0≤a then a % c else -((-a) % c):=by
 split
 · exact Int.tmod_eq_emod_of_nonneg (by omega)
 · rw [← Int.neg_neg a,Int.neg_tmod,Int.tmod_eq_emod_of_nonneg (by omega),Int.neg_neg]
theorem div_form {c:Int} (hc:0 < c) (a t:Int) (h0:0≤t) (h1:t < c):(c * a + t) / c=a∧(c * a + t) % c=t:=by
 rw [Int.add_comm,Int.add_mul_ediv_left _ _ (by omega),Int.ediv_eq_zero_of_lt h0 h1,Int.add_mul_emod_self_left,Int.emod_eq_of_lt h0 h1]
 exact ⟨by omega,rfl⟩
theorem up_neg {c:Int} (hc:0 < c) (b:Int):-((-b) / c)=upK b c:=by
 have h:=Int.mul_ediv_add_emod b c
 have h0:=Int.emod_nonneg b (show c≠0 by omega);have h1:=Int.emod_lt_of_pos b hc
 unfold upK
 generalize b / c=d at *
 generalize b % c=t at *
 subst h
 by_cases ht:t=0
 · subst ht
   have:=div_form hc (-d) 0 (by omega) hc
   rw [if_pos rfl,show -(c * d + 0)=c * -d + 0 by rw [Int.mul_neg];omega,this.1];omega
 · have:=div_form hc (-d - 1) (c - t) (by omega) (by omega)
   rw [if_neg ht,show -(c * d + t)=c * (-d - 1) + (c - t) by rw [Int.mul_sub,Int.mul_neg,Int.mul_one];omega,this.1];omega
theorem up_pos {c:Int} (hc:0 < c) (b:Int):(b + c - 1) / c=upK b c:=by
 have h:=Int.mul_ediv_add_emod b c
 have h0:=Int.emod_nonneg b (show c≠0 by omega);have h1:=Int.emod_lt_of_pos b hc
 unfold upK
 generalize b / c=d at *
 generalize b % c=t at *
 subst h
 by_cases ht:t=0
 · subst ht
   have:=div_form hc d (c - 1) (by omega) (by omega)
   rw [if_pos rfl,show c * d + 0 + c - 1=c * d + (c - 1) by omega,this.1]
 · have:=div_form hc (d + 1) (t - 1) (by omega) (by omega)
   rw [if_neg ht,show c * d + t + c - 1=c * (d + 1) + (t - 1) by rw [Int.mul_add,Int.mul_one];omega,this.1]
theorem div_bd {c a B:Int} (hc:0 < c) (h1:-B≤a) (h2:a≤B) (hB:0≤B):-B - 1≤a / c∧a / c≤B:=by
 have h:=Int.mul_ediv_add_emod a c
 have h0:=Int.emod_nonneg a (show c≠0 by omega);have h3:=Int.emod_lt_of_pos a hc
 constructor
 · refine (Int.le_ediv_iff_mul_le hc).2 ?_
   have:(-B - 1) * c≤(-B - 1) * 1:=Int.mul_le_mul_of_nonpos_left (by omega) (by omega)
   omega
 · have:=Int.ediv_le_ediv hc h2
   have h4:=Int.ediv_le_self c hB
   omega
theorem spec_up_eq {b c:Int} (hb:-10000≤b∧b≤10000) (hc:2≤c∧c≤1000):zcg b c=some (upK b c):=by
 have hz:nz c=some ():=by unfold nz;rw [if_neg (by omega)]
 unfold zcg
 rw [hz]
 by_cases h:0 < b
 · rw [show decide (0 < b)=true from decide_eq_true h,cond_true,zaa,wr_of (b + c) (by omega) (by omega),wr_of (b + c - 1) (by omega) (by omega),tdiv_c,if_pos (by omega),← up_pos (by omega) b]
   have:=div_bd (c:=c) (a:=b + c - 1) (B:=20000) (by omega) (by omega) (by omega) (by omega)
   rw [wr_of _ (by omega) (by omega)]
 · have:=div_bd (c:=c) (a:=-b) (B:=20000) (by omega) (by omega) (by omega) (by omega)
   rw [show decide (0 < b)=false from decide_eq_false h,cond_false,zaa,wr_of (-b) (by omega) (by omega),tdiv_c,if_pos (by omega),wr_of (-b / c) (by omega) (by omega),wr_of _ (by omega) (by omega),up_neg (by omega)]
theorem impl_up_eq {b c:Int} (hb:-10000≤b∧b≤10000) (hc:2≤c∧c≤1000):zdC b c=some (upK b c):=by
 have hz:nz c=some ():=by unfold nz;rw [if_neg (by omega)]
 unfold zdC
 rw [hz,zaa,zaa,tdiv_c,tmod_c]
 by_cases h:0≤b
 · have:=div_bd (c:=c) (a:=b) (B:=20000) (by omega) (by omega) (by omega) (by omega)
   have h0:=Int.emod_nonneg b (show c≠0 by omega)
   rw [if_pos h,if_pos h,wr_of (b / c) (by omega) (by omega)]
   unfold upK
   by_cases ht:b % c=0
   · rw [if_pos ht,decide_eq_false (by omega)];rfl
   · rw [if_neg ht,decide_eq_true (by omega),cond_true,wr_of _ (by omega) (by omega)]
 · have h0:=Int.emod_nonneg (-b) (show c≠0 by omega)
   have:=div_bd (c:=c) (a:=-b) (B:=20000) (by omega) (by omega) (by omega) (by omega)
   rw [if_neg h,if_neg h,decide_eq_false (by omega),cond_false,wr_of _ (by omega) (by omega),up_neg (by omega)]
theorem tmod_zero {a c:Int} (hc:0 < c) (h:a.tmod c=0):a % c=0:=by
 rw [tmod_c] at h
 split at h
 · exact h
 · have h2:(-a) % c=0:=by omega
   have:=Int.dvd_of_emod_eq_zero h2
   exact Int.emod_eq_zero_of_dvd (Int.dvd_neg.1 this)
theorem tdiv_zero {a c:Int} (hc:0 < c) (h:a.tmod c=0):a.tdiv c=a / c:=by
 have h2:=tmod_zero hc h
 rw [tdiv_c]
 split
 · rfl
 · rw [up_neg hc];unfold upK;rw [if_pos h2]
theorem least_or {P:Nat→Bool}:∀ V:Nat,(∀ k,k < V→P k=true)∨∃ k,k < V∧P k=false∧∀ j,j < k→P j=true
 | 0=>.inl fun k h=>by omega
 | V + 1=>by
  rcases least_or (P:=P) V with h|⟨k,h1,h2,h3⟩
  · by_cases hp:P V=true
    · refine .inl fun k hk=>?_
      by_cases hk2:k=V
      · rw [hk2];exact hp
      · exact h k (by omega)
    · exact .inr ⟨V,by omega,by simpa using hp,h⟩
  · exact .inr ⟨k,by omega,h2,h3⟩
theorem iter_range_rt {X:Type} {n:Nat} (hn:n≤100000) {f:Nat→Int} {b:Int} {x:X} {body:List Int×Int×Int→Option (Lp (List Int×Int×Int) X)}
    (hb:∀ (acc:List Int) (k:Nat),k < n→acc.length=k→body (acc,b,(k:Int))=some (.nx (acc++[f k],b,wr ((k:Int) + 1)))) (he:∀ acc,body (acc,b,(n:Int))=some (.rt x)) :
    iter body ([],b,0)=some (.rt x):=by
  have key:∀ (m k:Nat),k + m=n→iter body ((List.range k).map f,b,(k:Int))=some (.rt x):=by
    intro m
    induction m with
    | zero => intro k hk;obtain rfl:k=n:=by omega
              exact iter_rt (he _)
    | succ m ih =>
      intro k hk
      have:=hb ((List.range k).map f) k (by omega) (by simp)
      rw [wr_of _ (by omega) (by omega),show ((k:Int) + 1)=((k + 1:Nat):Int) by omega] at this
      rw [zbn this]
      have e:=ih (k + 1) (by omega)
      rw [List.range_succ,List.map_append] at e
      exact e
  exact key n 0 (by omega)
theorem divB_pl {V:Nat} {φ:Nat→Int} {b c:Int}:divB (plI V φ b) c=true↔∀ k,k < V→(φ k).tmod c=0:=by
 unfold divB plI
 rw [List.all_eq_true]
 constructor
 · intro h k hk;exact eq_of_beq (h (φ k) (List.mem_map.2 ⟨k,List.mem_range.2 hk,rfl⟩))
 · intro h x hx
   obtain ⟨k,hk,rfl⟩:=List.mem_map.1 hx
   rw [h k (List.mem_range.1 hk)];rfl
theorem spec_div_pl {V:Nat} (hV:V≤12) {φ:Nat→Int} {b c:Int} (hφ:∀ k,k < V→-1000≤φ k∧φ k≤1000) (hb:-10000≤b∧b≤10000) (hc:2≤c∧c≤1000) :
 zbF (plI V φ b) c=some (bif divB (plI V φ b) c then (plI V (fun k=>φ k / c) (upK b c),true) else (⟨[],0⟩,false)):=by
 have hlim:lim=4294967296:=rfl
 have hz:nz c=some ():=by unfold nz;rw [if_neg (by omega)]
 unfold zbF
 rw [show (plI V φ b).bound=b from rfl,spec_up_eq hb hc,zaa]
 rcases least_or (P:=fun k=>(φ k).tmod c == 0) V with h|⟨n,h1,h2,h3⟩
 · rw [divB_pl.2 fun k hk=>eq_of_beq (h k hk),cond_true]
   rw [zej (n:=V) (by omega) (f:=fun k=>φ k / c) (b:=upK b c) (fun acc k hk ha=>by
    have h1:=hφ k hk
    have h2:((φ k).tmod c == 0)=true:=h k hk
    have h4:=div_bd (c:=c) (a:=φ k) (B:=20000) (by omega) (by omega) (by omega) (by omega)
    simp only [pl_len,show decide ((k:Int) < (V:Int))=true by rw [decide_eq_true_eq];omega,cond_true]
    rw [zaA,show (plI V φ b).coeffs[k]?=some (φ k) from pl_at φ hk,zaa,hz,zaa,h2]
    simp only [Bool.not_true,cond_false]
    rw [zaa,zaa,zaB (by simp;omega),zaa,tdiv_zero (by omega) (eq_of_beq h2),wr_of (φ k / c) (by omega) (by omega)])
    (fun acc=>by simp only [pl_len,show decide ((V:Int) < (V:Int))=false by rw [decide_eq_false_iff_not];omega,cond_false])]
   rfl
 · have hd:divB (plI V φ b) c=false:=by
    rw [Bool.eq_false_iff];intro g
    have:=divB_pl.1 g n h1
    have h2':((φ n).tmod c == 0)=false:=h2
    rw [this] at h2';cases h2'
   rw [hd,cond_false]
   rw [iter_range_rt (n:=n) (by omega) (f:=fun k=>φ k / c) (b:=upK b c) (x:=((⟨[],0⟩:zaf),false)) (fun acc k hk ha=>by
    have h1:=hφ k (by omega)
    have h2:((φ k).tmod c == 0)=true:=h3 k hk
    have h4:=div_bd (c:=c) (a:=φ k) (B:=20000) (by omega) (by omega) (by omega) (by omega)
    simp only [pl_len,show decide ((k:Int) < (V:Int))=true by rw [decide_eq_true_eq];omega,cond_true]
    rw [zaA,show (plI V φ b).coeffs[k]?=some (φ k) from pl_at φ (by omega),zaa,hz,zaa,h2]
    simp only [Bool.not_true,cond_false]
    rw [zaa,zaa,zaB (by simp;omega),zaa,tdiv_zero (by omega) (eq_of_beq h2),wr_of (φ k / c) (by omega) (by omega)])
    (fun acc=>by
     have h2':((φ n).tmod c == 0)=false:=h2
     simp only [pl_len,show decide ((n:Int) < (V:Int))=true by rw [decide_eq_true_eq];omega,cond_true]
     rw [zaA,show (plI V φ b).coeffs[n]?=some (φ n) from pl_at φ h1,zaa,hz,zaa,h2']
     rfl)]
   rfl
theorem spec_div_eq (hV:0≤V∧V≤12) (hq:IsPl V q) {c:Int} (hc:2≤c∧c≤1000):zbF q c=some (bif divB q c then (divI V q c,true) else (⟨[],0⟩,false)):=by
 have:=spec_div_pl (V:=V.toNat) (by omega) (φ:=cf q) (b:=q.bound) (c:=c) (fun k _=>cf_bd hq k) hq.bd hc
 rwa [← zbS hq] at this
theorem impl_div_eq (hV:0≤V∧V≤12) (hq:IsPl V q) {c:Int} (hc:2≤c∧c≤1000):zdD q c=some (bif divB q c then (divI V q c,true) else (⟨[],0⟩,false)):=by
 have hz:nz c=some ():=by unfold nz;rw [if_neg (by omega)]
 unfold zdD
 rw [zeg (g:=fun y=>!(y.tmod c == 0)) (fun y _=>by unfold zdB;rw [hz,zaa]),zaa]
 have e:(q.coeffs.any fun y=>!(y.tmod c == 0))=!divB q c:=by unfold divB;rw [List.all_eq_not_any_not,Bool.not_not]
 rw [e]
 cases hd:divB q c with
 | false=>rfl
 | true =>
  simp only [Bool.not_true,cond_false,cond_true]
  have hd2:=hd
  rw [zbS hq] at hd2
  have hm:=divB_pl.1 hd2
  have:=zeT (V:=V.toNat) (by omega) (φ:=cf q) (ψ:=cf q) (b:=q.bound) (d:=q.bound) (f:=fun x0 x1=>PF.zcE x0 x1 c) (g:=fun k=>cf q k / c) (e:=upK q.bound c)
   (by unfold zcE;rw [impl_up_eq hq.bd hc,zaa]) (fun k hk=>by
    have h1:=cf_bd hq k
    unfold zcE;rw [impl_up_eq (by omega) hc,zaa]
    unfold upK;rw [if_pos (tmod_zero (by omega) (hm k hk))])
  rw [← zbS hq] at this
  rw [this,zaa];rfl
end
end Go.PF
namespace Go.PF
open Go.Pu
def sameQ (q r:zaf):Bool:=(q.coeffs == r.coeffs) && (q.bound == r.bound)
theorem sameQ_iff {q r:zaf}:sameQ q r=true↔q=r:=by
 obtain ⟨a,b⟩:=q;obtain ⟨c,d⟩:=r
 unfold sameQ
 rw [Bool.and_eq_true,beq_iff_eq,beq_iff_eq]
 simp
theorem zcQ (q r:zaf):zbX q r=some (sameQ q r):=by
 unfold zbX sameQ
 rw [zef,zaa,bif_ff]
theorem impl_samePlane_eq (q r:zaf):zdF q r=some (sameQ r q):=by
 unfold zdF
 rw [zfE]
 have e:sameQ r q=(bif q.bound == r.bound then q.coeffs == r.coeffs else false):=by
  rw [Bool.eq_iff_iff,sameQ_iff,bif_ff,Bool.and_eq_true,beq_iff_eq,beq_iff_eq]
  obtain ⟨a,b⟩:=q;obtain ⟨c,d⟩:=r
  simp only [zaf.mk.injEq]
  exact ⟨fun h=>⟨h.2.symm,h.1.symm⟩,fun h=>⟨h.2.symm,h.1.symm⟩⟩
 rw [e]
 cases q.bound == r.bound <;> rfl
def okPl (S:List zab):Prop:=S.length≤100000
def preQ (V:Int) (S:List zab) (i:Nat) (a:Int):Bool:=inB a 0 ((i:Int) - 1) && plB V (gI S a)
def clF (F:Cnf) (a:Int):List Int:=(F.clauses[a.toNat]?).getD []
def dueQ (F:Cnf) (S:List zab) (i:Nat) (s:zab):Option zaf :=
 bif s.kind == 1 then (bif (s.b == 0 && s.k == 0) && inB s.a 0 (len F.clauses - 1) then some (plI F.vars.toNat (cfA (clF F s.a)) (bC (clF F s.a))) else none)
 else bif s.kind == 2 then (bif (s.b == 0 && s.k == 0) && inB s.a 1 F.vars then some ⟨(List.replicate F.vars.toNat 0).set (s.a - 1).toNat 1,0⟩ else none)
 else bif s.kind == 3 then (bif (s.b == 0 && s.k == 0) && inB s.a 1 F.vars then some ⟨(List.replicate F.vars.toNat 0).set (s.a - 1).toNat (-1),-1⟩ else none)
 else bif s.kind == 4 then (bif s.k == 0 && (preQ F.vars S i s.a && preQ F.vars S i s.b) then some (addI F.vars (gI S s.a) (gI S s.b)) else none)
 else bif s.kind == 5 then (bif (s.b == 0 && preQ F.vars S i s.a) && inB s.k 1 1000 then some (scaI F.vars (gI S s.a) s.k) else none)
 else bif s.kind == 6 then (bif ((s.b == 0 && preQ F.vars S i s.a) && inB s.k 2 1000) && divB (gI S s.a) s.k then some (divI F.vars (gI S s.a) s.k) else none)
 else none
def za4 (F:Cnf) (S:List zab) (i:Nat) (s:zab):Bool:=plB F.vars s.ineq && (match dueQ F S i s with|some q=>sameQ s.ineq q|none=>false)
section
variable {F:Cnf} {S:List zab} {i:Nat} {s:zab}
theorem gI_ix {k:Int} (h0:0≤k) (h1:k < S.length):∃ y,ix S k=some y∧y.ineq=gI S k:=by
 obtain ⟨y,hy,hg⟩:=ix_of (xs:=S) h0 h1
 exact ⟨y,hy,by unfold gI;rw [hg];rfl⟩
theorem pre_spec (hV:0≤F.vars∧F.vars≤12) (hi:i < S.length) (a:Int) {w:Int} (hw:w=(i:Int) - 1):(bif zan a 0 w then bd (ix S a) (fun x=>bd (PF.zbV F.vars x.ineq) (fun r=>some r)) else some false)=some (preQ F.vars S i a):=by
 subst hw
 rw [zbx]
 unfold preQ
 cases hb:inB a 0 ((i:Int) - 1) with
 | false=>rfl
 | true =>
  have:=zaF.1 hb
  obtain ⟨y,h1,h2⟩:=gI_ix (S:=S) (k:=a) (by omega) (by omega)
  rw [cond_true,h1,zaa,zeX hV,zaa,h2];rfl
theorem pre_impl (hV:0≤F.vars∧F.vars≤12) (hS:okPl S) (hi:i < S.length) (a:Int):zcY F S (i:Int) a=some (bif preQ F.vars S i a then (gI S a,true) else (⟨[],0⟩,false)):=by
 unfold okPl at hS
 unfold zcY preQ
 rw [wr_of ((i:Int) - 1) (by omega) (by omega),zb8]
 cases hb:inB a 0 ((i:Int) - 1) with
 | false=>rfl
 | true =>
  have:=zaF.1 hb
  obtain ⟨y,h1,h2⟩:=gI_ix (S:=S) (k:=a) (by omega) (by omega)
  simp only [Bool.not_true,cond_false,Bool.true_and]
  rw [h1,zaa,zeY hV,zaa,zaa,h2,zaa]
  cases plB F.vars (gI S a) with
  | false=>rfl
  | true=>rw [← h2];rfl
theorem clF_at (hF:cnfB F=true) {a:Int} (h:inB a 0 (len F.clauses - 1)=true):ix F.clauses a=some (clF F a)∧IsC F.vars (clF F a):=by
 have:=zaF.1 h
 rw [zak] at this
 obtain ⟨c,h1,h2⟩:=ix_of (xs:=F.clauses) (i:=a) (by omega) (by omega)
 unfold clF
 rw [h2]
 exact ⟨h1,cnfB_isC hF c (List.mem_of_getElem? h2)⟩
theorem zbT {a:Int} (h:preQ F.vars S i a=true):(0≤a∧a < i)∧IsPl F.vars (gI S a):=by
 unfold preQ at h
 rw [Bool.and_eq_true] at h
 have:=zaF.1 h.1
 exact ⟨⟨by omega,by omega⟩,plB_iff.1 h.2⟩
theorem spec_l16Correct_eq (hF:cnfB F=true) (hS:okPl S) (hs:S[i]?=some s):zdH F S (i:Int)=some (za4 F S i s):=by
 have hV:0≤F.vars∧F.vars≤12:=zbD hF
 have hi:=(List.getElem?_eq_some_iff.1 hs).1
 have hN:=zcv hF
 unfold okPl at hS
 have hw:wr ((i:Int) - 1)=(i:Int) - 1:=wr_of _ (by omega) (by omega)
 have hw2:wr (len F.clauses - 1)=len F.clauses - 1:=zbQ (by omega)
 unfold zdH za4
 rw [zaA,hs,zaa,zeX hV,zaa,hw2]
 cases hp:plB F.vars s.ineq with
 | false=>rfl
 | true =>
 simp only [Bool.not_true,cond_false,Bool.true_and]
 rw [pre_spec hV hi s.a hw,zaa]
 obtain ⟨q,kd,a,b,k⟩:=s
 dsimp only
 unfold dueQ
 dsimp only
 by_cases h1:kd=1
 · subst h1
   simp only [beq_self_eq_true,cond_true,zbx]
   cases b == 0 with
   | false=>rfl
   | true =>
   cases k == 0 with
   | false=>rfl
   | true =>
   cases ha:inB a 0 (len F.clauses - 1) with
   | false=>rfl
   | true =>
    obtain ⟨e1,e2⟩:=clF_at hF ha
    simp only [cond_true,Bool.and_self]
    rw [e1,zaa,zeR e2,zaa,zcQ,zaa,zaa]
 rw [beq_eq_false_iff_ne.2 h1]
 simp only [cond_false]
 by_cases h2:kd=2
 · subst h2
   simp only [beq_self_eq_true,cond_true,zbx]
   cases b == 0 with
   | false=>rfl
   | true =>
   cases k == 0 with
   | false=>rfl
   | true =>
   cases ha:inB a 1 F.vars with
   | false=>rfl
   | true =>
    have h3:=zaF.1 ha
    simp only [cond_true,Bool.and_self]
    unfold zbk
    rw [zb0 hV h3,zaa,zcQ,zaa,zaa]
 rw [beq_eq_false_iff_ne.2 h2]
 simp only [cond_false]
 by_cases h3:kd=3
 · subst h3
   simp only [beq_self_eq_true,cond_true,zbx]
   cases b == 0 with
   | false=>rfl
   | true =>
   cases k == 0 with
   | false=>rfl
   | true =>
   cases ha:inB a 1 F.vars with
   | false=>rfl
   | true =>
    have h3:=zaF.1 ha
    simp only [cond_true,Bool.and_self]
    unfold zbk
    rw [zb0 hV h3,zaa,zcQ,zaa,zaa]
 rw [beq_eq_false_iff_ne.2 h3]
 simp only [cond_false]
 by_cases h4:kd=4
 · subst h4
   simp only [beq_self_eq_true,cond_true]
   cases k == 0 with
   | false=>rfl
   | true =>
   cases ha:preQ F.vars S i a with
   | false=>rfl
   | true =>
    simp only [cond_true,Bool.true_and]
    rw [pre_spec hV hi b hw,zaa]
    cases hb:preQ F.vars S i b with
    | false=>rfl
    | true =>
     obtain ⟨⟨a1,a2⟩,a3⟩:=zbT ha
     obtain ⟨⟨b1,b2⟩,b3⟩:=zbT hb
     obtain ⟨y,y1,y2⟩:=gI_ix (S:=S) (k:=a) (by omega) (by omega)
     obtain ⟨z,z1,z2⟩:=gI_ix (S:=S) (k:=b) (by omega) (by omega)
     simp only [cond_true]
     rw [y1,zaa,z1,zaa,y2,z2,spec_add_eq hV a3 b3,zaa,zcQ,zaa,zaa]
 rw [beq_eq_false_iff_ne.2 h4]
 simp only [cond_false]
 by_cases h5:kd=5
 · subst h5
   simp only [beq_self_eq_true,cond_true,zbx]
   cases b == 0 with
   | false=>rfl
   | true =>
   cases ha:preQ F.vars S i a with
   | false=>rfl
   | true =>
   cases hk:inB k 1 1000 with
   | false=>rfl
   | true =>
    have:=zaF.1 hk
    obtain ⟨⟨a1,a2⟩,a3⟩:=zbT ha
    obtain ⟨y,y1,y2⟩:=gI_ix (S:=S) (k:=a) (by omega) (by omega)
    simp only [cond_true,Bool.and_self]
    rw [y1,zaa,y2,spec_sca_eq hV a3 (by omega),zaa,zcQ,zaa,zaa]
 rw [beq_eq_false_iff_ne.2 h5]
 simp only [cond_false]
 by_cases h6:kd=6
 · subst h6
   simp only [beq_self_eq_true,cond_true,zbx]
   cases b == 0 with
   | false=>rfl
   | true =>
   cases ha:preQ F.vars S i a with
   | false=>rfl
   | true =>
   cases hk:inB k 2 1000 with
   | false=>rfl
   | true =>
    have:=zaF.1 hk
    obtain ⟨⟨a1,a2⟩,a3⟩:=zbT ha
    obtain ⟨y,y1,y2⟩:=gI_ix (S:=S) (k:=a) (by omega) (by omega)
    simp only [cond_false,Bool.not_true,Bool.and_self]
    rw [y1,zaa,y2,spec_div_eq hV a3 this,zaa]
    cases divB (gI S a) k with
    | false=>rfl
    | true =>
     simp only [cond_true,Bool.and_self]
     rw [zcQ];rfl
 rw [beq_eq_false_iff_ne.2 h6]
 rfl
def dueV (F:Cnf) (S:List zab) (i:Nat) (s:zab):zaf×Bool:=match dueQ F S i s with|some q=>(q,true)|none=>(⟨[],0⟩,false)
theorem impl_planeDue_eq (hF:cnfB F=true) (hS:okPl S) (hs:S[i]?=some s):zdE F S (i:Int)=some (dueV F S i s):=by
 have hV:0≤F.vars∧F.vars≤12:=zbD hF
 have hi:=(List.getElem?_eq_some_iff.1 hs).1
 have hN:=zcv hF
 have hw2:wr (len F.clauses - 1)=len F.clauses - 1:=zbQ (by omega)
 unfold zdE dueV
 rw [zaA,hs,zaa,pre_impl hV hS hi,zaa,pre_impl hV hS hi,zaa,hw2]
 obtain ⟨q,kd,a,b,k⟩:=s
 dsimp only
 unfold dueQ
 dsimp only
 simp only [zb8,impl_isVar_eq]
 by_cases h1:kd=1
 · subst h1
   simp only [beq_self_eq_true,cond_true,show ((1:Int) == 2)=false from rfl,show ((1:Int) == 3)=false from rfl,show ((1:Int) == 4)=false from rfl,show ((1:Int) == 5)=false from rfl,show ((1:Int) == 6)=false from rfl,cond_false]
   cases ha:inB a 0 (len F.clauses - 1) with
   | false=>simp
   | true =>
   cases b == 0 with
   | false=>rfl
   | true =>
   cases k == 0 with
   | false=>rfl
   | true =>
    obtain ⟨e1,e2⟩:=clF_at hF ha
    simp only [cond_true,Bool.and_self]
    rw [e1,zaa,impl_planeOf_eq e2,zaa]
 simp only [beq_eq_false_iff_ne.2 h1,cond_false]
 by_cases h2:kd=2
 · subst h2
   simp only [beq_self_eq_true,cond_true,show ((2:Int) == 3)=false from rfl,show ((2:Int) == 4)=false from rfl,show ((2:Int) == 5)=false from rfl,show ((2:Int) == 6)=false from rfl,cond_false]
   cases ha:inB a 1 F.vars with
   | false=>simp
   | true =>
   cases b == 0 with
   | false=>rfl
   | true =>
   cases k == 0 with
   | false=>rfl
   | true =>
    have h3:=zaF.1 ha
    simp only [cond_true,Bool.and_self]
    unfold zcZ
    rw [zb0 hV h3,zaa]
 simp only [beq_eq_false_iff_ne.2 h2,cond_false]
 by_cases h3:kd=3
 · subst h3
   simp only [beq_self_eq_true,cond_true,show ((3:Int) == 4)=false from rfl,show ((3:Int) == 5)=false from rfl,show ((3:Int) == 6)=false from rfl,cond_false]
   cases ha:inB a 1 F.vars with
   | false=>simp
   | true =>
   cases b == 0 with
   | false=>rfl
   | true =>
   cases k == 0 with
   | false=>rfl
   | true =>
    have h3:=zaF.1 ha
    simp only [cond_true,Bool.and_self]
    unfold zcZ
    rw [zb0 hV h3,zaa]
 simp only [beq_eq_false_iff_ne.2 h3,cond_false]
 by_cases h4:kd=4
 · subst h4
   simp only [beq_self_eq_true,cond_true,show ((4:Int) == 5)=false from rfl,show ((4:Int) == 6)=false from rfl,cond_false]
   cases ha:preQ F.vars S i a with
   | false=>simp
   | true =>
   cases hb:preQ F.vars S i b with
   | false=>simp
   | true =>
   cases k == 0 with
   | false=>rfl
   | true =>
    obtain ⟨_,a3⟩:=zbT ha
    obtain ⟨_,b3⟩:=zbT hb
    simp only [cond_true,Bool.and_self]
    rw [impl_add_eq hV a3 b3,zaa]
 simp only [beq_eq_false_iff_ne.2 h4,cond_false]
 by_cases h5:kd=5
 · subst h5
   simp only [beq_self_eq_true,cond_true,show ((5:Int) == 6)=false from rfl,cond_false]
   cases ha:preQ F.vars S i a with
   | false=>simp
   | true =>
   cases b == 0 with
   | false=>rfl
   | true =>
   cases hk:inB k 1 1000 with
   | false=>rfl
   | true =>
    have:=zaF.1 hk
    obtain ⟨_,a3⟩:=zbT ha
    simp only [cond_true,Bool.and_self]
    rw [impl_sca_eq hV a3 (by omega),zaa]
 simp only [beq_eq_false_iff_ne.2 h5,cond_false]
 by_cases h6:kd=6
 · subst h6
   simp only [beq_self_eq_true,cond_true]
   cases ha:preQ F.vars S i a with
   | false=>simp
   | true =>
   cases b == 0 with
   | false=>rfl
   | true =>
   cases hk:inB k 2 1000 with
   | false=>rfl
   | true =>
    have:=zaF.1 hk
    obtain ⟨_,a3⟩:=zbT ha
    simp only [cond_true,Bool.and_self]
    rw [impl_div_eq hV a3 this,zaa]
    cases divB (gI S a) k <;> rfl
 rw [beq_eq_false_iff_ne.2 h6]
 rfl
theorem zfI (hF:cnfB F=true) (hS:okPl S) (hs:S[i]?=some s):zdG F S (i:Int)=some (za4 F S i s):=by
 have hV:0≤F.vars∧F.vars≤12:=zbD hF
 unfold zdG za4
 rw [impl_planeDue_eq hF hS hs,zaa,zaA,hs]
 unfold dueV
 cases dueQ F S i s with
 | none=>simp
 | some q =>
  simp only [cond_true,zaa]
  rw [zeY hV,zaa,zaa]
  cases plB F.vars s.ineq with
  | false=>rfl
  | true=>rw [cond_true,impl_samePlane_eq,zaa,zaa];rfl
end
end Go.PF
namespace Go.PF
open Go.Pu
theorem forR_fold {S X:Type} {α:Type} {xs:List α} {body:Nat→S→Option (Lp S X)} {F:S→α→S} (I:Nat→S→Prop) {s0:S} (h0:I 0 s0)
 (h:∀ i x s,xs[i]?=some x→I i s→body i s=some (.nx (F s x))∧I (i + 1) (F s x)):forR 0 xs.length body s0=some (.go (xs.foldl F s0)):=by
 have key:∀ (m:List α) (k:Nat) (s:S),(∀ i y,m[i]?=some y→xs[k + i]?=some y)→I k s→zbm body m.length k s=some (.go (m.foldl F s)):=by
  intro m
  induction m with
  | nil=>intro k s _ _;rfl
  | cons y m ih =>
   intro k s hm hI
   obtain ⟨h1,h2⟩:=h k y s (by have:=hm 0 y rfl;simpa using this) hI
   simp only [List.length_cons,zbm,h1,List.foldl_cons]
   exact ih (k + 1) (F s y) (fun i z hz=>by have:=hm (i + 1) z (by simpa using hz);rwa [show k + (i + 1)=k + 1 + i by omega] at this) h2
 unfold forR
 exact key xs 0 s0 (by simp) h0
theorem chk_len {A:Type} {xs:List A} (h:xs.length≤2):chk (len xs)=some xs.length:=by
 unfold chk;rw [if_pos (by rw [zak];omega),zak];simp
structure IsPv (n:Nat) (out:List (List Int)):Prop where
 len:out.length=n
 asc:∀ y∈out,Asc y
 sm:∀ y∈out,∀ z∈y,1≤z∧z≤12
end Go.PF
namespace Go.PF
open Go.Pu
theorem take_rev {α:Type} {xs:List α} {k:Nat} {x:α} (hx:xs[k]?=some x):(xs.take (k + 1)).zipIdx.reverse=(x,k)::(xs.take k).zipIdx.reverse:=by
 obtain ⟨hk,he⟩:=List.getElem?_eq_some_iff.1 hx
 rw [← he,List.take_succ_eq_append_getElem hk,List.zipIdx_append]
 simp [Nat.min_eq_left (Nat.le_of_lt hk)]
theorem iter_down {σ α X:Type} {xs:List α} {body:σ×Int→Option (Lp (σ×Int) X)} {F:σ→α×Nat→σ} (I:Nat→σ→Prop) {s0:σ} (h0:I xs.length s0)
 (h:∀ (i:Nat) x s,xs[i]?=some x→I (i + 1) s→body (s,(i:Int))=some (.nx (F s (x,i),(i:Int) - 1))∧I i (F s (x,i))) (he:∀ s,body (s,-1)=some (.bk (s,-1))) :
 iter body (s0,len xs - 1)=some (.go (xs.zipIdx.reverse.foldl F s0,-1))∧I 0 (xs.zipIdx.reverse.foldl F s0):=by
 have key:∀ (k:Nat) (s:σ),k≤xs.length→I k s→iter body (s,(k:Int) - 1)=some (.go ((xs.take k).zipIdx.reverse.foldl F s,-1))∧I 0 ((xs.take k).zipIdx.reverse.foldl F s):=by
  intro k
  induction k with
  | zero=>intro s _ hI;exact ⟨zbc (he s),hI⟩
  | succ k ih =>
   intro s hk hI
   obtain ⟨x,hx⟩:∃ x,xs[k]?=some x:=⟨_,List.getElem?_eq_getElem (by omega)⟩
   obtain ⟨h1,h2⟩:=h k x s hx hI
   rw [take_rev hx,List.foldl_cons,show ((k + 1:Nat):Int) - 1=(k:Int) by omega,zbn h1]
   exact ih _ (by omega) h2
 have:=key xs.length s0 (Nat.le_refl _) h0
 rwa [List.take_length] at this
theorem bdR_down {σ α X β:Type} {xs:List α} {body:σ×Int→Option (Lp (σ×Int) X)} {k:σ×Int→Option β} {l:X→Option β} {r:Option β} (F:σ→α×Nat→σ) (I:Nat→σ→Prop) {s0:σ} (h0:I xs.length s0)
 (h:∀ (i:Nat) x s,xs[i]?=some x→I (i + 1) s→body (s,(i:Int))=some (.nx (F s (x,i),(i:Int) - 1))∧I i (F s (x,i))) (he:∀ s,body (s,-1)=some (.bk (s,-1)))
 (hk:∀ s,I 0 s→k (s,-1)=r):bdR (iter body (s0,len xs - 1)) k l=r:=by
 obtain ⟨h1,h2⟩:=iter_down I h0 h he
 rw [h1,zaE];exact hk _ h2
def bAt (M:List Bool) (i:Nat):Bool:=(M[i]?).getD false
def setT (M:List Bool) (ks:List Int):List Bool:=ks.foldl (fun M k=>M.set k.toNat true) M
theorem setT_len:∀ {ks:List Int} {M:List Bool},(setT M ks).length=M.length:=by
 intro ks
 induction ks with
 | nil=>intro M;rfl
 | cons k ks ih=>intro M;unfold setT at ih ⊢;rw [List.foldl_cons,ih];simp
theorem setT_out:∀ {ks:List Int} {M:List Bool} {i j:Nat},(∀ k∈ks,0≤k∧k < j)→j≤i→(setT M ks)[i]?=M[i]?:=by
 intro ks
 induction ks with
 | nil=>intro M i j _ _;rfl
 | cons k ks ih =>
  intro M i j h hi
  have h1:=h k (by simp)
  have:=ih (M:=M.set k.toNat true) (i:=i) (fun z hz=>h z (by simp [hz])) hi
  unfold setT at this ⊢
  rw [List.foldl_cons,this,List.getElem?_set_ne (by omega)]
theorem setT_in:∀ {ks:List Int} {M:List Bool} {k:Int},(∀ k∈ks,0≤k∧k < M.length)→(k∈ks∨bAt M k.toNat=true)→bAt (setT M ks) k.toNat=true:=by
  intro ks
  induction ks with
  | nil => intro M k _ hk;rcases hk with h|h;· cases h
           · exact h
  | cons z ks ih =>
    intro M k h hk
    have h1:=h z (by simp)
    have h2:=ih (M:=M.set z.toNat true) (k:=k) (fun y hy=>by have:=h y (by simp [hy]);simpa using this) (by
      rcases hk with hk|hk
      · rcases List.mem_cons.1 hk with rfl|hk
        · right;unfold bAt;rw [List.getElem?_set_self (by omega)];rfl
        · exact .inl hk
      · right
        unfold bAt at hk ⊢
        rw [List.getElem?_set]
        split
        · rw [if_pos (by omega)];rfl
        · exact hk)
    unfold setT at h2 ⊢
    rw [List.foldl_cons];exact h2
theorem setT_set {ks:List Int}:∀ {M:List Bool} {j:Nat},(∀ k∈ks,0≤k∧k < j)→(setT M ks).set j true=setT (M.set j true) ks:=by
 induction ks with
 | nil=>intro M j _;rfl
 | cons k ks ih =>
  intro M j h
  have h1:=h k (by simp)
  have:=ih (M:=M.set k.toNat true) (j:=j) (fun z hz=>h z (by simp [hz]))
  unfold setT at this ⊢
  rw [List.foldl_cons,List.foldl_cons,this,List.set_comm _ _ (by omega)]
def nst (M:List Bool) (p:zae×Nat):List Bool:=bif bAt M p.2 then setT M (prem p.1) else M
theorem nst_len {M:List Bool} {p:zae×Nat}:(nst M p).length=M.length:=by unfold nst;cases bAt M p.2 <;> simp [setT_len]
def rem (S:List zae) (k:Nat) (M:List Bool):List Bool:=(S.take k).zipIdx.reverse.foldl nst M
def mask (S:List zae):List Bool:=rem S S.length ((List.replicate S.length false).set (S.length - 1) true)
theorem rem_succ {S:List zae} {k:Nat} {x:zae} (hx:S[k]?=some x) (M:List Bool):rem S (k + 1) M=rem S k (nst M (x,k)):=by
 unfold rem;rw [take_rev hx,List.foldl_cons]
theorem rem_len {S:List zae}:∀ {k:Nat} {M:List Bool},k≤S.length→(rem S k M).length=M.length:=by
 intro k
 induction k with
 | zero=>intro M _;rfl
 | succ k ih =>
  intro M hk
  obtain ⟨x,hx⟩:∃ x,S[k]?=some x:=⟨_,List.getElem?_eq_getElem (by omega)⟩
  rw [rem_succ hx,ih (by omega),nst_len]
theorem mask_len (S:List zae):(mask S).length=S.length:=by unfold mask;rw [rem_len (Nat.le_refl _)];simp
theorem uses_loop {us:List Int} {M:List Bool} {i:Nat} (hi:i < M.length) (hu:∀ k∈us,0≤k∧k < i) (hl:us.length≤2) {f:List Bool×Int→Option (Lp (List Bool×Int) Empty)}
 (hf:∀ s,f s=bd (bif decide (s.2 < len us) then bd (ix s.1 (i:Int)) (fun x=>some x) else some false) (fun t=>bif t then bd (ix us s.2) (fun x=>bd (ix s.1 x) (fun _=>bd (put s.1 x true) (fun xs=>some (.nx (xs,wr (s.2 + 1)))))) else some (.bk (s.1,s.2)))) :
 ∃ k,iter f (M,0)=some (.go (bif bAt M i then setT M us else M,k)):=by
 have hat:∀ {M:List Bool},i < M.length→ix M (i:Int)=some (bAt M i):=fun {M} h=>by rw [zaA];unfold bAt;rw [List.getElem?_eq_getElem h];rfl
 cases hb:bAt M i with
 | false =>
  refine ⟨0,zbc ?_⟩
  rw [hf]
  simp only [hat hi,hb]
  cases decide ((0:Int) < len us) <;> rfl
 | true =>
  refine ⟨us.length,?_⟩
  have:=iter_foldI (X:=Empty) (xs:=us) (body:=f) (F:=fun M k=>M.set k.toNat true) (s0:=M) (fun _ N=>N.length=M.length∧bAt N i=true) ⟨rfl,hb⟩ (fun j k N hk hN=>by
   have hj:=(List.getElem?_eq_some_iff.1 hk).1
   have hkb:=hu k (List.mem_of_getElem? hk)
   rw [hf]
   have hd:decide ((j:Int) < len us)=true:=by rw [zak];simp;omega
   obtain ⟨y,hy,_⟩:=ix_of (xs:=N) hkb.1 (by omega)
   have hp:put N k true=some (N.set k.toNat true):=by
    have:=zbH (xs:=N) (i:=k.toNat) (x:=true) (by omega)
    rwa [show ((k.toNat:Nat):Int)=k by omega] at this
   simp only [hd,cond_true,hat (show i < N.length by omega),hN.2,zaa,zaA,hk,hy,hp]
   rw [wr_succ hj (by omega)]
   refine ⟨rfl,by simpa using hN.1,?_⟩
   have h2:=hN.2
   unfold bAt at h2 ⊢
   rw [List.getElem?_set_ne (by omega)];exact h2) (fun N=>by
   rw [hf]
   have hd:decide ((us.length:Int) < len us)=false:=by rw [zak];simp
   simp only [hd,cond_false,zaa])
  simp only [cond_true]
  exact this.1
theorem wr_down {i n:Nat} (h:i < n) (hn:n≤9223372036854775807):wr ((i:Int) - 1)=(i:Int) - 1:=wr_of _ (by omega) (by omega)
theorem ix_len {A:Type} {M:List A} {i:Nat} (h:i < M.length):∃ y,ix M (i:Int)=some y:=⟨_,by rw [zaA,List.getElem?_eq_getElem h]⟩
end Go.PF
