/- Part of the walks and plain laws behind the claim: it proves helpers, under no condition beyond their own. -/
import Derived.Test.YtkaikagbfoadpaaGreatPpLC
import Derived.Test.YtkaikagbfoadpaaGreatPpLB
import Derived.Test.YtkaikagbfoadpaaGreatPpSh
import Derived.Test.YtkaikagbfoadpaaGreatPpPf
import Derived.Test.YtkaikagbfoadpaaGreatProg
set_option linter.unusedVariables false
set_option maxRecDepth 100000
namespace Go.Proofs
open Go.Mr Go.Pu Go.PF Go.RowKit Tryz
@[reducible] def tx1_0:ByteArray:=ByteArray.mk #[48,49,50,51,52,53,54,55,56,57]
@[reducible] def tx1_1:ByteArray:=ByteArray.mk #[48,59,32,110,111,110,101]
@[reducible] def tx1_2:ByteArray:=ByteArray.mk #[49,59,32,49,59,32,45,49]
@[reducible] def tx1_3:ByteArray:=ByteArray.mk #[50,59,32,49,32,50,59,32,45,49,59,32,45,50,59,32,49,32,45,50]
@[reducible] def tx1_4:ByteArray:=ByteArray.mk #[50,59,32,49,32,50,59,32,49,32,45,50,59,32,45,49,32,50,59,32,45,49,32,45,50]
@[reducible] def tx1_5:ByteArray:=ByteArray.mk #[50,59,32,49,59,32,45,49,32,50,59,32,45,50]
@[reducible] def tx1_6:ByteArray:=ByteArray.mk #[50,59,32,49,59,32,45,49,59,32,50]
@[reducible] def tx1_7:ByteArray:=ByteArray.mk #[51,59,32,49,32,45,50,59,32,50,32,45,51,59,32,51,32,45,49,59,32,49,32,50,32,51,59,32,45,49,32,45,50,32,45,51]
@[reducible] def tx1_8:ByteArray:=ByteArray.mk #[51,59,32,49,32,50,32,51,59,32,49,32,50,32,45,51,59,32,49,32,45,50,59,32,45,49,32,51,59,32,45,49,32,45,51]
@[reducible] def tx1_9:ByteArray:=ByteArray.mk #[51,59,32,49,32,50,59,32,45,49,32,50,59,32,45,50,32,51,59,32,45,50,32,45,51]
@[reducible] def tx1_10:ByteArray:=ByteArray.mk #[51,59,32,49,32,50,59,32,45,49,32,51,59,32,45,50,32,51,59,32,45,51]
@[reducible] def tx1_11:ByteArray:=ByteArray.mk #[51,59,32,49,32,50,59,32,50,32,51,59,32,49,32,51,59,32,45,49,32,45,50,59,32,45,50,32,45,51,59,32,45,49,32,45,51]
@[reducible] def tx1_12:ByteArray:=ByteArray.mk #[51,59,32,49,59,32,45,49,32,50,59,32,45,50,32,51,59,32,45,51]
@[reducible] def tx1_13:ByteArray:=ByteArray.mk #[52,59,32,49,32,50,59,32,45,49,32,45,50,59,32,50,32,51,59,32,45,50,32,45,51,59,32,51,32,52,59,32,45,51,32,45,52,59,32,49,32,52,32,45,51,59,32,45,49,32,45,52,59,32,49,32,45,52,59,32,45,49,32,52]
@[reducible] def tx1_14:ByteArray:=ByteArray.mk #[52,59,32,49,32,50,59,32,51,32,52,59,32,45,49,32,45,51,59,32,45,50,32,45,52,59,32,45,49,32,45,52,59,32,45,50,32,45,51]
@[reducible] def tx1_15:ByteArray:=ByteArray.mk #[52,59,32,49,59,32,50,59,32,45,49,32,45,50,32,51,59,32,45,51,32,52,59,32,45,52]

def eCnf:Enc Cnf:=⟨fun H cs s=>∃ v0,cs=[vI s.vars,v0]∧RSl H (eL eI 1) 1 v0 s.clauses,fun hi ⟨v0,h,h0⟩=>⟨_,h,h0.mono hi⟩,by rintro H cs s ⟨v0,rfl,h0⟩;exact (zbu rfl (zbu h0.one zac)),by rintro H cs s ⟨v0,rfl,h0⟩ b hb;obtain ⟨u,hu,hn⟩:=mem_bl hb;simp only [List.mem_cons,List.not_mem_nil,or_false] at hu;rcases hu with rfl|rfl <;> first|(cases hn;done)|exact h0.dom b (mem_bl1 hn)⟩
def zam:Enc zab:=⟨fun H cs s=>∃ v0,cs=[v0,vI s.ineq.bound,vI s.kind,vI s.a,vI s.b,vI s.k]∧RSl H eI 1 v0 s.ineq.coeffs,fun hi ⟨v0,h,h0⟩=>⟨_,h,h0.mono hi⟩,by rintro H cs s ⟨v0,rfl,h0⟩;exact (zbu h0.one (zbu rfl (zbu rfl (zbu rfl (zbu rfl (zbu rfl zac)))))),by rintro H cs s ⟨v0,rfl,h0⟩ b hb;obtain ⟨u,hu,hn⟩:=mem_bl hb;simp only [List.mem_cons,List.not_mem_nil,or_false] at hu;rcases hu with rfl|rfl|rfl|rfl|rfl|rfl <;> first|(cases hn;done)|exact h0.dom b (mem_bl1 hn)⟩
theorem zap {H:GH} {cs:List Value} {s:zab} (h:zam.rel H cs s):∃ v0,cs=[v0,vI s.ineq.bound,vI s.kind,vI s.a,vI s.b,vI s.k]∧RSl H eI 1 v0 s.ineq.coeffs:=h

def zau:Enc zae:=⟨fun H cs s=>∃ v0,cs=[v0,vI s.left,vI s.right,vI s.pivot]∧RSl H eI 1 v0 s.clause,fun hi ⟨v0,h,h0⟩=>⟨_,h,h0.mono hi⟩,by rintro H cs s ⟨v0,rfl,h0⟩;exact (zbu h0.one (zbu rfl (zbu rfl (zbu rfl zac)))),by rintro H cs s ⟨v0,rfl,h0⟩ b hb;obtain ⟨u,hu,hn⟩:=mem_bl hb;simp only [List.mem_cons,List.not_mem_nil,or_false] at hu;rcases hu with rfl|rfl|rfl|rfl <;> first|(cases hn;done)|exact h0.dom b (mem_bl1 hn)⟩
theorem za6 {H:GH} {cs:List Value} {s:zae} (h:zau.rel H cs s):∃ v0,cs=[v0,vI s.left,vI s.right,vI s.pivot]∧RSl H eI 1 v0 s.clause:=h

def zd8 (P:Program) (H:GH) (v:Value) (p:Int→Option Bool):Prop :=
 ∀ (H':GH) (w':World),Inc H H'→Sl H' w'→∀ (x0:Int) (r:Bool),p x0=some r →
  ∃ (fid:Nat) (cs:Array Value),v=Value.func (.func fid) #[] cs∧(∀ args w,(callFunc fid args).run P w=.ok (.enter fid args) w)∧Calls P fid (#[vI x0]++cs) w' (Sc H' w' (vB r))
theorem zd8.mono {P:Program} {H H':GH} {v:Value} {p:Int→Option Bool} (h:zd8 P H v p) (hi:Inc H H'):zd8 P H' v p :=
 fun H2 w2 h2=>h H2 w2 (hi.tr h2)

def zex (P:Program) (H:GH) (v:Value) (p:Int→Int→Option Int):Prop :=
 ∀ (H':GH) (w':World),Inc H H'→Sl H' w'→∀ (x0:Int) (x1:Int) (r:Int),p x0 x1=some r →
  ∃ (fid:Nat) (cs:Array Value),v=Value.func (.func fid) #[] cs∧(∀ args w,(callFunc fid args).run P w=.ok (.enter fid args) w)∧Calls P fid (#[vI x0,vI x1]++cs) w' (Sc H' w' (vI r))
theorem zex.mono {P:Program} {H H':GH} {v:Value} {p:Int→Int→Option Int} (h:zex P H v p) (hi:Inc H H'):zex P H' v p :=
 fun H2 w2 h2=>h H2 w2 (hi.tr h2)

def zd9 (P:Program) (H:GH) (v:Value) (p:(List Int)→Option Bool):Prop :=
 ∀ (H':GH) (w':World),Inc H H'→Sl H' w'→∀ (x0:List Int) (y0_0:Value) (_z0_0:RSl H' eI 1 y0_0 x0) (r:Bool),p x0=some r →
  ∃ (fid:Nat) (cs:Array Value),v=Value.func (.func fid) #[] cs∧(∀ args w,(callFunc fid args).run P w=.ok (.enter fid args) w)∧Calls P fid (#[y0_0]++cs) w' (Sc H' w' (vB r))
theorem zd9.mono {P:Program} {H H':GH} {v:Value} {p:(List Int)→Option Bool} (h:zd9 P H v p) (hi:Inc H H'):zd9 P H' v p :=
 fun H2 w2 h2=>h H2 w2 (hi.tr h2)

theorem fa56_0 {cs c:List Value} (h:(cs.drop 0).take 2=c):∃ fields fd,prog.underlying 56=some (.struct fields)∧fields[0]?=some fd∧(∀ w,(isAgg fd.type).run prog w=.ok true w)∧(∀ w,(sizeOf fd.type).run prog w=.ok 2 w)∧(cs.drop fd.offset).take 2=c:=⟨_,_,Tryz.underlying56,rfl,Tryz.isAgg54,Tryz.sizeOf54,h⟩
theorem te108:TE prog 108 9 1 (.string ByteArray.empty):=⟨Tryz.underlying108,⟨Tryz.t9,Tryz.type9,rfl,rfl,by decide⟩,rfl,by decide⟩
theorem te22:TE prog 22 5 1 (.int .u8 0):=⟨Tryz.underlying22,⟨Tryz.t5,Tryz.type5,rfl,rfl,by decide⟩,rfl,by decide⟩
theorem te24:TE prog 24 52 1 (.slice none 0 0):=⟨Tryz.underlying24,⟨Tryz.t52,Tryz.type52,rfl,rfl,by decide⟩,rfl,by decide⟩
theorem te46:TE prog 46 56 6 (.agg #[(.slice none 0 0),(.int .i64 0),(.int .i64 0),(.int .i64 0),(.int .i64 0),(.int .i64 0)]):=⟨Tryz.underlying46,⟨Tryz.t56,Tryz.type56,rfl,rfl,by decide⟩,rfl,by decide⟩
theorem te52:TE prog 52 3 1 (.int .i64 0):=⟨Tryz.underlying52,⟨Tryz.t3,Tryz.type3,rfl,rfl,by decide⟩,rfl,by decide⟩
theorem te61:TE prog 61 134 4 (.agg #[(.slice none 0 0),(.int .i64 0),(.int .i64 0),(.int .i64 0)]):=⟨Tryz.underlying61,⟨Tryz.t134,Tryz.type134,rfl,rfl,by decide⟩,rfl,by decide⟩
theorem te76:TE prog 76 4 1 (.bool false):=⟨Tryz.underlying76,⟨Tryz.t4,Tryz.type4,rfl,rfl,by decide⟩,rfl,by decide⟩
theorem tf103_0:TF prog 103 0 0:=⟨_,_,_,Tryz.underlying103,rfl,rfl,Tryz.sizeOf22,by decide⟩
theorem tf103_1:TF prog 103 1 1:=⟨_,_,_,Tryz.underlying103,rfl,rfl,Tryz.sizeOf3,by decide⟩
theorem tf103_2:TF prog 103 2 2:=⟨_,_,_,Tryz.underlying103,rfl,rfl,Tryz.sizeOf101,by decide⟩
theorem za0:TF prog 134 0 0:=⟨_,_,_,Tryz.underlying134,rfl,rfl,Tryz.sizeOf52,by decide⟩
theorem za8:TF prog 134 1 1:=⟨_,_,_,Tryz.underlying134,rfl,rfl,Tryz.sizeOf3,by decide⟩
theorem zbj:TF prog 134 2 2:=⟨_,_,_,Tryz.underlying134,rfl,rfl,Tryz.sizeOf3,by decide⟩
theorem tf134_3:TF prog 134 3 3:=⟨_,_,_,Tryz.underlying134,rfl,rfl,Tryz.sizeOf3,by decide⟩
theorem zaq:TF prog 26 0 0:=⟨_,_,_,Tryz.underlying26,rfl,rfl,Tryz.sizeOf3,by decide⟩
theorem zay:TF prog 26 1 1:=⟨_,_,_,Tryz.underlying26,rfl,rfl,Tryz.sizeOf24,by decide⟩
theorem zax:TF prog 54 0 0:=⟨_,_,_,Tryz.underlying54,rfl,rfl,Tryz.sizeOf52,by decide⟩
theorem zaJ:TF prog 54 1 1:=⟨_,_,_,Tryz.underlying54,rfl,rfl,Tryz.sizeOf3,by decide⟩
theorem zao:TF prog 56 0 0:=⟨_,_,_,Tryz.underlying56,rfl,rfl,Tryz.sizeOf54,by decide⟩
theorem za9:TF prog 56 1 2:=⟨_,_,_,Tryz.underlying56,rfl,rfl,Tryz.sizeOf3,by decide⟩
theorem zav:TF prog 56 2 3:=⟨_,_,_,Tryz.underlying56,rfl,rfl,Tryz.sizeOf3,by decide⟩
theorem zaP:TF prog 56 3 4:=⟨_,_,_,Tryz.underlying56,rfl,rfl,Tryz.sizeOf3,by decide⟩
theorem zaT:TF prog 56 4 5:=⟨_,_,_,Tryz.underlying56,rfl,rfl,Tryz.sizeOf3,by decide⟩
theorem w_laws_rBig {Ha:GH} {wa:World} (hs:Sl Ha wa) (v0:Value) (a0:List Int) (p0:RSl Ha (eN .u8) 1 v0 a0) :
  Calls prog 26 #[v0] wa (Sc Ha wa (vB (PF.zdm a0))):=by
 obtain ⟨r,hp⟩:∃ r,(PF.zdm a0)=r:=⟨_,rfl⟩;rw [hp];unfold PF.zdm at hp;have S0:=St.init hs;refine zah (N:=6) (args:=[v0]) func26 rfl rfl rfl ?_;refine FW.sr<|FL.as (v:=vB false) rfl<|FL.nil<|FW.sr<|FL.mv (v:=v0) rfl<|FL.v (E.lenP te22 rfl p0) ?_;refine FL.v (E.gtr rfl rfl) ?_;refine FL.as (v:=vB (decide (65536 < (len a0)))) rfl<|FL.nil (FW.ret ?_);obtain rfl:=hp;exact ⟨.inr rfl,res1 rfl rfl ⟨rfl,S0.back⟩⟩

@[reducible] def p_spec_l1Cur_next (H0:GH) (w0:World) (Ha:GH) (L:List MO) (b0:Nat) (r:(Int×l1Cur)):Ending→World→Prop :=
 fun e w'=>∃ H':GH,∃ v0_0r:Value,e=.returned (vI r.1)∧(St H0 w0 H' w' (.box b0 103 [v0_0r,vI r.2.at_,vJ r.2.seed]::L)∧Inc Ha H')∧RSl H' (eN .u8) 1 v0_0r r.2.code
set_option maxHeartbeats 4000000 in
theorem zfl {H0 Ha:GH} {w0 wa:World} {L:List MO} {a0:l1Cur} {b0:Nat} {v0_0:Value} (S0:St H0 w0 Ha wa (.box b0 103 [v0_0,vI a0.at_,vJ a0.seed]::L)) (p0_0:RSl Ha (eN .u8) 1 v0_0 a0.code) {r:(Int×l1Cur)} (hp:(PF.zcR a0)=some r) :
  Calls prog 146 #[vK b0] wa (p_spec_l1Cur_next H0 w0 Ha L b0 r):=by
 unfold PF.zcR at hp;refine zah (N:=62) (args:=[vK b0]) func146 rfl rfl rfl ?_;refine FW.sr<|FL.as (v:=vI 0) rfl<|FL.nil<|FW.sr<|FL.as (v:=vI 0) rfl<|FL.nil (FW.seq (FW.seq ?_));refine FW.draw (fun w'=>Run wa.heap.size Ha wa Ha w') (by kernel_rfl) (by kernel_rfl) (zaR S0.sl) ?_;refine FD.v (fun _ z=>(E.move (v:=vK b0) rfl)) ?_;refine FD.v (fun _ z=>(E.nilCheck rfl)) ?_;refine FD.v (fun _ z=>(E.fieldAddr tf103_1 rfl)) ?_;refine FD.v (fun _ z=>(E.load rfl (zad isAgg3 ((S0.call z).box_now (i:=0) rfl) rfl))) ?_;refine FD.v (fun _ z=>(E.move (v:=vK b0) rfl)) ?_;refine FD.v (fun _ z=>(E.nilCheck rfl)) ?_;refine FD.v (fun _ z=>(E.fieldAddr tf103_0 rfl)) ?_;refine FD.v (fun _ z=>(E.load rfl (zad isAgg22 ((S0.call z).box_now (i:=0) rfl) rfl))) ?_;refine FD.v (fun _ z=>(E.lenP te22 rfl p0_0)) ?_;refine FD.v (fun _ z=>(E.lss rfl rfl)) ?_;refine FD.nil ?_;intro w22 r24;have S23:=S0.call r24;obtain ⟨q39,hq,hp⟩:=bndR hp;refine FW.joinE (S:=Int) (X:=Empty) (q:=q39) (fun s38 f w=>∃ H:GH,St H0 w0 H w (.box b0 103 [v0_0,vI a0.at_,vJ a0.seed]::L)∧Inc Ha H∧f 0=vK b0∧f 3=vI s38) (fun (_:Empty) _ _ _=>False) ?_ ?_ ?_
 ·
  clear hp;have hp:=hq;clear hq;refine FW.iB hp rfl (fun c41 hp=>?_) fun c41 hp=>?_
  ·
   refine FW.draw (fun w'=>Run w22.heap.size Ha w22 Ha w') (by kernel_rfl) (by kernel_rfl) (zaR S23.sl) ?_;refine FD.v (fun _ z=>(E.move (v:=vK b0) rfl)) ?_;refine FD.v (fun _ z=>(E.nilCheck rfl)) ?_;refine FD.v (fun _ z=>(E.fieldAddr tf103_0 rfl)) ?_;refine FD.v (fun _ z=>(E.load rfl (zad isAgg22 ((S23.call z).box_now (i:=0) rfl) rfl))) ?_;refine FD.v (fun _ z=>(E.move (v:=vK b0) rfl)) ?_;refine FD.v (fun _ z=>(E.nilCheck rfl)) ?_;refine FD.v (fun _ z=>(E.fieldAddr tf103_1 rfl)) ?_;refine FD.v (fun _ z=>(E.load rfl (zad isAgg3 ((S23.call z).box_now (i:=0) rfl) rfl))) ?_;obtain ⟨x49,hx50,hp⟩:=bnd hp;obtain ⟨p43,cs44,pt45,l46,at47,rel48⟩:=p0_0.at hx50;obtain rfl:=eN_open rel48;refine FD.v (fun _ z=>(E.indexAddr te22 rfl rfl pt45)) ?_;refine FD.v (fun _ z=>(E.load rfl (zai isAgg5 (at47.now (S23.call z).sl) rfl))) ?_;refine FD.v (fun _ z=>(E.conv runUnderlying5 runUnderlying3 rfl)) ?_;refine FD.v (fun _ z=>(E.assign (v:=vI (wrk true 64 x49)) rfl)) ?_;refine FD.nil ?_;intro w51 r53;have S52:=S23.call r53;cases hp;exact ⟨rfl,⟨_,S52,I0,rfl,rfl⟩⟩
  ·
   refine FW.skip ?_;cases hp;exact ⟨rfl,⟨_,S23,I0,rfl,rfl⟩⟩
 ·
  rintro s38 rfl f58 w57 ⟨H54,S55,i56,k59,k60⟩;replace hp:=el_go hp;refine FW.sr<|FL.mv k59<|FL.v (E.nilCheck rfl) ?_;refine FL.v (E.fieldAddr tf103_1 rfl) ?_;refine FL.v (E.load rfl (zad isAgg3 (S55.box_now (i:=0) rfl) rfl)) ?_;refine FL.v (E.add rfl rfl) ?_;refine FL.v (E.nilCheck rfl) ?_;refine FL.v (E.fieldAddr tf103_1 rfl) ?_;obtain ⟨w61,run62,S63⟩:=S55.store (P:=prog) (t:=3) (i:=0) (j:=1) (cs':=[v0_0,vI (wr (a0.at_ + 1)),vJ a0.seed]) (l':=(.box b0 103 [v0_0,vI (wr (a0.at_ + 1)),vJ a0.seed]::L)) (v:=vI (wr (a0.at_ + 1))) (c:=[vI (wr (a0.at_ + 1))]) rfl sizeOf3 rfl rfl (oC rfl zac) (nB rfl) rfl rfl;refine FL.act rfl rfl (E.store rfl rfl run62) ?_;refine FL.nil<|FW.sr<|FL.mv k59<|FL.mv k59<|FL.v (E.nilCheck rfl) ?_;refine FL.v (E.fieldAddr tf103_2 rfl) ?_;refine FL.v (E.load rfl (zad isAgg101 (S63.box_now (i:=0) rfl) rfl)) ?_;refine FL.v (E.mulK rfl rfl) ?_;refine FL.mv k60<|FL.v (E.conv runUnderlying3 runUnderlying101 rfl) ?_;refine FL.v (E.addK rfl rfl) ?_;refine FL.v (E.addK rfl rfl) ?_;refine FL.v (E.nilCheck rfl) ?_;refine FL.v (E.fieldAddr tf103_2 rfl) ?_;obtain ⟨w64,run65,S66⟩:=S63.store (P:=prog) (t:=101) (i:=0) (j:=2) (cs':=[v0_0,vI (wr (a0.at_ + 1)),vJ (wrk false 64 ((wrk false 64 ((wrk false 64 (a0.seed * 6364136223846793005)) + (wrk false 64 s38))) + 337411))]) (l':=(.box b0 103 [v0_0,vI (wr (a0.at_ + 1)),vJ (wrk false 64 ((wrk false 64 ((wrk false 64 (a0.seed * 6364136223846793005)) + (wrk false 64 s38))) + 337411))]::L)) (v:=vJ (wrk false 64 ((wrk false 64 ((wrk false 64 (a0.seed * 6364136223846793005)) + (wrk false 64 s38))) + 337411))) (c:=[vJ (wrk false 64 ((wrk false 64 ((wrk false 64 (a0.seed * 6364136223846793005)) + (wrk false 64 s38))) + 337411))]) rfl sizeOf101 rfl rfl (oC rfl zac) (nB rfl) rfl rfl;refine FL.act rfl rfl (E.store rfl rfl run65) ?_;refine FL.nil (FW.seq (FW.seq ?_));refine FW.draw (fun w'=>Run w64.heap.size H54 w64 H54 w') (by kernel_rfl) (by kernel_rfl) (zaR S66.sl) ?_;refine FD.v (fun _ z=>(E.move k59)) ?_;refine FD.v (fun _ z=>(E.nilCheck rfl)) ?_;refine FD.v (fun _ z=>(E.fieldAddr tf103_1 rfl)) ?_;refine FD.v (fun _ z=>(E.load rfl (zad isAgg3 ((S66.call z).box_now (i:=0) rfl) rfl))) ?_;refine FD.v (fun _ z=>(E.move k59)) ?_;refine FD.v (fun _ z=>(E.nilCheck rfl)) ?_;refine FD.v (fun _ z=>(E.fieldAddr tf103_0 rfl)) ?_;refine FD.v (fun _ z=>(E.load rfl (zad isAgg22 ((S66.call z).box_now (i:=0) rfl) rfl))) ?_;refine FD.v (fun _ z=>(E.lenP te22 rfl p0_0)) ?_;refine FD.v (fun _ z=>(E.leq rfl rfl)) ?_;refine FD.nil ?_;intro w68 r70;have S69:=S66.call r70;refine FW.iB hp rfl (fun c71 hp=>?_) fun c71 hp=>?_
  ·
   refine FW.sr<|FL.mv k60<|FL.as (v:=vI s38) rfl<|FL.nil (FW.ret ?_);cases hp;exact ⟨.inr rfl,res1 rfl rfl ⟨_,_,rfl,⟨S69,i56⟩,(p0_0.mono i56)⟩⟩
  ·
   refine FW.skip<|FW.sr<|FL.mv k59<|FL.v (E.nilCheck rfl) ?_;refine FL.v (E.fieldAddr tf103_2 rfl) ?_;refine FL.v (E.load rfl (zad isAgg101 (S69.box_now (i:=0) rfl) rfl)) ?_;refine FL.v (E.shr rfl rfl (by decide)) ?_;refine FL.v (E.and rfl rfl) ?_;refine FL.v (E.conv runUnderlying101 runUnderlying3 rfl) ?_;refine FL.as (v:=vI (wrk true 64 (andK false 64 (shrK 64 (wrk false 64 ((wrk false 64 ((wrk false 64 (a0.seed * 6364136223846793005)) + (wrk false 64 s38))) + 337411)) 40) 255))) rfl<|FL.nil (FW.ret ?_);cases hp;exact ⟨.inr rfl,res1 rfl rfl ⟨_,_,rfl,⟨S69,i56⟩,(p0_0.mono i56)⟩⟩
 ·
  intro x40;exact x40.elim

@[reducible] def p_spec_l1Cur_pick (H0:GH) (w0:World) (Ha:GH) (L:List MO) (b0:Nat) (r:(Int×l1Cur)):Ending→World→Prop :=
 fun e w'=>∃ H':GH,∃ v0_0r:Value,e=.returned (vI r.1)∧(St H0 w0 H' w' (.box b0 103 [v0_0r,vI r.2.at_,vJ r.2.seed]::L)∧Inc Ha H')∧RSl H' (eN .u8) 1 v0_0r r.2.code
theorem za1 {H0 Ha:GH} {w0 wa:World} {L:List MO} {a0:l1Cur} {b0:Nat} {v0_0:Value} (S0:St H0 w0 Ha wa (.box b0 103 [v0_0,vI a0.at_,vJ a0.seed]::L)) (p0_0:RSl Ha (eN .u8) 1 v0_0 a0.code) (a1:Int) {r:(Int×l1Cur)} (hp:(PF.zaM a0 a1)=some r) :
  Calls prog 78 #[vK b0,vI a1] wa (p_spec_l1Cur_pick H0 w0 Ha L b0 r):=by
 unfold PF.zaM at hp;refine zah (N:=20) (args:=[vK b0,vI a1]) func78 rfl rfl rfl ?_;refine FW.sr<|FL.as (v:=vI 0) rfl<|FL.nil (FW.seq (FW.sr ?_));refine FL.mv (v:=vI a1) rfl<|FL.v (E.leq rfl rfl) ?_;refine FL.nil ?_;refine FW.iB hp rfl (fun c21 hp=>?_) fun c21 hp=>?_
 ·
  refine FW.sr<|FL.as (v:=vI 0) rfl<|FL.nil (FW.ret ?_);cases hp;exact ⟨.inr rfl,res1 rfl rfl ⟨_,_,rfl,⟨S0,I0⟩,p0_0⟩⟩
 ·
  refine FW.skip<|FW.sr<|FL.mv (v:=vK b0) rfl ?_;obtain ⟨r22,hr23,hp⟩:=bnd hp;refine FL.c (E.call call146 (A1 rfl)) (zfl (L:=(L)) S0 (a0:=a0) p0_0 hr23) ?_;rintro e w25 ⟨H24,v28,rfl,⟨S26,i27⟩,h29⟩;refine ⟨_,rfl,?_⟩;refine FL.as (v:=vI r22.1) rfl<|FL.nil (FW.seq (FW.sr ?_));refine FL.mv (v:=vI a1) rfl<|FL.v (E.gtr rfl rfl) ?_;refine FL.nil ?_;refine FW.iB hp rfl (fun c30 hp=>?_) fun c30 hp=>?_
  ·
   refine FW.region<|FL.mv (v:=vI r22.1) rfl<|FL.v (E.mul rfl rfl) ?_;refine FL.mv (v:=vK b0) rfl ?_;obtain ⟨r31,hr32,hp⟩:=bnd hp;refine FL.c (E.call call146 (A1 rfl)) (zfl (L:=(L)) S26 (a0:=r22.2) h29 hr32) ?_;rintro e w34 ⟨H33,v37,rfl,⟨S35,i36⟩,h38⟩;refine ⟨_,rfl,?_⟩;refine FL.v (E.add rfl rfl) ?_;refine FL.as (v:=vI (wr ((wr (r22.1 * 256)) + r31.1))) rfl<|FL.nil<|FW.sr<|FL.mv (v:=vI (wr ((wr (r22.1 * 256)) + r31.1))) rfl<|FL.mv (v:=vI a1) rfl ?_;obtain ⟨u40,z39,hp⟩:=bnd hp;refine FL.v (E.rem rfl rfl (nz_ne z39)) ?_;refine FL.as (v:=vI ((wr ((wr (r22.1 * 256)) + r31.1)).tmod a1)) rfl<|FL.nil (FW.ret ?_);cases hp;exact ⟨.inr rfl,res1 rfl rfl ⟨_,_,rfl,⟨S35,(i27.tr i36)⟩,h38⟩⟩
  ·
   refine FW.skip<|FW.sr<|FL.mv (v:=vI r22.1) rfl<|FL.mv (v:=vI a1) rfl ?_;obtain ⟨u42,z41,hp⟩:=bnd hp;refine FL.v (E.rem rfl rfl (nz_ne z41)) ?_;refine FL.as (v:=vI (r22.1.tmod a1)) rfl<|FL.nil (FW.ret ?_);cases hp;exact ⟨.inr rfl,res1 rfl rfl ⟨_,_,rfl,⟨S26,i27⟩,h29⟩⟩

@[reducible] def p_spec_l1Cur_one (H0:GH) (w0:World) (Ha:GH) (L:List MO) (b0:Nat) (r:(Bool×l1Cur)):Ending→World→Prop :=
 fun e w'=>∃ H':GH,∃ v0_0r:Value,e=.returned (vB r.1)∧(St H0 w0 H' w' (.box b0 103 [v0_0r,vI r.2.at_,vJ r.2.seed]::L)∧Inc Ha H')∧RSl H' (eN .u8) 1 v0_0r r.2.code
theorem zco {H0 Ha:GH} {w0 wa:World} {L:List MO} {a0:l1Cur} {b0:Nat} {v0_0:Value} (S0:St H0 w0 Ha wa (.box b0 103 [v0_0,vI a0.at_,vJ a0.seed]::L)) (p0_0:RSl Ha (eN .u8) 1 v0_0 a0.code) (a1:Int) {r:(Bool×l1Cur)} (hp:(PF.zbo a0 a1)=some r) :
  Calls prog 68 #[vK b0,vI a1] wa (p_spec_l1Cur_one H0 w0 Ha L b0 r):=by
 unfold PF.zbo at hp;refine zah (N:=9) (args:=[vK b0,vI a1]) func68 rfl rfl rfl ?_;refine FW.sr<|FL.as (v:=vB false) rfl<|FL.nil<|FW.sr<|FL.mv (v:=vK b0) rfl<|FL.mv (v:=vI a1) rfl ?_;obtain ⟨r21,hr22,hp⟩:=bnd hp;refine FL.c (E.call call78 (A2 rfl rfl)) (za1 (L:=(L)) S0 (a0:=a0) p0_0 a1 hr22) ?_;rintro e w24 ⟨H23,v27,rfl,⟨S25,i26⟩,h28⟩;refine ⟨_,rfl,?_⟩;refine FL.v (E.eql rfl rfl) ?_;refine FL.as (v:=vB (r21.1 == 0)) rfl<|FL.nil (FW.ret ?_);cases hp;exact ⟨.inr rfl,res1 rfl rfl ⟨_,_,rfl,⟨S25,i26⟩,h28⟩⟩

@[reducible] def p_spec_l2Hard (Ha:GH) (wa:World) (r:(List ByteArray)):Ending→World→Prop :=
 fun e w'=>∃ H':GH,∃ v0:Value,∃ n0:Nat,∃ c0:List Value,e=.returned (v0)∧St Ha wa H' w' [.row 9 1 v0 n0 c0]∧Els (up wa.heap.size H') eS 1 c0 r
theorem w_spec_l2Hard {Ha:GH} {wa:World} (hs:Sl Ha wa)  :
  Calls prog 159 #[] wa (p_spec_l2Hard Ha wa PF.zb2):=by
 obtain ⟨r,hp⟩:∃ r,PF.zb2=r:=⟨_,rfl⟩;rw [hp];unfold PF.zb2 at hp;have S0:=St.init hs;refine zah (N:=2) (args:=[]) func159 rfl rfl rfl ?_;refine FW.sr<|FL.as (v:=vN) rfl<|FL.nil<|FW.sr ?_;obtain ⟨v21,w22,run23,S24⟩:=S0.buildSlice (P:=prog) te108 [vT tx1_2,vT tx1_4,vT tx1_1,vT tx1_5,vT tx1_12,vT tx1_10,vT tx1_9,vT tx1_8,vT tx1_3,vT tx1_14,vT tx1_11,vT tx1_15,vT tx1_7,vT tx1_13,vT tx1_6] (parts:=#[(0,vT tx1_2),(1,vT tx1_4),(2,vT tx1_1),(3,vT tx1_5),(4,vT tx1_12),(5,vT tx1_10),(6,vT tx1_9),(7,vT tx1_8),(8,vT tx1_3),(9,vT tx1_14),(10,vT tx1_11),(11,vT tx1_15),(12,vT tx1_7),(13,vT tx1_13),(14,vT tx1_6)]) (cells:=[vT tx1_2,vT tx1_4,vT tx1_1,vT tx1_5,vT tx1_12,vT tx1_10,vT tx1_9,vT tx1_8,vT tx1_3,vT tx1_14,vT tx1_11,vT tx1_15,vT tx1_7,vT tx1_13,vT tx1_6]) rfl (zaS rfl (zaS rfl (zaS rfl (zaS rfl (zaS rfl (zaS rfl (zaS rfl (zaS rfl (zaS rfl (zaS rfl (zaS rfl (zaS rfl (zaS rfl (zaS rfl (zaS rfl zb6))))))))))))))) (zaV rfl (zaV rfl (zaV rfl (zaV rfl (zaV rfl (zaV rfl (zaV rfl (zaV rfl (zaV rfl (zaV rfl (zaV rfl (zaV rfl (zaV rfl (zaV rfl (zaV rfl fc_nil))))))))))))))) (oC rfl (oC rfl (oC rfl (oC rfl (oC rfl (oC rfl (oC rfl (oC rfl (oC rfl (oC rfl (oC rfl (oC rfl (oC rfl (oC rfl (oC rfl zac))))))))))))))) (nB rfl)
 have els25:Els (up wa.heap.size Ha) eS 1 [vT tx1_2,vT tx1_4,vT tx1_1,vT tx1_5,vT tx1_12,vT tx1_10,vT tx1_9,vT tx1_8,vT tx1_3,vT tx1_14,vT tx1_11,vT tx1_15,vT tx1_7,vT tx1_13,vT tx1_6] [tx1_2,tx1_4,tx1_1,tx1_5,tx1_12,tx1_10,tx1_9,tx1_8,tx1_3,tx1_14,tx1_11,tx1_15,tx1_7,tx1_13,tx1_6]:=(Els.snoc (H:=(up wa.heap.size Ha)) (E:=eS) (k:=1) (c:=[vT tx1_6]) (x:=tx1_6) (Els.snoc (H:=(up wa.heap.size Ha)) (E:=eS) (k:=1) (c:=[vT tx1_13]) (x:=tx1_13) (Els.snoc (H:=(up wa.heap.size Ha)) (E:=eS) (k:=1) (c:=[vT tx1_7]) (x:=tx1_7) (Els.snoc (H:=(up wa.heap.size Ha)) (E:=eS) (k:=1) (c:=[vT tx1_15]) (x:=tx1_15) (Els.snoc (H:=(up wa.heap.size Ha)) (E:=eS) (k:=1) (c:=[vT tx1_11]) (x:=tx1_11) (Els.snoc (H:=(up wa.heap.size Ha)) (E:=eS) (k:=1) (c:=[vT tx1_14]) (x:=tx1_14) (Els.snoc (H:=(up wa.heap.size Ha)) (E:=eS) (k:=1) (c:=[vT tx1_3]) (x:=tx1_3) (Els.snoc (H:=(up wa.heap.size Ha)) (E:=eS) (k:=1) (c:=[vT tx1_8]) (x:=tx1_8) (Els.snoc (H:=(up wa.heap.size Ha)) (E:=eS) (k:=1) (c:=[vT tx1_9]) (x:=tx1_9) (Els.snoc (H:=(up wa.heap.size Ha)) (E:=eS) (k:=1) (c:=[vT tx1_10]) (x:=tx1_10) (Els.snoc (H:=(up wa.heap.size Ha)) (E:=eS) (k:=1) (c:=[vT tx1_12]) (x:=tx1_12) (Els.snoc (H:=(up wa.heap.size Ha)) (E:=eS) (k:=1) (c:=[vT tx1_5]) (x:=tx1_5) (Els.snoc (H:=(up wa.heap.size Ha)) (E:=eS) (k:=1) (c:=[vT tx1_1]) (x:=tx1_1) (Els.snoc (H:=(up wa.heap.size Ha)) (E:=eS) (k:=1) (c:=[vT tx1_4]) (x:=tx1_4) (Els.snoc (H:=(up wa.heap.size Ha)) (E:=eS) (k:=1) (c:=[vT tx1_2]) (x:=tx1_2) Els.nil rfl rfl) rfl rfl) rfl rfl) rfl rfl) rfl rfl) rfl rfl) rfl rfl) rfl rfl) rfl rfl) rfl rfl) rfl rfl) rfl rfl) rfl rfl) rfl rfl) rfl rfl)
 refine FL.v (E.buildSlice (B15 rfl rfl rfl rfl rfl rfl rfl rfl rfl rfl rfl rfl rfl rfl rfl) run23) ?_;refine FL.as (v:=v21) rfl<|FL.nil (FW.ret ?_);obtain rfl:=hp;exact ⟨.inr rfl,res1 rfl rfl ⟨_,_,_,_,rfl,S24,els25⟩⟩

@[reducible] def p_spec_l1Cur_of (H0:GH) (w0:World) (Ha:GH) (L:List MO) (b0:Nat) (r:(ByteArray×l1Cur)):Ending→World→Prop :=
 fun e w'=>∃ H':GH,∃ v0_0r:Value,e=.returned (vT r.1)∧(St H0 w0 H' w' (.box b0 103 [v0_0r,vI r.2.at_,vJ r.2.seed]::L)∧Inc Ha H')∧RSl H' (eN .u8) 1 v0_0r r.2.code
theorem w_spec_l1Cur_of {H0 Ha:GH} {w0 wa:World} {L:List MO} {a0:l1Cur} {b0:Nat} {v0_0:Value} (S0:St H0 w0 Ha wa (.box b0 103 [v0_0,vI a0.at_,vJ a0.seed]::L)) (p0_0:RSl Ha (eN .u8) 1 v0_0 a0.code) (v1:Value) (a1:List ByteArray) (p1:RSl Ha eS 1 v1 a1) {r:(ByteArray×l1Cur)} (hp:(PF.zdn a0 a1)=some r) :
  Calls prog 70 #[vK b0,v1] wa (p_spec_l1Cur_of H0 w0 Ha L b0 r):=by
 unfold PF.zdn at hp;refine zah (N:=12) (args:=[vK b0,v1]) func70 rfl rfl rfl ?_;refine FW.sr<|FL.as (v:=vT (ByteArray.mk #[])) rfl<|FL.nil<|FW.sr<|FL.mv (v:=v1) rfl<|FL.mv (v:=vK b0) rfl<|FL.mv (v:=v1) rfl<|FL.v (E.lenP te108 rfl p1) ?_;obtain ⟨r21,hr22,hp⟩:=bnd hp;refine FL.c (E.call call78 (A2 rfl rfl)) (za1 (L:=(L)) S0 (a0:=a0) p0_0 (len a1) hr22) ?_;rintro e w24 ⟨H23,v27,rfl,⟨S25,i26⟩,h28⟩;refine ⟨_,rfl,?_⟩;obtain ⟨x35,hx36,hp⟩:=bnd hp;obtain ⟨p29,cs30,pt31,l32,at33,rel34⟩:=p1.at hx36;obtain rfl:=eS_open rel34;refine FL.v (E.indexAddr te108 rfl rfl pt31) ?_;refine FL.v (E.load rfl (zai isAgg9 ((at33.mono i26).now S25.sl) rfl)) ?_;refine FL.as (v:=vT x35) rfl<|FL.nil (FW.ret ?_);cases hp;exact ⟨.inr rfl,res1 rfl rfl ⟨_,_,rfl,⟨S25,i26⟩,h28⟩⟩

@[reducible] def p_spec_l1Split (Ha:GH) (wa:World) (r:(List ByteArray)):Ending→World→Prop :=
 fun e w'=>∃ H':GH,∃ v0:Value,∃ n0:Nat,∃ c0:List Value,e=.returned (v0)∧St Ha wa H' w' [.row 9 1 v0 n0 c0]∧Els (up wa.heap.size H') eS 1 c0 r
set_option maxHeartbeats 4000000 in
theorem zfm {Ha:GH} {wa:World} (hs:Sl Ha wa) (a0:ByteArray) (a1:Int) {r:(List ByteArray)} (hp:(PF.zcS a0 a1)=some r) :
  Calls prog 196 #[vT a0,Value.int .u8 a1] wa (p_spec_l1Split Ha wa r):=by
 unfold PF.zcS at hp;have S0:=St.init hs;refine zah (N:=35) (args:=[vT a0,Value.int .u8 a1]) func196 rfl rfl rfl ?_;refine FW.sr<|FL.as (v:=vN) rfl<|FL.nil<|FW.sr ?_;obtain ⟨v21,w22,run23,S24⟩:=S0.b0 te108;have els25:Els (up wa.heap.size Ha) eS 1 [] []:=Els.nil;refine FL.v (E.buildSlice (B0) run23) ?_;refine FL.as (v:=v21) rfl<|FL.nil<|FW.sr<|FL.as (v:=vI 0) rfl<|FL.nil (FW.seq (FW.sr ?_));refine FL.as (v:=vI 0) rfl<|FL.nil ?_;obtain ⟨m26,hchk27,hp⟩:=bnd hp;obtain ⟨q27,hq,hp⟩:=bndR hp;refine FW.block ?_;refine FW.mono (FW.forR (S:=((List ByteArray)×Int)) (X:=Empty) (fun (i27:Nat) (s27:((List ByteArray)×Int)) f w=>∃ H:GH,∃ v28:Value,∃ n29:Nat,∃ cs30:List Value,St Ha wa H w [.row 9 1 v28 n29 cs30]∧Inc Ha H∧Els (up wa.heap.size H) eS 1 cs30 s27.1∧f 7=vI ((i27:Nat):Int)∧f 0=vT a0∧f 1=Value.int .u8 a1∧f 5=v28∧f 6=vI s27.2) (fun (q:Rs ((List ByteArray)×Int) Empty) e f w=>match q with|.go s27=>e=Exit.exit 0∧(∃ H:GH,∃ v28:Value,∃ n29:Nat,∃ cs30:List Value,St Ha wa H w [.row 9 1 v28 n29 cs30]∧Inc Ha H∧Els (up wa.heap.size H) eS 1 cs30 s27.1∧f 0=vT a0∧f 5=v28∧f 6=vI s27.2)|.rt x=>x.elim) hq ⟨_,_,_,_,S24,I0,els25,rfl,rfl,rfl,rfl,rfl⟩ ?_ ?_) ?_
 ·
  clear hp hq;rintro i27 s27 f67 w66 ⟨H63,v28,n29,cs30,S64,i65,els31,k68,k69,k70,k71,k72⟩ hi27 hj27 o94 hp;refine FW.seq<|FW.sr<|FL.mv k68<|FL.mv k69<|FL.v (E.lenS runUnderlying9 rfl) ?_;refine FL.v (E.lssT rfl rfl (zcr hj27 hchk27)) ?_;refine FL.nil<|FW.condT rfl rfl ?_;refine FW.skip (FW.seq (FW.block (FW.sr ?_)));refine FL.mv k69<|FL.mv k68 ?_;obtain ⟨z73,h74,hp⟩:=bnd hp;refine FL.v (E.ixS runUnderlying9 rfl rfl h74) ?_;refine FL.mv k70<|FL.v (E.eql rfl rfl) ?_;refine FL.nil ?_;refine FW.iB hp rfl (fun c75 hp=>?_) fun c75 hp=>?_
  ·
   refine FW.sr<|FL.mv k71<|FL.mv k69<|FL.mv k72<|FL.mv k68 ?_;obtain ⟨z76,h77,hp⟩:=bnd hp;refine FL.v (E.cutS (kl:=.i64) (kh:=.i64) underlying9 rfl (.inr ⟨_,rfl,rfl⟩) (.inr ⟨_,rfl,rfl⟩) h77) ?_;obtain ⟨v78,w79,run80,S81⟩:=S64.buildSlice (P:=prog) te108 [vT z76] (parts:=#[(0,vT z76)]) (cells:=[vT z76]) rfl (zaS rfl zb6) (zaV rfl fc_nil) (oC rfl zac) (nB rfl);have els82:Els (up wa.heap.size H63) eS 1 [vT z76] [z76]:=(Els.snoc (H:=(up wa.heap.size H63)) (E:=eS) (k:=1) (c:=[vT z76]) (x:=z76) Els.nil rfl rfl);refine FL.v (E.buildSlice (B1 rfl) run80) ?_;obtain ⟨xs83,hz84,hp⟩:=bnd hp;obtain ⟨v85,w88,n86,cs87,run89,S90,els91,ce92⟩:=S81.appendO (P:=prog) te108 (i:=1) (j:=0) rfl els31 rfl els82 hz84;have S93:St Ha wa H63 w88 [.row 9 1 v85 n86 cs87]:=S90.drop 0;refine FL.v (E.append rfl rfl run89) ?_;refine FL.as (v:=v85) rfl<|FL.nil<|FW.region<|FL.mv k68<|FL.v (E.add rfl rfl) ?_;refine FL.as (v:=vI (wr (((i27:Nat):Int) + 1))) rfl<|FL.nil<|FW.region<|FL.mv k68<|FL.v (E.add rfl rfl) ?_;refine FL.as (v:=vI (wr (((i27:Nat):Int) + 1))) rfl<|FL.nil ?_;cases hp;exact ⟨rfl,⟨_,_,_,_,S93,i65,els91,(zat rfl hj27 (zbO hchk27)),k69,k70,rfl,rfl⟩⟩
  ·
   refine FW.skip<|FW.region<|FL.mv k68<|FL.v (E.add rfl rfl) ?_;refine FL.as (v:=vI (wr (((i27:Nat):Int) + 1))) rfl<|FL.nil ?_;cases hp;exact ⟨rfl,⟨_,_,_,_,S64,i65,els31,(zat rfl hj27 (zbO hchk27)),k69,k70,k71,k72⟩⟩
 ·
  clear hp hq;rintro s27 fAp wAo ⟨HAl,v28,n29,cs30,SAm,iAn,els31,kAq,kAr,kAs,kAt,kAu⟩;refine FW.seq<|FW.sr<|FL.mv kAq<|FL.mv kAr<|FL.v (E.lenS runUnderlying9 rfl) ?_;refine FL.v (E.lss rfl rfl) ?_;refine FL.nil<|FW.condF rfl (zcs hchk27) ?_;refine FW.exit ?_;exact ⟨nofun,rfl,⟨_,_,_,_,SAm,iAn,els31,kAr,kAt,kAu⟩⟩
 ·
  clear hq;intro e f99 w98 hD;rcases q27 with s27|x27
  ·
   obtain ⟨rfl,hD⟩:=hD;obtain ⟨H95,v28,n29,cs30,S96,i97,els31,kA0,kA1,kA2⟩:=hD;replace hp:=el_go hp;refine FW.sr<|FL.mv kA1<|FL.mv kA0<|FL.mv kA2 ?_;obtain ⟨zA3,hA4,hp⟩:=bnd hp;refine FL.v (E.cutS (kl:=.i64) (kh:=.i64) underlying9 rfl (.inr ⟨_,rfl,rfl⟩) (.inl ⟨rfl,rfl⟩) hA4) ?_;obtain ⟨vA5,wA6,runA7,SA8⟩:=S96.buildSlice (P:=prog) te108 [vT zA3] (parts:=#[(0,vT zA3)]) (cells:=[vT zA3]) rfl (zaS rfl zb6) (zaV rfl fc_nil) (oC rfl zac) (nB rfl);have elsA9:Els (up wa.heap.size H95) eS 1 [vT zA3] [zA3]:=(Els.snoc (H:=(up wa.heap.size H95)) (E:=eS) (k:=1) (c:=[vT zA3]) (x:=zA3) Els.nil rfl rfl);refine FL.v (E.buildSlice (B1 rfl) runA7) ?_;obtain ⟨xsAa,hzAb,hp⟩:=bnd hp;obtain ⟨vAc,wAf,nAd,csAe,runAg,SAh,elsAi,ceAj⟩:=SA8.appendO (P:=prog) te108 (i:=1) (j:=0) rfl els31 rfl elsA9 hzAb;have SAk:St Ha wa H95 wAf [.row 9 1 vAc nAd csAe]:=SAh.drop 0;refine FL.v (E.append rfl rfl runAg) ?_;refine FL.as (v:=vAc) rfl<|FL.nil (FW.ret ?_);cases hp;exact ⟨.inr rfl,res1 rfl rfl ⟨_,_,_,_,rfl,SAk,elsAi⟩⟩
  ·
   exact x27.elim

theorem zbl {Ha:GH} {wa:World} (hs:Sl Ha wa) (a0:Int) (a1:Int) (a2:Int) :
  Calls prog 81 #[vI a0,vI a1,vI a2] wa (Sc Ha wa (vB (PF.zan a0 a1 a2))):=by
 obtain ⟨r,hp⟩:∃ r,(PF.zan a0 a1 a2)=r:=⟨_,rfl⟩;rw [hp];unfold PF.zan at hp;have S0:=St.init hs;refine zah (N:=15) (args:=[vI a0,vI a1,vI a2]) func81 rfl rfl rfl ?_;refine FW.sr<|FL.as (v:=vB false) rfl<|FL.nil<|FW.sr<|FL.mv (v:=vI a0) rfl<|FL.mv (v:=vI a1) rfl<|FL.v (E.geq rfl rfl) ?_;refine FL.mv (v:=vB (decide (a1≤a0))) rfl ?_;refine FL.cut 4 (fun f w=>∃ H:GH,St Ha wa H w []∧Inc Ha H∧f 14=vB (bif (decide (a1≤a0)) then (decide (a0≤a2)) else false)) ?_ ?_
 ·
  rcases bcase (decide (a1≤a0)) with c27|c27
  ·
   refine FL.y (wY c27) (E.move (v:=vI a0) rfl) ?_;refine FL.y (wY c27) (E.move (v:=vI a2) rfl) ?_;refine FL.y (wY c27) (E.leq rfl rfl) ?_;refine FL.v (E.pickT rfl c27 rfl) ?_;exact FL.nil ⟨rfl,_,S0,I0,(congrArg vB (bifT c27).symm)⟩
  ·
   refine FL.n c27<|FL.n c27<|FL.n c27<|FL.v (E.pickF rfl c27 rfl) ?_;exact FL.nil ⟨rfl,_,S0,I0,(congrArg vB (bifF c27).symm)⟩
 rintro f26 w25 ⟨H22,S23,i24,k28⟩;refine FL.as k28 ?_;refine FL.nil (FW.ret ?_);obtain rfl:=hp;exact ⟨.inr rfl,res1 rfl rfl ⟨rfl,S23.back⟩⟩

set_option maxHeartbeats 2000000 in
theorem wn240:∀ (m:Nat) (n:Int) {Ha:GH} {wa:World},Sl Ha wa→2 * n.natAbs + (if n < 0 then 1 else 0) < m→-9223372036854775808 < n→n≤9223372036854775807→Calls prog 240 #[vI n] wa (Sc Ha wa (vT (itoaS n))):=by
 intro m;induction m with
 | zero=>intro n Ha wa hs hm;omega;| succ m ih =>
 intro n Ha wa hs hm h0 h1;have S0:=St.init hs;have hsz:=itoaS_size n (by omega) h1;refine zah (N:=25) (args:=[vI n]) func240 rfl rfl rfl ?_;refine FW.sr<|FL.as (v:=vT ByteArray.empty) rfl<|FL.nil (FW.seq (FW.sr ?_));refine FL.mv (v:=vI n) rfl<|FL.v (E.lss rfl rfl) ?_;refine FL.nil ?_;by_cases hn:n < 0
 ·
  refine FW.condT rfl (decide_eq_true hn) ?_;refine FW.sr<|FL.mv (v:=vI n) rfl<|FL.v (E.neg rfl) ?_;have e1:wr (-n)=-n:=wr_of _ (by omega) (by omega);refine FL.c (E.call call240 (A1 rfl)) (ih (wr (-n)) S0.sl (by rw [e1,if_neg (by omega)];rw [if_pos hn] at hm;omega) (by rw [e1];omega) (by rw [e1];omega)) ?_;rintro e w2 ⟨rfl,r2⟩;refine ⟨_,rfl,?_⟩;have S2:=S0.call r2;have hc:catS (ByteArray.mk #[45]) (itoaS (wr (-n)))=some (itoaS n):=by
   rw [e1,itoaS_neg hn];unfold catS;rw [if_pos];have:=itoaS_size (-n) (by omega) (by omega);show 1 + _≤_;omega
  refine FL.v (E.addT rfl rfl hc) ?_;refine FL.as (v:=vT (itoaS n)) rfl<|FL.nil (FW.ret ?_);exact ⟨.inr rfl,res1 rfl rfl ⟨rfl,S2.back⟩⟩
 ·
  refine FW.condF rfl (decide_eq_false hn) ?_;refine FW.skip (FW.seq (FW.sr ?_));refine FL.mv (v:=vI n) rfl<|FL.v (E.lss rfl rfl) ?_;refine FL.nil ?_;by_cases h10:n < 10
  ·
   refine FW.condT rfl (decide_eq_true h10) ?_;have e1:wr (n + 1)=n + 1:=wr_of _ (by omega) (by omega);refine FW.sr<|FL.mv (v:=vI n) rfl<|FL.mv (v:=vI n) rfl<|FL.v (E.add rfl rfl) ?_;refine FL.v (E.sliceS (s:=ByteArray.mk #[48,49,50,51,52,53,54,55,56,57]) (a:=n) (b:=wr (n + 1)) underlying9 rfl rfl rfl (by omega) (by rw [e1];omega) (by rw [e1];show _≤(10:Int);omega)) ?_;refine FL.as (v:=vT (tx1_0.extract n.toNat (wr (n + 1)).toNat)) rfl<|FL.nil (FW.ret ?_);have e2:tx1_0.extract n.toNat (wr (n + 1)).toNat=itoaS n:=by rw [e1,digit_of (by omega) h10,itoaS_one (by omega) h10]
   exact ⟨.inr rfl,res1 rfl (congrArg vT e2) ⟨rfl,S0.back⟩⟩
  ·
   refine FW.condF rfl (decide_eq_false h10) ?_;have hq:(n.tdiv 10).natAbs < n.natAbs∧0≤n.tdiv 10∧0≤n.tmod 10∧n.tmod 10 < 10:=by
    obtain ⟨k,rfl⟩:=Int.eq_ofNat_of_zero_le (show 0≤n by omega);have e1:((k:Nat):Int).tdiv 10=((k / 10:Nat):Int):=rfl;have e2:((k:Nat):Int).tmod 10=((k % 10:Nat):Int):=rfl;rw [e1,e2];omega
   obtain ⟨q1,q2,q3,q4⟩:=hq;have e1:wr (n.tdiv 10)=n.tdiv 10:=wr_of _ (by omega) (by omega);have e3:wr (n.tmod 10 + 1)=n.tmod 10 + 1:=wr_of _ (by omega) (by omega);refine FW.skip<|FW.seq ?_;refine FW.draw (fun w'=>Run wa.heap.size Ha wa Ha w') (by kernel_rfl) (by kernel_rfl) (zaR S0.sl) ?_;refine FD.v (fun _ z=>(E.move (v:=vI n) rfl)) ?_;refine FD.v (fun _ z=>(E.quo rfl rfl (by decide))) ?_;refine FD.call rfl rfl rfl (fun _ z=>(E.call call240 (A1 rfl))) (fun _ z=>Calls.cls z (ih (wr (n.tdiv 10)) (S0.call z).sl (by rw [e1,if_neg (by omega)];rw [if_neg hn] at hm;omega) (by rw [e1];omega) (by rw [e1];omega))) ?_;refine FD.v (fun _ z=>(E.move (v:=vI n) rfl)) ?_;refine FD.v (fun _ z=>(E.rem rfl rfl (by decide))) ?_;refine FD.v (fun _ z=>(E.move (v:=vI n) rfl)) ?_;refine FD.v (fun _ z=>(E.rem rfl rfl (by decide))) ?_;refine FD.v (fun _ z=>(E.add rfl rfl)) ?_;refine FD.v (fun _ z=>(E.sliceS (s:=ByteArray.mk #[48,49,50,51,52,53,54,55,56,57]) (a:=n.tmod 10) (b:=wr (n.tmod 10 + 1)) underlying9 rfl rfl rfl (by omega) (by rw [e3];omega) (by rw [e3];show _≤(10:Int);omega))) ?_;have hc:catS (itoaS (wr (n.tdiv 10))) (tx1_0.extract (n.tmod 10).toNat (wr (n.tmod 10 + 1)).toNat)=some (itoaS n):=by
    rw [e1,e3,digit_of q3 q4,itoaS_more (n:=n) (by omega)];unfold catS;rw [if_pos];have h5:=itoaS_size (n.tdiv 10) (by omega) (by omega);show (itoaS (n.tdiv 10)).size + 1≤_;omega
   refine FD.v (fun _ z=>(E.addT rfl rfl hc)) ?_;refine FD.v (fun _ z=>(E.assign (v:=vT (itoaS n)) rfl)) ?_;refine FD.nil ?_;intro w4 r4;have S4:=S0.call r4;refine FW.ret ?_;exact ⟨.inr rfl,res1 rfl rfl ⟨rfl,S4.back⟩⟩
theorem zey {Ha:GH} {wa:World} (hs:Sl Ha wa) (a0:Int) {r:ByteArray} (hp:(PF.zcx a0)=some r):Calls prog 240 #[vI a0] wa (Sc Ha wa (vT r)):=by
 unfold PF.zcx numT at hp;split at hp
 ·
  rename_i h;cases hp;exact wn240 _ a0 hs (Nat.lt_succ_self _) h.1 h.2
 ·
  cases hp

set_option maxHeartbeats 4000000 in
theorem w_spec_l1Read {Ha:GH} {wa:World} (hs:Sl Ha wa) (a0:ByteArray) {r:(Int×Bool)} (hp:(PF.zcT a0)=some r) :
  Calls prog 197 #[vT a0] wa (Sc Ha wa (Value.tuple #[vI r.1,vB r.2])):=by
 unfold PF.zcT at hp;have S0:=St.init hs;refine zah (N:=58) (args:=[vT a0]) func197 rfl rfl rfl ?_;refine FW.sr<|FL.as (v:=vI 0) rfl<|FL.as (v:=vB false) rfl<|FL.nil<|FW.sr<|FL.mv (v:=vT a0) rfl<|FL.as (v:=vT a0) rfl<|FL.nil (FW.seq (FW.sr ?_));refine FL.mv (v:=vT a0) rfl<|FL.v (E.lenS runUnderlying9 rfl) ?_;refine FL.v (E.gtr rfl rfl) ?_;refine FL.mv (v:=vB (decide (1 < (a0.size:Int)))) rfl ?_;obtain ⟨t23,hqt23,hp⟩:=bnd hp;refine FL.cut 4 (fun f w=>∃ H:GH,St Ha wa H w []∧Inc Ha H∧f 0=vT a0∧f 4=vT a0∧f 15=vB t23) ?_ ?_
 ·
  clear hp;have hp:=hqt23;clear hqt23;rcases ifB hp with ⟨c29,hp⟩|⟨c29,hp⟩
  ·
   refine FL.y (wY c29) (E.move (v:=vT a0) rfl) ?_;obtain ⟨z30,h31,hp⟩:=bnd hp;refine FL.y (wY c29) (E.ixS runUnderlying9 rfl rfl h31) ?_;refine FL.y (wY c29) (E.eql rfl rfl) ?_;cases hp;refine FL.v (E.pickT rfl c29 rfl) ?_;exact FL.nil ⟨rfl,_,S0,I0,rfl,rfl,rfl⟩
  ·
   refine FL.n c29<|FL.n c29<|FL.n c29 ?_;cases hp;refine FL.v (E.pickF rfl c29 rfl) ?_;exact FL.nil ⟨rfl,_,S0,I0,rfl,rfl,rfl⟩
 rintro f28 w27 ⟨H24,S25,i26,k32,k33,k34⟩;refine FL.nil ?_;obtain ⟨q39,hq,hp⟩:=bndR hp;refine FW.joinE (S:=ByteArray) (X:=Empty) (q:=q39) (fun s38 f w=>∃ H:GH,St Ha wa H w []∧Inc H24 H∧f 0=vT a0∧f 4=vT s38) (fun (_:Empty) _ _ _=>False) ?_ ?_ ?_
 ·
  clear hp;have hp:=hq;clear hq;refine FW.iB hp k34 (fun c41 hp=>?_) fun c41 hp=>?_
  ·
   refine FW.region<|FL.mv k33 ?_;obtain ⟨z42,h43,hp⟩:=bnd hp;refine FL.v (E.cutS (kl:=.i64) (kh:=.i64) underlying9 rfl (.inr ⟨_,rfl,rfl⟩) (.inl ⟨rfl,rfl⟩) h43) ?_;refine FL.as (v:=vT z42) rfl<|FL.nil ?_;cases hp;exact ⟨rfl,⟨_,S25,I0,k32,rfl⟩⟩
  ·
   refine FW.skip ?_;cases hp;exact ⟨rfl,⟨_,S25,I0,k32,k33⟩⟩
 ·
  rintro s38 rfl f48 w47 ⟨H44,S45,i46,k49,k50⟩;replace hp:=el_go hp;refine FW.seq<|FW.sr<|FL.mv k50<|FL.v (E.lenS runUnderlying9 rfl) ?_;refine FL.c (E.call call81 (A3 rfl rfl rfl)) (zbl S45.sl (s38.size:Int) 1 6) ?_;rintro e w51 ⟨rfl,r52⟩;refine ⟨_,rfl,?_⟩;have S53:=S45.call r52;refine FL.v (E.not rfl) ?_;refine FL.nil ?_;refine FW.iB hp rfl (fun c54 hp=>?_) fun c54 hp=>?_
  ·
   refine FW.sr<|FL.as (v:=vI 0) rfl<|FL.as (v:=vB false) rfl<|FL.nil (FW.ret ?_);cases hp;exact ⟨.inr rfl,res2 rfl rfl rfl ⟨rfl,S53.back⟩⟩
  ·
   refine FW.skip<|FW.sr<|FL.as (v:=vI 0) rfl<|FL.nil (FW.seq (FW.sr ?_));refine FL.as (v:=vI 0) rfl<|FL.nil ?_;obtain ⟨m55,hchk56,hp⟩:=bnd hp;obtain ⟨q56,hq,hp⟩:=bndR hp;refine FW.block ?_;refine FW.mono (FW.forR (S:=Int) (X:=(Int×Bool)) (fun (i56:Nat) (s56:Int) f w=>∃ H:GH,St Ha wa H w []∧Inc H44 H∧f 6=vI ((i56:Nat):Int)∧f 0=vT a0∧f 4=vT s38∧f 5=vI s56) (fun q e f w=>match q with|.go s56=>e=Exit.exit 0∧(∃ H:GH,St Ha wa H w []∧Inc H44 H∧f 0=vT a0∧f 4=vT s38∧f 5=vI s56)|.rt x=>((e=Exit.ret)∧(fun e f w=>(e=Exit.normal∨e=Exit.ret)∧∀ a,Fr (δ:=[]) 58 a f→∃ v,(results Tryz.f197 a.tmps).run prog w=.ok v w∧(Sc Ha wa (Value.tuple #[vI x.1,vB x.2])) (.returned v) w) e f w)) hq ⟨_,S53,I0,rfl,k49,k50,rfl⟩ ?_ ?_) ?_
   ·
    clear hp hq;rintro i56 s56 f91 w90 ⟨H87,S88,i89,k92,k93,k94,k95⟩ hi56 hj56 oAh hp;refine FW.seq<|FW.sr<|FL.mv k92<|FL.mv k94<|FL.v (E.lenS runUnderlying9 rfl) ?_;refine FL.v (E.lssT rfl rfl (zcr hj56 hchk56)) ?_;refine FL.nil<|FW.condT rfl rfl ?_;refine FW.skip (FW.seq (FW.block (FW.seq (FW.sr ?_))));refine FL.mv k94<|FL.mv k92 ?_;obtain ⟨z96,h97,hp⟩:=bnd hp;refine FL.v (E.ixS runUnderlying9 rfl rfl h97) ?_;refine FL.v (E.lss rfl rfl) ?_;refine FL.mv (v:=vB (decide (z96 < 48))) rfl ?_;obtain ⟨t100,hqtA0,hp⟩:=bnd hp;refine FL.cut 5 (fun f w=>∃ H:GH,St Ha wa H w []∧Inc H87 H∧f 0=vT a0∧f 4=vT s38∧f 5=vI s56∧f 6=vI ((i56:Nat):Int)∧f 37=vB t100) ?_ ?_
    ·
     clear hp;have hp:=hqtA0;clear hqtA0;rcases ifB hp with ⟨cA6,hp⟩|⟨cA6,hp⟩
     ·
      refine FL.n cA6<|FL.n cA6<|FL.n cA6<|FL.n cA6 ?_;cases hp;refine FL.v (E.pickT rfl cA6 rfl) ?_;exact FL.nil ⟨rfl,_,S88,I0,k93,k94,k95,k92,rfl⟩
     ·
      refine FL.y (wY cA6) (E.move k94) ?_;refine FL.y (wY cA6) (E.move k92) ?_;obtain ⟨zA7,hA8,hp⟩:=bnd hp;refine FL.y (wY cA6) (E.ixS runUnderlying9 rfl rfl hA8) ?_;refine FL.y (wY cA6) (E.gtr rfl rfl) ?_;cases hp;refine FL.v (E.pickF rfl cA6 rfl) ?_;exact FL.nil ⟨rfl,_,S88,I0,k93,k94,k95,k92,rfl⟩
    rintro fA5 wA4 ⟨HA1,SA2,iA3,kA9,kAa,kAb,kAc,kAd⟩;refine FL.nil ?_;refine FW.iB hp kAd (fun cAe hp=>?_) fun cAe hp=>?_
    ·
     refine FW.sr<|FL.as (v:=vI 0) rfl<|FL.as (v:=vB false) rfl<|FL.nil (FW.ret ?_);cases hp;exact ⟨nofun,rfl,⟨.inr rfl,res2 rfl rfl rfl ⟨rfl,SA2.back⟩⟩⟩
    ·
     refine FW.skip<|FW.region<|FL.mv kAb<|FL.v (E.mul rfl rfl) ?_;refine FL.mv kAa<|FL.mv kAc ?_;obtain ⟨zAf,hAg,hp⟩:=bnd hp;refine FL.v (E.ixS runUnderlying9 rfl rfl hAg) ?_;refine FL.v (E.subK rfl rfl) ?_;refine FL.v (E.conv runUnderlying5 runUnderlying3 rfl) ?_;refine FL.v (E.add rfl rfl) ?_;refine FL.as (v:=vI (wr ((wr (10 * s56)) + (wrk true 64 (wrk false 8 (zAf - 48)))))) rfl<|FL.nil<|FW.region<|FL.mv kAc<|FL.v (E.add rfl rfl) ?_;refine FL.as (v:=vI (wr (((i56:Nat):Int) + 1))) rfl<|FL.nil ?_;cases hp;exact ⟨rfl,⟨_,SA2,(i89.tr iA3),(zat rfl hj56 (zbO hchk56)),kA9,kAa,rfl⟩⟩
   ·
    clear hp hq;rintro s56 fAM wAL ⟨HAI,SAJ,iAK,kAN,kAO,kAP,kAQ⟩;refine FW.seq<|FW.sr<|FL.mv kAN<|FL.mv kAP<|FL.v (E.lenS runUnderlying9 rfl) ?_;refine FL.v (E.lss rfl rfl) ?_;refine FL.nil<|FW.condF rfl (zcs hchk56) ?_;refine FW.exit ?_;exact ⟨nofun,rfl,⟨_,SAJ,iAK,kAO,kAP,kAQ⟩⟩
   ·
    clear hq;intro e fAm wAl hD;rcases q56 with s56|x56
    ·
     obtain ⟨rfl,hD⟩:=hD;obtain ⟨HAi,SAj,iAk,kAn,kAo,kAp⟩:=hD;replace hp:=el_go hp;refine FW.seq<|FW.sr<|FL.mv kAo<|FL.v (E.lenS runUnderlying9 rfl) ?_;refine FL.mv kAn<|FL.v (E.lenS runUnderlying9 rfl) ?_;refine FL.v (E.lss rfl rfl) ?_;refine FL.nil ?_;obtain ⟨qAs,hq,hp⟩:=bndR hp;refine FW.joinE (S:=Int) (X:=Empty) (q:=qAs) (fun sAr f w=>∃ H:GH,St Ha wa H w []∧Inc HAi H∧f 0=vT a0∧f 5=vI sAr) (fun (_:Empty) _ _ _=>False) ?_ ?_ ?_
     ·
      clear hp;have hp:=hq;clear hq;refine FW.iB hp rfl (fun cAu hp=>?_) fun cAu hp=>?_
      ·
       refine FW.region<|FL.mv kAp<|FL.v (E.neg rfl) ?_;refine FL.as (v:=vI (wr (-s56))) rfl<|FL.nil ?_;cases hp;exact ⟨rfl,⟨_,SAj,I0,kAn,rfl⟩⟩
      ·
       refine FW.skip ?_;cases hp;exact ⟨rfl,⟨_,SAj,I0,kAn,kAp⟩⟩
     ·
      rintro sAr rfl fAz wAy ⟨HAv,SAw,iAx,kAA,kAB⟩;replace hp:=el_go hp;refine FW.seq<|FW.sr<|FL.mv kAB ?_;obtain ⟨rAC,hrAD,hp⟩:=bnd hp;refine FL.c (E.call call240 (A1 rfl)) (zey SAw.sl sAr hrAD) ?_;rintro e wAE ⟨rfl,rAF⟩;refine ⟨_,rfl,?_⟩;have SAG:=SAw.call rAF;refine FL.mv kAA<|FL.v (E.neqS rfl rfl) ?_;refine FL.nil ?_;refine FW.iB hp rfl (fun cAH hp=>?_) fun cAH hp=>?_
      ·
       refine FW.sr<|FL.as (v:=vI 0) rfl<|FL.as (v:=vB false) rfl<|FL.nil (FW.ret ?_);cases hp;exact ⟨.inr rfl,res2 rfl rfl rfl ⟨rfl,SAG.back⟩⟩
      ·
       refine FW.skip<|FW.sr<|FL.mv kAB<|FL.as (v:=vI sAr) rfl<|FL.as (v:=vB true) rfl<|FL.nil (FW.ret ?_);cases hp;exact ⟨.inr rfl,res2 rfl rfl rfl ⟨rfl,SAG.back⟩⟩
     ·
      intro xAt;exact xAt.elim
    ·
     obtain ⟨he,hL⟩:=hD;replace hp:=el_rt hp;cases hp;subst he;exact hL
 ·
  intro x40;exact x40.elim

theorem zez {Ha:GH} {wa:World} (hs:Sl Ha wa) (a0:Int) :
  Calls prog 189 #[vI a0] wa (Sc Ha wa (vB (PF.zba a0))):=by
 obtain ⟨r,hp⟩:∃ r,(PF.zba a0)=r:=⟨_,rfl⟩;rw [hp];unfold PF.zba at hp;have S0:=St.init hs;refine zah (N:=5) (args:=[vI a0]) func189 rfl rfl rfl ?_;refine FW.sr<|FL.as (v:=vB false) rfl<|FL.nil<|FW.sr<|FL.mv (v:=vI a0) rfl ?_;refine FL.c (E.call call81 (A3 rfl rfl rfl)) (zbl S0.sl a0 0 12) ?_;rintro e w21 ⟨rfl,r22⟩;refine ⟨_,rfl,?_⟩;have S23:=S0.call r22;refine FL.as (v:=vB (PF.zan a0 0 12)) rfl<|FL.nil (FW.ret ?_);obtain rfl:=hp;exact ⟨.inr rfl,res1 rfl rfl ⟨rfl,S23.back⟩⟩

theorem w_spec_l2Lit {Ha:GH} {wa:World} (hs:Sl Ha wa) (a0:Int) (a1:Int) :
  Calls prog 214 #[vI a0,vI a1] wa (Sc Ha wa (vB (PF.zbE a0 a1))):=by
 obtain ⟨r,hp⟩:∃ r,(PF.zbE a0 a1)=r:=⟨_,rfl⟩;rw [hp];unfold PF.zbE at hp;have S0:=St.init hs;refine zah (N:=14) (args:=[vI a0,vI a1]) func214 rfl rfl rfl ?_;refine FW.sr<|FL.as (v:=vB false) rfl<|FL.nil<|FW.sr<|FL.mv (v:=vI a1) rfl<|FL.mv (v:=vI a0) rfl<|FL.v (E.neg rfl) ?_;refine FL.mv (v:=vI a0) rfl ?_;refine FL.c (E.call call81 (A3 rfl rfl rfl)) (zbl S0.sl a1 (wr (-a0)) a0) ?_;rintro e w21 ⟨rfl,r22⟩;refine ⟨_,rfl,?_⟩;have S23:=S0.call r22;refine FL.mv (v:=vB (PF.zan a1 (wr (-a0)) a0)) rfl ?_;refine FL.cut 3 (fun f w=>∃ H:GH,St Ha wa H w []∧Inc Ha H∧f 13=vB (bif (PF.zan a1 (wr (-a0)) a0) then (!(a1 == 0)) else false)) ?_ ?_
 ·
  rcases bcase (PF.zan a1 (wr (-a0)) a0) with c30|c30
  ·
   refine FL.y (wY c30) (E.move (v:=vI a1) rfl) ?_;refine FL.y (wY c30) (E.neq rfl rfl) ?_;refine FL.v (E.pickT rfl c30 rfl) ?_;exact FL.nil ⟨rfl,_,S23,I0,(congrArg vB (bifT c30).symm)⟩
  ·
   refine FL.n c30<|FL.n c30<|FL.v (E.pickF rfl c30 rfl) ?_;exact FL.nil ⟨rfl,_,S23,I0,(congrArg vB (bifF c30).symm)⟩
 rintro f29 w28 ⟨H25,S26,i27,k31⟩;refine FL.as k31 ?_;refine FL.nil (FW.ret ?_);obtain rfl:=hp;exact ⟨.inr rfl,res1 rfl rfl ⟨rfl,S26.back⟩⟩

theorem zbY {Ha:GH} {wa:World} (hs:Sl Ha wa) (a0:Int) :
  Calls prog 136 #[vI a0] wa (Sc Ha wa (vI (PF.zaH a0))):=by
 obtain ⟨r,hp⟩:∃ r,(PF.zaH a0)=r:=⟨_,rfl⟩;rw [hp];unfold PF.zaH at hp;have S0:=St.init hs;refine zah (N:=8) (args:=[vI a0]) func136 rfl rfl rfl ?_;refine FW.sr<|FL.as (v:=vI 0) rfl<|FL.nil (FW.seq (FW.sr ?_));refine FL.mv (v:=vI a0) rfl<|FL.v (E.lss rfl rfl) ?_;refine FL.nil ?_;refine FW.iT hp rfl (fun c21 hp=>?_) fun c21 hp=>?_
 ·
  refine FW.sr<|FL.mv (v:=vI a0) rfl<|FL.v (E.neg rfl) ?_;refine FL.as (v:=vI (wr (-a0))) rfl<|FL.nil (FW.ret ?_);obtain rfl:=hp;exact ⟨.inr rfl,res1 rfl rfl ⟨rfl,S0.back⟩⟩
 ·
  refine FW.skip<|FW.sr<|FL.mv (v:=vI a0) rfl<|FL.as (v:=vI a0) rfl<|FL.nil (FW.ret ?_);obtain rfl:=hp;exact ⟨.inr rfl,res1 rfl rfl ⟨rfl,S0.back⟩⟩

set_option maxHeartbeats 4000000 in
theorem zeA {Ha:GH} {wa:World} (hs:Sl Ha wa) (a0:Int) (v1:Value) (a1:List Int) (p1:RSl Ha eI 1 v1 a1) {r:Bool} (hp:(PF.zb3 a0 a1)=some r) :
  Calls prog 190 #[vI a0,v1] wa (Sc Ha wa (vB r)):=by
 unfold PF.zb3 at hp;have S0:=St.init hs;refine zah (N:=40) (args:=[vI a0,v1]) func190 rfl rfl rfl ?_;refine FW.sr<|FL.as (v:=vB false) rfl<|FL.nil (FW.seq (FW.sr ?_));refine FL.mv (v:=vI a0) rfl ?_;refine FL.c (E.call call189 (A1 rfl)) (zez S0.sl a0) ?_;rintro e w21 ⟨rfl,r22⟩;refine ⟨_,rfl,?_⟩;have S23:=S0.call r22;refine FL.v (E.not rfl) ?_;refine FL.nil ?_;refine FW.iB hp rfl (fun c24 hp=>?_) fun c24 hp=>?_
 ·
  refine FW.sr<|FL.as (v:=vB false) rfl<|FL.nil (FW.ret ?_);cases hp;exact ⟨.inr rfl,res1 rfl rfl ⟨rfl,S23.back⟩⟩
 ·
  refine FW.skip (FW.seq (FW.sr ?_));refine FL.as (v:=vI 0) rfl<|FL.nil ?_;obtain ⟨q26,hq,hp⟩:=bndR hp;refine FW.block ?_;refine FW.mono (FW.forL (S:=Unit) (X:=Bool) (fun (i26:Nat) (s26:Unit) f w=>∃ H:GH,St Ha wa H w []∧Inc Ha H∧f 5=vI ((i26:Nat):Int)∧f 0=vI a0∧f 1=v1) (fun q e f w=>match q with|.go s26=>e=Exit.exit 0∧(∃ H:GH,St Ha wa H w []∧Inc Ha H)|.rt x=>((e=Exit.ret)∧(fun e f w=>(e=Exit.normal∨e=Exit.ret)∧∀ a,Fr (δ:=[]) 40 a f→∃ v,(results Tryz.f190 a.tmps).run prog w=.ok v w∧(Sc Ha wa (vB x)) (.returned v) w) e f w)) hq ⟨_,S23,I0,rfl,rfl,rfl⟩ ?_ ?_) ?_
  ·
   clear hp hq;rintro i26 y25 s26 fAF wAE ⟨HAB,SAC,iAD,kAG,kAH,kAI⟩ hx26 oCn hp;refine FW.seq<|FW.sr<|FL.mv kAG<|FL.mv kAI<|FL.v (E.lenP te52 rfl p1) ?_;refine FL.v (E.lssT rfl rfl (zaN hx26)) ?_;refine FL.nil<|FW.condT rfl rfl ?_;refine FW.skip (FW.seq (FW.block (FW.seq ?_)));refine FW.draw (fun w'=>Run wAE.heap.size HAB wAE HAB w') (by kernel_rfl) (by kernel_rfl) (zaR SAC.sl) ?_;refine FD.v (fun _ z=>(E.move kAH)) ?_;refine FD.v (fun _ z=>(E.move kAI)) ?_;refine FD.v (fun _ z=>(E.move kAG)) ?_;obtain ⟨pAK,csAL,ptAM,lAN,atAO,relAP⟩:=p1.at (zaz hx26);obtain rfl:=zal relAP;refine FD.v (fun _ z=>(E.indexAddr te52 rfl rfl ptAM)) ?_;refine FD.v (fun _ z=>(E.load rfl (zai isAgg3 ((atAO.mono iAD).now (SAC.call z).sl) rfl))) ?_;refine FD.call rfl rfl rfl (fun _ z=>(E.call call214 (A2 rfl rfl))) (fun _ z=>Calls.cls z (w_spec_l2Lit (SAC.call z).sl a0 y25)) ?_;refine FD.v (fun _ z=>(E.not rfl)) ?_;refine FD.v (fun _ z=>(E.move (v:=vB (!(PF.zbE a0 y25))) rfl)) ?_;obtain ⟨t192,hqtBu,hp⟩:=bnd hp;refine FD.cut 17 (fun f=>f 0=vI a0∧f 1=v1∧f 5=vI ((i26:Nat):Int)∧f 39=vB t192) ?_ ?_
   ·
    clear hp;have hp:=hqtBu;clear hqtBu;rcases ifB hp with ⟨cBA,hp⟩|⟨cBA,hp⟩
    ·
     refine FD.n cBA<|FD.n cBA<|FD.n cBA<|FD.skip (zaK rfl rfl rfl) rfl ?_;refine FD.skip (zaK rfl rfl rfl) rfl ?_;refine FD.skip (zaK rfl rfl rfl) rfl ?_;refine FD.skip (zaK rfl rfl rfl) rfl ?_;refine FD.skip (zaK rfl rfl rfl) rfl ?_;refine FD.skip (zaK rfl rfl rfl) rfl ?_;refine FD.skip (zaK rfl rfl rfl) rfl ?_;refine FD.skip (zaK rfl rfl rfl) rfl ?_;refine FD.skip (zaK rfl rfl rfl) rfl ?_;refine FD.skip (zaK rfl rfl rfl) rfl ?_;refine FD.skip (zaK rfl rfl rfl) rfl ?_;refine FD.skip (zaK rfl rfl rfl) rfl ?_;refine FD.n cBA ?_;cases hp;refine FD.v (fun _ z=>(E.pickT rfl cBA rfl)) ?_;exact FD.nil ⟨kAH,kAI,kAG,rfl⟩
    ·
     refine FD.y (wY cBA) (fun _ z=>(E.move kAG)) ?_;refine FD.y (wY cBA) (fun _ z=>(E.gtr rfl rfl)) ?_;refine FD.y (wY cBA) (fun _ z=>(E.move (v:=vB (decide (0 < ((i26:Nat):Int)))) rfl)) ?_;obtain ⟨t213,hqtBP,hp⟩:=bnd hp;refine FD.cut 13 (fun f=>f 0=vI a0∧f 1=v1∧f 5=vI ((i26:Nat):Int)∧f 22=vB (!(PF.zbE a0 y25))∧f 38=vB t213) ?_ ?_
     ·
      clear hp;have hp:=hqtBP;clear hqtBP;rcases ifB hp with ⟨cBV,hp⟩|⟨cBV,hp⟩
      ·
       refine FD.y (wY cBV) (fun _ z=>(E.move kAI)) ?_;refine FD.y (wY cBV) (fun _ z=>(E.move kAG)) ?_;refine FD.y (wY cBV) (fun _ z=>(E.sub rfl rfl)) ?_;obtain ⟨xC2,hxC3,hp⟩:=bnd hp;obtain ⟨pBW,csBX,ptBY,lBZ,atC0,relC1⟩:=p1.at hxC3;obtain rfl:=zal relC1;refine FD.y (wY cBV) (fun _ z=>(E.indexAddr te52 rfl rfl ptBY)) ?_;refine FD.y (wY cBV) (fun _ z=>(E.load rfl (zai isAgg3 ((atC0.mono iAD).now (SAC.call z).sl) rfl))) ?_;refine FD.call (wY cBV) rfl rfl (fun _ z=>(E.call call136 (A1 rfl))) (fun _ z=>Calls.cls z (zbY (SAC.call z).sl xC2)) ?_;refine FD.y (wY cBV) (fun _ z=>(E.move kAI)) ?_;refine FD.y (wY cBV) (fun _ z=>(E.move kAG)) ?_;obtain ⟨pC4,csC5,ptC6,lC7,atC8,relC9⟩:=p1.at (zaz hx26);obtain rfl:=zal relC9;refine FD.y (wY cBV) (fun _ z=>(E.indexAddr te52 rfl rfl ptC6)) ?_;refine FD.y (wY cBV) (fun _ z=>(E.load rfl (zai isAgg3 ((atC8.mono iAD).now (SAC.call z).sl) rfl))) ?_;refine FD.call (wY cBV) rfl rfl (fun _ z=>(E.call call136 (A1 rfl))) (fun _ z=>Calls.cls z (zbY (SAC.call z).sl y25)) ?_;refine FD.y (wY cBV) (fun _ z=>(E.geq rfl rfl)) ?_;cases hp;refine FD.y (wY cBA) (fun _ z=>(E.pickT rfl cBV rfl)) ?_;exact FD.nil ⟨kAH,kAI,kAG,rfl,rfl⟩
      ·
       refine FD.n cBV<|FD.n cBV<|FD.n cBV<|FD.n cBV<|FD.n cBV<|FD.n cBV<|FD.n cBV<|FD.n cBV<|FD.n cBV ?_;refine FD.n cBV<|FD.n cBV<|FD.n cBV ?_;cases hp;refine FD.y (wY cBA) (fun _ z=>(E.pickF rfl cBV rfl)) ?_;exact FD.nil ⟨kAH,kAI,kAG,rfl,rfl⟩
     rintro fBU ⟨kCa,kCb,kCc,kCd,kCe⟩;cases hp;refine FD.v (fun _ z=>(E.pickF kCd cBA kCe)) ?_;exact FD.nil ⟨kCa,kCb,kCc,rfl⟩
   rintro fBz ⟨kCf,kCg,kCh,kCi⟩;refine FD.nil ?_;intro wCj rCl;have SCk:=SAC.call rCl;refine FW.iB hp kCi (fun cCm hp=>?_) fun cCm hp=>?_
   ·
    refine FW.sr<|FL.as (v:=vB false) rfl<|FL.nil (FW.ret ?_);cases hp;exact ⟨nofun,rfl,⟨.inr rfl,res1 rfl rfl ⟨rfl,SCk.back⟩⟩⟩
   ·
    refine FW.skip<|FW.region<|FL.mv kCh<|FL.v (E.add rfl rfl) ?_;refine FL.as (v:=vI (wr (((i26:Nat):Int) + 1))) rfl<|FL.nil ?_;cases hp;exact ⟨rfl,⟨_,SCk,iAD,(zat rfl (zaC hx26) (p1.mono iAD).le),kCf,kCg⟩⟩
  ·
   clear hp hq;rintro s26 fCx wCw ⟨HCt,SCu,iCv,kCy,kCz,kCA⟩;refine FW.seq<|FW.sr<|FL.mv kCy<|FL.mv kCA<|FL.v (E.lenP te52 rfl p1) ?_;refine FL.v (E.lss rfl rfl) ?_;refine FL.nil<|FW.condF rfl zaO ?_;refine FW.exit ?_;exact ⟨nofun,rfl,⟨_,SCu,iCv⟩⟩
  ·
   clear hq;intro e fCs wCr hD;rcases q26 with s26|x26
   ·
    obtain ⟨rfl,hD⟩:=hD;obtain ⟨HCo,SCp,iCq⟩:=hD;replace hp:=el_go hp;refine FW.sr<|FL.as (v:=vB true) rfl<|FL.nil (FW.ret ?_);cases hp;exact ⟨.inr rfl,res1 rfl rfl ⟨rfl,SCp.back⟩⟩
   ·
    obtain ⟨he,hL⟩:=hD;replace hp:=el_rt hp;cases hp;subst he;exact hL

set_option maxHeartbeats 4000000 in
theorem w_spec_l2Text {Ha:GH} {wa:World} (hs:Sl Ha wa) (v0:Value) (a0:List Int) (p0:RSl Ha eI 1 v0 a0) {r:ByteArray} (hp:(PF.zcU a0)=some r) :
  Calls prog 241 #[v0] wa (Sc Ha wa (vT r)):=by
 unfold PF.zcU at hp;have S0:=St.init hs;refine zah (N:=27) (args:=[v0]) func241 rfl rfl rfl ?_;refine FW.sr<|FL.as (v:=vT (ByteArray.mk #[])) rfl<|FL.nil (FW.seq (FW.sr ?_));refine FL.mv (v:=v0) rfl<|FL.v (E.lenP te52 rfl p0) ?_;refine FL.v (E.eql rfl rfl) ?_;refine FL.nil ?_;refine FW.iB hp rfl (fun c21 hp=>?_) fun c21 hp=>?_
 ·
  refine FW.sr<|FL.as (v:=vT (ByteArray.mk #[110,111,110,101])) rfl<|FL.nil (FW.ret ?_);cases hp;exact ⟨.inr rfl,res1 rfl rfl ⟨rfl,S0.back⟩⟩
 ·
  refine FW.skip<|FW.sr<|FL.mv (v:=v0) rfl ?_;obtain ⟨x28,hx29,hp⟩:=bnd hp;obtain ⟨p22,cs23,pt24,l25,at26,rel27⟩:=p0.at hx29;obtain rfl:=zal rel27;refine FL.v (E.indexAddr te52 rfl rfl pt24) ?_;refine FL.v (E.load rfl (zai isAgg3 (at26.now S0.sl) rfl)) ?_;obtain ⟨r30,hr31,hp⟩:=bnd hp;refine FL.c (E.call call240 (A1 rfl)) (zey S0.sl x28 hr31) ?_;rintro e w32 ⟨rfl,r33⟩;refine ⟨_,rfl,?_⟩;have S34:=S0.call r33;refine FL.as (v:=vT r30) rfl<|FL.nil (FW.seq (FW.sr ?_));refine FL.as (v:=vI 1) rfl<|FL.nil ?_;obtain ⟨q35,hq,hp⟩:=bndR hp;refine FW.block ?_;refine FW.mono (FW.forR (S:=ByteArray) (X:=Empty) (fun (i35:Nat) (s35:ByteArray) f w=>∃ H:GH,St Ha wa H w []∧Inc Ha H∧f 4=vI ((i35:Nat):Int)∧f 0=v0∧f 3=vT s35) (fun (q:Rs ByteArray Empty) e f w=>match q with|.go s35=>e=Exit.exit 0∧(∃ H:GH,St Ha wa H w []∧Inc Ha H∧f 3=vT s35)|.rt x=>x.elim) hq ⟨_,S34,I0,rfl,rfl,rfl⟩ ?_ ?_) ?_
  ·
   clear hp hq;rintro i35 s35 f65 w64 ⟨H61,S62,i63,k66,k67,k68⟩ hi35 hj35 o86 hp;refine FW.seq<|FW.sr<|FL.mv k66<|FL.mv k67<|FL.v (E.lenP te52 rfl p0) ?_;refine FL.v (E.lssT rfl rfl (lss_natlen hj35)) ?_;refine FL.nil<|FW.condT rfl rfl ?_;refine FW.skip (FW.seq (FW.block (FW.region ?_)));refine FL.mv k68 ?_;obtain ⟨z69,h70,hp⟩:=bnd hp;refine FL.v (E.addT rfl rfl h70) ?_;refine FL.mv k67<|FL.mv k66 ?_;obtain ⟨x77,hx78,hp⟩:=bnd hp;obtain ⟨p71,cs72,pt73,l74,at75,rel76⟩:=p0.at hx78;obtain rfl:=zal rel76;refine FL.v (E.indexAddr te52 rfl rfl pt73) ?_;refine FL.v (E.load rfl (zai isAgg3 ((at75.mono i63).now S62.sl) rfl)) ?_;obtain ⟨r79,hr80,hp⟩:=bnd hp;refine FL.c (E.call call240 (A1 rfl)) (zey S62.sl x77 hr80) ?_;rintro e w81 ⟨rfl,r82⟩;refine ⟨_,rfl,?_⟩;have S83:=S62.call r82;obtain ⟨z84,h85,hp⟩:=bnd hp;refine FL.v (E.addT rfl rfl h85) ?_;refine FL.as (v:=vT z84) rfl<|FL.nil<|FW.region<|FL.mv k66<|FL.v (E.add rfl rfl) ?_;refine FL.as (v:=vI (wr (((i35:Nat):Int) + 1))) rfl<|FL.nil ?_;cases hp;exact ⟨rfl,⟨_,S83,i63,(zat rfl hj35 (p0.mono i63).le),k67,rfl⟩⟩
  ·
   clear hp hq;rintro s35 f97 w96 ⟨H93,S94,i95,k98,k99,kA0⟩;refine FW.seq<|FW.sr<|FL.mv k98<|FL.mv k99<|FL.v (E.lenP te52 rfl p0) ?_;refine FL.v (E.lss rfl rfl) ?_;refine FL.nil<|FW.condF rfl dlt_maxlen ?_;refine FW.exit ?_;exact ⟨nofun,rfl,⟨_,S94,i95,kA0⟩⟩
  ·
   clear hq;intro e f91 w90 hD;rcases q35 with s35|x35
   ·
    obtain ⟨rfl,hD⟩:=hD;obtain ⟨H87,S88,i89,k92⟩:=hD;replace hp:=el_go hp;refine FW.sr<|FL.mv k92<|FL.as (v:=vT s35) rfl<|FL.nil (FW.ret ?_);cases hp;exact ⟨.inr rfl,res1 rfl rfl ⟨rfl,S88.back⟩⟩
   ·
    exact x35.elim

@[reducible] def zfn (Ha:GH) (wa:World) (r:((List Int)×Bool)):Ending→World→Prop :=
 fun e w'=>∃ H':GH,∃ v0:Value,∃ n0:Nat,∃ c0:List Value,e=.returned (Value.tuple #[v0,vB r.2])∧St Ha wa H' w' [.row 3 1 v0 n0 c0]∧Els (up wa.heap.size H') eI 1 c0 r.1
set_option maxHeartbeats 4000000 in
theorem w_spec_l2Parse {Ha:GH} {wa:World} (hs:Sl Ha wa) (a0:Int) (a1:ByteArray) {r:((List Int)×Bool)} (hp:(PF.zdo a0 a1)=some r) :
  Calls prog 198 #[vI a0,vT a1] wa (zfn Ha wa r):=by
 unfold PF.zdo at hp;have S0:=St.init hs;refine zah (N:=61) (args:=[vI a0,vT a1]) func198 rfl rfl rfl ?_;refine FW.sr<|FL.as (v:=vN) rfl<|FL.as (v:=vB false) rfl<|FL.nil<|FW.sr ?_;obtain ⟨v21,w22,run23,S24⟩:=S0.b0 te52;have els25:Els (up wa.heap.size Ha) eI 1 [] []:=Els.nil;refine FL.v (E.buildSlice (B0) run23) ?_;refine FL.as (v:=v21) rfl<|FL.nil (FW.seq (FW.sr ?_));refine FL.mv (v:=vT a1) rfl<|FL.v (E.eqlS rfl rfl) ?_;refine FL.nil ?_;refine FW.iB hp rfl (fun c26 hp=>?_) fun c26 hp=>?_
 ·
  refine FW.sr<|FL.mv (v:=v21) rfl<|FL.mv (v:=vI a0) rfl ?_;refine FL.c (E.call call189 (A1 rfl)) (zez S24.sl a0) ?_;rintro e w27 ⟨rfl,r28⟩;refine ⟨_,rfl,?_⟩;have S29:=S24.call r28;refine FL.as (v:=v21) rfl<|FL.as (v:=vB (PF.zba a0)) rfl<|FL.nil (FW.ret ?_);cases hp;exact ⟨.inr rfl,res2 rfl rfl rfl ⟨_,_,_,_,rfl,S29,els25⟩⟩
 ·
  refine FW.skip<|FW.sr<|FL.mv (v:=vT a1) rfl ?_;obtain ⟨r30,hr31,hp⟩:=bnd hp;refine FL.c (E.call call196 (A2 rfl rfl)) (zfm S24.sl a1 32 hr31) ?_;rintro e w33 ⟨H32,v36,n37,cs38,rfl,r35,els39⟩;refine ⟨_,rfl,?_⟩;have els39:=els39.mono (up_le S24.size);have S34:=S24.join (l':=[.row 9 1 v36 n37 cs38,.row 3 1 v21 0 []]) r35 rfl;refine FL.as (v:=v36) rfl<|FL.nil (FW.seq (FW.sr ?_));refine FL.as (v:=vI 0) rfl<|FL.nil ?_;obtain ⟨q40,hq,hp⟩:=bndR hp;refine FW.block ?_;refine FW.mono (FW.iter (S:=((List Int)×Int)) (X:=((List Int)×Bool)) (fun (s40:((List Int)×Int)) f w=>∃ H:GH,∃ v41:Value,∃ n42:Nat,∃ cs43:List Value,St Ha wa H w [.row 9 1 v36 n37 cs38,.row 3 1 v41 n42 cs43]∧Inc H32 H∧Els (up wa.heap.size H) eI 1 cs43 s40.1∧f 0=vI a0∧f 1=vT a1∧f 6=v41∧f 7=v36∧f 8=vI s40.2) (fun q e f w=>match q with|.go s40=>e=Exit.exit 0∧(∃ H:GH,∃ v41:Value,∃ n42:Nat,∃ cs43:List Value,St Ha wa H w [.row 9 1 v36 n37 cs38,.row 3 1 v41 n42 cs43]∧Inc H32 H∧Els (up wa.heap.size H) eI 1 cs43 s40.1∧f 0=vI a0∧f 1=vT a1∧f 6=v41∧f 7=v36)|.rt x=>((e=Exit.ret)∧(fun e f w=>(e=Exit.normal∨e=Exit.ret)∧∀ a,Fr (δ:=[]) 61 a f→∃ v,(results Tryz.f198 a.tmps).run prog w=.ok v w∧(zfn Ha wa x) (.returned v) w) e f w)) hq ⟨_,_,_,_,S34,I0,(els25.mono (zaj r35.run.inc)),rfl,rfl,rfl,rfl,rfl⟩ ?_) ?_
  ·
   clear hp hq;rintro s40 fA8 wA7 ⟨HA4,v41,n42,cs43,SA5,iA6,els44,kA9,kAa,kAb,kAc,kAd⟩ oB1 hp;refine FW.seq<|FW.sr<|FL.mv kAd<|FL.mv kAc<|FL.v (E.lenO te108 rfl SA5 (i:=0) rfl els39 (by decide)) ?_;refine FL.v (E.lss rfl rfl) ?_;refine FL.mv (v:=vB (decide (s40.2 < (len r30)))) rfl ?_;refine FL.cut 3 (fun f w=>∃ H:GH,St Ha wa H w [.row 9 1 v36 n37 cs38,.row 3 1 v41 n42 cs43]∧Inc HA4 H∧f 0=vI a0∧f 1=vT a1∧f 6=v41∧f 7=v36∧f 8=vI s40.2∧f 26=vB (bif (decide (s40.2 < (len r30))) then (decide (s40.2≤12)) else false)) ?_ ?_
   ·
    rcases bcase (decide (s40.2 < (len r30))) with cAk|cAk
    ·
     refine FL.y (wY cAk) (E.move kAd) ?_;refine FL.y (wY cAk) (E.leq rfl rfl) ?_;refine FL.v (E.pickT rfl cAk rfl) ?_;exact FL.nil ⟨rfl,_,SA5,I0,kA9,kAa,kAb,kAc,kAd,(congrArg vB (bifT cAk).symm)⟩
    ·
     refine FL.n cAk<|FL.n cAk<|FL.v (E.pickF rfl cAk rfl) ?_;exact FL.nil ⟨rfl,_,SA5,I0,kA9,kAa,kAb,kAc,kAd,(congrArg vB (bifF cAk).symm)⟩
   rintro fAj wAi ⟨HAf,SAg,iAh,kAl,kAm,kAn,kAo,kAp,kAq⟩;refine FL.nil ?_;refine FW.iB hp kAq (fun cAr hp=>?_) fun cAr hp=>?_
   ·
    refine FW.skip (FW.seq (FW.block (FW.sr ?_)));refine FL.mv kAo<|FL.mv kAp ?_;obtain ⟨xAy,hxAz,hp⟩:=bnd hp;obtain ⟨pAs,csAt,ptAu,lAv,atAw,relAx⟩:=SAg.row_at (i:=0) rfl els39 (by decide) hxAz;obtain rfl:=eS_open relAx;refine FL.v (E.indexAddr te108 rfl rfl ptAu) ?_;refine FL.v (E.load rfl (zai isAgg9 atAw rfl)) ?_;obtain ⟨rAA,hrAB,hp⟩:=bnd hp;refine FL.c (E.call call197 (A1 rfl)) (w_spec_l1Read SAg.sl xAy hrAB) ?_;rintro e wAC ⟨rfl,rAD⟩;refine ⟨_,rfl,?_⟩;have SAE:=SAg.call rAD;refine FL.mv (v:=Value.tuple #[vI rAA.1,vB rAA.2]) rfl<|FL.v (E.extract (i:=0) rfl rfl) ?_;refine FL.v (E.extract (i:=1) rfl rfl) ?_;refine FL.as (v:=vI rAA.1) rfl<|FL.as (v:=vB rAA.2) rfl<|FL.nil (FW.seq (FW.sr ?_));refine FL.mv (v:=vB rAA.2) rfl<|FL.v (E.not rfl) ?_;refine FL.nil ?_;refine FW.iB hp rfl (fun cAF hp=>?_) fun cAF hp=>?_
    ·
     refine FW.sr ?_;obtain ⟨vAG,wAH,runAI,SAJ⟩:=SAE.b0 te52;have elsAK:Els (up wa.heap.size HAf) eI 1 [] []:=Els.nil;refine FL.v (E.buildSlice (B0) runAI) ?_;refine FL.as (v:=vAG) rfl<|FL.as (v:=vB false) rfl<|FL.nil (FW.ret ?_);cases hp;exact ⟨nofun,rfl,⟨.inr rfl,res2 rfl rfl rfl ⟨_,_,_,_,rfl,(SAJ.sel [0] (by decide) rfl),elsAK⟩⟩⟩
    ·
     refine FW.skip<|FW.region<|FL.mv kAn<|FL.mv (v:=vI rAA.1) rfl ?_;obtain ⟨vAL,wAM,runAN,SAO,elsAP⟩:=SAE.ints (P:=prog) te52 (up wa.heap.size HAf) 1 [rAA.1];refine FL.v (E.buildSlice (B1 rfl) runAN) ?_;obtain ⟨xsAQ,hzAR,hp⟩:=bnd hp;obtain ⟨vAS,wAV,nAT,csAU,runAW,SAX,elsAY,ceAZ⟩:=SAO.appendO (P:=prog) te52 (i:=2) (j:=0) rfl (els44.mono (zaj iAh)) rfl elsAP hzAR;have SB0:St Ha wa HAf wAV [.row 9 1 v36 n37 cs38,.row 3 1 vAS nAT csAU]:=SAX.drop 0;refine FL.v (E.append rfl rfl runAW) ?_;refine FL.as (v:=vAS) rfl<|FL.nil<|FW.region<|FL.mv kAp<|FL.v (E.add rfl rfl) ?_;refine FL.as (v:=vI (wr (s40.2 + 1))) rfl<|FL.nil ?_;cases hp;exact ⟨rfl,⟨_,_,_,_,SB0,(iA6.tr iAh),elsAY,kAl,kAm,rfl,kAo,rfl⟩⟩
   ·
    refine FW.exit ?_;cases hp;exact ⟨nofun,rfl,⟨_,_,_,_,SAg,(iA6.tr iAh),(els44.mono (zaj iAh)),kAl,kAm,kAn,kAo⟩⟩
  ·
   clear hq;intro e fB6 wB5 hD;rcases q40 with s40|x40
   ·
    obtain ⟨rfl,hD⟩:=hD;obtain ⟨HB2,v41,n42,cs43,SB3,iB4,els44,kB7,kB8,kB9,kBa⟩:=hD;replace hp:=el_go hp;refine FW.seq<|FW.sr<|FL.mv kBa<|FL.v (E.lenO te108 rfl SB3 (i:=0) rfl els39 (by decide)) ?_;refine FL.v (E.gtr rfl rfl) ?_;refine FL.mv (v:=vB (decide (12 < (len r30)))) rfl ?_;obtain ⟨t183,hqtBl,hp⟩:=bnd hp;refine FL.cut 5 (fun f w=>∃ H:GH,St Ha wa H w [.row 9 1 v36 n37 cs38,.row 3 1 v41 n42 cs43]∧Inc HB2 H∧f 1=vT a1∧f 6=v41∧f 52=vB t183) ?_ ?_
    ·
     clear hp;have hp:=hqtBl;clear hqtBl;rcases ifB hp with ⟨cBr,hp⟩|⟨cBr,hp⟩
     ·
      refine FL.n cBr<|FL.n cBr<|FL.n cBr<|FL.n cBr ?_;cases hp;refine FL.v (E.pickT rfl cBr rfl) ?_;exact FL.nil ⟨rfl,_,SB3,I0,kB8,kB9,rfl⟩
     ·
      refine FL.y (wY cBr) (E.move kB7) ?_;refine FL.y (wY cBr) (E.move kB9) ?_;obtain ⟨HBs,SBt,iBu,hBv,nvBw⟩:=SB3.sealRowU (i:=1) (l':=[.row 9 1 v36 n37 cs38]) rfl els44 (by decide) rfl;obtain ⟨rBx,hrBy,hp⟩:=bnd hp;refine FL.call (wY cBr) rfl rfl (E.call call190 (A2 rfl rfl)) (zeA SBt.sl a0 v41 s40.1 (hBv.mono upI) hrBy) ?_;rintro e wBz ⟨rfl,rBA⟩;refine ⟨_,rfl,?_⟩;have rBA:=Run.lend iBu SB3.sl rBA;have SBB:=SB3.call rBA;refine FL.y (wY cBr) (E.not rfl) ?_;cases hp;refine FL.v (E.pickF rfl cBr rfl) ?_;exact FL.nil ⟨rfl,_,SBB,I0,kB8,kB9,rfl⟩
    rintro fBq wBp ⟨HBm,SBn,iBo,kBC,kBD,kBE⟩;refine FL.mv kBE ?_;obtain ⟨t213,hqtBP,hp⟩:=bnd hp;refine FL.cut 5 (fun f w=>∃ H:GH,St Ha wa H w [.row 9 1 v36 n37 cs38,.row 3 1 v41 n42 cs43]∧Inc HBm H∧f 6=v41∧f 58=vB t213) ?_ ?_
    ·
     clear hp;have hp:=hqtBP;clear hqtBP;rcases ifB hp with ⟨cBV,hp⟩|⟨cBV,hp⟩
     ·
      refine FL.n cBV<|FL.n cBV<|FL.n cBV<|FL.n cBV ?_;cases hp;refine FL.v (E.pickT rfl cBV rfl) ?_;exact FL.nil ⟨rfl,_,SBn,I0,kBD,rfl⟩
     ·
      refine FL.y (wY cBV) (E.move kBD) ?_;obtain ⟨HBW,SBX,iBY,hBZ,nvC0⟩:=SBn.sealRowU (i:=1) (l':=[.row 9 1 v36 n37 cs38]) rfl (els44.mono (zaj iBo)) (by decide) rfl;obtain ⟨rC1,hrC2,hp⟩:=bnd hp;refine FL.call (wY cBV) rfl rfl (E.call call241 (A1 rfl)) (w_spec_l2Text SBX.sl v41 s40.1 (hBZ.mono upI) hrC2) ?_;rintro e wC3 ⟨rfl,rC4⟩;refine ⟨_,rfl,?_⟩;have rC4:=Run.lend iBY SBn.sl rC4;have SC5:=SBn.call rC4;refine FL.y (wY cBV) (E.move kBC) ?_;refine FL.y (wY cBV) (E.neqS rfl rfl) ?_;cases hp;refine FL.v (E.pickF rfl cBV rfl) ?_;exact FL.nil ⟨rfl,_,SC5,I0,kBD,rfl⟩
    rintro fBU wBT ⟨HBQ,SBR,iBS,kC6,kC7⟩;refine FL.nil ?_;refine FW.iB hp kC7 (fun cC8 hp=>?_) fun cC8 hp=>?_
    ·
     refine FW.sr ?_;obtain ⟨vC9,wCa,runCb,SCc⟩:=SBR.b0 te52;have elsCd:Els (up wa.heap.size HBQ) eI 1 [] []:=Els.nil;refine FL.v (E.buildSlice (B0) runCb) ?_;refine FL.as (v:=vC9) rfl<|FL.as (v:=vB false) rfl<|FL.nil (FW.ret ?_);cases hp;exact ⟨.inr rfl,res2 rfl rfl rfl ⟨_,_,_,_,rfl,(SCc.sel [0] (by decide) rfl),elsCd⟩⟩
    ·
     refine FW.skip<|FW.sr<|FL.mv kC6<|FL.as (v:=v41) rfl<|FL.as (v:=vB true) rfl<|FL.nil (FW.ret ?_);cases hp;exact ⟨.inr rfl,res2 rfl rfl rfl ⟨_,_,_,_,rfl,(SBR.sel [1] (by decide) rfl),(els44.mono (zaj (iBo.tr iBS)))⟩⟩
   ·
    obtain ⟨he,hL⟩:=hD;replace hp:=el_rt hp;cases hp;subst he;exact hL

theorem w_spec_l2TextOf {Ha:GH} {wa:World} (hs:Sl Ha wa) (a0:Cnf) (v0_1:Value) (p0_1:RSl Ha (eL eI 1) 1 v0_1 a0.clauses) {r:ByteArray} (hp:(PF.zdp a0)=some r) :
  Calls prog 199 #[vA #[vI a0.vars,v0_1]] wa (Sc Ha wa (vT r)):=by
 unfold PF.zdp at hp;have S0:=St.init hs;refine zah (N:=25) (args:=[vA #[vI a0.vars,v0_1]]) func199 rfl rfl rfl ?_;refine FW.sr ?_;obtain ⟨b21,w22,run23,S24⟩:=S0.box (P:=prog) 26 [vI a0.vars,v0_1] (v:=vA #[vI a0.vars,v0_1]) rfl (oC rfl (oC p0_1.one zac));refine FL.v (E.box rfl run23) ?_;obtain ⟨H25,S26,i27,at28⟩:=S24.sealBox (i:=0) (l':=[]) rfl rfl;refine FL.as (v:=vT (ByteArray.mk #[])) rfl<|FL.nil<|FW.sr<|FL.v (E.fieldAddr zaq rfl) ?_;refine FL.v (E.load rfl (zad isAgg3 (at28.now S26.sl) rfl)) ?_;obtain ⟨r29,hr30,hp⟩:=bnd hp;refine FL.c (E.call call240 (A1 rfl)) (zey S26.sl a0.vars hr30) ?_;rintro e w31 ⟨rfl,r32⟩;refine ⟨_,rfl,?_⟩;have S33:=S26.call r32;refine FL.as (v:=vT r29) rfl<|FL.nil (FW.seq (FW.sr ?_));refine FL.as (v:=vI 0) rfl<|FL.nil ?_;obtain ⟨q34,hq,hp⟩:=bndR hp;refine FW.block ?_;refine FW.mono (FW.iter (S:=(ByteArray×Int)) (X:=Empty) (fun (s34:(ByteArray×Int)) f w=>∃ H:GH,St Ha wa H w []∧Inc H25 H∧f 1=vK b21∧f 3=vT s34.1∧f 4=vI s34.2) (fun (q:Rs (ByteArray×Int) Empty) e f w=>match q with|.go s34=>e=Exit.exit 0∧(∃ H:GH,St Ha wa H w []∧Inc H25 H∧f 3=vT s34.1)|.rt x=>x.elim) hq ⟨_,S33,I0,rfl,rfl,rfl⟩ ?_) ?_
 ·
  clear hp hq;rintro s34 f67 w66 ⟨H63,S64,i65,k68,k69,k70⟩ o91 hp;refine FW.seq<|FW.sr<|FL.mv k70<|FL.v (E.fieldAddr zay k68) ?_;refine FL.v (E.load rfl (zad isAgg24 ((at28.mono i65).now S64.sl) rfl)) ?_;refine FL.v (E.lenP te24 rfl p0_1) ?_;refine FL.v (E.lss rfl rfl) ?_;refine FL.nil ?_;refine FW.iB hp rfl (fun c71 hp=>?_) fun c71 hp=>?_
  ·
   refine FW.skip (FW.seq (FW.block (FW.region ?_)));refine FL.mv k69 ?_;obtain ⟨z72,h73,hp⟩:=bnd hp;refine FL.v (E.addT rfl rfl h73) ?_;refine FL.v (E.fieldAddr zay k68) ?_;refine FL.v (E.load rfl (zad isAgg24 ((at28.mono i65).now S64.sl) rfl)) ?_;refine FL.mv k70 ?_;obtain ⟨x80,hx81,hp⟩:=bnd hp;obtain ⟨p74,cs75,pt76,l77,at78,rel79⟩:=p0_1.at hx81;obtain ⟨v82,rfl,h83⟩:=zbG rel79;refine FL.v (E.indexAddr te24 rfl rfl pt76) ?_;refine FL.v (E.load rfl (zai isAgg52 ((at78.mono (i27.tr i65)).now S64.sl) rfl)) ?_;obtain ⟨r84,hr85,hp⟩:=bnd hp;refine FL.c (E.call call241 (A1 rfl)) (w_spec_l2Text S64.sl v82 x80 (h83.mono (i27.tr i65)) hr85) ?_;rintro e w86 ⟨rfl,r87⟩;refine ⟨_,rfl,?_⟩;have S88:=S64.call r87;obtain ⟨z89,h90,hp⟩:=bnd hp;refine FL.v (E.addT rfl rfl h90) ?_;refine FL.as (v:=vT z89) rfl<|FL.nil<|FW.region<|FL.mv k70<|FL.v (E.add rfl rfl) ?_;refine FL.as (v:=vI (wr (s34.2 + 1))) rfl<|FL.nil ?_;cases hp;exact ⟨rfl,⟨_,S88,i65,k68,rfl,rfl⟩⟩
  ·
   refine FW.exit ?_;cases hp;exact ⟨nofun,rfl,⟨_,S64,i65,k69⟩⟩
 ·
  clear hq;intro e f96 w95 hD;rcases q34 with s34|x34
  ·
   obtain ⟨rfl,hD⟩:=hD;obtain ⟨H92,S93,i94,k97⟩:=hD;replace hp:=el_go hp;refine FW.sr<|FL.mv k97<|FL.as (v:=vT s34.1) rfl<|FL.nil (FW.ret ?_);cases hp;exact ⟨.inr rfl,res1 rfl rfl ⟨rfl,S93.back⟩⟩
  ·
   exact x34.elim

@[reducible] def zfo (Ha:GH) (wa:World) (r:(Cnf×Bool)):Ending→World→Prop :=
 fun e w'=>∃ H':GH,∃ v0_1:Value,e=.returned (Value.tuple #[vA #[vI r.1.vars,v0_1],vB r.2])∧Run wa.heap.size Ha wa H' w'∧(∃ c,Nest (up wa.heap.size H') (eL eI 1) 1 v0_1 r.1.clauses c)
set_option maxHeartbeats 4000000 in
theorem w_spec_ParseCnf {Ha:GH} {wa:World} (hs:Sl Ha wa) (a0:ByteArray) {r:(Cnf×Bool)} (hp:(PF.zdq a0)=some r) :
  Calls prog 135 #[vT a0] wa (zfo Ha wa r):=by
 unfold PF.zdq at hp;have S0:=St.init hs;refine zah (N:=82) (args:=[vT a0]) func135 rfl rfl rfl ?_;refine FW.sr ?_;obtain ⟨b21,w22,run23,S24⟩:=S0.alloc (P:=prog) 26 [vI 0,vN] zeroValue26 rfl (oC rfl (oC rfl zac));refine FL.v (E.alloc run23) ?_;refine FL.as (v:=vB false) rfl<|FL.nil<|FW.sr<|FL.mv (v:=vT a0) rfl ?_;obtain ⟨r25,hr26,hp⟩:=bnd hp;refine FL.c (E.call call196 (A2 rfl rfl)) (zfm S24.sl a0 59 hr26) ?_;rintro e w28 ⟨H27,v31,n32,cs33,rfl,r30,els34⟩;refine ⟨_,rfl,?_⟩;have els34:=els34.mono (up_le S24.size);have S29:=S24.join (l':=[.row 9 1 v31 n32 cs33,.box b21 26 [vI 0,vN]]) r30 rfl;refine FL.as (v:=v31) rfl<|FL.nil<|FW.sr<|FL.mv (v:=v31) rfl ?_;obtain ⟨x41,hx42,hp⟩:=bnd hp;obtain ⟨p35,cs36,pt37,l38,at39,rel40⟩:=S29.row_at (i:=0) rfl els34 (by decide) hx42;obtain rfl:=eS_open rel40;refine FL.v (E.indexAddr te108 rfl rfl pt37) ?_;refine FL.v (E.load rfl (zai isAgg9 at39 rfl)) ?_;obtain ⟨r43,hr44,hp⟩:=bnd hp;refine FL.c (E.call call197 (A1 rfl)) (w_spec_l1Read S29.sl x41 hr44) ?_;rintro e w45 ⟨rfl,r46⟩;refine ⟨_,rfl,?_⟩;have S47:=S29.call r46;refine FL.mv (v:=Value.tuple #[vI r43.1,vB r43.2]) rfl<|FL.v (E.extract (i:=0) rfl rfl) ?_;refine FL.v (E.extract (i:=1) rfl rfl) ?_;refine FL.as (v:=vI r43.1) rfl<|FL.as (v:=vB r43.2) rfl<|FL.nil (FW.seq (FW.sr ?_));refine FL.mv (v:=vB r43.2) rfl<|FL.v (E.not rfl) ?_;refine FL.mv (v:=vB (!r43.2)) rfl ?_;refine FL.cut 4 (fun f w=>∃ H:GH,St Ha wa H w [.row 9 1 v31 n32 cs33,.box b21 26 [vI 0,vN]]∧Inc H27 H∧f 0=vT a0∧f 2=vK b21∧f 4=v31∧f 5=vI r43.1∧f 26=vB (bif (!r43.2) then true else (!(PF.zba r43.1)))) ?_ ?_
 ·
  rcases bcase (!r43.2) with c57|c57
  ·
   refine FL.n c57<|FL.n c57<|FL.n c57<|FL.v (E.pickT rfl c57 rfl) ?_;exact FL.nil ⟨rfl,_,S47,I0,rfl,rfl,rfl,rfl,(congrArg vB (bifT c57).symm)⟩
  ·
   refine FL.y (wY c57) (E.move (v:=vI r43.1) rfl) ?_;refine FL.call (wY c57) rfl rfl (E.call call189 (A1 rfl)) (zez S47.sl r43.1) ?_;rintro e w58 ⟨rfl,r59⟩;refine ⟨_,rfl,?_⟩;have S60:=S47.call r59;refine FL.y (wY c57) (E.not rfl) ?_;refine FL.v (E.pickF rfl c57 rfl) ?_;exact FL.nil ⟨rfl,_,S60,I0,rfl,rfl,rfl,rfl,(congrArg vB (bifF c57).symm)⟩
 rintro f56 w55 ⟨H52,S53,i54,k61,k62,k63,k64,k65⟩;refine FL.mv k65 ?_;refine FL.cut 4 (fun f w=>∃ H:GH,St Ha wa H w [.row 9 1 v31 n32 cs33,.box b21 26 [vI 0,vN]]∧Inc H52 H∧f 0=vT a0∧f 2=vK b21∧f 4=v31∧f 5=vI r43.1∧f 31=vB (bif (bif (!r43.2) then true else (!(PF.zba r43.1))) then true else (decide (61 < (len r25))))) ?_ ?_
 ·
  rcases bcase (bif (!r43.2) then true else (!(PF.zba r43.1))) with c72|c72
  ·
   refine FL.n c72<|FL.n c72<|FL.n c72<|FL.v (E.pickT rfl c72 rfl) ?_;exact FL.nil ⟨rfl,_,S53,I0,k61,k62,k63,k64,(congrArg vB (bifT c72).symm)⟩
  ·
   refine FL.y (wY c72) (E.move k63) ?_;refine FL.y (wY c72) (E.lenO te108 rfl S53 (i:=0) rfl els34 (by decide)) ?_;refine FL.y (wY c72) (E.gtr rfl rfl) ?_;refine FL.v (E.pickF rfl c72 rfl) ?_;exact FL.nil ⟨rfl,_,S53,I0,k61,k62,k63,k64,(congrArg vB (bifF c72).symm)⟩
 rintro f71 w70 ⟨H67,S68,i69,k73,k74,k75,k76,k77⟩;refine FL.nil ?_;refine FW.iB hp k77 (fun c78 hp=>?_) fun c78 hp=>?_
 ·
  refine FW.sr<|FL.v (E.build (B0) (run_build _ 26 #[] #[vI 0,vN] (by rfl))) ?_;obtain ⟨w79,run80,S81⟩:=S68.s0 1 [vI 0,vN] (l':=[.row 9 1 v31 n32 cs33,.box b21 26 [vI 0,vN]]) sizeOf26 (oC rfl (oC rfl zac));refine FL.act rfl rfl (E.store k74 rfl run80) ?_;refine FL.as (v:=vB false) rfl<|FL.nil (FW.ret ?_);cases hp;exact ⟨.inr rfl,resC2 rfl k74 (zar isAgg26 sizeOf26 (S81.box_now (i:=1) rfl) rfl) rfl ⟨_,_,rfl,S81.run,⟨_,Nest.nil⟩⟩⟩
 ·
  refine FW.skip<|FW.sr<|FL.mv k76 ?_;obtain ⟨v82,w83,run84,S85⟩:=S68.b0 te24;have els86:Els (up wa.heap.size H67) (eL eI 1) 1 [] []:=Els.nil;refine FL.v (E.buildSlice (B0) run84) ?_;refine FL.v (E.build (B2 rfl rfl) (run_build _ 26 #[(0,vI r43.1),(1,v82)] #[vI r43.1,v82] (by obtain ⟨_,_,rfl⟩:=S85.row_ln (i:=0) rfl;rfl))) ?_;obtain ⟨b87,w88,run89,S90⟩:=S85.alloc (P:=prog) 26 [vI 0,vN] zeroValue26 rfl (oC rfl (oC rfl zac));refine FL.v (E.alloc run89) ?_;obtain ⟨w91,run92,S93⟩:=S90.s0 0 [vI r43.1,v82] (l':=[.box b87 26 [vI r43.1,v82],.row 52 1 v82 0 [],.row 9 1 v31 n32 cs33,.box b21 26 [vI 0,vN]]) sizeOf26 (oC rfl (oC (Ln.one (S90.row_ln (i:=1) rfl)) zac));refine FL.act rfl rfl (E.store rfl rfl run92) ?_;refine FL.nil (FW.seq (FW.sr ?_));refine FL.as (v:=vI 1) rfl<|FL.nil ?_;obtain ⟨q94,hq,hp⟩:=bndR hp;refine FW.block ?_;refine FW.mono (FW.iter (S:=((List (List Int))×Int×Int)) (X:=(Cnf×Bool)) (fun (s94:((List (List Int))×Int×Int)) f w=>∃ H:GH,∃ vBF:Value,∃ nBG:Nat,∃ csBH:List Value,St Ha wa H w [.box b87 26 [vI s94.2.1,vBF],.row 52 1 vBF nBG csBH,.row 9 1 v31 n32 cs33,.box b21 26 [vI 0,vN]]∧Inc H67 H∧Els (up wa.heap.size H) (eL eI 1) 1 csBH s94.1∧(bl csBH).Nodup∧f 0=vT a0∧f 2=vK b21∧f 4=v31∧f 5=vI r43.1∧f 7=vK b87∧f 8=vI s94.2.2) (fun q e f w=>match q with|.go s94=>e=Exit.exit 0∧(∃ H:GH,∃ vBF:Value,∃ nBG:Nat,∃ csBH:List Value,St Ha wa H w [.box b87 26 [vI s94.2.1,vBF],.row 52 1 vBF nBG csBH,.row 9 1 v31 n32 cs33,.box b21 26 [vI 0,vN]]∧Inc H67 H∧Els (up wa.heap.size H) (eL eI 1) 1 csBH s94.1∧(bl csBH).Nodup∧f 0=vT a0∧f 2=vK b21∧f 7=vK b87)|.rt x=>((e=Exit.ret)∧(fun e f w=>(e=Exit.normal∨e=Exit.ret)∧∀ a,Fr (δ:=[]) 82 a f→∃ v,(results Tryz.f135 a.tmps).run prog w=.ok v w∧(zfo Ha wa x) (.returned v) w) e f w)) hq ⟨_,_,_,_,S93,I0,els86,(show (bl []).Nodup from List.nodup_nil),k73,k74,k75,k76,rfl,rfl⟩ ?_) ?_
  ·
   clear hp hq;rintro s94 fDy wDx ⟨HDu,vBF,nBG,csBH,SDv,iDw,elsBI,ndBJ,kDz,kDA,kDB,kDC,kDD,kDE⟩ oFe hp;refine FW.seq<|FW.sr<|FL.mv kDE<|FL.mv kDB<|FL.v (E.lenO te108 rfl SDv (i:=2) rfl els34 (by decide)) ?_;refine FL.v (E.lss rfl rfl) ?_;refine FL.nil ?_;refine FW.iB hp rfl (fun cDF hp=>?_) fun cDF hp=>?_
   ·
    refine FW.skip (FW.seq (FW.block (FW.seq (FW.sr ?_))));refine FL.mv kDB<|FL.mv kDE ?_;obtain ⟨xDM,hxDN,hp⟩:=bnd hp;obtain ⟨pDG,csDH,ptDI,lDJ,atDK,relDL⟩:=SDv.row_at (i:=2) rfl els34 (by decide) hxDN;obtain rfl:=eS_open relDL;refine FL.v (E.indexAddr te108 rfl rfl ptDI) ?_;refine FL.v (E.load rfl (zai isAgg9 atDK rfl)) ?_;refine FL.v (E.lenS runUnderlying9 rfl) ?_;refine FL.v (E.lss rfl rfl) ?_;refine FL.mv (v:=vB (decide ((xDM.size:Int) < 2))) rfl ?_;obtain ⟨t346,hqtDY,hp⟩:=bnd hp;refine FL.cut 7 (fun f w=>∃ H:GH,St Ha wa H w [.box b87 26 [vI s94.2.1,vBF],.row 52 1 vBF nBG csBH,.row 9 1 v31 n32 cs33,.box b21 26 [vI 0,vN]]∧Inc HDu H∧f 0=vT a0∧f 2=vK b21∧f 4=v31∧f 5=vI r43.1∧f 7=vK b87∧f 8=vI s94.2.2∧f 55=vB t346) ?_ ?_
    ·
     clear hp;have hp:=hqtDY;clear hqtDY;rcases ifB hp with ⟨cE4,hp⟩|⟨cE4,hp⟩
     ·
      refine FL.n cE4<|FL.n cE4<|FL.n cE4<|FL.n cE4<|FL.n cE4<|FL.n cE4 ?_;cases hp;refine FL.v (E.pickT rfl cE4 rfl) ?_;exact FL.nil ⟨rfl,_,SDv,I0,kDz,kDA,kDB,kDC,kDD,kDE,rfl⟩
     ·
      refine FL.y (wY cE4) (E.move kDB) ?_;refine FL.y (wY cE4) (E.move kDE) ?_;obtain ⟨xEb,hxEc,hp⟩:=bnd hp;obtain ⟨pE5,csE6,ptE7,lE8,atE9,relEa⟩:=SDv.row_at (i:=2) rfl els34 (by decide) hxEc;obtain rfl:=eS_open relEa;refine FL.y (wY cE4) (E.indexAddr te108 rfl rfl ptE7) ?_;refine FL.y (wY cE4) (E.load rfl (zai isAgg9 atE9 rfl)) ?_;obtain ⟨zEd,hEe,hp⟩:=bnd hp;refine FL.y (wY cE4) (E.ixS runUnderlying9 rfl rfl hEe) ?_;refine FL.y (wY cE4) (E.neq rfl rfl) ?_;cases hp;refine FL.v (E.pickF rfl cE4 rfl) ?_;exact FL.nil ⟨rfl,_,SDv,I0,kDz,kDA,kDB,kDC,kDD,kDE,rfl⟩
    rintro fE3 wE2 ⟨HDZ,SE0,iE1,kEf,kEg,kEh,kEi,kEj,kEk,kEl⟩;refine FL.nil ?_;refine FW.iB hp kEl (fun cEm hp=>?_) fun cEm hp=>?_
    ·
     refine FW.sr<|FL.v (E.build (B0) (run_build _ 26 #[] #[vI 0,vN] (by rfl))) ?_;obtain ⟨wEn,runEo,SEp⟩:=SE0.s0 3 [vI 0,vN] (l':=[.box b87 26 [vI s94.2.1,vBF],.row 52 1 vBF nBG csBH,.row 9 1 v31 n32 cs33,.box b21 26 [vI 0,vN]]) sizeOf26 (oC rfl (oC rfl zac));refine FL.act rfl rfl (E.store kEg rfl runEo) ?_;refine FL.as (v:=vB false) rfl<|FL.nil (FW.ret ?_);cases hp;exact ⟨nofun,rfl,⟨.inr rfl,resC2 rfl kEg (zar isAgg26 sizeOf26 (SEp.box_now (i:=3) rfl) rfl) rfl ⟨_,_,rfl,SEp.run,⟨_,Nest.nil⟩⟩⟩⟩
    ·
     refine FW.skip<|FW.sr<|FL.mv kEi<|FL.mv kEh<|FL.mv kEk ?_;obtain ⟨xEw,hxEx,hp⟩:=bnd hp;obtain ⟨pEq,csEr,ptEs,lEt,atEu,relEv⟩:=SE0.row_at (i:=2) rfl els34 (by decide) hxEx;obtain rfl:=eS_open relEv;refine FL.v (E.indexAddr te108 rfl rfl ptEs) ?_;refine FL.v (E.load rfl (zai isAgg9 atEu rfl)) ?_;obtain ⟨zEy,hEz,hp⟩:=bnd hp;refine FL.v (E.cutS (kl:=.i64) (kh:=.i64) underlying9 rfl (.inr ⟨_,rfl,rfl⟩) (.inl ⟨rfl,rfl⟩) hEz) ?_;obtain ⟨rEA,hrEB,hp⟩:=bnd hp;refine FL.c (E.call call198 (A2 rfl rfl)) (w_spec_l2Parse SE0.sl r43.1 zEy hrEB) ?_;rintro e wED ⟨HEC,vEG,nEH,csEI,rfl,rEF,elsEJ⟩;refine ⟨_,rfl,?_⟩;have elsEJ:=elsEJ.mono (up_le SE0.size);have SEE:=SE0.join (l':=[.row 3 1 vEG nEH csEI,.box b87 26 [vI s94.2.1,vBF],.row 52 1 vBF nBG csBH,.row 9 1 v31 n32 cs33,.box b21 26 [vI 0,vN]]) rEF rfl;refine FL.mv (v:=Value.tuple #[vEG,vB rEA.2]) rfl<|FL.v (E.extract (i:=0) rfl rfl) ?_;refine FL.v (E.extract (i:=1) rfl rfl) ?_;refine FL.as (v:=vEG) rfl<|FL.as (v:=vB rEA.2) rfl<|FL.nil (FW.seq (FW.sr ?_));refine FL.mv (v:=vB rEA.2) rfl<|FL.v (E.not rfl) ?_;refine FL.nil ?_;refine FW.iB hp rfl (fun cEK hp=>?_) fun cEK hp=>?_
     ·
      refine FW.sr<|FL.v (E.build (B0) (run_build _ 26 #[] #[vI 0,vN] (by rfl))) ?_;obtain ⟨wEL,runEM,SEN⟩:=SEE.s0 4 [vI 0,vN] (l':=[.row 3 1 vEG nEH csEI,.box b87 26 [vI s94.2.1,vBF],.row 52 1 vBF nBG csBH,.row 9 1 v31 n32 cs33,.box b21 26 [vI 0,vN]]) sizeOf26 (oC rfl (oC rfl zac));refine FL.act rfl rfl (E.store kEg rfl runEM) ?_;refine FL.as (v:=vB false) rfl<|FL.nil (FW.ret ?_);cases hp;exact ⟨nofun,rfl,⟨.inr rfl,resC2 rfl kEg (zar isAgg26 sizeOf26 (SEN.box_now (i:=4) rfl) rfl) rfl ⟨_,_,rfl,SEN.run,⟨_,Nest.nil⟩⟩⟩⟩
     ·
      refine FW.skip<|FW.region<|FL.v (E.fieldAddr zay kEj) ?_;refine FL.v (E.load rfl (zad isAgg24 (SEE.box_now (i:=1) rfl) rfl)) ?_;refine FL.mv (v:=vEG) rfl ?_;obtain ⟨HEO,SEP,iEQ,hER,nvES⟩:=SEE.sealRowU (i:=0) (l':=[.box b87 26 [vI s94.2.1,vBF],.row 52 1 vBF nBG csBH,.row 9 1 v31 n32 cs33,.box b21 26 [vI 0,vN]]) rfl elsEJ (by decide) rfl;obtain ⟨vET,wEU,runEV,SEW⟩:=SEP.b1 te24 hER.cells hER.one;have elsEX:Els (up wa.heap.size HEO) (eL eI 1) 1 [vEG] [rEA.1]:=(Els.snoc (H:=(up wa.heap.size HEO)) (E:=(eL eI 1)) (k:=1) (c:=[vEG]) (x:=rEA.1) Els.nil rfl ⟨_,rfl,hER⟩);have ndEY:(bl [vEG]).Nodup:=by exact zbw vEG
      refine FL.v (E.buildSlice (B1 rfl) runEV) ?_;obtain ⟨xsEZ,hzF0,hp⟩:=bnd hp;obtain ⟨vF1,wF4,nF2,csF3,runF5,SF6,elsF7,ceF8⟩:=SEW.appendO (P:=prog) te24 (i:=2) (j:=0) rfl (elsBI.mono (zaj ((iE1.tr rEF.run.inc).tr iEQ))) rfl elsEX hzF0;have ndF9:(bl csF3).Nodup:=by rw [ceF8];exact zbv ndBJ ndEY (Els.dom (elsBI.mono (upI.tr (iE1.tr rEF.run.inc)))) (by exact nvES)
      have SFa:St Ha wa HEO wF4 [.box b87 26 [vI s94.2.1,vBF],.row 52 1 vF1 nF2 csF3,.row 9 1 v31 n32 cs33,.box b21 26 [vI 0,vN]]:=SF6.drop 0;refine FL.v (E.append rfl rfl runF5) ?_;refine FL.v (E.fieldAddr zay kEj) ?_;obtain ⟨wFb,runFc,SFd⟩:=SFa.store (P:=prog) (t:=24) (i:=0) (j:=1) (cs':=[vI s94.2.1,vF1]) (l':=[.box b87 26 [vI s94.2.1,vF1],.row 52 1 vF1 nF2 csF3,.row 9 1 v31 n32 cs33,.box b21 26 [vI 0,vN]]) (v:=vF1) (c:=[vF1]) rfl sizeOf24 (Ln.cells (SFa.row_ln (i:=1) rfl)) rfl (oC (Ln.one (SFa.row_ln (i:=1) rfl)) zac) (nB rfl) rfl rfl;refine FL.act rfl rfl (E.store rfl rfl runFc) ?_;refine FL.nil<|FW.region<|FL.mv kEk<|FL.v (E.add rfl rfl) ?_;refine FL.as (v:=vI (wr (s94.2.2 + 1))) rfl<|FL.nil ?_;cases hp;exact ⟨rfl,⟨_,_,_,_,SFd,(((iDw.tr iE1).tr rEF.run.inc).tr iEQ),elsF7,ndF9,kEf,kEg,kEh,kEi,kEj,rfl⟩⟩
   ·
    refine FW.exit ?_;cases hp;exact ⟨nofun,rfl,⟨_,_,_,_,SDv,iDw,elsBI,ndBJ,kDz,kDA,kDD⟩⟩
  ·
   clear hq;intro e fFj wFi hD;rcases q94 with s94|x94
   ·
    obtain ⟨rfl,hD⟩:=hD;obtain ⟨HFf,vBF,nBG,csBH,SFg,iFh,elsBI,ndBJ,kFk,kFl,kFm⟩:=hD;replace hp:=el_go hp;refine FW.seq<|FW.sr<|FL.v (E.load kFm (zag isAgg26 sizeOf26 (SFg.box_now (i:=0) rfl) rfl)) ?_;obtain ⟨HFn,SFo,iFp,nsFs,nvFr⟩:=SFg.sealRowN (i:=1) (l':=[.box b87 26 [vI s94.2.1,vBF],.row 9 1 v31 n32 cs33,.box b21 26 [vI 0,vN]]) rfl elsBI ndBJ (by decide) rfl;have hFq:=nsFs.rsl;obtain ⟨rFt,hrFu,hp⟩:=bnd hp;refine FL.c (E.call call199 (A1 rfl)) (w_spec_l2TextOf SFo.sl (Cnf.mk s94.2.1 s94.1) vBF (hFq.mono upI) hrFu) ?_;rintro e wFv ⟨rfl,rFw⟩;refine ⟨_,rfl,?_⟩;have rFw:=Run.lend iFp SFg.sl rFw;have SFx:=SFg.call rFw;refine FL.mv kFk<|FL.v (E.neqS rfl rfl) ?_;refine FL.nil ?_;refine FW.iB hp rfl (fun cFy hp=>?_) fun cFy hp=>?_
    ·
     refine FW.sr<|FL.v (E.build (B0) (run_build _ 26 #[] #[vI 0,vN] (by rfl))) ?_;obtain ⟨wFz,runFA,SFB⟩:=SFx.s0 3 [vI 0,vN] (l':=[.box b87 26 [vI s94.2.1,vBF],.row 52 1 vBF nBG csBH,.row 9 1 v31 n32 cs33,.box b21 26 [vI 0,vN]]) sizeOf26 (oC rfl (oC rfl zac));refine FL.act rfl rfl (E.store kFl rfl runFA) ?_;refine FL.as (v:=vB false) rfl<|FL.nil (FW.ret ?_);cases hp;exact ⟨.inr rfl,resC2 rfl kFl (zar isAgg26 sizeOf26 (SFB.box_now (i:=3) rfl) rfl) rfl ⟨_,_,rfl,SFB.run,⟨_,Nest.nil⟩⟩⟩
    ·
     refine FW.skip<|FW.sr<|FL.v (E.load kFm (zag isAgg26 sizeOf26 (SFx.box_now (i:=0) rfl) rfl)) ?_;obtain ⟨wFC,runFD,SFE⟩:=SFx.s0 3 [vI s94.2.1,vBF] (l':=[.box b87 26 [vI s94.2.1,vBF],.row 52 1 vBF nBG csBH,.row 9 1 v31 n32 cs33,.box b21 26 [vI s94.2.1,vBF]]) sizeOf26 (oC rfl (oC (Ln.one (SFx.row_ln (i:=1) rfl)) zac));refine FL.act rfl rfl (E.store kFl rfl runFD) ?_;refine FL.as (v:=vB true) rfl<|FL.nil (FW.ret ?_);obtain ⟨HFF,SFG,iFH,nsFK,nvFJ⟩:=SFE.sealRowN (i:=1) (l':=[.box b87 26 [vI s94.2.1,vBF],.row 9 1 v31 n32 cs33,.box b21 26 [vI s94.2.1,vBF]]) rfl elsBI ndBJ (by decide) rfl;have hFI:=nsFK.rsl;cases hp;exact ⟨.inr rfl,resC2 rfl kFl (zar isAgg26 sizeOf26 (SFG.box_now (i:=2) rfl) rfl) rfl ⟨_,_,rfl,SFG.run,⟨_,nsFK⟩⟩⟩
   ·
    obtain ⟨he,hL⟩:=hD;replace hp:=el_rt hp;cases hp;subst he;exact hL

@[reducible] def p_spec_l2Known (Ha:GH) (wa:World) (r:Cnf):Ending→World→Prop :=
 fun e w'=>∃ H':GH,∃ v0_1:Value,e=.returned (vA #[vI r.vars,v0_1])∧Run wa.heap.size Ha wa H' w'∧(∃ c,Nest (up wa.heap.size H') (eL eI 1) 1 v0_1 r.clauses c)
theorem w_spec_l2Known {Ha:GH} {wa:World} (hs:Sl Ha wa) (a0:ByteArray) {r:Cnf} (hp:(PF.zcy a0)=some r) :
  Calls prog 69 #[vT a0] wa (p_spec_l2Known Ha wa r):=by
 unfold PF.zcy at hp;have S0:=St.init hs;refine zah (N:=11) (args:=[vT a0]) func69 rfl rfl rfl ?_;refine FW.sr ?_;obtain ⟨b21,w22,run23,S24⟩:=S0.alloc (P:=prog) 26 [vI 0,vN] zeroValue26 rfl (oC rfl (oC rfl zac));refine FL.v (E.alloc run23) ?_;refine FL.nil<|FW.sr<|FL.mv (v:=vT a0) rfl ?_;obtain ⟨r25,hr26,hp⟩:=bnd hp;refine FL.c (E.call call135 (A1 rfl)) (w_spec_ParseCnf S24.sl a0 hr26) ?_;rintro e w28 ⟨H27,v31,rfl,r30,⟨c34,ns33⟩⟩;refine ⟨_,rfl,?_⟩;have h32:=ns33.rsl;have nv35:New Ha c34:=New.of_up S24.sl (fun b hb=>ns33.dom b (.inr hb));have nv36:New Ha [v31]:=New.of_up S24.sl h32.dom;have h32:=h32.mono (up_le S24.size);have ns33:=ns33.mono (up_le S24.size);have S29:=S24.call r30;refine FL.mv (v:=Value.tuple #[vA #[vI r25.1.vars,v31],vB r25.2]) rfl<|FL.v (E.extract (i:=0) rfl rfl) ?_;refine FL.v (E.extract (i:=1) rfl rfl) ?_;obtain ⟨b37,w38,run39,S40⟩:=S29.alloc (P:=prog) 26 [vI 0,vN] zeroValue26 rfl (oC rfl (oC rfl zac));refine FL.v (E.alloc run39) ?_;obtain ⟨w41,run42,S43⟩:=S40.s0 0 [vI r25.1.vars,v31] (l':=[.box b37 26 [vI r25.1.vars,v31],.box b21 26 [vI 0,vN]]) sizeOf26 (oC rfl (oC h32.one zac));refine FL.act rfl rfl (E.store rfl rfl run42) ?_;obtain ⟨H44,S45,i46,at47⟩:=S43.sealBox (i:=0) (l':=[.box b21 26 [vI 0,vN]]) rfl rfl;refine FL.as (v:=vB r25.2) rfl<|FL.nil<|FW.sr<|FL.v (E.load rfl (zag isAgg26 sizeOf26 (at47.now S45.sl) rfl)) ?_;obtain ⟨w48,run49,S50⟩:=S45.s0 0 [vI r25.1.vars,v31] (l':=[.box b21 26 [vI r25.1.vars,v31]]) sizeOf26 (oC rfl (oC h32.one zac));refine FL.act rfl rfl (E.store rfl rfl run49) ?_;obtain ⟨H51,S52,i53,at54⟩:=S50.sealBox (i:=0) (l':=[]) rfl rfl;refine FL.nil (FW.ret ?_);cases hp;exact ⟨.inr rfl,resC rfl rfl (zar isAgg26 sizeOf26 (at54.now S52.sl) rfl) ⟨_,_,rfl,S52.run,⟨_,(ns33.mono (zaj (i46.tr i53)))⟩⟩⟩

set_option maxHeartbeats 4000000 in
theorem zea {Ha:GH} {wa:World} (hs:Sl Ha wa) (a0:Cnf) (v0_1:Value) (p0_1:RSl Ha (eL eI 1) 1 v0_1 a0.clauses) {r:Bool} (hp:(PF.zb4 a0)=some r) :
  Calls prog 127 #[vA #[vI a0.vars,v0_1]] wa (Sc Ha wa (vB r)):=by
 unfold PF.zb4 at hp;have S0:=St.init hs;refine zah (N:=30) (args:=[vA #[vI a0.vars,v0_1]]) func127 rfl rfl rfl ?_;refine FW.sr ?_;obtain ⟨b21,w22,run23,S24⟩:=S0.box (P:=prog) 26 [vI a0.vars,v0_1] (v:=vA #[vI a0.vars,v0_1]) rfl (oC rfl (oC p0_1.one zac));refine FL.v (E.box rfl run23) ?_;obtain ⟨H25,S26,i27,at28⟩:=S24.sealBox (i:=0) (l':=[]) rfl rfl;refine FL.as (v:=vB false) rfl<|FL.nil (FW.seq (FW.sr ?_));refine FL.v (E.fieldAddr zaq rfl) ?_;refine FL.v (E.load rfl (zad isAgg3 (at28.now S26.sl) rfl)) ?_;refine FL.c (E.call call189 (A1 rfl)) (zez S26.sl a0.vars) ?_;rintro e w29 ⟨rfl,r30⟩;refine ⟨_,rfl,?_⟩;have S31:=S26.call r30;refine FL.v (E.not rfl) ?_;refine FL.mv (v:=vB (!(PF.zba a0.vars))) rfl ?_;refine FL.cut 5 (fun f w=>∃ H:GH,St Ha wa H w []∧Inc H25 H∧f 1=vK b21∧f 13=vB (bif (!(PF.zba a0.vars)) then true else (decide (60 < (len a0.clauses))))) ?_ ?_
 ·
  rcases bcase (!(PF.zba a0.vars)) with c38|c38
  ·
   refine FL.n c38<|FL.n c38<|FL.n c38<|FL.n c38<|FL.v (E.pickT rfl c38 rfl) ?_;exact FL.nil ⟨rfl,_,S31,I0,rfl,(congrArg vB (bifT c38).symm)⟩
  ·
   refine FL.y (wY c38) (E.fieldAddr zay rfl) ?_;refine FL.y (wY c38) (E.load rfl (zad isAgg24 (at28.now S31.sl) rfl)) ?_;refine FL.y (wY c38) (E.lenP te24 rfl p0_1) ?_;refine FL.y (wY c38) (E.gtr rfl rfl) ?_;refine FL.v (E.pickF rfl c38 rfl) ?_;exact FL.nil ⟨rfl,_,S31,I0,rfl,(congrArg vB (bifF c38).symm)⟩
 rintro f37 w36 ⟨H33,S34,i35,k39,k40⟩;refine FL.nil ?_;refine FW.iB hp k40 (fun c41 hp=>?_) fun c41 hp=>?_
 ·
  refine FW.sr<|FL.as (v:=vB false) rfl<|FL.nil (FW.ret ?_);cases hp;exact ⟨.inr rfl,res1 rfl rfl ⟨rfl,S34.back⟩⟩
 ·
  refine FW.skip (FW.seq (FW.sr ?_));refine FL.as (v:=vI 0) rfl<|FL.nil ?_;obtain ⟨q42,hq,hp⟩:=bndR hp;refine FW.block ?_;refine FW.mono (FW.iter (S:=Int) (X:=Bool) (fun (s42:Int) f w=>∃ H:GH,St Ha wa H w []∧Inc H33 H∧f 1=vK b21∧f 3=vI s42) (fun q e f w=>match q with|.go s42=>e=Exit.exit 0∧(∃ H:GH,St Ha wa H w []∧Inc H33 H)|.rt x=>((e=Exit.ret)∧(fun e f w=>(e=Exit.normal∨e=Exit.ret)∧∀ a,Fr (δ:=[]) 30 a f→∃ v,(results Tryz.f127 a.tmps).run prog w=.ok v w∧(Sc Ha wa (vB x)) (.returned v) w) e f w)) hq ⟨_,S34,I0,k39,rfl⟩ ?_) ?_
  ·
   clear hp hq;rintro s42 f72 w71 ⟨H68,S69,i70,k73,k74⟩ o93 hp;refine FW.seq<|FW.sr<|FL.mv k74<|FL.v (E.fieldAddr zay k73) ?_;refine FL.v (E.load rfl (zad isAgg24 ((at28.mono (i35.tr i70)).now S69.sl) rfl)) ?_;refine FL.v (E.lenP te24 rfl p0_1) ?_;refine FL.v (E.lss rfl rfl) ?_;refine FL.nil ?_;refine FW.iB hp rfl (fun c75 hp=>?_) fun c75 hp=>?_
   ·
    refine FW.skip (FW.seq (FW.block (FW.seq ?_)));refine FW.draw (fun w'=>Run w71.heap.size H68 w71 H68 w') (by kernel_rfl) (by kernel_rfl) (zaR S69.sl) ?_;refine FD.v (fun _ z=>(E.fieldAddr zaq k73)) ?_;refine FD.v (fun _ z=>(E.load rfl (zad isAgg3 ((at28.mono (i35.tr i70)).now (S69.call z).sl) rfl))) ?_;refine FD.v (fun _ z=>(E.fieldAddr zay k73)) ?_;refine FD.v (fun _ z=>(E.load rfl (zad isAgg24 ((at28.mono (i35.tr i70)).now (S69.call z).sl) rfl))) ?_;refine FD.v (fun _ z=>(E.move k74)) ?_;obtain ⟨x83,hx84,hp⟩:=bnd hp;obtain ⟨p77,cs78,pt79,l80,at81,rel82⟩:=p0_1.at hx84;obtain ⟨v85,rfl,h86⟩:=zbG rel82;refine FD.v (fun _ z=>(E.indexAddr te24 rfl rfl pt79)) ?_;refine FD.v (fun _ z=>(E.load rfl (zai isAgg52 ((at81.mono ((i27.tr i35).tr i70)).now (S69.call z).sl) rfl))) ?_;obtain ⟨r87,hr88,hp⟩:=bnd hp;refine FD.call rfl rfl rfl (fun _ z=>(E.call call190 (A2 rfl rfl))) (fun _ z=>Calls.cls z (zeA (S69.call z).sl a0.vars v85 x83 (h86.mono ((i27.tr i35).tr i70)) hr88)) ?_;refine FD.v (fun _ z=>(E.not rfl)) ?_;refine FD.nil ?_;intro w89 r91;have S90:=S69.call r91;refine FW.iB hp rfl (fun c92 hp=>?_) fun c92 hp=>?_
    ·
     refine FW.sr<|FL.as (v:=vB false) rfl<|FL.nil (FW.ret ?_);cases hp;exact ⟨nofun,rfl,⟨.inr rfl,res1 rfl rfl ⟨rfl,S90.back⟩⟩⟩
    ·
     refine FW.skip<|FW.region<|FL.mv k74<|FL.v (E.add rfl rfl) ?_;refine FL.as (v:=vI (wr (s42 + 1))) rfl<|FL.nil ?_;cases hp;exact ⟨rfl,⟨_,S90,i70,k73,rfl⟩⟩
   ·
    refine FW.exit ?_;cases hp;exact ⟨nofun,rfl,⟨_,S69,i70⟩⟩
  ·
   clear hq;intro e f98 w97 hD;rcases q42 with s42|x42
   ·
    obtain ⟨rfl,hD⟩:=hD;obtain ⟨H94,S95,i96⟩:=hD;replace hp:=el_go hp;refine FW.sr<|FL.as (v:=vB true) rfl<|FL.nil (FW.ret ?_);cases hp;exact ⟨.inr rfl,res1 rfl rfl ⟨rfl,S95.back⟩⟩
   ·
    obtain ⟨he,hL⟩:=hD;replace hp:=el_rt hp;cases hp;subst he;exact hL

theorem w_spec_l1Has {Ha:GH} {wa:World} (hs:Sl Ha wa) (v0:Value) (a0:List Int) (p0:RSl Ha eI 1 v0 a0) (a1:Int) {r:Bool} (hp:(PF.zdr a0 a1)=some r) :
  Calls prog 227 #[v0,vI a1] wa (Sc Ha wa (vB r)):=by
 unfold PF.zdr at hp;have S0:=St.init hs;refine zah (N:=18) (args:=[v0,vI a1]) func227 rfl rfl rfl ?_;refine FW.sr<|FL.as (v:=vB false) rfl<|FL.nil (FW.seq (FW.sr ?_));refine FL.as (v:=vI 0) rfl<|FL.nil ?_;obtain ⟨q22,hq,hp⟩:=bndR hp;refine FW.block ?_;refine FW.mono (FW.forL (S:=Unit) (X:=Bool) (fun (i22:Nat) (s22:Unit) f w=>∃ H:GH,St Ha wa H w []∧Inc Ha H∧f 5=vI ((i22:Nat):Int)∧f 0=v0∧f 1=vI a1) (fun q e f w=>match q with|.go s22=>e=Exit.exit 0∧(∃ H:GH,St Ha wa H w []∧Inc Ha H)|.rt x=>((e=Exit.ret)∧(fun e f w=>(e=Exit.normal∨e=Exit.ret)∧∀ a,Fr (δ:=[]) 18 a f→∃ v,(results Tryz.f227 a.tmps).run prog w=.ok v w∧(Sc Ha wa (vB x)) (.returned v) w) e f w)) hq ⟨_,S0,I0,rfl,rfl,rfl⟩ ?_ ?_) ?_
 ·
  clear hp hq;rintro i22 y21 s22 f42 w41 ⟨H38,S39,i40,k43,k44,k45⟩ hx22 o53 hp;refine FW.seq<|FW.sr<|FL.mv k43<|FL.mv k44<|FL.v (E.lenP te52 rfl p0) ?_;refine FL.v (E.lssT rfl rfl (zaN hx22)) ?_;refine FL.nil<|FW.condT rfl rfl ?_;refine FW.skip (FW.seq (FW.block (FW.sr ?_)));refine FL.mv k44<|FL.mv k43 ?_;obtain ⟨p46,cs47,pt48,l49,at50,rel51⟩:=p0.at (zaz hx22);obtain rfl:=zal rel51;refine FL.v (E.indexAddr te52 rfl rfl pt48) ?_;refine FL.v (E.load rfl (zai isAgg3 ((at50.mono i40).now S39.sl) rfl)) ?_;refine FL.mv k45<|FL.v (E.eql rfl rfl) ?_;refine FL.nil ?_;refine FW.iB hp rfl (fun c52 hp=>?_) fun c52 hp=>?_
  ·
   refine FW.sr<|FL.as (v:=vB true) rfl<|FL.nil (FW.ret ?_);cases hp;exact ⟨nofun,rfl,⟨.inr rfl,res1 rfl rfl ⟨rfl,S39.back⟩⟩⟩
  ·
   refine FW.skip<|FW.region<|FL.mv k43<|FL.v (E.add rfl rfl) ?_;refine FL.as (v:=vI (wr (((i22:Nat):Int) + 1))) rfl<|FL.nil ?_;cases hp;exact ⟨rfl,⟨_,S39,i40,(zat rfl (zaC hx22) (p0.mono i40).le),k44,k45⟩⟩
 ·
  clear hp hq;rintro s22 f63 w62 ⟨H59,S60,i61,k64,k65,k66⟩;refine FW.seq<|FW.sr<|FL.mv k64<|FL.mv k65<|FL.v (E.lenP te52 rfl p0) ?_;refine FL.v (E.lss rfl rfl) ?_;refine FL.nil<|FW.condF rfl zaO ?_;refine FW.exit ?_;exact ⟨nofun,rfl,⟨_,S60,i61⟩⟩
 ·
  clear hq;intro e f58 w57 hD;rcases q22 with s22|x22
  ·
   obtain ⟨rfl,hD⟩:=hD;obtain ⟨H54,S55,i56⟩:=hD;replace hp:=el_go hp;refine FW.sr<|FL.as (v:=vB false) rfl<|FL.nil (FW.ret ?_);cases hp;exact ⟨.inr rfl,res1 rfl rfl ⟨rfl,S55.back⟩⟩
  ·
   obtain ⟨he,hL⟩:=hD;replace hp:=el_rt hp;cases hp;subst he;exact hL

theorem zbM {Ha:GH} {wa:World} (hs:Sl Ha wa) (v0:Value) (a0:List Int) (p0:RSl Ha eI 1 v0 a0) (a1:Int) {r:Bool} (hp:(PF.zaY a0 a1)=some r) :
  Calls prog 173 #[v0,vI a1] wa (Sc Ha wa (vB r)):=by
 unfold PF.zaY at hp;have S0:=St.init hs;refine zah (N:=8) (args:=[v0,vI a1]) func173 rfl rfl rfl ?_;refine FW.sr<|FL.as (v:=vB false) rfl<|FL.nil<|FW.sr<|FL.mv (v:=v0) rfl<|FL.mv (v:=vI a1) rfl ?_;obtain ⟨r21,hr22,hp⟩:=bnd hp;refine FL.c (E.call call227 (A2 rfl rfl)) (w_spec_l1Has S0.sl v0 a0 p0 a1 hr22) ?_;rintro e w23 ⟨rfl,r24⟩;refine ⟨_,rfl,?_⟩;have S25:=S0.call r24;refine FL.as (v:=vB r21) rfl<|FL.nil (FW.ret ?_);cases hp;exact ⟨.inr rfl,res1 rfl rfl ⟨rfl,S25.back⟩⟩

@[reducible] def p_spec_l1Own (Ha:GH) (wa:World) (r:(List Int)):Ending→World→Prop :=
 fun e w'=>∃ H':GH,∃ v0:Value,∃ n0:Nat,∃ c0:List Value,e=.returned (v0)∧St Ha wa H' w' [.row 3 1 v0 n0 c0]∧Els (up wa.heap.size H') eI 1 c0 r
theorem zc9 {Ha:GH} {wa:World} (hs:Sl Ha wa) (v0:Value) (a0:List Int) (p0:RSl Ha eI 1 v0 a0) {r:(List Int)} (hp:(PF.zcd a0)=some r) :
  Calls prog 225 #[v0] wa (p_spec_l1Own Ha wa r):=by
 unfold PF.zcd at hp;have S0:=St.init hs;refine zah (N:=6) (args:=[v0]) func225 rfl rfl rfl ?_;refine FW.sr<|FL.as (v:=vN) rfl<|FL.nil<|FW.sr ?_;obtain ⟨v21,w22,run23,S24⟩:=S0.b0 te52;have els25:Els (up wa.heap.size Ha) eI 1 [] []:=Els.nil;refine FL.v (E.buildSlice (B0) run23) ?_;refine FL.mv (v:=v0) rfl ?_;obtain ⟨xs26,hz27,hp⟩:=bnd hp;obtain ⟨v28,w31,n29,cs30,run32,S33,els34⟩:=S24.appendP (P:=prog) I0 te52 (i:=0) rfl (els25.mono upI) p0 hz27;have els34:Els (up wa.heap.size Ha) eI 1 cs30 xs26:=els34.any (fun _ _ _ _ h=>h);refine FL.v (E.append rfl rfl run32) ?_;refine FL.as (v:=v28) rfl<|FL.nil (FW.ret ?_);cases hp;exact ⟨.inr rfl,res1 rfl rfl ⟨_,_,_,_,rfl,S33,els34⟩⟩

@[reducible] def p_spec_l2Put (Ha:GH) (wa:World) (r:(List Int)):Ending→World→Prop :=
 fun e w'=>∃ H':GH,∃ v0:Value,∃ n0:Nat,∃ c0:List Value,e=.returned (v0)∧St Ha wa H' w' [.row 3 1 v0 n0 c0]∧Els (up wa.heap.size H') eI 1 c0 r
set_option maxHeartbeats 4000000 in
theorem zeb {Ha:GH} {wa:World} (hs:Sl Ha wa) (v0:Value) (a0:List Int) (p0:RSl Ha eI 1 v0 a0) (a1:Int) {r:(List Int)} (hp:(PF.zbU a0 a1)=some r) :
  Calls prog 215 #[v0,vI a1] wa (p_spec_l2Put Ha wa r):=by
 unfold PF.zbU at hp;have S0:=St.init hs;refine zah (N:=33) (args:=[v0,vI a1]) func215 rfl rfl rfl ?_;refine FW.sr<|FL.as (v:=vN) rfl<|FL.nil<|FW.sr<|FL.as (v:=vI 0) rfl<|FL.nil<|FW.seq ?_;obtain ⟨q21,hq,hp⟩:=bndR hp;refine FW.block ?_;refine FW.mono (FW.iter (S:=Int) (X:=Empty) (fun (s21:Int) f w=>∃ H:GH,St Ha wa H w []∧Inc Ha H∧f 0=v0∧f 1=vI a1∧f 5=vI s21) (fun (q:Rs Int Empty) e f w=>match q with|.go s21=>e=Exit.exit 0∧(∃ H:GH,St Ha wa H w []∧Inc Ha H∧f 0=v0∧f 1=vI a1∧f 5=vI s21)|.rt x=>x.elim) hq ⟨_,S0,I0,rfl,rfl,rfl⟩ ?_) ?_
 ·
  clear hp hq;rintro s21 f74 w73 ⟨H70,S71,i72,k75,k76,k77⟩ oAi hp;refine FW.seq<|FW.sr<|FL.mv k77<|FL.mv k75<|FL.v (E.lenP te52 rfl p0) ?_;refine FL.v (E.lss rfl rfl) ?_;refine FL.mv (v:=vB (decide (s21 < (len a0)))) rfl ?_;obtain ⟨t92,hqt92,hp⟩:=bnd hp;refine FL.cut 9 (fun f w=>∃ H:GH,St Ha wa H w []∧Inc H70 H∧f 0=v0∧f 1=vI a1∧f 5=vI s21∧f 19=vB t92) ?_ ?_
  ·
   clear hp;have hp:=hqt92;clear hqt92;rcases ifB hp with ⟨c98,hp⟩|⟨c98,hp⟩
   ·
    refine FL.y (wY c98) (E.move k75) ?_;refine FL.y (wY c98) (E.move k77) ?_;obtain ⟨xA5,hxA6,hp⟩:=bnd hp;obtain ⟨p99,csA0,ptA1,lA2,atA3,relA4⟩:=p0.at hxA6;obtain rfl:=zal relA4;refine FL.y (wY c98) (E.indexAddr te52 rfl rfl ptA1) ?_;refine FL.y (wY c98) (E.load rfl (zai isAgg3 ((atA3.mono i72).now S71.sl) rfl)) ?_;refine FL.call (wY c98) rfl rfl (E.call call136 (A1 rfl)) (zbY S71.sl xA5) ?_;rintro e wA7 ⟨rfl,rA8⟩;refine ⟨_,rfl,?_⟩;have SA9:=S71.call rA8;refine FL.y (wY c98) (E.move k76) ?_;refine FL.call (wY c98) rfl rfl (E.call call136 (A1 rfl)) (zbY SA9.sl a1) ?_;rintro e wAa ⟨rfl,rAb⟩;refine ⟨_,rfl,?_⟩;have SAc:=SA9.call rAb;refine FL.y (wY c98) (E.lss rfl rfl) ?_;cases hp;refine FL.v (E.pickT rfl c98 rfl) ?_;exact FL.nil ⟨rfl,_,SAc,I0,k75,k76,k77,rfl⟩
   ·
    refine FL.n c98<|FL.n c98<|FL.n c98<|FL.n c98<|FL.n c98<|FL.n c98<|FL.n c98<|FL.n c98 ?_;cases hp;refine FL.v (E.pickF rfl c98 rfl) ?_;exact FL.nil ⟨rfl,_,S71,I0,k75,k76,k77,rfl⟩
  rintro f97 w96 ⟨H93,S94,i95,kAd,kAe,kAf,kAg⟩;refine FL.nil ?_;refine FW.iB hp kAg (fun cAh hp=>?_) fun cAh hp=>?_
  ·
   refine FW.skip (FW.block (FW.region ?_));refine FL.mv kAf<|FL.v (E.add rfl rfl) ?_;refine FL.as (v:=vI (wr (s21 + 1))) rfl<|FL.nil ?_;cases hp;exact ⟨rfl,⟨_,S94,(i72.tr i95),kAd,kAe,rfl⟩⟩
  ·
   refine FW.exit ?_;cases hp;exact ⟨nofun,rfl,⟨_,S94,(i72.tr i95),kAd,kAe,kAf⟩⟩
 ·
  clear hq;intro e fAn wAm hD;rcases q21 with s21|x21
  ·
   obtain ⟨rfl,hD⟩:=hD;obtain ⟨HAj,SAk,iAl,kAo,kAp,kAq⟩:=hD;replace hp:=el_go hp;refine FW.seq ?_;obtain ⟨xs22,hc23,hp⟩:=bnd hp;obtain ⟨r27,hr28,hp⟩:=bnd hp;obtain ⟨xs42,hz43,hp⟩:=bnd hp;obtain ⟨xs54,hc55,hp⟩:=bnd hp;obtain ⟨xs59,hz60,hp⟩:=bnd hp;refine FW.drawB (Sl HAj) (fun f w=>∃ H:GH,∃ v68:Value,∃ n69:Nat,∃ cs78:List Value,St Ha wa H w [.row 3 1 v68 n69 cs78]∧Inc HAj H∧Els (up wa.heap.size H) eI 1 cs78 xs59∧f 4=v68) (by kernel_rfl) SAk.sl ?_ ?_
   ·
    intro wAr rAs;have SAt:=SAk.call rAs;refine FB.T 0 12 1 rfl SAt.sl rfl (fun _ z=>(E.move kAo)) ?_;refine FB.T 1 12 3 rfl SAt.sl rfl (fun _ z=>(E.move kAq)) ?_;obtain ⟨v24,run25,h26⟩:=p0.cut te52 hc23 (lo:=none) (hi:=some (vI s21)) (.inl ⟨rfl,rfl⟩) (.inr ⟨_,rfl⟩);refine FB.T 2 12 7 rfl SAt.sl rfl (fun _ z=>(E.slice te52 rfl rfl (congrArg some rfl) rfl (run25 _))) ?_;refine FB.T 4 12 23 rfl SAt.sl rfl (fun _ z=>(E.move kAp)) ?_;refine FB.T 7 12 151 rfl SAt.sl rfl (fun _ z=>(E.move kAo)) ?_;refine FB.T 8 12 407 rfl SAt.sl rfl (fun _ z=>(E.move kAq)) ?_;obtain ⟨v56,run57,h58⟩:=p0.cut te52 hc55 (lo:=some (vI s21)) (hi:=none) (.inr ⟨_,rfl⟩) (.inl ⟨rfl,rfl⟩);refine FB.T 9 12 919 rfl SAt.sl rfl (fun _ z=>(E.slice te52 rfl (congrArg some rfl) rfl rfl (run57 _))) ?_;refine FB.all2 (i:=3) (j:=5) (by kernel_rfl) ?_ ?_
    ·
     refine FC.call (l':=(bs 12 927)) rfl (by kernel_rfl) rfl rfl rfl (E.call call225 (A1 rfl)) (zc9 SAt.sl v24 xs22 (h26.mono iAl) hr28) ?_;rintro e w30 ⟨H29,v33,n34,cs35,rfl,r32,els36⟩;refine ⟨_,rfl,?_⟩;have els36:=els36.mono (up_le SAt.size);have S31:=SAt.join (l':=[.row 3 1 v33 n34 cs35]) r32 rfl;refine ⟨(SP.nil (Sl.of_inc r32.run.inc S31.sl)),?_⟩;refine FB.all1 (i:=5) (by kernel_rfl) ?_
     ·
      obtain ⟨v37,w38,run39,S40,els41⟩:=S31.ints (P:=prog) te52 (up wa.heap.size H29) 1 [a1];refine FC.val (l':=(bs 12 959)) rfl (by kernel_rfl) rfl rfl rfl (E.buildSlice (B1 rfl) run39) ?_;refine ⟨(SP.nil (Sl.of_inc r32.run.inc S40.sl)),?_⟩;refine FB.all1 (i:=6) (by kernel_rfl) ?_
      ·
       obtain ⟨v44,w47,n45,cs46,run48,S49,els50,ce51⟩:=S40.appendO (P:=prog) te52 (i:=1) (j:=0) rfl els36 rfl els41 hz43;have S53:St Ha wa H29 w47 [.row 3 1 v44 n45 cs46]:=S49.drop 0;refine FC.val (l':=(bs 12 1023)) rfl (by kernel_rfl) rfl rfl rfl (E.append rfl rfl run48) ?_;refine ⟨(SP.nil (Sl.of_inc r32.run.inc S53.sl)),?_⟩;refine FB.all1 (i:=10) (by kernel_rfl) ?_
       ·
        obtain ⟨v61,w64,n62,cs63,run65,S66,els67⟩:=S53.appendP (P:=prog) I0 te52 (i:=0) rfl (els50.mono upI) (h58.mono (iAl.tr r32.run.inc)) hz60;have els67:Els (up wa.heap.size H29) eI 1 cs63 xs59:=els67.any (fun _ _ _ _ h=>h);refine FC.val (l':=(bs 12 2047)) rfl (by kernel_rfl) rfl rfl rfl (E.append rfl rfl run65) ?_;refine sgo (SP.nil (Sl.of_inc r32.run.inc S66.sl)) fun sp=>?_;refine FB.r 11 12 4095 rfl sp (fun _ z=>(E.assign (v:=v61) rfl)) (fun sp=>?_);exact FB.done (by kernel_rfl) ⟨_,_,_,_,S66,r32.run.inc,els67,rfl⟩
    ·
     obtain ⟨v37,w38,run39,S40,els41⟩:=SAt.ints (P:=prog) te52 (up wa.heap.size HAj) 1 [a1];refine FC.val (l':=(bs 12 951)) rfl (by kernel_rfl) rfl rfl rfl (E.buildSlice (B1 rfl) run39) ?_;refine ⟨(SP.nil S40.sl),?_⟩;refine FB.all1 (i:=3) (by kernel_rfl) ?_
     ·
      refine FC.call (l':=(bs 12 959)) rfl (by kernel_rfl) rfl rfl rfl (E.call call225 (A1 rfl)) (zc9 S40.sl v24 xs22 (h26.mono iAl) hr28) ?_;rintro e w30 ⟨H29,v33,n34,cs35,rfl,r32,els36⟩;refine ⟨_,rfl,?_⟩;have els36:=els36.mono (up_le S40.size);have S31:=S40.join (l':=[.row 3 1 v33 n34 cs35,.row 3 1 v37 1 (iC [a1])]) r32 rfl;refine ⟨(SP.nil (Sl.of_inc r32.run.inc S31.sl)),?_⟩;refine FB.all1 (i:=6) (by kernel_rfl) ?_
      ·
       obtain ⟨v44,w47,n45,cs46,run48,S49,els50,ce51⟩:=S31.appendO (P:=prog) te52 (i:=0) (j:=1) rfl els36 rfl (els41.mono (zaj r32.run.inc)) hz43;have S53:St Ha wa H29 w47 [.row 3 1 v44 n45 cs46]:=S49.drop 1;refine FC.val (l':=(bs 12 1023)) rfl (by kernel_rfl) rfl rfl rfl (E.append rfl rfl run48) ?_;refine ⟨(SP.nil (Sl.of_inc r32.run.inc S53.sl)),?_⟩;refine FB.all1 (i:=10) (by kernel_rfl) ?_
       ·
        obtain ⟨v61,w64,n62,cs63,run65,S66,els67⟩:=S53.appendP (P:=prog) I0 te52 (i:=0) rfl (els50.mono upI) (h58.mono (iAl.tr r32.run.inc)) hz60;have els67:Els (up wa.heap.size H29) eI 1 cs63 xs59:=els67.any (fun _ _ _ _ h=>h);refine FC.val (l':=(bs 12 2047)) rfl (by kernel_rfl) rfl rfl rfl (E.append rfl rfl run65) ?_;refine sgo (SP.nil (Sl.of_inc r32.run.inc S66.sl)) fun sp=>?_;refine FB.r 11 12 4095 rfl sp (fun _ z=>(E.assign (v:=v61) rfl)) (fun sp=>?_);exact FB.done (by kernel_rfl) ⟨_,_,_,_,S66,r32.run.inc,els67,rfl⟩
   ·
    rintro f84 w83 ⟨H80,v68,n69,cs78,S81,i82,els79,k85⟩;refine FW.ret ?_;cases hp;exact ⟨.inr rfl,res1 rfl k85 ⟨_,_,_,_,rfl,S81,els79⟩⟩
  ·
   exact x21.elim

@[reducible] def zfp (Ha:GH) (wa:World) (r:(Cnf×Bool)):Ending→World→Prop :=
 fun e w'=>∃ H':GH,∃ v0_1:Value,∃ n0_1:Nat,∃ c0_1:List Value,e=.returned (Value.tuple #[vA #[vI r.1.vars,v0_1],vB r.2])∧St Ha wa H' w' [.row 52 1 v0_1 n0_1 c0_1]∧Els (up wa.heap.size H') (eL eI 1) 1 c0_1 r.1.clauses∧(bl c0_1).Nodup
set_option maxHeartbeats 4000000 in
theorem w_spec_RenameCnf {Ha:GH} {wa:World} (hs:Sl Ha wa) (a0:Cnf) (v0_1:Value) (p0_1:RSl Ha (eL eI 1) 1 v0_1 a0.clauses) (v1:Value) (a1:List Int) (p1:RSl Ha eI 1 v1 a1) {r:(Cnf×Bool)} (hp:(PF.zds a0 a1)=some r) :
  Calls prog 160 #[vA #[vI a0.vars,v0_1],v1] wa (zfp Ha wa r):=by
 unfold PF.zds at hp;have S0:=St.init hs;refine zah (N:=110) (args:=[vA #[vI a0.vars,v0_1],v1]) func160 rfl rfl rfl ?_;refine FW.sr ?_;obtain ⟨b21,w22,run23,S24⟩:=S0.box (P:=prog) 26 [vI a0.vars,v0_1] (v:=vA #[vI a0.vars,v0_1]) rfl (oC rfl (oC p0_1.one zac));refine FL.v (E.box rfl run23) ?_;obtain ⟨H25,S26,i27,at28⟩:=S24.sealBox (i:=0) (l':=[]) rfl rfl;obtain ⟨b29,w30,run31,S32⟩:=S26.alloc (P:=prog) 26 [vI 0,vN] zeroValue26 rfl (oC rfl (oC rfl zac));refine FL.v (E.alloc run31) ?_;refine FL.as (v:=vB false) rfl<|FL.nil (FW.seq (FW.sr ?_));refine FL.v (E.load rfl (zag isAgg26 sizeOf26 (at28.now S32.sl) rfl)) ?_;obtain ⟨r33,hr34,hp⟩:=bnd hp;refine FL.c (E.call call127 (A1 rfl)) (zea S32.sl a0 v0_1 (p0_1.mono i27) hr34) ?_;rintro e w35 ⟨rfl,r36⟩;refine ⟨_,rfl,?_⟩;have S37:=S32.call r36;refine FL.v (E.not rfl) ?_;refine FL.mv (v:=vB (!r33)) rfl ?_;refine FL.cut 6 (fun f w=>∃ H:GH,St Ha wa H w [.box b29 26 [vI 0,vN]]∧Inc H25 H∧f 1=v1∧f 2=vK b21∧f 4=vK b29∧f 22=vB (bif (!r33) then true else (!((len a1) == a0.vars)))) ?_ ?_
 ·
  rcases bcase (!r33) with c44|c44
  ·
   refine FL.n c44<|FL.n c44<|FL.n c44<|FL.n c44<|FL.n c44<|FL.v (E.pickT rfl c44 rfl) ?_;exact FL.nil ⟨rfl,_,S37,I0,rfl,rfl,rfl,(congrArg vB (bifT c44).symm)⟩
  ·
   refine FL.y (wY c44) (E.move (v:=v1) rfl) ?_;refine FL.y (wY c44) (E.lenP te52 rfl p1) ?_;refine FL.y (wY c44) (E.fieldAddr zaq rfl) ?_;refine FL.y (wY c44) (E.load rfl (zad isAgg3 (at28.now S37.sl) rfl)) ?_;refine FL.y (wY c44) (E.neq rfl rfl) ?_;refine FL.v (E.pickF rfl c44 rfl) ?_;exact FL.nil ⟨rfl,_,S37,I0,rfl,rfl,rfl,(congrArg vB (bifF c44).symm)⟩
 rintro f43 w42 ⟨H39,S40,i41,k45,k46,k47,k48⟩;refine FL.nil ?_;refine FW.iB hp k48 (fun c49 hp=>?_) fun c49 hp=>?_
 ·
  refine FW.sr<|FL.v (E.build (B0) (run_build _ 26 #[] #[vI 0,vN] (by rfl))) ?_;obtain ⟨w50,run51,S52⟩:=S40.s0 0 [vI 0,vN] (l':=[.box b29 26 [vI 0,vN]]) sizeOf26 (oC rfl (oC rfl zac));refine FL.act rfl rfl (E.store k47 rfl run51) ?_;refine FL.as (v:=vB false) rfl<|FL.nil (FW.ret ?_);cases hp;exact ⟨.inr rfl,resC2 rfl k47 (zar isAgg26 sizeOf26 (S52.box_now (i:=0) rfl) rfl) rfl ⟨_,_,_,_,rfl,((S52.nil 52 1).sel [0] (by decide) rfl),Els.nil,List.nodup_nil⟩⟩
 ·
  refine FW.skip (FW.seq (FW.sr ?_));refine FL.as (v:=vI 0) rfl<|FL.nil ?_;obtain ⟨q54,hq,hp⟩:=bndR hp;refine FW.block ?_;refine FW.mono (FW.forL (S:=Unit) (X:=(Cnf×Bool)) (fun (i54:Nat) (s54:Unit) f w=>∃ H:GH,St Ha wa H w [.box b29 26 [vI 0,vN]]∧Inc H39 H∧f 6=vI ((i54:Nat):Int)∧f 1=v1∧f 2=vK b21∧f 4=vK b29) (fun q e f w=>match q with|.go s54=>e=Exit.exit 0∧(∃ H:GH,St Ha wa H w [.box b29 26 [vI 0,vN]]∧Inc H39 H∧f 1=v1∧f 2=vK b21∧f 4=vK b29)|.rt x=>((e=Exit.ret)∧(fun e f w=>(e=Exit.normal∨e=Exit.ret)∧∀ a,Fr (δ:=[]) 110 a f→∃ v,(results Tryz.f160 a.tmps).run prog w=.ok v w∧(zfp Ha wa x) (.returned v) w) e f w)) hq ⟨_,S40,I0,rfl,k45,k46,k47⟩ ?_ ?_) ?_
  ·
   clear hp hq;rintro i54 y53 s54 fAW wAV ⟨HAS,SAT,iAU,kAX,kAY,kAZ,kB0⟩ hx54 oCt hp;refine FW.seq<|FW.sr<|FL.mv kAX<|FL.mv kAY<|FL.v (E.lenP te52 rfl p1) ?_;refine FL.v (E.lssT rfl rfl (zaN hx54)) ?_;refine FL.nil<|FW.condT rfl rfl ?_;refine FW.skip (FW.seq (FW.block (FW.seq ?_)));refine FW.draw (fun w'=>Run wAV.heap.size HAS wAV HAS w') (by kernel_rfl) (by kernel_rfl) (zaR SAT.sl) ?_;refine FD.v (fun _ z=>(E.fieldAddr zaq kAZ)) ?_;refine FD.v (fun _ z=>(E.load rfl (zad isAgg3 ((at28.mono (i41.tr iAU)).now (SAT.call z).sl) rfl))) ?_;refine FD.v (fun _ z=>(E.move kAY)) ?_;refine FD.v (fun _ z=>(E.move kAX)) ?_;obtain ⟨pB2,csB3,ptB4,lB5,atB6,relB7⟩:=p1.at (zaz hx54);obtain rfl:=zal relB7;refine FD.v (fun _ z=>(E.indexAddr te52 rfl rfl ptB4)) ?_;refine FD.v (fun _ z=>(E.load rfl (zai isAgg3 ((atB6.mono ((i27.tr i41).tr iAU)).now (SAT.call z).sl) rfl))) ?_;refine FD.call rfl rfl rfl (fun _ z=>(E.call call214 (A2 rfl rfl))) (fun _ z=>Calls.cls z (w_spec_l2Lit (SAT.call z).sl a0.vars y53)) ?_;refine FD.v (fun _ z=>(E.not rfl)) ?_;refine FD.v (fun _ z=>(E.move (v:=vB (!(PF.zbE a0.vars y53))) rfl)) ?_;obtain ⟨t183,hqtBl,hp⟩:=bnd hp;refine FD.cut 9 (fun f=>f 1=v1∧f 2=vK b21∧f 4=vK b29∧f 6=vI ((i54:Nat):Int)∧f 47=vB t183) ?_ ?_
   ·
    clear hp;have hp:=hqtBl;clear hqtBl;rcases ifB hp with ⟨cBr,hp⟩|⟨cBr,hp⟩
    ·
     refine FD.n cBr<|FD.n cBr<|FD.n cBr<|FD.n cBr<|FD.n cBr<|FD.n cBr<|FD.n cBr<|FD.n cBr ?_;cases hp;refine FD.v (fun _ z=>(E.pickT rfl cBr rfl)) ?_;exact FD.nil ⟨kAY,kAZ,kB0,kAX,rfl⟩
    ·
     refine FD.y (wY cBr) (fun _ z=>(E.move kAY)) ?_;refine FD.y (wY cBr) (fun _ z=>(E.move kAX)) ?_;obtain ⟨xsBs,hcBt,hp⟩:=bnd hp;obtain ⟨vBu,runBv,hBw⟩:=p1.cut te52 hcBt (lo:=none) (hi:=some (vI ((i54:Nat):Int))) (.inl ⟨rfl,rfl⟩) (.inr ⟨_,rfl⟩);refine FD.y (wY cBr) (fun _ z=>(E.slice te52 rfl rfl (congrArg some rfl) rfl (runBv _))) ?_;refine FD.y (wY cBr) (fun _ z=>(E.move kAY)) ?_;refine FD.y (wY cBr) (fun _ z=>(E.move kAX)) ?_;obtain ⟨pBx,csBy,ptBz,lBA,atBB,relBC⟩:=p1.at (zaz hx54);obtain rfl:=zal relBC;refine FD.y (wY cBr) (fun _ z=>(E.indexAddr te52 rfl rfl ptBz)) ?_;refine FD.y (wY cBr) (fun _ z=>(E.load rfl (zai isAgg3 ((atBB.mono ((i27.tr i41).tr iAU)).now (SAT.call z).sl) rfl))) ?_;obtain ⟨rBD,hrBE,hp⟩:=bnd hp;refine FD.call (wY cBr) rfl rfl (fun _ z=>(E.call call173 (A2 rfl rfl))) (fun _ z=>Calls.cls z (zbM (SAT.call z).sl vBu xsBs (hBw.mono ((i27.tr i41).tr iAU)) y53 hrBE)) ?_;cases hp;refine FD.v (fun _ z=>(E.pickF rfl cBr rfl)) ?_;exact FD.nil ⟨kAY,kAZ,kB0,kAX,rfl⟩
   rintro fBq ⟨kBF,kBG,kBH,kBI,kBJ⟩;refine FD.v (fun _ z=>(E.move kBJ)) ?_;obtain ⟨t221,hqtBX,hp⟩:=bnd hp;refine FD.cut 10 (fun f=>f 1=v1∧f 2=vK b21∧f 4=vK b29∧f 6=vI ((i54:Nat):Int)∧f 58=vB t221) ?_ ?_
   ·
    clear hp;have hp:=hqtBX;clear hqtBX;rcases ifB hp with ⟨cC3,hp⟩|⟨cC3,hp⟩
    ·
     refine FD.n cC3<|FD.n cC3<|FD.n cC3<|FD.n cC3<|FD.n cC3<|FD.n cC3<|FD.n cC3<|FD.n cC3<|FD.n cC3 ?_;cases hp;refine FD.v (fun _ z=>(E.pickT rfl cC3 rfl)) ?_;exact FD.nil ⟨kBF,kBG,kBH,kBI,rfl⟩
    ·
     refine FD.y (wY cC3) (fun _ z=>(E.move kBF)) ?_;refine FD.y (wY cC3) (fun _ z=>(E.move kBI)) ?_;obtain ⟨xsC4,hcC5,hp⟩:=bnd hp;obtain ⟨vC6,runC7,hC8⟩:=p1.cut te52 hcC5 (lo:=none) (hi:=some (vI ((i54:Nat):Int))) (.inl ⟨rfl,rfl⟩) (.inr ⟨_,rfl⟩);refine FD.y (wY cC3) (fun _ z=>(E.slice te52 rfl rfl (congrArg some rfl) rfl (runC7 _))) ?_;refine FD.y (wY cC3) (fun _ z=>(E.move kBF)) ?_;refine FD.y (wY cC3) (fun _ z=>(E.move kBI)) ?_;obtain ⟨pC9,csCa,ptCb,lCc,atCd,relCe⟩:=p1.at (zaz hx54);obtain rfl:=zal relCe;refine FD.y (wY cC3) (fun _ z=>(E.indexAddr te52 rfl rfl ptCb)) ?_;refine FD.y (wY cC3) (fun _ z=>(E.load rfl (zai isAgg3 ((atCd.mono ((i27.tr i41).tr iAU)).now (SAT.call z).sl) rfl))) ?_;refine FD.y (wY cC3) (fun _ z=>(E.neg rfl)) ?_;obtain ⟨rCf,hrCg,hp⟩:=bnd hp;refine FD.call (wY cC3) rfl rfl (fun _ z=>(E.call call173 (A2 rfl rfl))) (fun _ z=>Calls.cls z (zbM (SAT.call z).sl vC6 xsC4 (hC8.mono ((i27.tr i41).tr iAU)) (wr (-y53)) hrCg)) ?_;cases hp;refine FD.v (fun _ z=>(E.pickF rfl cC3 rfl)) ?_;exact FD.nil ⟨kBF,kBG,kBH,kBI,rfl⟩
   rintro fC2 ⟨kCh,kCi,kCj,kCk,kCl⟩;refine FD.nil ?_;intro wCm rCo;have SCn:=SAT.call rCo;refine FW.iB hp kCl (fun cCp hp=>?_) fun cCp hp=>?_
   ·
    refine FW.sr<|FL.v (E.build (B0) (run_build _ 26 #[] #[vI 0,vN] (by rfl))) ?_;obtain ⟨wCq,runCr,SCs⟩:=SCn.s0 0 [vI 0,vN] (l':=[.box b29 26 [vI 0,vN]]) sizeOf26 (oC rfl (oC rfl zac));refine FL.act rfl rfl (E.store kCj rfl runCr) ?_;refine FL.as (v:=vB false) rfl<|FL.nil (FW.ret ?_);cases hp;exact ⟨nofun,rfl,⟨.inr rfl,resC2 rfl kCj (zar isAgg26 sizeOf26 (SCs.box_now (i:=0) rfl) rfl) rfl ⟨_,_,_,_,rfl,((SCs.nil 52 1).sel [0] (by decide) rfl),Els.nil,List.nodup_nil⟩⟩⟩
   ·
    refine FW.skip<|FW.region<|FL.mv kCk<|FL.v (E.add rfl rfl) ?_;refine FL.as (v:=vI (wr (((i54:Nat):Int) + 1))) rfl<|FL.nil ?_;cases hp;exact ⟨rfl,⟨_,SCn,iAU,(zat rfl (zaC hx54) (p1.mono ((i27.tr i41).tr iAU)).le),kCh,kCi,kCj⟩⟩
  ·
   clear hp hq;rintro s54 fBn wBm ⟨HBi,SBj,iBk,kBo,kBp,kBK,kBL⟩;refine FW.seq<|FW.sr<|FL.mv kBo<|FL.mv kBp<|FL.v (E.lenP te52 rfl p1) ?_;refine FL.v (E.lss rfl rfl) ?_;refine FL.nil<|FW.condF rfl zaO ?_;refine FW.exit ?_;exact ⟨nofun,rfl,⟨_,SBj,iBk,kBp,kBK,kBL⟩⟩
  ·
   clear hq;intro e fCy wCx hD;rcases q54 with s54|x54
   ·
    obtain ⟨rfl,hD⟩:=hD;obtain ⟨HCu,SCv,iCw,kCz,kCA,kCB⟩:=hD;replace hp:=el_go hp;refine FW.sr<|FL.v (E.fieldAddr zaq kCA) ?_;refine FL.v (E.load rfl (zad isAgg3 ((at28.mono (i41.tr iCw)).now SCv.sl) rfl)) ?_;obtain ⟨vCC,wCD,runCE,SCF⟩:=SCv.b0 te24;have elsCG:Els (up wa.heap.size HCu) (eL eI 1) 1 [] []:=Els.nil;refine FL.v (E.buildSlice (B0) runCE) ?_;refine FL.v (E.build (B2 rfl rfl) (run_build _ 26 #[(0,vI a0.vars),(1,vCC)] #[vI a0.vars,vCC] (by obtain ⟨_,_,rfl⟩:=SCF.row_ln (i:=0) rfl;rfl))) ?_;obtain ⟨bCH,wCI,runCJ,SCK⟩:=SCF.alloc (P:=prog) 26 [vI 0,vN] zeroValue26 rfl (oC rfl (oC rfl zac));refine FL.v (E.alloc runCJ) ?_;obtain ⟨wCL,runCM,SCN⟩:=SCK.s0 0 [vI a0.vars,vCC] (l':=[.box bCH 26 [vI a0.vars,vCC],.row 52 1 vCC 0 [],.box b29 26 [vI 0,vN]]) sizeOf26 (oC rfl (oC (Ln.one (SCK.row_ln (i:=1) rfl)) zac));refine FL.act rfl rfl (E.store rfl rfl runCM) ?_;refine FL.nil (FW.seq (FW.sr ?_));refine FL.as (v:=vI 0) rfl<|FL.nil ?_;obtain ⟨qCO,hq,hp⟩:=bndR hp;refine FW.block ?_;refine FW.mono (FW.iter (S:=((List (List Int))×Int×Int)) (X:=Empty) (fun (sCO:((List (List Int))×Int×Int)) f w=>∃ H:GH,∃ vGP:Value,∃ nGQ:Nat,∃ csGR:List Value,St Ha wa H w [.box bCH 26 [vI sCO.2.1,vGP],.row 52 1 vGP nGQ csGR,.box b29 26 [vI 0,vN]]∧Inc HCu H∧Els (up wa.heap.size H) (eL eI 1) 1 csGR sCO.1∧(bl csGR).Nodup∧f 1=v1∧f 2=vK b21∧f 4=vK b29∧f 7=vK bCH∧f 8=vI sCO.2.2) (fun (q:Rs ((List (List Int))×Int×Int) Empty) e f w=>match q with|.go sCO=>e=Exit.exit 2∧(∃ H:GH,∃ vGP:Value,∃ nGQ:Nat,∃ csGR:List Value,St Ha wa H w [.box bCH 26 [vI sCO.2.1,vGP],.row 52 1 vGP nGQ csGR,.box b29 26 [vI 0,vN]]∧Inc HCu H∧Els (up wa.heap.size H) (eL eI 1) 1 csGR sCO.1∧(bl csGR).Nodup∧f 4=vK b29∧f 7=vK bCH)|.rt x=>x.elim) hq ⟨_,_,_,_,SCN,I0,elsCG,(show (bl []).Nodup from List.nodup_nil),kCz,kCA,kCB,rfl,rfl⟩ ?_) ?_
    ·
     clear hp hq;rintro sCO fKY wKX ⟨HKU,vGP,nGQ,csGR,SKV,iKW,elsGS,ndGT,kKZ,kL0,kL1,kL2,kL3⟩ oB1 hp;refine FW.seq<|FW.sr<|FL.mv kL3<|FL.v (E.fieldAddr zay kL0) ?_;refine FL.v (E.load rfl (zad isAgg24 ((at28.mono ((i41.tr iCw).tr iKW)).now SKV.sl) rfl)) ?_;refine FL.v (E.lenP te24 rfl p0_1) ?_;refine FL.v (E.lss rfl rfl) ?_;refine FL.nil ?_;refine FW.iB hp rfl (fun cL4 hp=>?_) fun cL4 hp=>?_
     ·
      refine FW.skip (FW.seq (FW.block (FW.sr ?_)));obtain ⟨vL5,wL6,runL7,SL8⟩:=SKV.b0 te52;have elsL9:Els (up wa.heap.size HKU) eI 1 [] []:=Els.nil;refine FL.v (E.buildSlice (B0) runL7) ?_;refine FL.as (v:=vL5) rfl<|FL.nil (FW.seq (FW.sr ?_));refine FL.as (v:=vI 0) rfl<|FL.nil ?_;obtain ⟨qLa,hq,hp⟩:=bndR hp;refine FW.block ?_;refine FW.mono (FW.iter (S:=((List Int)×Int)) (X:=Empty) (fun (sLa:((List Int)×Int)) f w=>∃ H:GH,∃ vME:Value,∃ nMF:Nat,∃ csMG:List Value,St Ha wa H w [.box bCH 26 [vI sCO.2.1,vGP],.row 52 1 vGP nGQ csGR,.box b29 26 [vI 0,vN],.row 3 1 vME nMF csMG]∧Inc HKU H∧Els (up wa.heap.size H) eI 1 csMG sLa.1∧f 1=v1∧f 2=vK b21∧f 4=vK b29∧f 7=vK bCH∧f 8=vI sCO.2.2∧f 9=vME∧f 10=vI sLa.2) (fun (q:Rs ((List Int)×Int) Empty) e f w=>match q with|.go sLa=>e=Exit.exit 4∧(∃ H:GH,∃ vME:Value,∃ nMF:Nat,∃ csMG:List Value,St Ha wa H w [.box bCH 26 [vI sCO.2.1,vGP],.row 52 1 vGP nGQ csGR,.box b29 26 [vI 0,vN],.row 3 1 vME nMF csMG]∧Inc HKU H∧Els (up wa.heap.size H) eI 1 csMG sLa.1∧f 1=v1∧f 2=vK b21∧f 4=vK b29∧f 7=vK bCH∧f 8=vI sCO.2.2∧f 9=vME)|.rt x=>x.elim) hq ⟨_,_,_,_,(SL8.sel [1,2,3,0] (by decide) rfl),I0,elsL9,kKZ,kL0,kL1,kL2,kL3,rfl,rfl⟩ ?_) ?_
      ·
       clear hp hq;rintro sLa fOb wOa ⟨HO7,vME,nMF,csMG,SO8,iO9,elsMH,kOc,kOd,kOe,kOf,kOg,kOh,kOi⟩ oAg hp;refine FW.seq<|FW.sr<|FL.mv kOi<|FL.v (E.fieldAddr zay kOd) ?_;refine FL.v (E.load rfl (zad isAgg24 ((at28.mono (((i41.tr iCw).tr iKW).tr iO9)).now SO8.sl) rfl)) ?_;refine FL.mv kOg ?_;obtain ⟨xOp,hxOq,hp⟩:=bnd hp;obtain ⟨pOj,csOk,ptOl,lOm,atOn,relOo⟩:=p0_1.at hxOq;obtain ⟨vOr,rfl,hOs⟩:=zbG relOo;refine FL.v (E.indexAddr te24 rfl rfl ptOl) ?_;refine FL.v (E.load rfl (zai isAgg52 ((atOn.mono ((((i27.tr i41).tr iCw).tr iKW).tr iO9)).now SO8.sl) rfl)) ?_;refine FL.v (E.lenP te52 rfl hOs) ?_;refine FL.v (E.lss rfl rfl) ?_;refine FL.nil ?_;refine FW.iB hp rfl (fun cOt hp=>?_) fun cOt hp=>?_
       ·
        refine FW.skip (FW.seq (FW.block (FW.sr ?_)));refine FL.v (E.fieldAddr zay kOd) ?_;refine FL.v (E.load rfl (zad isAgg24 ((at28.mono (((i41.tr iCw).tr iKW).tr iO9)).now SO8.sl) rfl)) ?_;refine FL.mv kOg ?_;obtain ⟨x58,hx59,hp⟩:=bnd hp;obtain ⟨pOu,csOv,pt38,l55,at56,rel57⟩:=p0_1.at hx59;obtain ⟨v60,rfl,h61⟩:=zbG rel57;refine FL.v (E.indexAddr te24 rfl rfl pt38) ?_;refine FL.v (E.load rfl (zai isAgg52 ((at56.mono ((((i27.tr i41).tr iCw).tr iKW).tr iO9)).now SO8.sl) rfl)) ?_;refine FL.mv kOi ?_;obtain ⟨x68,hx69,hp⟩:=bnd hp;obtain ⟨p62,cs63,pt64,l65,at66,rel67⟩:=h61.at hx69;obtain rfl:=zal rel67;refine FL.v (E.indexAddr te52 rfl rfl pt64) ?_;refine FL.v (E.load rfl (zai isAgg3 ((at66.mono ((((i27.tr i41).tr iCw).tr iKW).tr iO9)).now SO8.sl) rfl)) ?_;refine FL.as (v:=vI x68) rfl<|FL.nil<|FW.sr<|FL.mv kOc<|FL.mv (v:=vI x68) rfl ?_;refine FL.c (E.call call136 (A1 rfl)) (zbY SO8.sl x68) ?_;rintro e w70 ⟨rfl,r71⟩;refine ⟨_,rfl,?_⟩;have S72:=SO8.call r71;refine FL.v (E.sub rfl rfl) ?_;obtain ⟨x79,hx80,hp⟩:=bnd hp;obtain ⟨p73,cs74,pt75,l76,at77,rel78⟩:=p1.at hx80;obtain rfl:=zal rel78;refine FL.v (E.indexAddr te52 rfl rfl pt75) ?_;refine FL.v (E.load rfl (zai isAgg3 ((at77.mono ((((i27.tr i41).tr iCw).tr iKW).tr iO9)).now S72.sl) rfl)) ?_;refine FL.as (v:=vI x79) rfl<|FL.nil (FW.seq (FW.sr ?_));refine FL.mv (v:=vI x68) rfl<|FL.v (E.lss rfl rfl) ?_;refine FL.nil ?_;refine FW.iB hp rfl (fun c81 hp=>?_) fun c81 hp=>?_
        ·
         refine FW.region<|FL.mv (v:=vI x79) rfl<|FL.v (E.neg rfl) ?_;refine FL.as (v:=vI (wr (-x79))) rfl<|FL.nil<|FW.region<|FL.mv kOh<|FL.mv (v:=vI (wr (-x79))) rfl ?_;obtain ⟨H82,S83,i84,h85,nv86⟩:=S72.sealRowU (i:=3) (l':=[.box bCH 26 [vI sCO.2.1,vGP],.row 52 1 vGP nGQ csGR,.box b29 26 [vI 0,vN]]) rfl elsMH (by decide) rfl;obtain ⟨r87,hr88,hp⟩:=bnd hp;refine FL.c (E.call call215 (A2 rfl rfl)) (zeb S83.sl vME sLa.1 (h85.mono upI) (wr (-x79)) hr88) ?_;rintro e w90 ⟨H89,v95,n96,cs97,rfl,r92,els98⟩;refine ⟨_,rfl,?_⟩;obtain ⟨H93,r92,hU94⟩:=St.lendX i84 S72.sl r92;have els98:=els98.mono (hU94.tr (up_le S72.size));have S91:=S72.join (l':=[.row 3 1 v95 n96 cs97,.box bCH 26 [vI sCO.2.1,vGP],.row 52 1 vGP nGQ csGR,.box b29 26 [vI 0,vN],.row 3 1 vME nMF csMG]) r92 rfl;refine FL.as (v:=v95) rfl<|FL.nil<|FW.region<|FL.mv kOi<|FL.v (E.add rfl rfl) ?_;refine FL.as (v:=vI (wr (sLa.2 + 1))) rfl<|FL.nil ?_;cases hp;exact ⟨rfl,⟨_,_,_,_,(S91.sel [1,2,3,0] (by decide) rfl),(iO9.tr r92.run.inc),els98,kOc,kOd,kOe,kOf,kOg,rfl,rfl⟩⟩
        ·
         refine FW.skip<|FW.region<|FL.mv kOh<|FL.mv (v:=vI x79) rfl ?_;obtain ⟨H99,SA0,iA1,hA2,nvA3⟩:=S72.sealRowU (i:=3) (l':=[.box bCH 26 [vI sCO.2.1,vGP],.row 52 1 vGP nGQ csGR,.box b29 26 [vI 0,vN]]) rfl elsMH (by decide) rfl;obtain ⟨rA4,hrA5,hp⟩:=bnd hp;refine FL.c (E.call call215 (A2 rfl rfl)) (zeb SA0.sl vME sLa.1 (hA2.mono upI) x79 hrA5) ?_;rintro e wA7 ⟨HA6,vAc,nAd,csAe,rfl,rA9,elsAf⟩;refine ⟨_,rfl,?_⟩;obtain ⟨HAa,rA9,hU111⟩:=St.lendX iA1 S72.sl rA9;have elsAf:=elsAf.mono (hU111.tr (up_le S72.size));have SA8:=S72.join (l':=[.row 3 1 vAc nAd csAe,.box bCH 26 [vI sCO.2.1,vGP],.row 52 1 vGP nGQ csGR,.box b29 26 [vI 0,vN],.row 3 1 vME nMF csMG]) rA9 rfl;refine FL.as (v:=vAc) rfl<|FL.nil<|FW.region<|FL.mv kOi<|FL.v (E.add rfl rfl) ?_;refine FL.as (v:=vI (wr (sLa.2 + 1))) rfl<|FL.nil ?_;cases hp;exact ⟨rfl,⟨_,_,_,_,(SA8.sel [1,2,3,0] (by decide) rfl),(iO9.tr rA9.run.inc),elsAf,kOc,kOd,kOe,kOf,kOg,rfl,rfl⟩⟩
       ·
        refine FW.exit ?_;cases hp;exact ⟨nofun,rfl,⟨_,_,_,_,SO8,iO9,elsMH,kOc,kOd,kOe,kOf,kOg,kOh⟩⟩
      ·
       clear hq;intro e fAl wAk hD;rcases qLa with sLa|xLa
       ·
        obtain ⟨rfl,hD⟩:=hD;obtain ⟨HAh,vME,nMF,csMG,SAi,iAj,elsMH,kAm,kAn,kAo,kAp,kAq,kAr⟩:=hD;replace hp:=el_go hp;refine FW.region<|FL.v (E.fieldAddr zay kAp) ?_;refine FL.v (E.load rfl (zad isAgg24 (SAi.box_now (i:=0) rfl) rfl)) ?_;refine FL.mv kAr ?_;obtain ⟨HAs,SAt,iAu,hAv,nvAw⟩:=SAi.sealRowU (i:=3) (l':=[.box bCH 26 [vI sCO.2.1,vGP],.row 52 1 vGP nGQ csGR,.box b29 26 [vI 0,vN]]) rfl elsMH (by decide) rfl;obtain ⟨vAx,wAy,runAz,SAA⟩:=SAt.b1 te24 hAv.cells hAv.one;have elsAB:Els (up wa.heap.size HAs) (eL eI 1) 1 [vME] [sLa.1]:=(Els.snoc (H:=(up wa.heap.size HAs)) (E:=(eL eI 1)) (k:=1) (c:=[vME]) (x:=sLa.1) Els.nil rfl ⟨_,rfl,hAv⟩);have ndAC:(bl [vME]).Nodup:=by exact zbw vME
        refine FL.v (E.buildSlice (B1 rfl) runAz) ?_;obtain ⟨xsAD,hzAE,hp⟩:=bnd hp;obtain ⟨vAF,wAI,nAG,csAH,runAJ,SAK,elsAL,ceAM⟩:=SAA.appendO (P:=prog) te24 (i:=2) (j:=0) rfl (elsGS.mono (zaj (iAj.tr iAu))) rfl elsAB hzAE;have ndAN:(bl csAH).Nodup:=by rw [ceAM];exact zbv ndGT ndAC (Els.dom (elsGS.mono (upI.tr iAj))) (by exact nvAw)
        have SAO:St Ha wa HAs wAI [.box bCH 26 [vI sCO.2.1,vGP],.row 52 1 vAF nAG csAH,.box b29 26 [vI 0,vN]]:=SAK.drop 0;refine FL.v (E.append rfl rfl runAJ) ?_;refine FL.v (E.fieldAddr zay kAp) ?_;obtain ⟨wAP,runAQ,SAR⟩:=SAO.store (P:=prog) (t:=24) (i:=0) (j:=1) (cs':=[vI sCO.2.1,vAF]) (l':=[.box bCH 26 [vI sCO.2.1,vAF],.row 52 1 vAF nAG csAH,.box b29 26 [vI 0,vN]]) (v:=vAF) (c:=[vAF]) rfl sizeOf24 (Ln.cells (SAO.row_ln (i:=1) rfl)) rfl (oC (Ln.one (SAO.row_ln (i:=1) rfl)) zac) (nB rfl) rfl rfl;refine FL.act rfl rfl (E.store rfl rfl runAQ) ?_;refine FL.nil<|FW.region<|FL.mv kAq<|FL.v (E.add rfl rfl) ?_;refine FL.as (v:=vI (wr (sCO.2.2 + 1))) rfl<|FL.nil ?_;cases hp;exact ⟨rfl,⟨_,_,_,_,SAR,((iKW.tr iAj).tr iAu),elsAL,ndAN,kAm,kAn,kAo,kAp,rfl⟩⟩
       ·
        exact xLa.elim
     ·
      refine FW.exit ?_;cases hp;exact ⟨nofun,rfl,⟨_,_,_,_,SKV,iKW,elsGS,ndGT,kL1,kL2⟩⟩
    ·
     clear hq;intro e fBc wBb hD;rcases qCO with sCO|xCO
     ·
      obtain ⟨rfl,hD⟩:=hD;obtain ⟨HB8,vGP,nGQ,csGR,SB9,iBa,elsGS,ndGT,kBd,kBe⟩:=hD;replace hp:=el_go hp;refine FW.sr<|FL.v (E.load kBe (zag isAgg26 sizeOf26 (SB9.box_now (i:=0) rfl) rfl)) ?_;obtain ⟨wBf,runBg,SBh⟩:=SB9.s0 2 [vI sCO.2.1,vGP] (l':=[.box bCH 26 [vI sCO.2.1,vGP],.row 52 1 vGP nGQ csGR,.box b29 26 [vI sCO.2.1,vGP]]) sizeOf26 (oC rfl (oC (Ln.one (SB9.row_ln (i:=1) rfl)) zac));refine FL.act rfl rfl (E.store kBd rfl runBg) ?_;refine FL.as (v:=vB true) rfl<|FL.nil (FW.ret ?_);cases hp;exact ⟨.inr rfl,resC2 rfl kBd (zar isAgg26 sizeOf26 (SBh.box_now (i:=2) rfl) rfl) rfl ⟨_,_,_,_,rfl,(SBh.sel [1] (by decide) rfl),elsGS,ndGT⟩⟩
     ·
      exact xCO.elim
   ·
    obtain ⟨he,hL⟩:=hD;replace hp:=el_rt hp;cases hp;subst he;exact hL

@[reducible] def p_spec_l1Cur_among (H0:GH) (w0:World) (Ha:GH) (L:List MO) (b0:Nat) (r:(Int×l1Cur)):Ending→World→Prop :=
 fun e w'=>∃ H':GH,∃ v0_0r:Value,e=.returned (vI r.1)∧(St H0 w0 H' w' (.box b0 103 [v0_0r,vI r.2.at_,vJ r.2.seed]::L)∧Inc Ha H')∧RSl H' (eN .u8) 1 v0_0r r.2.code
theorem zbA {H0 Ha:GH} {w0 wa:World} {L:List MO} {a0:l1Cur} {b0:Nat} {v0_0:Value} (S0:St H0 w0 Ha wa (.box b0 103 [v0_0,vI a0.at_,vJ a0.seed]::L)) (p0_0:RSl Ha (eN .u8) 1 v0_0 a0.code) (v1:Value) (a1:List Int) (p1:RSl Ha eI 1 v1 a1) {r:(Int×l1Cur)} (hp:(PF.za5 a0 a1)=some r) :
  Calls prog 104 #[vK b0,v1] wa (p_spec_l1Cur_among H0 w0 Ha L b0 r):=by
 unfold PF.za5 at hp;refine zah (N:=12) (args:=[vK b0,v1]) func104 rfl rfl rfl ?_;refine FW.sr<|FL.as (v:=vI 0) rfl<|FL.nil<|FW.sr<|FL.mv (v:=v1) rfl<|FL.mv (v:=vK b0) rfl<|FL.mv (v:=v1) rfl<|FL.v (E.lenP te52 rfl p1) ?_;obtain ⟨r21,hr22,hp⟩:=bnd hp;refine FL.c (E.call call78 (A2 rfl rfl)) (za1 (L:=(L)) S0 (a0:=a0) p0_0 (len a1) hr22) ?_;rintro e w24 ⟨H23,v27,rfl,⟨S25,i26⟩,h28⟩;refine ⟨_,rfl,?_⟩;obtain ⟨x35,hx36,hp⟩:=bnd hp;obtain ⟨p29,cs30,pt31,l32,at33,rel34⟩:=p1.at hx36;obtain rfl:=zal rel34;refine FL.v (E.indexAddr te52 rfl rfl pt31) ?_;refine FL.v (E.load rfl (zai isAgg3 ((at33.mono i26).now S25.sl) rfl)) ?_;refine FL.as (v:=vI x35) rfl<|FL.nil (FW.ret ?_);cases hp;exact ⟨.inr rfl,res1 rfl rfl ⟨_,_,rfl,⟨S25,i26⟩,h28⟩⟩

@[reducible] def p_spec_l2Without (Ha:GH) (wa:World) (r:(List Int)):Ending→World→Prop :=
 fun e w'=>∃ H':GH,∃ v0:Value,∃ n0:Nat,∃ c0:List Value,e=.returned (v0)∧St Ha wa H' w' [.row 3 1 v0 n0 c0]∧Els (up wa.heap.size H') eI 1 c0 r
set_option maxHeartbeats 4000000 in
theorem ze3 {Ha:GH} {wa:World} (hs:Sl Ha wa) (v0:Value) (a0:List Int) (p0:RSl Ha eI 1 v0 a0) (a1:Int) {r:(List Int)} (hp:(PF.zcz a0 a1)=some r) :
  Calls prog 174 #[v0,vI a1] wa (p_spec_l2Without Ha wa r):=by
 unfold PF.zcz at hp;have S0:=St.init hs;refine zah (N:=29) (args:=[v0,vI a1]) func174 rfl rfl rfl ?_;refine FW.sr<|FL.as (v:=vN) rfl<|FL.nil<|FW.sr ?_;obtain ⟨v21,w22,run23,S24⟩:=S0.b0 te52;have els25:Els (up wa.heap.size Ha) eI 1 [] []:=Els.nil;refine FL.v (E.buildSlice (B0) run23) ?_;refine FL.as (v:=v21) rfl<|FL.nil (FW.seq (FW.sr ?_));refine FL.as (v:=vI 0) rfl<|FL.nil ?_;obtain ⟨q27,hq,hp⟩:=bndR hp;refine FW.block ?_;refine FW.mono (FW.forL (S:=(List Int)) (X:=Empty) (fun (i27:Nat) (s27:(List Int)) f w=>∃ H:GH,∃ v28:Value,∃ n29:Nat,∃ cs30:List Value,St Ha wa H w [.row 3 1 v28 n29 cs30]∧Inc Ha H∧Els (up wa.heap.size H) eI 1 cs30 s27∧f 6=vI ((i27:Nat):Int)∧f 0=v0∧f 1=vI a1∧f 5=v28) (fun (q:Rs (List Int) Empty) e f w=>match q with|.go s27=>e=Exit.exit 0∧(∃ H:GH,∃ v28:Value,∃ n29:Nat,∃ cs30:List Value,St Ha wa H w [.row 3 1 v28 n29 cs30]∧Inc Ha H∧Els (up wa.heap.size H) eI 1 cs30 s27∧f 5=v28)|.rt x=>x.elim) hq ⟨_,_,_,_,S24,I0,els25,rfl,rfl,rfl,rfl⟩ ?_ ?_) ?_
 ·
  clear hp hq;rintro i27 y26 s27 f77 w76 ⟨H73,v28,n29,cs30,S74,i75,els31,k78,k79,k80,k81⟩ hx27 oAe hp;refine FW.seq<|FW.sr<|FL.mv k78<|FL.mv k79<|FL.v (E.lenP te52 rfl p0) ?_;refine FL.v (E.lssT rfl rfl (zaN hx27)) ?_;refine FL.nil<|FW.condT rfl rfl ?_;refine FW.skip (FW.seq (FW.block (FW.sr ?_)));refine FL.mv k79<|FL.mv k78 ?_;obtain ⟨p82,cs83,pt84,l85,at86,rel87⟩:=p0.at (zaz hx27);obtain rfl:=zal rel87;refine FL.v (E.indexAddr te52 rfl rfl pt84) ?_;refine FL.v (E.load rfl (zai isAgg3 ((at86.mono i75).now S74.sl) rfl)) ?_;refine FL.c (E.call call136 (A1 rfl)) (zbY S74.sl y26) ?_;rintro e w88 ⟨rfl,r89⟩;refine ⟨_,rfl,?_⟩;have S90:=S74.call r89;refine FL.mv k80<|FL.v (E.neq rfl rfl) ?_;refine FL.nil ?_;refine FW.iB hp rfl (fun c91 hp=>?_) fun c91 hp=>?_
  ·
   refine FW.region<|FL.mv k81<|FL.mv k79<|FL.mv k78 ?_;obtain ⟨p92,cs93,pt94,l95,at96,rel97⟩:=p0.at (zaz hx27);obtain rfl:=zal rel97;refine FL.v (E.indexAddr te52 rfl rfl pt94) ?_;refine FL.v (E.load rfl (zai isAgg3 ((at96.mono i75).now S90.sl) rfl)) ?_;obtain ⟨v98,w99,runA0,SA1,elsA2⟩:=S90.ints (P:=prog) te52 (up wa.heap.size H73) 1 [y26];refine FL.v (E.buildSlice (B1 rfl) runA0) ?_;obtain ⟨xsA3,hzA4,hp⟩:=bnd hp;obtain ⟨vA5,wA8,nA6,csA7,runA9,SAa,elsAb,ceAc⟩:=SA1.appendO (P:=prog) te52 (i:=1) (j:=0) rfl els31 rfl elsA2 hzA4;have SAd:St Ha wa H73 wA8 [.row 3 1 vA5 nA6 csA7]:=SAa.drop 0;refine FL.v (E.append rfl rfl runA9) ?_;refine FL.as (v:=vA5) rfl<|FL.nil<|FW.region<|FL.mv k78<|FL.v (E.add rfl rfl) ?_;refine FL.as (v:=vI (wr (((i27:Nat):Int) + 1))) rfl<|FL.nil ?_;cases hp;exact ⟨rfl,⟨_,_,_,_,SAd,i75,elsAb,(zat rfl (zaC hx27) (p0.mono i75).le),k79,k80,rfl⟩⟩
  ·
   refine FW.skip<|FW.region<|FL.mv k78<|FL.v (E.add rfl rfl) ?_;refine FL.as (v:=vI (wr (((i27:Nat):Int) + 1))) rfl<|FL.nil ?_;cases hp;exact ⟨rfl,⟨_,_,_,_,S90,i75,els31,(zat rfl (zaC hx27) (p0.mono i75).le),k79,k80,k81⟩⟩
 ·
  clear hp hq;rintro s27 fAp wAo ⟨HAl,v28,n29,cs30,SAm,iAn,els31,kAq,kAr,kAs,kAt⟩;refine FW.seq<|FW.sr<|FL.mv kAq<|FL.mv kAr<|FL.v (E.lenP te52 rfl p0) ?_;refine FL.v (E.lss rfl rfl) ?_;refine FL.nil<|FW.condF rfl zaO ?_;refine FW.exit ?_;exact ⟨nofun,rfl,⟨_,_,_,_,SAm,iAn,els31,kAt⟩⟩
 ·
  clear hq;intro e fAj wAi hD;rcases q27 with s27|x27
  ·
   obtain ⟨rfl,hD⟩:=hD;obtain ⟨HAf,v28,n29,cs30,SAg,iAh,els31,kAk⟩:=hD;replace hp:=el_go hp;refine FW.sr<|FL.mv kAk<|FL.as (v:=v28) rfl<|FL.nil (FW.ret ?_);cases hp;exact ⟨.inr rfl,res1 rfl rfl ⟨_,_,_,_,rfl,SAg,els31⟩⟩
  ·
   exact x27.elim

@[reducible] def zfM (H0:GH) (w0:World) (Ha:GH) (L:List MO) (b0:Nat) (r:((List Int)×l1Cur)):Ending→World→Prop :=
 fun e w'=>∃ H':GH,∃ v0:Value,∃ n0:Nat,∃ c0:List Value,∃ v0_0r:Value,e=.returned (v0)∧(St H0 w0 H' w' (.row 3 1 v0 n0 c0::.box b0 103 [v0_0r,vI r.2.at_,vJ r.2.seed]::L)∧Inc Ha H')∧Els (up w0.heap.size H') eI 1 c0 r.1∧RSl H' (eN .u8) 1 v0_0r r.2.code
set_option maxHeartbeats 4000000 in
theorem zec {H0 Ha:GH} {w0 wa:World} {L:List MO} {a0:l1Cur} {b0:Nat} {v0_0:Value} (S0:St H0 w0 Ha wa (.box b0 103 [v0_0,vI a0.at_,vJ a0.seed]::L)) (p0_0:RSl Ha (eN .u8) 1 v0_0 a0.code) (a1:Int) {r:((List Int)×l1Cur)} (hp:(PF.zce a0 a1)=some r) :
  Calls prog 161 #[vK b0,vI a1] wa (zfM H0 w0 Ha L b0 r):=by
 unfold PF.zce at hp;refine zah (N:=35) (args:=[vK b0,vI a1]) func161 rfl rfl rfl ?_;refine FW.sr<|FL.as (v:=vN) rfl<|FL.nil<|FW.sr ?_;obtain ⟨v21,w22,run23,S24⟩:=S0.b0 te52;have els25:Els (up w0.heap.size Ha) eI 1 [] []:=Els.nil;refine FL.v (E.buildSlice (B0) run23) ?_;refine FL.as (v:=v21) rfl<|FL.nil (FW.seq (FW.sr ?_));refine FL.mv (v:=vK b0) rfl ?_;obtain ⟨v26,w27,run28,S29,els30⟩:=S24.ints (P:=prog) te52 (up w0.heap.size Ha) 8 [1,2,2,3,3,4,0,2];refine FL.v (E.buildSlice (B8 rfl rfl rfl rfl rfl rfl rfl rfl) run28) ?_;obtain ⟨H31,S32,i33,h34,nv35⟩:=S29.sealRowU (i:=0) (l':=(.row 3 1 v21 0 []::.box b0 103 [v0_0,vI a0.at_,vJ a0.seed]::L)) rfl els30 (by decide) rfl;obtain ⟨r36,hr37,hp⟩:=bnd hp;have S38:St H0 w0 H31 w27 (.box b0 103 [v0_0,vI a0.at_,vJ a0.seed]::.row 3 1 v21 0 []::L):=S32.front 1 rfl rfl;refine FL.c (E.call call104 (A2 rfl rfl)) (zbA (L:=(.row 3 1 v21 0 []::L)) S38 (a0:=a0) (p0_0.mono i33) v26 [1,2,2,3,3,4,0,2] (h34.mono upI) hr37) ?_;rintro e w40 ⟨H39,v43,rfl,⟨S41,i42⟩,h44⟩;refine ⟨_,rfl,?_⟩;refine FL.as (v:=vI r36.1) rfl<|FL.nil ?_;obtain ⟨q45,hq,hp⟩:=bndR hp;refine FW.block ?_;refine FW.mono (FW.iter (S:=((List Int)×Int×Int×(List Int)×Int)) (X:=Empty) (fun (s45:((List Int)×Int×Int×(List Int)×Int)) f w=>∃ H:GH,∃ vAF:Value,∃ vAH:Value,∃ nAI:Nat,∃ csAJ:List Value,St H0 w0 H w (.box b0 103 [vAF,vI s45.2.1,vJ s45.2.2.1]::.row 3 1 vAH nAI csAJ::L)∧Inc H39 H∧RSl H (eN .u8) 1 vAF s45.1∧Els (up w0.heap.size H) eI 1 csAJ s45.2.2.2.1∧f 0=vK b0∧f 1=vI a1∧f 5=vAH∧f 6=vI s45.2.2.2.2) (fun (q:Rs ((List Int)×Int×Int×(List Int)×Int) Empty) e f w=>match q with|.go s45=>e=Exit.exit 0∧(∃ H:GH,∃ vAF:Value,∃ vAH:Value,∃ nAI:Nat,∃ csAJ:List Value,St H0 w0 H w (.box b0 103 [vAF,vI s45.2.1,vJ s45.2.2.1]::.row 3 1 vAH nAI csAJ::L)∧Inc H39 H∧RSl H (eN .u8) 1 vAF s45.1∧Els (up w0.heap.size H) eI 1 csAJ s45.2.2.2.1∧f 5=vAH)|.rt x=>x.elim) hq ⟨_,_,_,_,_,S41,I0,h44,(els25.mono (zaj (i33.tr i42))),rfl,rfl,rfl,rfl⟩ ?_) ?_
 ·
  clear hp hq;rintro s45 fCi wCh ⟨HCe,vAF,vAH,nAI,csAJ,SCf,iCg,hAG,elsAK,kCj,kCk,kCl,kCm⟩ oDH hp;refine FW.seq<|FW.sr<|FL.mv kCm<|FL.v (E.gtr rfl rfl) ?_;refine FL.mv (v:=vB (decide (0 < s45.2.2.2.2))) rfl ?_;refine FL.cut 3 (fun f w=>∃ H:GH,St H0 w0 H w (.box b0 103 [vAF,vI s45.2.1,vJ s45.2.2.1]::.row 3 1 vAH nAI csAJ::L)∧Inc HCe H∧f 0=vK b0∧f 1=vI a1∧f 5=vAH∧f 6=vI s45.2.2.2.2∧f 17=vB (bif (decide (0 < s45.2.2.2.2)) then (decide (0 < a1)) else false)) ?_ ?_
  ·
   rcases bcase (decide (0 < s45.2.2.2.2)) with cCt|cCt
   ·
    refine FL.y (wY cCt) (E.move kCk) ?_;refine FL.y (wY cCt) (E.gtr rfl rfl) ?_;refine FL.v (E.pickT rfl cCt rfl) ?_;exact FL.nil ⟨rfl,_,SCf,I0,kCj,kCk,kCl,kCm,(congrArg vB (bifT cCt).symm)⟩
   ·
    refine FL.n cCt<|FL.n cCt<|FL.v (E.pickF rfl cCt rfl) ?_;exact FL.nil ⟨rfl,_,SCf,I0,kCj,kCk,kCl,kCm,(congrArg vB (bifF cCt).symm)⟩
  rintro fCs wCr ⟨HCo,SCp,iCq,kCu,kCv,kCw,kCx,kCy⟩;refine FL.nil ?_;refine FW.iB hp kCy (fun cCz hp=>?_) fun cCz hp=>?_
  ·
   refine FW.skip (FW.seq (FW.block (FW.sr ?_)));refine FL.mv kCu<|FL.mv kCv ?_;obtain ⟨rCA,hrCB,hp⟩:=bnd hp;refine FL.c (E.call call78 (A2 rfl rfl)) (za1 (L:=(.row 3 1 vAH nAI csAJ::L)) SCp (a0:=(l1Cur.mk s45.1 s45.2.1 s45.2.2.1)) (hAG.mono iCq) a1 hrCB) ?_;rintro e wCD ⟨HCC,vCG,rfl,⟨SCE,iCF⟩,hCH⟩;refine ⟨_,rfl,?_⟩;refine FL.v (E.add rfl rfl) ?_;refine FL.as (v:=vI (wr (1 + rCA.1))) rfl<|FL.nil<|FW.sr<|FL.mv kCw<|FL.mv (v:=vI (wr (1 + rCA.1))) rfl ?_;obtain ⟨HCI,SCJ,iCK,hCL,nvCM⟩:=SCE.sealRowU (i:=1) (l':=(.box b0 103 [vCG,vI rCA.2.at_,vJ rCA.2.seed]::L)) rfl (elsAK.mono (zaj (iCq.tr iCF))) (by decide) rfl;obtain ⟨rCN,hrCO,hp⟩:=bnd hp;refine FL.c (E.call call174 (A2 rfl rfl)) (ze3 SCJ.sl vAH s45.2.2.2.1 (hCL.mono upI) (wr (1 + rCA.1)) hrCO) ?_;rintro e wCQ ⟨HCP,vCV,nCW,csCX,rfl,rCS,elsCY⟩;refine ⟨_,rfl,?_⟩;obtain ⟨HCT,rCS,hU280⟩:=St.lendX iCK SCE.sl rCS;have elsCY:=elsCY.mono (hU280.tr (up_le SCE.size));have SCR:=SCE.join (l':=(.row 3 1 vCV nCW csCX::.box b0 103 [vCG,vI rCA.2.at_,vJ rCA.2.seed]::.row 3 1 vAH nAI csAJ::L)) rCS rfl;refine FL.as (v:=vCV) rfl<|FL.nil (FW.seq (FW.sr ?_));refine FL.mv kCu ?_;obtain ⟨rCZ,hrD0,hp⟩:=bnd hp;have SD1:St H0 w0 HCT wCQ (.box b0 103 [vCG,vI rCA.2.at_,vJ rCA.2.seed]::.row 3 1 vCV nCW csCX::.row 3 1 vAH nAI csAJ::L):=SCR.front 1 rfl rfl;refine FL.c (E.call call68 (A2 rfl rfl)) (zco (L:=(.row 3 1 vCV nCW csCX::.row 3 1 vAH nAI csAJ::L)) SD1 (a0:=rCA.2) (hCH.mono rCS.run.inc) 2 hrD0) ?_;rintro e wD3 ⟨HD2,vD6,rfl,⟨SD4,iD5⟩,hD7⟩;refine ⟨_,rfl,?_⟩;refine FL.nil ?_;refine FW.iB hp rfl (fun cD8 hp=>?_) fun cD8 hp=>?_
   ·
    refine FW.region<|FL.mv (v:=vI (wr (1 + rCA.1))) rfl<|FL.v (E.neg rfl) ?_;refine FL.as (v:=vI (wr (-(wr (1 + rCA.1))))) rfl<|FL.nil<|FW.region<|FL.mv (v:=vCV) rfl<|FL.mv (v:=vI (wr (-(wr (1 + rCA.1))))) rfl ?_;obtain ⟨HD9,SDa,iDb,hDc,nvDd⟩:=SD4.sealRowU (i:=1) (l':=(.box b0 103 [vD6,vI rCZ.2.at_,vJ rCZ.2.seed]::.row 3 1 vAH nAI csAJ::L)) rfl (elsCY.mono (zaj iD5)) (by decide) rfl;obtain ⟨rDe,hrDf,hp⟩:=bnd hp;refine FL.c (E.call call215 (A2 rfl rfl)) (zeb SDa.sl vCV rCN (hDc.mono upI) (wr (-(wr (1 + rCA.1)))) hrDf) ?_;rintro e wDh ⟨HDg,vDm,nDn,csDo,rfl,rDj,elsDp⟩;refine ⟨_,rfl,?_⟩;obtain ⟨HDk,rDj,hU307⟩:=St.lendX iDb SD4.sl rDj;have elsDp:=elsDp.mono (hU307.tr (up_le SD4.size));have SDi:=SD4.join (l':=(.row 3 1 vDm nDn csDo::.box b0 103 [vD6,vI rCZ.2.at_,vJ rCZ.2.seed]::.row 3 1 vCV nCW csCX::.row 3 1 vAH nAI csAJ::L)) rDj rfl;refine FL.as (v:=vDm) rfl<|FL.nil<|FW.region<|FL.mv kCx<|FL.v (E.sub rfl rfl) ?_;refine FL.as (v:=vI (wr (s45.2.2.2.2 - 1))) rfl<|FL.nil ?_;cases hp;exact ⟨rfl,⟨_,_,_,_,_,(SDi.selT (a:=[.row 3 1 vDm nDn csDo,.box b0 103 [vD6,vI rCZ.2.at_,vJ rCZ.2.seed],.row 3 1 vCV nCW csCX,.row 3 1 vAH nAI csAJ]) (l':=[.box b0 103 [vD6,vI rCZ.2.at_,vJ rCZ.2.seed],.row 3 1 vDm nDn csDo]) [1,0] (by decide) rfl),(((((iCg.tr iCq).tr iCF).tr rCS.run.inc).tr iD5).tr rDj.run.inc),(hD7.mono rDj.run.inc),elsDp,kCu,kCv,rfl,rfl⟩⟩
   ·
    refine FW.skip<|FW.region<|FL.mv (v:=vCV) rfl<|FL.mv (v:=vI (wr (1 + rCA.1))) rfl ?_;obtain ⟨HDq,SDr,iDs,hDt,nvDu⟩:=SD4.sealRowU (i:=1) (l':=(.box b0 103 [vD6,vI rCZ.2.at_,vJ rCZ.2.seed]::.row 3 1 vAH nAI csAJ::L)) rfl (elsCY.mono (zaj iD5)) (by decide) rfl;obtain ⟨rDv,hrDw,hp⟩:=bnd hp;refine FL.c (E.call call215 (A2 rfl rfl)) (zeb SDr.sl vCV rCN (hDt.mono upI) (wr (1 + rCA.1)) hrDw) ?_;rintro e wDy ⟨HDx,vDD,nDE,csDF,rfl,rDA,elsDG⟩;refine ⟨_,rfl,?_⟩;obtain ⟨HDB,rDA,hU324⟩:=St.lendX iDs SD4.sl rDA;have elsDG:=elsDG.mono (hU324.tr (up_le SD4.size));have SDz:=SD4.join (l':=(.row 3 1 vDD nDE csDF::.box b0 103 [vD6,vI rCZ.2.at_,vJ rCZ.2.seed]::.row 3 1 vCV nCW csCX::.row 3 1 vAH nAI csAJ::L)) rDA rfl;refine FL.as (v:=vDD) rfl<|FL.nil<|FW.region<|FL.mv kCx<|FL.v (E.sub rfl rfl) ?_;refine FL.as (v:=vI (wr (s45.2.2.2.2 - 1))) rfl<|FL.nil ?_;cases hp;exact ⟨rfl,⟨_,_,_,_,_,(SDz.selT (a:=[.row 3 1 vDD nDE csDF,.box b0 103 [vD6,vI rCZ.2.at_,vJ rCZ.2.seed],.row 3 1 vCV nCW csCX,.row 3 1 vAH nAI csAJ]) (l':=[.box b0 103 [vD6,vI rCZ.2.at_,vJ rCZ.2.seed],.row 3 1 vDD nDE csDF]) [1,0] (by decide) rfl),(((((iCg.tr iCq).tr iCF).tr rCS.run.inc).tr iD5).tr rDA.run.inc),(hD7.mono rDA.run.inc),elsDG,kCu,kCv,rfl,rfl⟩⟩
  ·
   refine FW.exit ?_;cases hp;exact ⟨nofun,rfl,⟨_,_,_,_,_,SCp,(iCg.tr iCq),(hAG.mono iCq),(elsAK.mono (zaj iCq)),kCw⟩⟩
 ·
  clear hq;intro e fDM wDL hD;rcases q45 with s45|x45
  ·
   obtain ⟨rfl,hD⟩:=hD;obtain ⟨HDI,vAF,vAH,nAI,csAJ,SDJ,iDK,hAG,elsAK,kDN⟩:=hD;replace hp:=el_go hp;refine FW.sr<|FL.mv kDN<|FL.as (v:=vAH) rfl<|FL.nil (FW.ret ?_);cases hp;exact ⟨.inr rfl,res1 rfl rfl ⟨_,_,_,_,_,rfl,⟨(SDJ.selT (a:=[.box b0 103 [vAF,vI s45.2.1,vJ s45.2.2.1],.row 3 1 vAH nAI csAJ]) (l':=[.row 3 1 vAH nAI csAJ,.box b0 103 [vAF,vI s45.2.1,vJ s45.2.2.1]]) [1,0] (by decide) rfl),((i33.tr i42).tr iDK)⟩,elsAK,hAG⟩⟩
  ·
   exact x45.elim

@[reducible] def p_spec_l1Cur_hard (H0:GH) (w0:World) (Ha:GH) (L:List MO) (b0:Nat) (r:(Cnf×l1Cur)):Ending→World→Prop :=
 fun e w'=>∃ H':GH,∃ v0_1:Value,∃ v0_0r:Value,e=.returned (vA #[vI r.1.vars,v0_1])∧(St H0 w0 H' w' (.box b0 103 [v0_0r,vI r.2.at_,vJ r.2.seed]::L)∧Inc Ha H')∧(∃ c,Nest (up w0.heap.size H') (eL eI 1) 1 v0_1 r.1.clauses c)∧RSl H' (eN .u8) 1 v0_0r r.2.code
set_option maxHeartbeats 4000000 in
theorem zfq {H0 Ha:GH} {w0 wa:World} {L:List MO} {a0:l1Cur} {b0:Nat} {v0_0:Value} (S0:St H0 w0 Ha wa (.box b0 103 [v0_0,vI a0.at_,vJ a0.seed]::L)) (p0_0:RSl Ha (eN .u8) 1 v0_0 a0.code) {r:(Cnf×l1Cur)} (hp:(PF.zcV a0)=some r) :
  Calls prog 94 #[vK b0] wa (p_spec_l1Cur_hard H0 w0 Ha L b0 r):=by
 unfold PF.zcV at hp;refine zah (N:=56) (args:=[vK b0]) func94 rfl rfl rfl ?_;refine FW.sr ?_;obtain ⟨b21,w22,run23,S24⟩:=S0.alloc (P:=prog) 26 [vI 0,vN] zeroValue26 rfl (oC rfl (oC rfl zac));refine FL.v (E.alloc run23) ?_;refine FL.nil<|FW.sr<|FL.mv (v:=vK b0) rfl ?_;refine FL.c (E.call call159 A0) (w_spec_l2Hard S24.sl ) ?_;rintro e w26 ⟨H25,v29,n30,cs31,rfl,r28,els32⟩;refine ⟨_,rfl,?_⟩;have els32:=els32.mono (up_le S24.size);have S27:=S24.join (l':=(.row 9 1 v29 n30 cs31::.box b21 26 [vI 0,vN]::.box b0 103 [v0_0,vI a0.at_,vJ a0.seed]::L)) r28 rfl;obtain ⟨H33,S34,i35,h36,nv37⟩:=S27.sealRowU (i:=0) (l':=(.box b21 26 [vI 0,vN]::.box b0 103 [v0_0,vI a0.at_,vJ a0.seed]::L)) rfl els32 (by decide) rfl;obtain ⟨r38,hr39,hp⟩:=bnd hp;have S40:St H0 w0 H33 w26 (.box b0 103 [v0_0,vI a0.at_,vJ a0.seed]::.box b21 26 [vI 0,vN]::L):=S34.front 1 rfl rfl;refine FL.c (E.call call70 (A2 rfl rfl)) (w_spec_l1Cur_of (L:=(.box b21 26 [vI 0,vN]::L)) S40 (a0:=a0) (p0_0.mono (r28.run.inc.tr i35)) v29 PF.zb2 (h36.mono upI) hr39) ?_;rintro e w42 ⟨H41,v45,rfl,⟨S43,i44⟩,h46⟩;refine ⟨_,rfl,?_⟩;obtain ⟨r47,hr48,hp⟩:=bnd hp;refine FL.c (E.call call69 (A1 rfl)) (w_spec_l2Known S43.sl r38.1 hr48) ?_;rintro e w50 ⟨H49,v53,rfl,r52,⟨c56,ns55⟩⟩;refine ⟨_,rfl,?_⟩;have h54:=ns55.rsl;have nv57:New H41 c56:=New.of_up S43.sl (fun b hb=>ns55.dom b (.inr hb));have nv58:New H41 [v53]:=New.of_up S43.sl h54.dom;have h54:=h54.mono (up_le S43.size);have ns55:=ns55.mono (up_le S43.size);have S51:=S43.call r52;obtain ⟨b59,w60,run61,S62⟩:=S51.alloc (P:=prog) 26 [vI 0,vN] zeroValue26 rfl (oC rfl (oC rfl zac));refine FL.v (E.alloc run61) ?_;obtain ⟨w63,run64,S65⟩:=S62.s0 0 [vI r47.vars,v53] (l':=(.box b59 26 [vI r47.vars,v53]::.box b0 103 [v45,vI r38.2.at_,vJ r38.2.seed]::.box b21 26 [vI 0,vN]::L)) sizeOf26 (oC rfl (oC h54.one zac));refine FL.act rfl rfl (E.store rfl rfl run64) ?_;refine FL.nil<|FW.sr ?_;obtain ⟨v66,w67,run68,S69⟩:=S65.b0 te52;have els70:Els (up w0.heap.size H49) eI 1 [] []:=Els.nil;refine FL.v (E.buildSlice (B0) run68) ?_;refine FL.as (v:=v66) rfl<|FL.nil (FW.seq (FW.sr ?_));refine FL.as (v:=vI 1) rfl<|FL.nil ?_;obtain ⟨q71,hq,hp⟩:=bndR hp;refine FW.block ?_;refine FW.mono (FW.iter (S:=((List Int)×(List Int)×Int×Int×Int)) (X:=Empty) (fun (s71:((List Int)×(List Int)×Int×Int×Int)) f w=>∃ H:GH,∃ vAt:Value,∃ nAu:Nat,∃ csAv:List Value,∃ vAx:Value,St H0 w0 H w (.row 3 1 vAt nAu csAv::.box b59 26 [vI r47.vars,v53]::.box b0 103 [vAx,vI s71.2.2.1,vJ s71.2.2.2.1]::.box b21 26 [vI 0,vN]::L)∧Inc H49 H∧Els (up w0.heap.size H) eI 1 csAv s71.1∧RSl H (eN .u8) 1 vAx s71.2.1∧f 0=vK b0∧f 2=vK b21∧f 3=vK b59∧f 4=vAt∧f 5=vI s71.2.2.2.2) (fun (q:Rs ((List Int)×(List Int)×Int×Int×Int) Empty) e f w=>match q with|.go s71=>e=Exit.exit 0∧(∃ H:GH,∃ vAt:Value,∃ nAu:Nat,∃ csAv:List Value,∃ vAx:Value,St H0 w0 H w (.row 3 1 vAt nAu csAv::.box b59 26 [vI r47.vars,v53]::.box b0 103 [vAx,vI s71.2.2.1,vJ s71.2.2.2.1]::.box b21 26 [vI 0,vN]::L)∧Inc H49 H∧Els (up w0.heap.size H) eI 1 csAv s71.1∧RSl H (eN .u8) 1 vAx s71.2.1∧f 0=vK b0∧f 2=vK b21∧f 3=vK b59∧f 4=vAt)|.rt x=>x.elim) hq ⟨_,_,_,_,_,S69,I0,els70,(h46.mono r52.inc),rfl,rfl,rfl,rfl,rfl⟩ ?_) ?_
 ·
  clear hp hq;rintro s71 fBu wBt ⟨HBq,vAt,nAu,csAv,vAx,SBr,iBs,elsAw,hAy,kBv,kBw,kBx,kBy,kBz⟩ oCh hp;refine FW.seq<|FW.sr<|FL.mv kBz<|FL.v (E.fieldAddr zaq kBx) ?_;refine FL.v (E.load rfl (zad isAgg3 (SBr.box_now (i:=1) rfl) rfl)) ?_;refine FL.v (E.leq rfl rfl) ?_;refine FL.nil ?_;refine FW.iB hp rfl (fun cBA hp=>?_) fun cBA hp=>?_
  ·
   refine FW.skip (FW.seq (FW.block (FW.sr ?_)));refine FL.mv kBv ?_;obtain ⟨rBB,hrBC,hp⟩:=bnd hp;have SBD:St H0 w0 HBq wBt (.box b0 103 [vAx,vI s71.2.2.1,vJ s71.2.2.2.1]::.row 3 1 vAt nAu csAv::.box b59 26 [vI r47.vars,v53]::.box b21 26 [vI 0,vN]::L):=SBr.front 2 rfl rfl;refine FL.c (E.call call68 (A2 rfl rfl)) (zco (L:=(.row 3 1 vAt nAu csAv::.box b59 26 [vI r47.vars,v53]::.box b21 26 [vI 0,vN]::L)) SBD (a0:=(l1Cur.mk s71.2.1 s71.2.2.1 s71.2.2.2.1)) hAy 4 hrBC) ?_;rintro e wBF ⟨HBE,vBI,rfl,⟨SBG,iBH⟩,hBJ⟩;refine ⟨_,rfl,?_⟩;refine FL.nil ?_;refine FW.iB hp rfl (fun cBK hp=>?_) fun cBK hp=>?_
   ·
    refine FW.region<|FL.mv kBy<|FL.mv kBz<|FL.v (E.neg rfl) ?_;obtain ⟨vBL,wBM,runBN,SBO,elsBP⟩:=SBG.ints (P:=prog) te52 (up w0.heap.size HBE) 1 [(wr (-s71.2.2.2.2))];refine FL.v (E.buildSlice (B1 rfl) runBN) ?_;obtain ⟨xsBQ,hzBR,hp⟩:=bnd hp;obtain ⟨vBS,wBV,nBT,csBU,runBW,SBX,elsBY,ceBZ⟩:=SBO.appendO (P:=prog) te52 (i:=2) (j:=0) rfl (elsAw.mono (zaj iBH)) rfl elsBP hzBR;have SC0:St H0 w0 HBE wBV (.box b0 103 [vBI,vI rBB.2.at_,vJ rBB.2.seed]::.row 3 1 vBS nBT csBU::.box b59 26 [vI r47.vars,v53]::.box b21 26 [vI 0,vN]::L):=SBX.drop 0;refine FL.v (E.append rfl rfl runBW) ?_;refine FL.as (v:=vBS) rfl<|FL.nil<|FW.region<|FL.mv kBz<|FL.v (E.add rfl rfl) ?_;refine FL.as (v:=vI (wr (s71.2.2.2.2 + 1))) rfl<|FL.nil ?_;cases hp;exact ⟨rfl,⟨_,_,_,_,_,(SC0.selT (a:=[.box b0 103 [vBI,vI rBB.2.at_,vJ rBB.2.seed],.row 3 1 vBS nBT csBU,.box b59 26 [vI r47.vars,v53],.box b21 26 [vI 0,vN]]) (l':=[.row 3 1 vBS nBT csBU,.box b59 26 [vI r47.vars,v53],.box b0 103 [vBI,vI rBB.2.at_,vJ rBB.2.seed],.box b21 26 [vI 0,vN]]) [1,2,0,3] (by decide) rfl),(iBs.tr iBH),elsBY,hBJ,kBv,kBw,kBx,rfl,rfl⟩⟩
   ·
    refine FW.region<|FL.mv kBy<|FL.mv kBz ?_;obtain ⟨vC1,wC2,runC3,SC4,elsC5⟩:=SBG.ints (P:=prog) te52 (up w0.heap.size HBE) 1 [s71.2.2.2.2];refine FL.v (E.buildSlice (B1 rfl) runC3) ?_;obtain ⟨xsC6,hzC7,hp⟩:=bnd hp;obtain ⟨vC8,wCb,nC9,csCa,runCc,SCd,elsCe,ceCf⟩:=SC4.appendO (P:=prog) te52 (i:=2) (j:=0) rfl (elsAw.mono (zaj iBH)) rfl elsC5 hzC7;have SCg:St H0 w0 HBE wCb (.box b0 103 [vBI,vI rBB.2.at_,vJ rBB.2.seed]::.row 3 1 vC8 nC9 csCa::.box b59 26 [vI r47.vars,v53]::.box b21 26 [vI 0,vN]::L):=SCd.drop 0;refine FL.v (E.append rfl rfl runCc) ?_;refine FL.as (v:=vC8) rfl<|FL.nil<|FW.region<|FL.mv kBz<|FL.v (E.add rfl rfl) ?_;refine FL.as (v:=vI (wr (s71.2.2.2.2 + 1))) rfl<|FL.nil ?_;cases hp;exact ⟨rfl,⟨_,_,_,_,_,(SCg.selT (a:=[.box b0 103 [vBI,vI rBB.2.at_,vJ rBB.2.seed],.row 3 1 vC8 nC9 csCa,.box b59 26 [vI r47.vars,v53],.box b21 26 [vI 0,vN]]) (l':=[.row 3 1 vC8 nC9 csCa,.box b59 26 [vI r47.vars,v53],.box b0 103 [vBI,vI rBB.2.at_,vJ rBB.2.seed],.box b21 26 [vI 0,vN]]) [1,2,0,3] (by decide) rfl),(iBs.tr iBH),elsCe,hBJ,kBv,kBw,kBx,rfl,rfl⟩⟩
  ·
   refine FW.exit ?_;cases hp;exact ⟨nofun,rfl,⟨_,_,_,_,_,SBr,iBs,elsAw,hAy,kBv,kBw,kBx,kBy⟩⟩
 ·
  clear hq;intro e fCm wCl hD;rcases q71 with s71|x71
  ·
   obtain ⟨rfl,hD⟩:=hD;obtain ⟨HCi,vAt,nAu,csAv,vAx,SCj,iCk,elsAw,hAy,kCn,kCo,kCp,kCq⟩:=hD;replace hp:=el_go hp;refine FW.sr<|FL.v (E.load kCp (zag isAgg26 sizeOf26 (SCj.box_now (i:=1) rfl) rfl)) ?_;refine FL.mv kCq ?_;obtain ⟨HCr,SCs,iCt,hCu,nvCv⟩:=SCj.sealRowU (i:=0) (l':=(.box b59 26 [vI r47.vars,v53]::.box b0 103 [vAx,vI s71.2.2.1,vJ s71.2.2.2.1]::.box b21 26 [vI 0,vN]::L)) rfl elsAw (by decide) rfl;obtain ⟨rCw,hrCx,hp⟩:=bnd hp;refine FL.c (E.call call160 (A2 rfl rfl)) (w_spec_RenameCnf SCs.sl r47 v53 (h54.mono (upI.tr (iCk.tr iCt))) vAt s71.1 (hCu.mono upI) hrCx) ?_;rintro e wCz ⟨HCy,vCE,nCF,csCG,rfl,rCB,elsCH,ndCI⟩;refine ⟨_,rfl,?_⟩;obtain ⟨HCC,rCB,hU263⟩:=St.lendX iCt SCj.sl rCB;have nvCJ:New HCi csCG:=New.of_up SCj.sl elsCH.dom;have elsCH:=elsCH.mono (hU263.tr (up_le SCj.size));have SCA:=SCj.join (l':=(.row 52 1 vCE nCF csCG::.row 3 1 vAt nAu csAv::.box b59 26 [vI r47.vars,v53]::.box b0 103 [vAx,vI s71.2.2.1,vJ s71.2.2.2.1]::.box b21 26 [vI 0,vN]::L)) rCB rfl;refine FL.mv (v:=Value.tuple #[vA #[vI rCw.1.vars,vCE],vB rCw.2]) rfl<|FL.v (E.extract (i:=0) rfl rfl) ?_;refine FL.v (E.extract (i:=1) rfl rfl) ?_;obtain ⟨wCK,runCL,SCM⟩:=SCA.s0 2 [vI rCw.1.vars,vCE] (l':=(.row 52 1 vCE nCF csCG::.row 3 1 vAt nAu csAv::.box b59 26 [vI rCw.1.vars,vCE]::.box b0 103 [vAx,vI s71.2.2.1,vJ s71.2.2.2.1]::.box b21 26 [vI 0,vN]::L)) sizeOf26 (oC rfl (oC (Ln.one (SCA.row_ln (i:=0) rfl)) zac));refine FL.act rfl rfl (E.store kCp rfl runCL) ?_;refine FL.nil (FW.seq (FW.sr ?_));refine FL.mv kCn ?_;obtain ⟨rCN,hrCO,hp⟩:=bnd hp;have SCP:St H0 w0 HCC wCK (.box b0 103 [vAx,vI s71.2.2.1,vJ s71.2.2.2.1]::.row 52 1 vCE nCF csCG::.row 3 1 vAt nAu csAv::.box b59 26 [vI rCw.1.vars,vCE]::.box b21 26 [vI 0,vN]::L):=SCM.front 3 rfl rfl;refine FL.c (E.call call78 (A2 rfl rfl)) (za1 (L:=(.row 52 1 vCE nCF csCG::.row 3 1 vAt nAu csAv::.box b59 26 [vI rCw.1.vars,vCE]::.box b21 26 [vI 0,vN]::L)) SCP (a0:=(l1Cur.mk s71.2.1 s71.2.2.1 s71.2.2.2.1)) (hAy.mono rCB.run.inc) 3 hrCO) ?_;rintro e wCR ⟨HCQ,vCU,rfl,⟨SCS,iCT⟩,hCV⟩;refine ⟨_,rfl,?_⟩;refine FL.as (v:=vI rCN.1) rfl<|FL.nil ?_;obtain ⟨qCW,hq,hp⟩:=bndR hp;refine FW.block ?_;refine FW.mono (FW.iter (S:=((List (List Int))×(List Int)×Int×Int×Int×Int)) (X:=Empty) (fun (sCW:((List (List Int))×(List Int)×Int×Int×Int×Int)) f w=>∃ H:GH,∃ v72:Value,∃ n73:Nat,∃ cs74:List Value,∃ v77:Value,St H0 w0 H w (.box b0 103 [v77,vI sCW.2.2.1,vJ sCW.2.2.2.1]::.row 52 1 v72 n73 cs74::.box b59 26 [vI sCW.2.2.2.2.1,v72]::.box b21 26 [vI 0,vN]::L)∧Inc HCQ H∧Els (up w0.heap.size H) (eL eI 1) 1 cs74 sCW.1∧RSl H (eN .u8) 1 v77 sCW.2.1∧(bl cs74).Nodup∧f 0=vK b0∧f 2=vK b21∧f 3=vK b59∧f 6=vI sCW.2.2.2.2.2) (fun (q:Rs ((List (List Int))×(List Int)×Int×Int×Int×Int) Empty) e f w=>match q with|.go sCW=>e=Exit.exit 2∧(∃ H:GH,∃ v72:Value,∃ n73:Nat,∃ cs74:List Value,∃ v77:Value,St H0 w0 H w (.box b0 103 [v77,vI sCW.2.2.1,vJ sCW.2.2.2.1]::.row 52 1 v72 n73 cs74::.box b59 26 [vI sCW.2.2.2.2.1,v72]::.box b21 26 [vI 0,vN]::L)∧Inc HCQ H∧Els (up w0.heap.size H) (eL eI 1) 1 cs74 sCW.1∧RSl H (eN .u8) 1 v77 sCW.2.1∧(bl cs74).Nodup∧f 2=vK b21∧f 3=vK b59)|.rt x=>x.elim) hq ⟨_,_,_,_,_,(SCS.selT (a:=[.box b0 103 [vCU,vI rCN.2.at_,vJ rCN.2.seed],.row 52 1 vCE nCF csCG,.row 3 1 vAt nAu csAv,.box b59 26 [vI rCw.1.vars,vCE],.box b21 26 [vI 0,vN]]) (l':=[.box b0 103 [vCU,vI rCN.2.at_,vJ rCN.2.seed],.row 52 1 vCE nCF csCG,.box b59 26 [vI rCw.1.vars,vCE],.box b21 26 [vI 0,vN]]) [0,1,3,4] (by decide) rfl),I0,(elsCH.mono (zaj iCT)),hCV,ndCI,kCn,kCo,kCp,rfl⟩ ?_) ?_
   ·
    clear hp hq;rintro sCW f83 w82 ⟨H79,v72,n73,cs74,v77,S80,i81,els75,h78,nd76,k84,k85,k86,k87⟩ oB1 hp;refine FW.seq<|FW.sr<|FL.mv k87<|FL.v (E.gtr rfl rfl) ?_;refine FL.mv (v:=vB (decide (0 < sCW.2.2.2.2.2))) rfl ?_;refine FL.cut 4 (fun f w=>∃ H:GH,St H0 w0 H w (.box b0 103 [v77,vI sCW.2.2.1,vJ sCW.2.2.2.1]::.row 52 1 v72 n73 cs74::.box b59 26 [vI sCW.2.2.2.2.1,v72]::.box b21 26 [vI 0,vN]::L)∧Inc H79 H∧f 0=vK b0∧f 2=vK b21∧f 3=vK b59∧f 6=vI sCW.2.2.2.2.2∧f 43=vB (bif (decide (0 < sCW.2.2.2.2.2)) then (decide (0 < sCW.2.2.2.2.1)) else false)) ?_ ?_
    ·
     rcases bcase (decide (0 < sCW.2.2.2.2.2)) with c93|c93
     ·
      refine FL.y (wY c93) (E.fieldAddr zaq k86) ?_;refine FL.y (wY c93) (E.load rfl (zad isAgg3 (S80.box_now (i:=2) rfl) rfl)) ?_;refine FL.y (wY c93) (E.gtr rfl rfl) ?_;refine FL.v (E.pickT rfl c93 rfl) ?_;exact FL.nil ⟨rfl,_,S80,I0,k84,k85,k86,k87,(congrArg vB (bifT c93).symm)⟩
     ·
      refine FL.n c93<|FL.n c93<|FL.n c93<|FL.v (E.pickF rfl c93 rfl) ?_;exact FL.nil ⟨rfl,_,S80,I0,k84,k85,k86,k87,(congrArg vB (bifF c93).symm)⟩
    rintro f92 w91 ⟨H88,S89,i90,k94,k95,k96,k97,k98⟩;refine FL.nil ?_;refine FW.iB hp k98 (fun c99 hp=>?_) fun c99 hp=>?_
    ·
     refine FW.skip (FW.seq (FW.block ?_));obtain ⟨rA3,hrA4,hp⟩:=bnd hp;obtain ⟨xsAq,hzAr,hp⟩:=bnd hp;refine FW.drawB (Sl H88) (fun f w=>∃ H:GH,∃ vAL:Value,∃ nAM:Nat,∃ csAN:List Value,∃ vAQ:Value,St H0 w0 H w (.box b0 103 [vAQ,vI rA3.2.at_,vJ rA3.2.seed]::.row 52 1 vAL nAM csAN::.box b59 26 [vI sCW.2.2.2.2.1,vAL]::.box b21 26 [vI 0,vN]::L)∧Inc H88 H∧Els (up w0.heap.size H) (eL eI 1) 1 csAN xsAq∧RSl H (eN .u8) 1 vAQ rA3.2.code∧(bl csAN).Nodup∧f 0=vK b0∧f 2=vK b21∧f 3=vK b59∧f 6=vI sCW.2.2.2.2.2) (by kernel_rfl) S89.sl ?_ ?_
     ·
      intro wA0 rA1;have SA2:=S89.call rA1;refine FB.phase [] (fun w=>WAt w (Addr.add ⟨b59,0,none⟩ 0) [vI sCW.2.2.2.2.1]) ?_;refine FB.phase [9] (fun w=>WAt w (Addr.add ⟨b59,0,none⟩ 1) [v72]) ?_;refine FB.go (SP.on ((SA2.box_now (i:=2) rfl).sub (j:=1) (n:=1) (c:=[v72]) rfl) (SP.on ((SA2.box_now (i:=2) rfl).sub (j:=0) (n:=1) (c:=[vI sCW.2.2.2.2.1]) rfl) (SP.nil SA2.sl))) fun sp=>?_;refine FB.r 0 10 1 rfl sp (fun _ z=>(E.fieldAddr zay k96)) (fun sp=>?_);refine FB.q 1 10 3 0 [7,8,9] rfl sp rfl (fun _ z=>(E.load rfl (zai isAgg24 z rfl))) (fun sp=>?_);refine FB.r 2 10 7 rfl sp (fun _ z=>(E.move k94)) (fun sp=>?_);refine FB.r 3 10 15 rfl sp (fun _ z=>(E.fieldAddr zaq k96)) (fun sp=>?_);refine FB.q 4 10 31 1 [5,6,7,8,9] rfl sp rfl (fun _ z=>(E.load rfl (zai isAgg3 z rfl))) (fun sp=>?_);refine FB.all1 (i:=5) (by kernel_rfl) ?_
      ·
       refine FC.call (l':=(bs 10 63)) rfl (by kernel_rfl) rfl rfl rfl (E.call call161 (A2 rfl rfl)) (zec (L:=(.row 52 1 v72 n73 cs74::.box b59 26 [vI sCW.2.2.2.2.1,v72]::.box b21 26 [vI 0,vN]::L)) SA2 (a0:=(l1Cur.mk sCW.2.1 sCW.2.2.1 sCW.2.2.2.1)) (h78.mono i90) sCW.2.2.2.2.1 hrA4) ?_;rintro e wA6 ⟨HA5,vA9,nAa,csAb,vAd,rfl,⟨SA7,iA8⟩,elsAc,hAe⟩;refine ⟨_,rfl,?_⟩;refine ⟨(SP.on ((SA7.box_now (i:=3) rfl).sub (j:=1) (n:=1) (c:=[v72]) rfl) (SP.on ((SA7.box_now (i:=3) rfl).sub (j:=0) (n:=1) (c:=[vI sCW.2.2.2.2.1]) rfl) (SP.nil (Sl.of_inc iA8 SA7.sl)))),?_⟩;refine FB.all1 (i:=6) (by kernel_rfl) ?_
       ·
        obtain ⟨HAf,SAg,iAh,hAi,nvAj⟩:=SA7.sealRowU (i:=0) (l':=(.box b0 103 [vAd,vI rA3.2.at_,vJ rA3.2.seed]::.row 52 1 v72 n73 cs74::.box b59 26 [vI sCW.2.2.2.2.1,v72]::.box b21 26 [vI 0,vN]::L)) rfl elsAc (by decide) rfl;obtain ⟨vAk,wAl,runAm,SAn⟩:=SAg.b1 te24 hAi.cells hAi.one;have elsAo:Els (up w0.heap.size HAf) (eL eI 1) 1 [vA9] [rA3.1]:=(Els.snoc (H:=(up w0.heap.size HAf)) (E:=(eL eI 1)) (k:=1) (c:=[vA9]) (x:=rA3.1) Els.nil rfl ⟨_,rfl,hAi⟩);have ndAp:(bl [vA9]).Nodup:=by exact zbw vA9
        refine FC.val (l':=(bs 10 127)) rfl (by kernel_rfl) rfl rfl rfl (E.buildSlice (B1 rfl) runAm) ?_;refine ⟨(SP.on ((SAn.box_now (i:=3) rfl).sub (j:=1) (n:=1) (c:=[v72]) rfl) (SP.on ((SAn.box_now (i:=3) rfl).sub (j:=0) (n:=1) (c:=[vI sCW.2.2.2.2.1]) rfl) (SP.nil (Sl.of_inc (iA8.tr iAh) SAn.sl)))),?_⟩;refine FB.all1 (i:=7) (by kernel_rfl) ?_
        ·
         obtain ⟨vAs,wAB,nAz,csAA,runAC,SAD,elsAE,ceAF⟩:=SAn.appendO (P:=prog) te24 (i:=2) (j:=0) rfl (els75.mono (zaj ((i90.tr iA8).tr iAh))) rfl elsAo hzAr;have ndAG:(bl csAA).Nodup:=by rw [ceAF];exact zbv nd76 ndAp (Els.dom (els75.mono (upI.tr (i90.tr iA8)))) (by exact nvAj)
         have SAH:St H0 w0 HAf wAB (.box b0 103 [vAd,vI rA3.2.at_,vJ rA3.2.seed]::.row 52 1 vAs nAz csAA::.box b59 26 [vI sCW.2.2.2.2.1,v72]::.box b21 26 [vI 0,vN]::L):=SAD.drop 0;refine FC.val (l':=(bs 10 255)) rfl (by kernel_rfl) rfl rfl rfl (E.append rfl rfl runAC) ?_;refine sgo (SP.on ((SAH.box_now (i:=2) rfl).sub (j:=1) (n:=1) (c:=[v72]) rfl) (SP.on ((SAH.box_now (i:=2) rfl).sub (j:=0) (n:=1) (c:=[vI sCW.2.2.2.2.1]) rfl) (SP.nil (Sl.of_inc (iA8.tr iAh) SAH.sl)))) fun sp=>?_;refine FB.r 8 10 511 rfl sp (fun _ z=>(E.fieldAddr zay k96)) (fun sp=>?_);refine FB.all1 (i:=9) (by kernel_rfl) ?_
         ·
          obtain ⟨wAI,runAJ,SAK⟩:=SAH.store (P:=prog) (t:=24) (i:=2) (j:=1) (cs':=[vI sCW.2.2.2.2.1,vAs]) (l':=(.box b0 103 [vAd,vI rA3.2.at_,vJ rA3.2.seed]::.row 52 1 vAs nAz csAA::.box b59 26 [vI sCW.2.2.2.2.1,vAs]::.box b21 26 [vI 0,vN]::L)) (v:=vAs) (c:=[vAs]) rfl sizeOf24 (Ln.cells (SAH.row_ln (i:=1) rfl)) rfl (oC (Ln.one (SAH.row_ln (i:=1) rfl)) zac) (nB rfl) rfl rfl;refine FC.act (l':=(bs 10 1023)) rfl (by kernel_rfl) rfl rfl (E.store rfl rfl runAJ) ?_;refine ⟨(SP.o (SP.on ((SAK.box_now (i:=2) rfl).sub (j:=0) (n:=1) (c:=[vI sCW.2.2.2.2.1]) rfl) (SP.nil (Sl.of_inc (iA8.tr iAh) SAK.sl)))),?_⟩;exact FB.done (by kernel_rfl) ⟨_,_,_,_,_,SAK,(iA8.tr iAh),elsAE,(hAe.mono iAh),ndAG,k94,k95,k96,k97⟩
     ·
      rintro fAW wAV ⟨HAS,vAL,nAM,csAN,vAQ,SAT,iAU,elsAO,hAR,ndAP,kAX,kAY,kAZ,kB0⟩;refine FW.region<|FL.mv kB0<|FL.v (E.sub rfl rfl) ?_;refine FL.as (v:=vI (wr (sCW.2.2.2.2.2 - 1))) rfl<|FL.nil ?_;cases hp;exact ⟨rfl,⟨_,_,_,_,_,SAT,((i81.tr i90).tr iAU),elsAO,hAR,ndAP,kAX,kAY,kAZ,rfl⟩⟩
    ·
     refine FW.exit ?_;cases hp;exact ⟨nofun,rfl,⟨_,_,_,_,_,S89,(i81.tr i90),(els75.mono (zaj i90)),(h78.mono i90),nd76,k95,k96⟩⟩
   ·
    clear hq;intro e fB6 wB5 hD;rcases qCW with sCW|xCW
    ·
     obtain ⟨rfl,hD⟩:=hD;obtain ⟨HB2,v72,n73,cs74,v77,SB3,iB4,els75,h78,nd76,kB7,kB8⟩:=hD;replace hp:=el_go hp;refine FW.sr<|FL.v (E.load kB8 (zag isAgg26 sizeOf26 (SB3.box_now (i:=2) rfl) rfl)) ?_;obtain ⟨wB9,runBa,SBb⟩:=SB3.s0 3 [vI sCW.2.2.2.2.1,v72] (l':=(.box b0 103 [v77,vI sCW.2.2.1,vJ sCW.2.2.2.1]::.row 52 1 v72 n73 cs74::.box b59 26 [vI sCW.2.2.2.2.1,v72]::.box b21 26 [vI sCW.2.2.2.2.1,v72]::L)) sizeOf26 (oC rfl (oC (Ln.one (SB3.row_ln (i:=1) rfl)) zac));refine FL.act rfl rfl (E.store kB7 rfl runBa) ?_;obtain ⟨HBc,SBd,iBe,nsBh,nvBg⟩:=SBb.sealRowN (i:=1) (l':=(.box b0 103 [v77,vI sCW.2.2.1,vJ sCW.2.2.2.1]::.box b59 26 [vI sCW.2.2.2.2.1,v72]::.box b21 26 [vI sCW.2.2.2.2.1,v72]::L)) rfl els75 nd76 (by decide) rfl;have hBf:=nsBh.rsl;obtain ⟨HBi,SBj,iBk,atBl⟩:=SBd.sealBox (i:=2) (l':=(.box b0 103 [v77,vI sCW.2.2.1,vJ sCW.2.2.2.1]::.box b59 26 [vI sCW.2.2.2.2.1,v72]::L)) rfl rfl;refine FL.nil (FW.ret ?_);cases hp;exact ⟨.inr rfl,resC rfl kB7 (zar isAgg26 sizeOf26 (atBl.now SBj.sl) rfl) ⟨_,_,_,rfl,⟨(SBj.selT (a:=[.box b0 103 [v77,vI sCW.2.2.1,vJ sCW.2.2.2.1],.box b59 26 [vI sCW.2.2.2.2.1,v72]]) (l':=[.box b0 103 [v77,vI sCW.2.2.1,vJ sCW.2.2.2.1]]) [0] (by decide) rfl),(((((((((r28.run.inc.tr i35).tr i44).tr r52.inc).tr iCk).tr rCB.run.inc).tr iCT).tr iB4).tr iBe).tr iBk)⟩,⟨_,(nsBh.mono (zaj iBk))⟩,(h78.mono (iBe.tr iBk))⟩⟩
    ·
     exact xCW.elim
  ·
   exact x71.elim

@[reducible] def p_spec_l1Cur_lit (H0:GH) (w0:World) (Ha:GH) (L:List MO) (b0:Nat) (r:(Int×l1Cur)):Ending→World→Prop :=
 fun e w'=>∃ H':GH,∃ v0_0r:Value,e=.returned (vI r.1)∧(St H0 w0 H' w' (.box b0 103 [v0_0r,vI r.2.at_,vJ r.2.seed]::L)∧Inc Ha H')∧RSl H' (eN .u8) 1 v0_0r r.2.code
set_option maxHeartbeats 4000000 in
theorem w_spec_l1Cur_lit {H0 Ha:GH} {w0 wa:World} {L:List MO} {a0:l1Cur} {b0:Nat} {v0_0:Value} (S0:St H0 w0 Ha wa (.box b0 103 [v0_0,vI a0.at_,vJ a0.seed]::L)) (p0_0:RSl Ha (eN .u8) 1 v0_0 a0.code) (a1:Int) {r:(Int×l1Cur)} (hp:(PF.zdt a0 a1)=some r) :
  Calls prog 224 #[vK b0,vI a1] wa (p_spec_l1Cur_lit H0 w0 Ha L b0 r):=by
 unfold PF.zdt at hp;refine zah (N:=29) (args:=[vK b0,vI a1]) func224 rfl rfl rfl ?_;refine FW.sr<|FL.as (v:=vI 0) rfl<|FL.nil (FW.seq (FW.sr ?_));refine FL.mv (v:=vI a1) rfl<|FL.v (E.lss rfl rfl) ?_;refine FL.mv (v:=vB (decide (a1 < 1))) rfl ?_;obtain ⟨t29,hqt29,hp⟩:=bnd hp;refine FL.cut 3 (fun f w=>∃ H:GH,∃ v31:Value,St H0 w0 H w (.box b0 103 [v31,vI t29.2.1,vJ t29.2.2.1]::L)∧Inc Ha H∧RSl H (eN .u8) 1 v31 t29.1∧f 0=vK b0∧f 1=vI a1∧f 11=vB t29.2.2.2) ?_ ?_
 ·
  clear hp;have hp:=hqt29;clear hqt29;rcases ifB hp with ⟨c30,hp⟩|⟨c30,hp⟩
  ·
   refine FL.n c30<|FL.n c30<|FL.v (E.pickT rfl c30 rfl) ?_;cases hp;exact FL.nil ⟨rfl,⟨_,_,S0,I0,p0_0,rfl,rfl,rfl⟩⟩
  ·
   refine FL.y (wY c30) (E.move (v:=vK b0) rfl) ?_;obtain ⟨r33,hr34,hp⟩:=bnd hp;refine FL.call (wY c30) rfl rfl (E.call call68 (A2 rfl rfl)) (zco (L:=(L)) S0 (a0:=a0) p0_0 40 hr34) ?_;rintro e w36 ⟨H35,v39,rfl,⟨S37,i38⟩,h40⟩;refine ⟨_,rfl,?_⟩;refine FL.v (E.pickF rfl c30 rfl) ?_;cases hp;exact FL.nil ⟨rfl,⟨_,_,S37,i38,h40,rfl,rfl,rfl⟩⟩
 clear hqt29;rintro f45 w44 ⟨H41,v31,S42,i43,h32,k46,k47,k48⟩;refine FL.nil ?_;refine FW.iB hp k48 (fun c49 hp=>?_) fun c49 hp=>?_
 ·
  refine FW.sr<|FL.mv k46<|FL.mv k47<|FL.v (E.add rfl rfl) ?_;refine FL.mv k47<|FL.v (E.neg rfl) ?_;refine FL.v (E.sub rfl rfl) ?_;obtain ⟨v50,w51,run52,S53,els54⟩:=S42.ints (P:=prog) te52 (up w0.heap.size H41) 3 [0,(wr (a1 + 1)),(wr ((wr (-a1)) - 1))];refine FL.v (E.buildSlice (B3 rfl rfl rfl) run52) ?_;obtain ⟨H55,S56,i57,h58,nv59⟩:=S53.sealRowU (i:=0) (l':=(.box b0 103 [v31,vI t29.2.1,vJ t29.2.2.1]::L)) rfl els54 (by decide) rfl;obtain ⟨r60,hr61,hp⟩:=bnd hp;refine FL.c (E.call call104 (A2 rfl rfl)) (zbA (L:=(L)) S56 (a0:=(l1Cur.mk t29.1 t29.2.1 t29.2.2.1)) (h32.mono i57) v50 [0,(wr (a1 + 1)),(wr ((wr (-a1)) - 1))] (h58.mono upI) hr61) ?_;rintro e w63 ⟨H62,v66,rfl,⟨S64,i65⟩,h67⟩;refine ⟨_,rfl,?_⟩;refine FL.as (v:=vI r60.1) rfl<|FL.nil (FW.ret ?_);cases hp;exact ⟨.inr rfl,res1 rfl rfl ⟨_,_,rfl,⟨S64,((i43.tr i57).tr i65)⟩,h67⟩⟩
 ·
  refine FW.skip<|FW.sr<|FL.mv k46<|FL.mv k47 ?_;obtain ⟨r68,hr69,hp⟩:=bnd hp;refine FL.c (E.call call78 (A2 rfl rfl)) (za1 (L:=(L)) S42 (a0:=(l1Cur.mk t29.1 t29.2.1 t29.2.2.1)) h32 a1 hr69) ?_;rintro e w71 ⟨H70,v74,rfl,⟨S72,i73⟩,h75⟩;refine ⟨_,rfl,?_⟩;refine FL.v (E.add rfl rfl) ?_;refine FL.as (v:=vI (wr (1 + r68.1))) rfl<|FL.nil (FW.seq (FW.sr ?_));refine FL.mv k46 ?_;obtain ⟨r76,hr77,hp⟩:=bnd hp;refine FL.c (E.call call68 (A2 rfl rfl)) (zco (L:=(L)) S72 (a0:=r68.2) h75 2 hr77) ?_;rintro e w79 ⟨H78,v82,rfl,⟨S80,i81⟩,h83⟩;refine ⟨_,rfl,?_⟩;refine FL.nil ?_;refine FW.iB hp rfl (fun c84 hp=>?_) fun c84 hp=>?_
  ·
   refine FW.sr<|FL.mv (v:=vI (wr (1 + r68.1))) rfl<|FL.v (E.neg rfl) ?_;refine FL.as (v:=vI (wr (-(wr (1 + r68.1))))) rfl<|FL.nil (FW.ret ?_);cases hp;exact ⟨.inr rfl,res1 rfl rfl ⟨_,_,rfl,⟨S80,((i43.tr i73).tr i81)⟩,h83⟩⟩
  ·
   refine FW.skip<|FW.sr<|FL.mv (v:=vI (wr (1 + r68.1))) rfl<|FL.as (v:=vI (wr (1 + r68.1))) rfl<|FL.nil (FW.ret ?_);cases hp;exact ⟨.inr rfl,res1 rfl rfl ⟨_,_,rfl,⟨S80,((i43.tr i73).tr i81)⟩,h83⟩⟩

@[reducible] def zfN (H0:GH) (w0:World) (Ha:GH) (L:List MO) (b0:Nat) (r:((List Int)×l1Cur)):Ending→World→Prop :=
 fun e w'=>∃ H':GH,∃ v0:Value,∃ n0:Nat,∃ c0:List Value,∃ v0_0r:Value,e=.returned (v0)∧(St H0 w0 H' w' (.row 3 1 v0 n0 c0::.box b0 103 [v0_0r,vI r.2.at_,vJ r.2.seed]::L)∧Inc Ha H')∧Els (up w0.heap.size H') eI 1 c0 r.1∧RSl H' (eN .u8) 1 v0_0r r.2.code
set_option maxHeartbeats 4000000 in
theorem zfO {H0 Ha:GH} {w0 wa:World} {L:List MO} {a0:l1Cur} {b0:Nat} {v0_0:Value} (S0:St H0 w0 Ha wa (.box b0 103 [v0_0,vI a0.at_,vJ a0.seed]::L)) (p0_0:RSl Ha (eN .u8) 1 v0_0 a0.code) (a1:Int) {r:((List Int)×l1Cur)} (hp:(PF.zdu a0 a1)=some r) :
  Calls prog 167 #[vK b0,vI a1] wa (zfN H0 w0 Ha L b0 r):=by
 unfold PF.zdu at hp;refine zah (N:=52) (args:=[vK b0,vI a1]) func167 rfl rfl rfl ?_;refine FW.sr<|FL.as (v:=vN) rfl<|FL.nil<|FW.sr<|FL.mv (v:=vK b0) rfl<|FL.mv (v:=vI a1) rfl ?_;obtain ⟨r21,hr22,hp⟩:=bnd hp;refine FL.c (E.call call161 (A2 rfl rfl)) (zec (L:=(L)) S0 (a0:=a0) p0_0 a1 hr22) ?_;rintro e w24 ⟨H23,v27,n28,cs29,v31,rfl,⟨S25,i26⟩,els30,h32⟩;refine ⟨_,rfl,?_⟩;refine FL.as (v:=v27) rfl<|FL.nil (FW.seq (FW.sr ?_));refine FL.mv (v:=vK b0) rfl ?_;obtain ⟨r33,hr34,hp⟩:=bnd hp;have S35:St H0 w0 H23 w24 (.box b0 103 [v31,vI r21.2.at_,vJ r21.2.seed]::.row 3 1 v27 n28 cs29::L):=S25.front 1 rfl rfl;refine FL.c (E.call call78 (A2 rfl rfl)) (za1 (L:=(.row 3 1 v27 n28 cs29::L)) S35 (a0:=r21.2) h32 32 hr34) ?_;rintro e w37 ⟨H36,v40,rfl,⟨S38,i39⟩,h41⟩;refine ⟨_,rfl,?_⟩;refine FL.nil (FW.block (FW.sr ?_));refine FL.v (E.eql rfl rfl) ?_;refine FL.as (v:=vB (r33.1 == 0)) rfl<|FL.nil ?_;refine FW.iB hp rfl (fun c42 hp=>?_) fun c42 hp=>?_
 ·
  refine FW.region<|FL.mv (v:=v27) rfl<|FL.mv (v:=vK b0) rfl<|FL.mv (v:=vI a1) rfl ?_;obtain ⟨r43,hr44,hp⟩:=bnd hp;refine FL.c (E.call call224 (A2 rfl rfl)) (w_spec_l1Cur_lit (L:=(.row 3 1 v27 n28 cs29::L)) S38 (a0:=r33.2) h41 a1 hr44) ?_;rintro e w46 ⟨H45,v49,rfl,⟨S47,i48⟩,h50⟩;refine ⟨_,rfl,?_⟩;obtain ⟨v51,w52,run53,S54,els55⟩:=S47.ints (P:=prog) te52 (up w0.heap.size H45) 1 [r43.1];refine FL.v (E.buildSlice (B1 rfl) run53) ?_;obtain ⟨xs56,hz57,hp⟩:=bnd hp;obtain ⟨v58,w61,n59,cs60,run62,S63,els64,ce65⟩:=S54.appendO (P:=prog) te52 (i:=2) (j:=0) rfl (els30.mono (zaj (i39.tr i48))) rfl els55 hz57;have S66:St H0 w0 H45 w61 (.box b0 103 [v49,vI r43.2.at_,vJ r43.2.seed]::.row 3 1 v58 n59 cs60::L):=S63.drop 0;refine FL.v (E.append rfl rfl run62) ?_;refine FL.as (v:=v58) rfl<|FL.nil<|FW.sr<|FL.mv (v:=v58) rfl<|FL.as (v:=v58) rfl<|FL.nil (FW.ret ?_);cases hp;exact ⟨.inr rfl,res1 rfl rfl ⟨_,_,_,_,_,rfl,⟨(S66.selT (a:=[.box b0 103 [v49,vI r43.2.at_,vJ r43.2.seed],.row 3 1 v58 n59 cs60]) (l':=[.row 3 1 v58 n59 cs60,.box b0 103 [v49,vI r43.2.at_,vJ r43.2.seed]]) [1,0] (by decide) rfl),((i26.tr i39).tr i48)⟩,els64,h50⟩⟩
 ·
  refine FW.sr<|FL.v (E.eql rfl rfl) ?_;refine FL.as (v:=vB (r33.1 == 1)) rfl<|FL.nil ?_;refine FW.iB hp rfl (fun c67 hp=>?_) fun c67 hp=>?_
  ·
   refine FW.sr<|FL.mv (v:=v27) rfl<|FL.v (E.lenO te52 rfl S38 (i:=1) rfl els30 (by decide)) ?_;refine FL.v (E.gtr rfl rfl) ?_;refine FL.nil ?_;refine FW.iB hp rfl (fun c68 hp=>?_) fun c68 hp=>?_
   ·
    refine FW.region<|FL.mv (v:=v27) rfl<|FL.mv (v:=vK b0) rfl<|FL.mv (v:=vI a1) rfl<|FL.v (E.add rfl rfl) ?_;refine FL.mv (v:=vI a1) rfl<|FL.v (E.neg rfl) ?_;refine FL.v (E.sub rfl rfl) ?_;obtain ⟨v69,w70,run71,S72,els73⟩:=S38.ints (P:=prog) te52 (up w0.heap.size H36) 4 [0,(wr (a1 + 1)),(wr ((wr (-a1)) - 1)),(-9223372036854775808)];refine FL.v (E.buildSlice (B4 rfl rfl rfl rfl) run71) ?_;obtain ⟨H74,S75,i76,h77,nv78⟩:=S72.sealRowU (i:=0) (l':=(.box b0 103 [v40,vI r33.2.at_,vJ r33.2.seed]::.row 3 1 v27 n28 cs29::L)) rfl els73 (by decide) rfl;obtain ⟨r79,hr80,hp⟩:=bnd hp;refine FL.c (E.call call104 (A2 rfl rfl)) (zbA (L:=(.row 3 1 v27 n28 cs29::L)) S75 (a0:=r33.2) (h41.mono i76) v69 [0,(wr (a1 + 1)),(wr ((wr (-a1)) - 1)),(-9223372036854775808)] (h77.mono upI) hr80) ?_;rintro e w82 ⟨H81,v85,rfl,⟨S83,i84⟩,h86⟩;refine ⟨_,rfl,?_⟩;obtain ⟨x93,hx94,hp⟩:=bnd hp;obtain ⟨p87,cs88,pt89,l90,at91,rel92⟩:=S83.row_at (i:=1) rfl els30 (by decide) hx94;obtain rfl:=zal rel92;refine FL.v (E.indexAddr te52 rfl rfl pt89) ?_;obtain ⟨xs98,hput99,hp⟩:=bnd hp;obtain ⟨w95,csA1,run96,S97,elsA0,ceA2⟩:=S83.putEls (P:=prog) (t:=3) (i:=1) rfl (els30.mono (zaj ((i39.tr i76).tr i84))) hput99 pt89 sizeOf3 (u:=vI r79.1) (c:=[vI r79.1]) rfl rfl (oC rfl zac) rfl;refine FL.act rfl rfl (E.store rfl rfl run96) ?_;refine FL.nil<|FW.sr<|FL.mv (v:=v27) rfl<|FL.as (v:=v27) rfl<|FL.nil (FW.ret ?_);cases hp;exact ⟨.inr rfl,res1 rfl rfl ⟨_,_,_,_,_,rfl,⟨(S97.selT (a:=[.box b0 103 [v85,vI r79.2.at_,vJ r79.2.seed],.row 3 1 v27 n28 csA1]) (l':=[.row 3 1 v27 n28 csA1,.box b0 103 [v85,vI r79.2.at_,vJ r79.2.seed]]) [1,0] (by decide) rfl),(((i26.tr i39).tr i76).tr i84)⟩,elsA0,h86⟩⟩
   ·
    refine FW.skip<|FW.sr<|FL.mv (v:=v27) rfl<|FL.as (v:=v27) rfl<|FL.nil (FW.ret ?_);cases hp;exact ⟨.inr rfl,res1 rfl rfl ⟨_,_,_,_,_,rfl,⟨(S38.selT (a:=[.box b0 103 [v40,vI r33.2.at_,vJ r33.2.seed],.row 3 1 v27 n28 cs29]) (l':=[.row 3 1 v27 n28 cs29,.box b0 103 [v40,vI r33.2.at_,vJ r33.2.seed]]) [1,0] (by decide) rfl),(i26.tr i39)⟩,(els30.mono (zaj i39)),h41⟩⟩
  ·
   refine FW.sr<|FL.v (E.eql rfl rfl) ?_;refine FL.as (v:=vB (r33.1 == 2)) rfl<|FL.nil ?_;refine FW.iB hp rfl (fun cA3 hp=>?_) fun cA3 hp=>?_
   ·
    refine FW.sr<|FL.mv (v:=v27) rfl<|FL.v (E.lenO te52 rfl S38 (i:=1) rfl els30 (by decide)) ?_;refine FL.v (E.gtr rfl rfl) ?_;refine FL.nil ?_;refine FW.iB hp rfl (fun cA4 hp=>?_) fun cA4 hp=>?_
    ·
     refine FW.sr<|FL.mv (v:=v27) rfl ?_;obtain ⟨xAb,hxAc,hp⟩:=bnd hp;obtain ⟨pA5,csA6,ptA7,lA8,atA9,relAa⟩:=S38.row_at (i:=1) rfl els30 (by decide) hxAc;obtain rfl:=zal relAa;refine FL.v (E.indexAddr te52 rfl rfl ptA7) ?_;refine FL.v (E.load rfl (zai isAgg3 atA9 rfl)) ?_;refine FL.as (v:=vI xAb) rfl<|FL.nil<|FW.sr<|FL.mv (v:=v27) rfl<|FL.mv (v:=v27) rfl ?_;obtain ⟨xAj,hxAk,hp⟩:=bnd hp;obtain ⟨pAd,csAe,ptAf,lAg,atAh,relAi⟩:=S38.row_at (i:=1) rfl els30 (by decide) hxAk;obtain rfl:=zal relAi;refine FL.v (E.indexAddr te52 rfl rfl ptAf) ?_;refine FL.v (E.load rfl (zai isAgg3 atAh rfl)) ?_;obtain ⟨xAr,hxAs,hp⟩:=bnd hp;obtain ⟨pAl,csAm,ptAn,lAo,atAp,relAq⟩:=S38.row_at (i:=1) rfl els30 (by decide) hxAs;obtain rfl:=zal relAq;refine FL.v (E.indexAddr te52 rfl rfl ptAn) ?_;obtain ⟨xsAw,hputAx,hp⟩:=bnd hp;obtain ⟨wAt,csAz,runAu,SAv,elsAy,ceAA⟩:=S38.putEls (P:=prog) (t:=3) (i:=1) rfl (els30.mono (zaj i39)) hputAx ptAn sizeOf3 (u:=vI xAj) (c:=[vI xAj]) rfl rfl (oC rfl zac) rfl;refine FL.act rfl rfl (E.store rfl rfl runAu) ?_;refine FL.nil<|FW.region<|FL.mv (v:=v27) rfl<|FL.mv (v:=vI xAb) rfl ?_;obtain ⟨xAH,hxAI,hp⟩:=bnd hp;obtain ⟨pAB,csAC,ptAD,lAE,atAF,relAG⟩:=SAv.row_at (i:=1) rfl elsAy (by decide) hxAI;obtain rfl:=zal relAG;refine FL.v (E.indexAddr te52 rfl rfl ptAD) ?_;obtain ⟨xsAM,hputAN,hp⟩:=bnd hp;obtain ⟨wAJ,csAP,runAK,SAL,elsAO,ceAQ⟩:=SAv.putEls (P:=prog) (t:=3) (i:=1) rfl elsAy hputAN ptAD sizeOf3 (u:=vI xAb) (c:=[vI xAb]) rfl rfl (oC rfl zac) rfl;refine FL.act rfl rfl (E.store rfl rfl runAK) ?_;refine FL.nil<|FW.sr<|FL.mv (v:=v27) rfl<|FL.as (v:=v27) rfl<|FL.nil (FW.ret ?_);cases hp;exact ⟨.inr rfl,res1 rfl rfl ⟨_,_,_,_,_,rfl,⟨(SAL.selT (a:=[.box b0 103 [v40,vI r33.2.at_,vJ r33.2.seed],.row 3 1 v27 n28 csAP]) (l':=[.row 3 1 v27 n28 csAP,.box b0 103 [v40,vI r33.2.at_,vJ r33.2.seed]]) [1,0] (by decide) rfl),(i26.tr i39)⟩,elsAO,h41⟩⟩
    ·
     refine FW.skip<|FW.sr<|FL.mv (v:=v27) rfl<|FL.as (v:=v27) rfl<|FL.nil (FW.ret ?_);cases hp;exact ⟨.inr rfl,res1 rfl rfl ⟨_,_,_,_,_,rfl,⟨(S38.selT (a:=[.box b0 103 [v40,vI r33.2.at_,vJ r33.2.seed],.row 3 1 v27 n28 cs29]) (l':=[.row 3 1 v27 n28 cs29,.box b0 103 [v40,vI r33.2.at_,vJ r33.2.seed]]) [1,0] (by decide) rfl),(i26.tr i39)⟩,(els30.mono (zaj i39)),h41⟩⟩
   ·
    refine FW.skip<|FW.sr<|FL.mv (v:=v27) rfl<|FL.as (v:=v27) rfl<|FL.nil (FW.ret ?_);cases hp;exact ⟨.inr rfl,res1 rfl rfl ⟨_,_,_,_,_,rfl,⟨(S38.selT (a:=[.box b0 103 [v40,vI r33.2.at_,vJ r33.2.seed],.row 3 1 v27 n28 cs29]) (l':=[.row 3 1 v27 n28 cs29,.box b0 103 [v40,vI r33.2.at_,vJ r33.2.seed]]) [1,0] (by decide) rfl),(i26.tr i39)⟩,(els30.mono (zaj i39)),h41⟩⟩

end Go.Proofs
