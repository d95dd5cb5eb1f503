/- Part of the walks and plain laws behind the claim: it proves helpers, under no condition beyond their own. -/
import Derived.Test.YtjoeckfdcalbnaaGreatPbLB
import Derived.Test.YtjoeckfdcalbnaaGreatPbSh
import Derived.Test.YtjoeckfdcalbnaaGreatPbPf
import Derived.Test.YtjoeckfdcalbnaaGreatProg
set_option linter.unusedVariables false
set_option maxRecDepth 100000
namespace Go.Proofs
open Go.Mr Go.Pu Go.PF Go.RowKit

def zcX (P:Program) (H:GH) (v:Value) (p:(List Int)→Option Bool):Prop :=
 ∀ (H':GH) (w':World),Inc H H'→Sl H' w'→∀ (x0:List Int) (y0_0:Value) (_z0_0:RSl H' eI 1 y0_0 x0) (r:Bool),p x0=some r →
  ∃ (fid:Nat) (cs:Array Value),v=Value.func (.func fid) #[] cs∧(∀ args w,(callFunc fid args).run P w=.ok (.enter fid args) w)∧Calls P fid (#[y0_0]++cs) w' (Sc H' w' (Value.bool r))
theorem zcX.mono {P:Program} {H H':GH} {v:Value} {p:(List Int)→Option Bool} (h:zcX P H v p) (hi:Inc H H'):zcX P H' v p :=
 fun H2 w2 h2=>h H2 w2 (hi.tr h2)

def zfh (P:Program) (H:GH) (v:Value) (p:(List Int)→(List Int)→Option Int):Prop :=
 ∀ (H':GH) (w':World),Inc H H'→Sl H' w'→∀ (x0:List Int) (y0_0:Value) (_z0_0:RSl H' eI 1 y0_0 x0) (x1:List Int) (y1_0:Value) (_z1_0:RSl H' eI 1 y1_0 x1) (r:Int),p x0 x1=some r →
  ∃ (fid:Nat) (cs:Array Value),v=Value.func (.func fid) #[] cs∧(∀ args w,(callFunc fid args).run P w=.ok (.enter fid args) w)∧Calls P fid (#[y0_0,y1_0]++cs) w' (Sc H' w' (Value.int .i64 r))
def zdV (P:Program) (H:GH) (v:Value) (p:Int→Int→Option Int):Prop :=
 ∀ (H':GH) (w':World),Inc H H'→Sl H' w'→∀ (x0:Int) (x1:Int) (r:Int),p x0 x1=some r →
  ∃ (fid:Nat) (cs:Array Value),v=Value.func (.func fid) #[] cs∧(∀ args w,(callFunc fid args).run P w=.ok (.enter fid args) w)∧Calls P fid (#[Value.int .i64 x0,Value.int .i64 x1]++cs) w' (Sc H' w' (Value.int .i64 r))
theorem zdV.mono {P:Program} {H H':GH} {v:Value} {p:Int→Int→Option Int} (h:zdV P H v p) (hi:Inc H H'):zdV P H' v p :=
 fun H2 w2 h2=>h H2 w2 (hi.tr h2)

def zdB (P:Program) (H:GH) (v:Value) (p:Int→Option Bool):Prop :=
 ∀ (H':GH) (w':World),Inc H H'→Sl H' w'→∀ (x0:Int) (r:Bool),p x0=some r →
  ∃ (fid:Nat) (cs:Array Value),v=Value.func (.func fid) #[] cs∧(∀ args w,(callFunc fid args).run P w=.ok (.enter fid args) w)∧Calls P fid (#[Value.int .i64 x0]++cs) w' (Sc H' w' (Value.bool r))
theorem zdB.mono {P:Program} {H H':GH} {v:Value} {p:Int→Option Bool} (h:zdB P H v p) (hi:Inc H H'):zdB P H' v p :=
 fun H2 w2 h2=>h H2 w2 (hi.tr h2)

theorem fd49_2 {cs:List Value} {c:Value} (h:cs[2]?=some c):∃ fields fd,Tryz.prog.underlying 49=some (.struct fields)∧fields[2]?=some fd∧(∀ w,(isAgg fd.type).run Tryz.prog w=.ok false w)∧cs[fd.offset]?=some c:=⟨_,_,Tryz.underlying49,rfl,Tryz.isAgg34,h⟩
theorem fd49_3 {cs:List Value} {c:Value} (h:cs[3]?=some c):∃ fields fd,Tryz.prog.underlying 49=some (.struct fields)∧fields[3]?=some fd∧(∀ w,(isAgg fd.type).run Tryz.prog w=.ok false w)∧cs[fd.offset]?=some c:=⟨_,_,Tryz.underlying49,rfl,Tryz.isAgg24,h⟩
theorem te114:TE Tryz.prog 114 9 1 (.string ByteArray.empty):=⟨Tryz.underlying114,⟨Tryz.t9,Tryz.type9,rfl,rfl,by decide⟩,rfl,by decide⟩
theorem te22:TE Tryz.prog 22 5 1 (.int .u8 0):=⟨Tryz.underlying22,⟨Tryz.t5,Tryz.type5,rfl,rfl,by decide⟩,rfl,by decide⟩
theorem te24:TE Tryz.prog 24 34 1 (.slice none 0 0):=⟨Tryz.underlying24,⟨Tryz.t34,Tryz.type34,rfl,rfl,by decide⟩,rfl,by decide⟩
theorem te34:TE Tryz.prog 34 3 1 (.int .i64 0):=⟨Tryz.underlying34,⟨Tryz.t3,Tryz.type3,rfl,rfl,by decide⟩,rfl,by decide⟩
theorem te52:TE Tryz.prog 52 4 1 (.bool false):=⟨Tryz.underlying52,⟨Tryz.t4,Tryz.type4,rfl,rfl,by decide⟩,rfl,by decide⟩
theorem te83:TE Tryz.prog 83 88 1 (.int .u16 0):=⟨Tryz.underlying83,⟨Tryz.t88,Tryz.type88,rfl,rfl,by decide⟩,rfl,by decide⟩
theorem zaC:TF Tryz.prog 26 0 0:=⟨_,_,_,Tryz.underlying26,rfl,rfl,Tryz.sizeOf3,by decide⟩
theorem zay:TF Tryz.prog 26 1 1:=⟨_,_,_,Tryz.underlying26,rfl,rfl,Tryz.sizeOf24,by decide⟩
theorem tf49_0:TF Tryz.prog 49 0 0:=⟨_,_,_,Tryz.underlying49,rfl,rfl,Tryz.sizeOf24,by decide⟩
theorem tf49_1:TF Tryz.prog 49 1 1:=⟨_,_,_,Tryz.underlying49,rfl,rfl,Tryz.sizeOf34,by decide⟩
theorem tf49_2:TF Tryz.prog 49 2 2:=⟨_,_,_,Tryz.underlying49,rfl,rfl,Tryz.sizeOf34,by decide⟩
theorem tf49_3:TF Tryz.prog 49 3 3:=⟨_,_,_,Tryz.underlying49,rfl,rfl,Tryz.sizeOf24,by decide⟩
theorem tf54_2:TF Tryz.prog 54 2 3:=⟨_,_,_,Tryz.underlying54,rfl,rfl,Tryz.sizeOf24,by decide⟩
theorem tf54_3:TF Tryz.prog 54 3 4:=⟨_,_,_,Tryz.underlying54,rfl,rfl,Tryz.sizeOf52,by decide⟩
theorem tf54_4:TF Tryz.prog 54 4 5:=⟨_,_,_,Tryz.underlying54,rfl,rfl,Tryz.sizeOf34,by decide⟩
theorem tf63_0:TF Tryz.prog 63 0 0:=⟨_,_,_,Tryz.underlying63,rfl,rfl,Tryz.sizeOf22,by decide⟩
theorem tf63_1:TF Tryz.prog 63 1 1:=⟨_,_,_,Tryz.underlying63,rfl,rfl,Tryz.sizeOf3,by decide⟩
theorem tf63_2:TF Tryz.prog 63 2 2:=⟨_,_,_,Tryz.underlying63,rfl,rfl,Tryz.sizeOf61,by decide⟩
theorem tf85_0:TF Tryz.prog 85 0 0:=⟨_,_,_,Tryz.underlying85,rfl,rfl,Tryz.sizeOf83,by decide⟩
theorem tf85_1:TF Tryz.prog 85 1 1:=⟨_,_,_,Tryz.underlying85,rfl,rfl,Tryz.sizeOf82,by decide⟩
theorem tf85_2:TF Tryz.prog 85 2 2:=⟨_,_,_,Tryz.underlying85,rfl,rfl,Tryz.sizeOf3,by decide⟩
@[reducible] def zfi (Ha:GH) (wa:World) (r:(List Int)):Ending→World→Prop :=
 fun e w'=>∃ H':GH,∃ v0:Value,∃ n0:Nat,∃ c0:List Value,e=.returned (v0)∧St Ha wa H' w' [.row 3 1 v0 n0 c0]∧Els (up wa.heap.size H') eI 1 c0 r
theorem zdW {Ha:GH} {wa:World} (hs:Sl Ha wa) (v0:Value) (a0:List Int) (p0:RSl Ha eI 1 v0 a0) {r:(List Int)} (hp:(PF.zbu a0)=some r) :
  Calls Tryz.prog 54 #[v0] wa (zfi Ha wa r):=by
 unfold PF.zbu at hp
 have S0:=St.init hs
 refine zae (N:=8) (args:=[v0]) Tryz.func54 rfl rfl rfl ?_
 refine FW.seq (FW.region ?_)
 refine FL.v (E.assign (v:=Value.slice none 0 0) rfl) ?_
 refine FL.nil (FW.seq (FW.seq (FW.region ?_)))
 refine FL.v (E.move (v:=v0) rfl) ?_
 obtain ⟨nb21,run22,hn23⟩:=RSl.nilTest te34 p0
 refine FL.v (run22 _ _ _ _ _ _ _ _ _ _ _ _ rfl rfl) ?_
 refine FL.nil ?_
 rcases bcase nb21 with c24|c24
 ·
  refine FW.condT (b:=nb21) rfl c24 ?_
  rw [hn23 c24,app_nil2] at hp
  refine FW.seq (FW.region ?_)
  refine FL.v (E.assign (v:=Value.slice none 0 0) rfl) ?_
  refine FL.nil ?_
  refine FW.ret ?_
  obtain rfl:=Option.some.inj hp
  exact ⟨.inr rfl,res1 rfl rfl ⟨_,_,_,_,rfl,(S0.nil 3 1),Els.nil⟩⟩
 ·
  refine FW.condF (b:=nb21) rfl c24 ?_
  refine FW.skip (FW.seq (FW.region ?_))
  obtain ⟨v25,w26,run27,S28⟩:=S0.buildSlice (P:=Tryz.prog) te34 [] (parts:=#[]) (cells:=[]) rfl zao zan zad (Nat.le_of_ble_eq_true rfl)
  have els29:Els (up wa.heap.size Ha) eI 1 [] []:=Els.nil
  refine FL.v (E.buildSlice (B0) run27) ?_
  refine FL.v (E.move (v:=v0) rfl) ?_
  obtain ⟨xs30,hz31,hp⟩:=bnd hp
  obtain ⟨v32,w35,n33,cs34,run36,S37,els38⟩:=S28.appendP (P:=Tryz.prog) (Inc.rfl _) te34 (i:=0) rfl (els29.mono upI) p0 hz31
  have S37:St Ha wa Ha w35 [.row 3 1 v32 n33 cs34]:=S37
  have els38:Els (up wa.heap.size Ha) eI 1 cs34 xs30:=els38.any (fun _ _ _ _ h=>h)
  refine FL.v (E.append rfl rfl run36) ?_
  refine FL.v (E.assign (v:=v32) rfl) ?_
  refine FL.nil ?_
  refine FW.ret ?_
  obtain rfl:=Option.some.inj hp
  exact ⟨.inr rfl,res1 rfl rfl ⟨_,_,_,_,rfl,S37,els38⟩⟩

theorem w_laws_vBig {Ha:GH} {wa:World} (hs:Sl Ha wa) (v0:Value) (a0:List Int) (p0:RSl Ha (eN .u8) 1 v0 a0) :
  Calls Tryz.prog 4 #[v0] wa (Sc Ha wa (Value.bool (PF.zc6 a0))):=by
 obtain ⟨r,hp⟩:∃ r,(PF.zc6 a0)=r:=⟨_,rfl⟩
 rw [hp]
 unfold PF.zc6 at hp
 have S0:=St.init hs
 refine zae (N:=6) (args:=[v0]) Tryz.func4 rfl rfl rfl ?_
 refine FW.seq (FW.region ?_)
 refine FL.v (E.assign (v:=Value.bool false) rfl) ?_
 refine FL.nil (FW.seq (FW.region ?_))
 refine FL.v (E.move (v:=v0) rfl) ?_
 refine FL.v (E.lenP te22 rfl p0) ?_
 refine FL.v (E.gtr rfl rfl) ?_
 refine FL.v (E.assign (v:=Value.bool (decide (65536 < (len a0)))) rfl) ?_
 refine FL.nil ?_
 refine FW.ret ?_
 obtain rfl:=hp
 exact ⟨.inr rfl,res1 rfl rfl ⟨rfl,S0.back⟩⟩

@[reducible] def p_spec_l1Cur_next (H0:GH) (w0:World) (Ha:GH) (L:List MO) (b0:Nat) (r:(Int×l1Cur)):Ending→World→Prop :=
 fun e w'=>∃ H':GH,∃ v0_0r:Value,e=.returned (Value.int .i64 r.1)∧(St H0 w0 H' w' (.box b0 63 [v0_0r,Value.int .i64 r.2.at_,Value.int .u64 r.2.seed]::L)∧Inc Ha H')∧RSl H' (eN .u8) 1 v0_0r r.2.code
set_option maxHeartbeats 4000000 in
theorem zeJ {H0 Ha:GH} {w0 wa:World} {L:List MO} {a0:l1Cur} {b0:Nat} {v0_0:Value} (S0:St H0 w0 Ha wa (.box b0 63 [v0_0,Value.int .i64 a0.at_,Value.int .u64 a0.seed]::L)) (p0_0:RSl Ha (eN .u8) 1 v0_0 a0.code) {r:(Int×l1Cur)} (hp:(PF.zct a0)=some r) :
  Calls Tryz.prog 105 #[Value.pointer (some (⟨b0,0,none⟩:Addr))] wa (p_spec_l1Cur_next H0 w0 Ha L b0 r):=by
 unfold PF.zct at hp
 refine zae (N:=62) (args:=[Value.pointer (some (⟨b0,0,none⟩:Addr))]) Tryz.func105 rfl rfl rfl ?_
 refine FW.seq (FW.region ?_)
 refine FL.v (E.assign (v:=Value.int .i64 0) rfl) ?_
 refine FL.nil (FW.seq (FW.region ?_))
 refine FL.v (E.assign (v:=Value.int .i64 0) rfl) ?_
 refine FL.nil (FW.seq (FW.seq ?_))
 refine FW.draw (fun w'=>Run wa.heap.size Ha wa Ha w') (by kernel_rfl) (by kernel_rfl) (zaG S0.sl) ?_
 refine FD.val rfl rfl rfl (fun w' hw'=>(E.move (v:=Value.pointer (some (⟨b0,0,none⟩:Addr))) rfl)) ?_
 refine FD.val rfl rfl rfl (fun w' hw'=>(E.nilCheck rfl)) ?_
 refine FD.val rfl rfl rfl (fun w' hw'=>(E.fieldAddr tf63_1 rfl)) ?_
 refine FD.val rfl rfl rfl (fun w' hw'=>(E.load rfl (zah Tryz.isAgg3 ((S0.call hw').box_now (i:=0) rfl) rfl))) ?_
 refine FD.val rfl rfl rfl (fun w' hw'=>(E.move (v:=Value.pointer (some (⟨b0,0,none⟩:Addr))) rfl)) ?_
 refine FD.val rfl rfl rfl (fun w' hw'=>(E.nilCheck rfl)) ?_
 refine FD.val rfl rfl rfl (fun w' hw'=>(E.fieldAddr tf63_0 rfl)) ?_
 refine FD.val rfl rfl rfl (fun w' hw'=>(E.load rfl (zah Tryz.isAgg22 ((S0.call hw').box_now (i:=0) rfl) rfl))) ?_
 refine FD.val rfl rfl rfl (fun w' hw'=>(E.lenP te22 rfl p0_0)) ?_
 refine FD.val rfl rfl rfl (fun w' hw'=>(E.lss rfl rfl)) ?_
 refine FD.nil ?_
 intro w22 r24
 have S23:=S0.call r24
 obtain ⟨q39,hq,hp⟩:=bndR hp
 refine FW.joinE (S:=Int) (X:=Empty) (q:=q39) (fun s38 f w=>∃ H:GH,St H0 w0 H w (.box b0 63 [v0_0,Value.int .i64 a0.at_,Value.int .u64 a0.seed]::L)∧Inc Ha H∧f 0=Value.pointer (some (⟨b0,0,none⟩:Addr))∧f 3=Value.int .i64 s38) (fun (_:Empty) _ _ _=>False) ?_ ?_ ?_
 ·
  clear hp;have hp:=hq;clear hq
  rcases ifB hp with ⟨c41,hp⟩|⟨c41,hp⟩
  ·
   refine FW.condT rfl c41 ?_
   refine FW.draw (fun w'=>Run w22.heap.size Ha w22 Ha w') (by kernel_rfl) (by kernel_rfl) (zaG S23.sl) ?_
   refine FD.val rfl rfl rfl (fun w' hw'=>(E.move (v:=Value.pointer (some (⟨b0,0,none⟩:Addr))) rfl)) ?_
   refine FD.val rfl rfl rfl (fun w' hw'=>(E.nilCheck rfl)) ?_
   refine FD.val rfl rfl rfl (fun w' hw'=>(E.fieldAddr tf63_0 rfl)) ?_
   refine FD.val rfl rfl rfl (fun w' hw'=>(E.load rfl (zah Tryz.isAgg22 ((S23.call hw').box_now (i:=0) rfl) rfl))) ?_
   refine FD.val rfl rfl rfl (fun w' hw'=>(E.move (v:=Value.pointer (some (⟨b0,0,none⟩:Addr))) rfl)) ?_
   refine FD.val rfl rfl rfl (fun w' hw'=>(E.nilCheck rfl)) ?_
   refine FD.val rfl rfl rfl (fun w' hw'=>(E.fieldAddr tf63_1 rfl)) ?_
   refine FD.val rfl rfl rfl (fun w' hw'=>(E.load rfl (zah Tryz.isAgg3 ((S23.call hw').box_now (i:=0) rfl) rfl))) ?_
   obtain ⟨x49,hx50,hp⟩:=bnd hp
   obtain ⟨p43,cs44,pt45,l46,at47,rel48⟩:=p0_0.at hx50
   obtain rfl:=eN_open rel48
   refine FD.val rfl rfl rfl (fun w' hw'=>(E.indexAddr te22 rfl rfl pt45)) ?_
   refine FD.val rfl rfl rfl (fun w' hw'=>(E.load rfl (zaf Tryz.isAgg5 (at47.now (S23.call hw').sl) rfl))) ?_
   refine FD.val rfl rfl rfl (fun w' hw'=>(E.conv Tryz.runUnderlying5 Tryz.runUnderlying3 rfl)) ?_
   refine FD.val rfl rfl rfl (fun w' hw'=>(E.assign (v:=Value.int .i64 (wrk true 64 x49)) rfl)) ?_
   refine FD.nil ?_
   intro w51 r53
   have S52:=S23.call r53
   obtain rfl:=Option.some.inj hp
   exact ⟨rfl,⟨_,S52,(Inc.rfl _),rfl,rfl⟩⟩
  ·
   refine FW.condF rfl c41 ?_
   refine FW.skip ?_
   obtain rfl:=Option.some.inj hp
   exact ⟨rfl,⟨_,S23,(Inc.rfl _),rfl,rfl⟩⟩
 ·
  rintro s38 rfl f58 w57 ⟨H54,S55,i56,k59,k60⟩
  replace hp:=el_go hp
  refine FW.seq (FW.region ?_)
  refine FL.v (E.move k59) ?_
  refine FL.v (E.nilCheck rfl) ?_
  refine FL.v (E.fieldAddr tf63_1 rfl) ?_
  refine FL.v (E.load rfl (zah Tryz.isAgg3 (S55.box_now (i:=0) rfl) rfl)) ?_
  refine FL.v (E.add rfl rfl) ?_
  refine FL.v (E.nilCheck rfl) ?_
  refine FL.v (E.fieldAddr tf63_1 rfl) ?_
  obtain ⟨w61,run62,S63⟩:=S55.store (P:=Tryz.prog) (t:=3) (i:=0) (j:=1) (cs':=[v0_0,Value.int .i64 (wr (a0.at_ + 1)),Value.int .u64 a0.seed]) (l':=(.box b0 63 [v0_0,Value.int .i64 (wr (a0.at_ + 1)),Value.int .u64 a0.seed]::L)) (v:=Value.int .i64 (wr (a0.at_ + 1))) (c:=[Value.int .i64 (wr (a0.at_ + 1))]) rfl Tryz.sizeOf3 rfl rfl (zac rfl zad) (Nat.le_of_ble_eq_true rfl) rfl rfl
  refine FL.act rfl rfl (E.store rfl rfl run62) ?_
  refine FL.nil (FW.seq (FW.region ?_))
  refine FL.v (E.move k59) ?_
  refine FL.v (E.move k59) ?_
  refine FL.v (E.nilCheck rfl) ?_
  refine FL.v (E.fieldAddr tf63_2 rfl) ?_
  refine FL.v (E.load rfl (zah Tryz.isAgg61 (S63.box_now (i:=0) rfl) rfl)) ?_
  refine FL.v (E.mulK rfl rfl) ?_
  refine FL.v (E.move k60) ?_
  refine FL.v (E.conv Tryz.runUnderlying3 Tryz.runUnderlying61 rfl) ?_
  refine FL.v (E.addK rfl rfl) ?_
  refine FL.v (E.addK rfl rfl) ?_
  refine FL.v (E.nilCheck rfl) ?_
  refine FL.v (E.fieldAddr tf63_2 rfl) ?_
  obtain ⟨w64,run65,S66⟩:=S63.store (P:=Tryz.prog) (t:=61) (i:=0) (j:=2) (cs':=[v0_0,Value.int .i64 (wr (a0.at_ + 1)),Value.int .u64 (wrk false 64 ((wrk false 64 ((wrk false 64 (a0.seed * 6364136223846793005)) + (wrk false 64 s38))) + 337411))]) (l':=(.box b0 63 [v0_0,Value.int .i64 (wr (a0.at_ + 1)),Value.int .u64 (wrk false 64 ((wrk false 64 ((wrk false 64 (a0.seed * 6364136223846793005)) + (wrk false 64 s38))) + 337411))]::L)) (v:=Value.int .u64 (wrk false 64 ((wrk false 64 ((wrk false 64 (a0.seed * 6364136223846793005)) + (wrk false 64 s38))) + 337411))) (c:=[Value.int .u64 (wrk false 64 ((wrk false 64 ((wrk false 64 (a0.seed * 6364136223846793005)) + (wrk false 64 s38))) + 337411))]) rfl Tryz.sizeOf61 rfl rfl (zac rfl zad) (Nat.le_of_ble_eq_true rfl) rfl rfl
  refine FL.act rfl rfl (E.store rfl rfl run65) ?_
  refine FL.nil (FW.seq (FW.seq ?_))
  refine FW.draw (fun w'=>Run w64.heap.size H54 w64 H54 w') (by kernel_rfl) (by kernel_rfl) (zaG S66.sl) ?_
  refine FD.val rfl rfl rfl (fun w' hw'=>(E.move k59)) ?_
  refine FD.val rfl rfl rfl (fun w' hw'=>(E.nilCheck rfl)) ?_
  refine FD.val rfl rfl rfl (fun w' hw'=>(E.fieldAddr tf63_1 rfl)) ?_
  refine FD.val rfl rfl rfl (fun w' hw'=>(E.load rfl (zah Tryz.isAgg3 ((S66.call hw').box_now (i:=0) rfl) rfl))) ?_
  refine FD.val rfl rfl rfl (fun w' hw'=>(E.move k59)) ?_
  refine FD.val rfl rfl rfl (fun w' hw'=>(E.nilCheck rfl)) ?_
  refine FD.val rfl rfl rfl (fun w' hw'=>(E.fieldAddr tf63_0 rfl)) ?_
  refine FD.val rfl rfl rfl (fun w' hw'=>(E.load rfl (zah Tryz.isAgg22 ((S66.call hw').box_now (i:=0) rfl) rfl))) ?_
  refine FD.val rfl rfl rfl (fun w' hw'=>(E.lenP te22 rfl p0_0)) ?_
  refine FD.val rfl rfl rfl (fun w' hw'=>(E.leq rfl rfl)) ?_
  refine FD.nil ?_
  intro w68 r70
  have S69:=S66.call r70
  rcases ifB hp with ⟨c71,hp⟩|⟨c71,hp⟩
  ·
   refine FW.condT rfl c71 ?_
   refine FW.seq (FW.region ?_)
   refine FL.v (E.move k60) ?_
   refine FL.v (E.assign (v:=Value.int .i64 s38) rfl) ?_
   refine FL.nil ?_
   refine FW.ret ?_
   obtain rfl:=Option.some.inj hp
   exact ⟨.inr rfl,res1 rfl rfl ⟨_,_,rfl,⟨S69,i56⟩,(p0_0.mono i56)⟩⟩
  ·
   refine FW.condF rfl c71 ?_
   refine FW.skip (FW.seq (FW.region ?_))
   refine FL.v (E.move k59) ?_
   refine FL.v (E.nilCheck rfl) ?_
   refine FL.v (E.fieldAddr tf63_2 rfl) ?_
   refine FL.v (E.load rfl (zah Tryz.isAgg61 (S69.box_now (i:=0) rfl) rfl)) ?_
   refine FL.v (E.shr rfl rfl (by decide)) ?_
   refine FL.v (E.and rfl rfl) ?_
   refine FL.v (E.conv Tryz.runUnderlying61 Tryz.runUnderlying3 rfl) ?_
   refine FL.v (E.assign (v:=Value.int .i64 (wrk true 64 (andK false 64 (shrK 64 (wrk false 64 ((wrk false 64 ((wrk false 64 (a0.seed * 6364136223846793005)) + (wrk false 64 s38))) + 337411)) 40) 255))) rfl) ?_
   refine FL.nil ?_
   refine FW.ret ?_
   obtain rfl:=Option.some.inj hp
   exact ⟨.inr rfl,res1 rfl rfl ⟨_,_,rfl,⟨S69,i56⟩,(p0_0.mono i56)⟩⟩
 ·
  intro x40;exact x40.elim

@[reducible] def p_spec_l1Cur_pick (H0:GH) (w0:World) (Ha:GH) (L:List MO) (b0:Nat) (r:(Int×l1Cur)):Ending→World→Prop :=
 fun e w'=>∃ H':GH,∃ v0_0r:Value,e=.returned (Value.int .i64 r.1)∧(St H0 w0 H' w' (.box b0 63 [v0_0r,Value.int .i64 r.2.at_,Value.int .u64 r.2.seed]::L)∧Inc Ha H')∧RSl H' (eN .u8) 1 v0_0r r.2.code
theorem zaR {H0 Ha:GH} {w0 wa:World} {L:List MO} {a0:l1Cur} {b0:Nat} {v0_0:Value} (S0:St H0 w0 Ha wa (.box b0 63 [v0_0,Value.int .i64 a0.at_,Value.int .u64 a0.seed]::L)) (p0_0:RSl Ha (eN .u8) 1 v0_0 a0.code) (a1:Int) {r:(Int×l1Cur)} (hp:(PF.zaF a0 a1)=some r) :
  Calls Tryz.prog 74 #[Value.pointer (some (⟨b0,0,none⟩:Addr)),Value.int .i64 a1] wa (p_spec_l1Cur_pick H0 w0 Ha L b0 r):=by
 unfold PF.zaF at hp
 refine zae (N:=20) (args:=[Value.pointer (some (⟨b0,0,none⟩:Addr)),Value.int .i64 a1]) Tryz.func74 rfl rfl rfl ?_
 refine FW.seq (FW.region ?_)
 refine FL.v (E.assign (v:=Value.int .i64 0) rfl) ?_
 refine FL.nil (FW.seq (FW.seq (FW.region ?_)))
 refine FL.v (E.move (v:=Value.int .i64 a1) rfl) ?_
 refine FL.v (E.leq rfl rfl) ?_
 refine FL.nil ?_
 rcases ifB hp with ⟨c21,hp⟩|⟨c21,hp⟩
 ·
  refine FW.condT rfl c21 ?_
  refine FW.seq (FW.region ?_)
  refine FL.v (E.assign (v:=Value.int .i64 0) rfl) ?_
  refine FL.nil ?_
  refine FW.ret ?_
  obtain rfl:=Option.some.inj hp
  exact ⟨.inr rfl,res1 rfl rfl ⟨_,_,rfl,⟨S0,(Inc.rfl _)⟩,p0_0⟩⟩
 ·
  refine FW.condF rfl c21 ?_
  refine FW.skip (FW.seq (FW.region ?_))
  refine FL.v (E.move (v:=Value.pointer (some (⟨b0,0,none⟩:Addr))) rfl) ?_
  obtain ⟨r22,hr23,hp⟩:=bnd hp
  refine FL.call rfl rfl rfl (E.call Tryz.call105 (A1 rfl)) (zeJ (L:=(L)) S0 (a0:=a0) p0_0 hr23) ?_
  rintro e w25 ⟨H24,v28,rfl,⟨S26,i27⟩,h29⟩
  refine ⟨_,rfl,?_⟩
  have S26:St H0 w0 H24 w25 (.box b0 63 [v28,Value.int .i64 r22.2.at_,Value.int .u64 r22.2.seed]::L):=S26
  refine FL.v (E.assign (v:=Value.int .i64 r22.1) rfl) ?_
  refine FL.nil (FW.seq (FW.seq (FW.region ?_)))
  refine FL.v (E.move (v:=Value.int .i64 a1) rfl) ?_
  refine FL.v (E.gtr rfl rfl) ?_
  refine FL.nil ?_
  rcases ifB hp with ⟨c30,hp⟩|⟨c30,hp⟩
  ·
   refine FW.condT rfl c30 ?_
   refine FW.region ?_
   refine FL.v (E.move (v:=Value.int .i64 r22.1) rfl) ?_
   refine FL.v (E.mul rfl rfl) ?_
   refine FL.v (E.move (v:=Value.pointer (some (⟨b0,0,none⟩:Addr))) rfl) ?_
   obtain ⟨r31,hr32,hp⟩:=bnd hp
   refine FL.call rfl rfl rfl (E.call Tryz.call105 (A1 rfl)) (zeJ (L:=(L)) S26 (a0:=r22.2) h29 hr32) ?_
   rintro e w34 ⟨H33,v37,rfl,⟨S35,i36⟩,h38⟩
   refine ⟨_,rfl,?_⟩
   have S35:St H0 w0 H33 w34 (.box b0 63 [v37,Value.int .i64 r31.2.at_,Value.int .u64 r31.2.seed]::L):=S35
   refine FL.v (E.add rfl rfl) ?_
   refine FL.v (E.assign (v:=Value.int .i64 (wr ((wr (r22.1 * 256)) + r31.1))) rfl) ?_
   refine FL.nil (FW.seq (FW.region ?_))
   refine FL.v (E.move (v:=Value.int .i64 (wr ((wr (r22.1 * 256)) + r31.1))) rfl) ?_
   refine FL.v (E.move (v:=Value.int .i64 a1) rfl) ?_
   obtain ⟨u40,z39,hp⟩:=bnd hp
   refine FL.v (E.rem rfl rfl (nz_ne z39)) ?_
   refine FL.v (E.assign (v:=Value.int .i64 ((wr ((wr (r22.1 * 256)) + r31.1)).tmod a1)) rfl) ?_
   refine FL.nil ?_
   refine FW.ret ?_
   obtain rfl:=Option.some.inj hp
   exact ⟨.inr rfl,res1 rfl rfl ⟨_,_,rfl,⟨S35,(i27.tr i36)⟩,h38⟩⟩
  ·
   refine FW.condF rfl c30 ?_
   refine FW.skip (FW.seq (FW.region ?_))
   refine FL.v (E.move (v:=Value.int .i64 r22.1) rfl) ?_
   refine FL.v (E.move (v:=Value.int .i64 a1) rfl) ?_
   obtain ⟨u42,z41,hp⟩:=bnd hp
   refine FL.v (E.rem rfl rfl (nz_ne z41)) ?_
   refine FL.v (E.assign (v:=Value.int .i64 (r22.1.tmod a1)) rfl) ?_
   refine FL.nil ?_
   refine FW.ret ?_
   obtain rfl:=Option.some.inj hp
   exact ⟨.inr rfl,res1 rfl rfl ⟨_,_,rfl,⟨S26,i27⟩,h29⟩⟩

@[reducible] def p_spec_l1Cur_one (H0:GH) (w0:World) (Ha:GH) (L:List MO) (b0:Nat) (r:(Bool×l1Cur)):Ending→World→Prop :=
 fun e w'=>∃ H':GH,∃ v0_0r:Value,e=.returned (Value.bool r.1)∧(St H0 w0 H' w' (.box b0 63 [v0_0r,Value.int .i64 r.2.at_,Value.int .u64 r.2.seed]::L)∧Inc Ha H')∧RSl H' (eN .u8) 1 v0_0r r.2.code
theorem zcl {H0 Ha:GH} {w0 wa:World} {L:List MO} {a0:l1Cur} {b0:Nat} {v0_0:Value} (S0:St H0 w0 Ha wa (.box b0 63 [v0_0,Value.int .i64 a0.at_,Value.int .u64 a0.seed]::L)) (p0_0:RSl Ha (eN .u8) 1 v0_0 a0.code) (a1:Int) {r:(Bool×l1Cur)} (hp:(PF.za3 a0 a1)=some r) :
  Calls Tryz.prog 80 #[Value.pointer (some (⟨b0,0,none⟩:Addr)),Value.int .i64 a1] wa (p_spec_l1Cur_one H0 w0 Ha L b0 r):=by
 unfold PF.za3 at hp
 refine zae (N:=9) (args:=[Value.pointer (some (⟨b0,0,none⟩:Addr)),Value.int .i64 a1]) Tryz.func80 rfl rfl rfl ?_
 refine FW.seq (FW.region ?_)
 refine FL.v (E.assign (v:=Value.bool false) rfl) ?_
 refine FL.nil (FW.seq (FW.region ?_))
 refine FL.v (E.move (v:=Value.pointer (some (⟨b0,0,none⟩:Addr))) rfl) ?_
 refine FL.v (E.move (v:=Value.int .i64 a1) rfl) ?_
 obtain ⟨r21,hr22,hp⟩:=bnd hp
 refine FL.call rfl rfl rfl (E.call Tryz.call74 (A2 rfl rfl)) (zaR (L:=(L)) S0 (a0:=a0) p0_0 a1 hr22) ?_
 rintro e w24 ⟨H23,v27,rfl,⟨S25,i26⟩,h28⟩
 refine ⟨_,rfl,?_⟩
 have S25:St H0 w0 H23 w24 (.box b0 63 [v27,Value.int .i64 r21.2.at_,Value.int .u64 r21.2.seed]::L):=S25
 refine FL.v (E.eql rfl rfl) ?_
 refine FL.v (E.assign (v:=Value.bool (r21.1 == 0)) rfl) ?_
 refine FL.nil ?_
 refine FW.ret ?_
 obtain rfl:=Option.some.inj hp
 exact ⟨.inr rfl,res1 rfl rfl ⟨_,_,rfl,⟨S25,i26⟩,h28⟩⟩

@[reducible] def p_spec_l2Hard (Ha:GH) (wa:World) (r:(List ByteArray)):Ending→World→Prop :=
 fun e w'=>∃ H':GH,∃ v0:Value,∃ n0:Nat,∃ c0:List Value,e=.returned (v0)∧St Ha wa H' w' [.row 9 1 v0 n0 c0]∧Els (up wa.heap.size H') eS 1 c0 r
theorem w_spec_l2Hard {Ha:GH} {wa:World} (hs:Sl Ha wa)  :
  Calls Tryz.prog 115 #[] wa (p_spec_l2Hard Ha wa PF.zbv):=by
 obtain ⟨r,hp⟩:∃ r,PF.zbv=r:=⟨_,rfl⟩
 rw [hp]
 unfold PF.zbv at hp
 have S0:=St.init hs
 refine zae (N:=2) (args:=[]) Tryz.func115 rfl rfl rfl ?_
 refine FW.seq (FW.region ?_)
 refine FL.v (E.assign (v:=Value.slice none 0 0) rfl) ?_
 refine FL.nil (FW.seq (FW.region ?_))
 obtain ⟨v21,w22,run23,S24⟩:=S0.buildSlice (P:=Tryz.prog) te114 [Value.string (ByteArray.mk #[49,59,32,49,59,32,45,49]),Value.string (ByteArray.mk #[50,59,32,49,32,50,59,32,49,32,45,50,59,32,45,49,32,50,59,32,45,49,32,45,50]),Value.string (ByteArray.mk #[48,59,32,110,111,110,101]),Value.string (ByteArray.mk #[50,59,32,49,59,32,45,49,32,50,59,32,45,50]),Value.string (ByteArray.mk #[51,59,32,49,59,32,45,49,32,50,59,32,45,50,32,51,59,32,45,51]),Value.string (ByteArray.mk #[51,59,32,49,32,50,59,32,45,49,32,51,59,32,45,50,32,51,59,32,45,51]),Value.string (ByteArray.mk #[51,59,32,49,32,50,59,32,45,49,32,50,59,32,45,50,32,51,59,32,45,50,32,45,51]),Value.string (ByteArray.mk #[51,59,32,49,32,50,32,51,59,32,49,32,50,32,45,51,59,32,49,32,45,50,59,32,45,49,32,51,59,32,45,49,32,45,51]),Value.string (ByteArray.mk #[50,59,32,49,32,50,59,32,45,49,59,32,45,50,59,32,49,32,45,50]),Value.string (ByteArray.mk #[52,59,32,49,32,50,59,32,51,32,52,59,32,45,49,32,45,51,59,32,45,50,32,45,52,59,32,45,49,32,45,52,59,32,45,50,32,45,51]),Value.string (ByteArray.mk #[51,59,32,49,32,50,59,32,50,32,51,59,32,49,32,51,59,32,45,49,32,45,50,59,32,45,50,32,45,51,59,32,45,49,32,45,51]),Value.string (ByteArray.mk #[52,59,32,49,59,32,50,59,32,45,49,32,45,50,32,51,59,32,45,51,32,52,59,32,45,52]),Value.string (ByteArray.mk #[51,59,32,49,32,45,50,59,32,50,32,45,51,59,32,51,32,45,49,59,32,49,32,50,32,51,59,32,45,49,32,45,50,32,45,51]),Value.string (ByteArray.mk #[52,59,32,49,32,50,59,32,45,49,32,45,50,59,32,50,32,51,59,32,45,50,32,45,51,59,32,51,32,52,59,32,45,51,32,45,52,59,32,49,32,52,32,45,51,59,32,45,49,32,45,52,59,32,49,32,45,52,59,32,45,49,32,52]),Value.string (ByteArray.mk #[50,59,32,49,59,32,45,49,59,32,50])] (parts:=#[(0,Value.string (ByteArray.mk #[49,59,32,49,59,32,45,49])),(1,Value.string (ByteArray.mk #[50,59,32,49,32,50,59,32,49,32,45,50,59,32,45,49,32,50,59,32,45,49,32,45,50])),(2,Value.string (ByteArray.mk #[48,59,32,110,111,110,101])),(3,Value.string (ByteArray.mk #[50,59,32,49,59,32,45,49,32,50,59,32,45,50])),(4,Value.string (ByteArray.mk #[51,59,32,49,59,32,45,49,32,50,59,32,45,50,32,51,59,32,45,51])),(5,Value.string (ByteArray.mk #[51,59,32,49,32,50,59,32,45,49,32,51,59,32,45,50,32,51,59,32,45,51])),(6,Value.string (ByteArray.mk #[51,59,32,49,32,50,59,32,45,49,32,50,59,32,45,50,32,51,59,32,45,50,32,45,51])),(7,Value.string (ByteArray.mk #[51,59,32,49,32,50,32,51,59,32,49,32,50,32,45,51,59,32,49,32,45,50,59,32,45,49,32,51,59,32,45,49,32,45,51])),(8,Value.string (ByteArray.mk #[50,59,32,49,32,50,59,32,45,49,59,32,45,50,59,32,49,32,45,50])),(9,Value.string (ByteArray.mk #[52,59,32,49,32,50,59,32,51,32,52,59,32,45,49,32,45,51,59,32,45,50,32,45,52,59,32,45,49,32,45,52,59,32,45,50,32,45,51])),(10,Value.string (ByteArray.mk #[51,59,32,49,32,50,59,32,50,32,51,59,32,49,32,51,59,32,45,49,32,45,50,59,32,45,50,32,45,51,59,32,45,49,32,45,51])),(11,Value.string (ByteArray.mk #[52,59,32,49,59,32,50,59,32,45,49,32,45,50,32,51,59,32,45,51,32,52,59,32,45,52])),(12,Value.string (ByteArray.mk #[51,59,32,49,32,45,50,59,32,50,32,45,51,59,32,51,32,45,49,59,32,49,32,50,32,51,59,32,45,49,32,45,50,32,45,51])),(13,Value.string (ByteArray.mk #[52,59,32,49,32,50,59,32,45,49,32,45,50,59,32,50,32,51,59,32,45,50,32,45,51,59,32,51,32,52,59,32,45,51,32,45,52,59,32,49,32,52,32,45,51,59,32,45,49,32,45,52,59,32,49,32,45,52,59,32,45,49,32,52])),(14,Value.string (ByteArray.mk #[50,59,32,49,59,32,45,49,59,32,50]))]) (cells:=[Value.string (ByteArray.mk #[49,59,32,49,59,32,45,49]),Value.string (ByteArray.mk #[50,59,32,49,32,50,59,32,49,32,45,50,59,32,45,49,32,50,59,32,45,49,32,45,50]),Value.string (ByteArray.mk #[48,59,32,110,111,110,101]),Value.string (ByteArray.mk #[50,59,32,49,59,32,45,49,32,50,59,32,45,50]),Value.string (ByteArray.mk #[51,59,32,49,59,32,45,49,32,50,59,32,45,50,32,51,59,32,45,51]),Value.string (ByteArray.mk #[51,59,32,49,32,50,59,32,45,49,32,51,59,32,45,50,32,51,59,32,45,51]),Value.string (ByteArray.mk #[51,59,32,49,32,50,59,32,45,49,32,50,59,32,45,50,32,51,59,32,45,50,32,45,51]),Value.string (ByteArray.mk #[51,59,32,49,32,50,32,51,59,32,49,32,50,32,45,51,59,32,49,32,45,50,59,32,45,49,32,51,59,32,45,49,32,45,51]),Value.string (ByteArray.mk #[50,59,32,49,32,50,59,32,45,49,59,32,45,50,59,32,49,32,45,50]),Value.string (ByteArray.mk #[52,59,32,49,32,50,59,32,51,32,52,59,32,45,49,32,45,51,59,32,45,50,32,45,52,59,32,45,49,32,45,52,59,32,45,50,32,45,51]),Value.string (ByteArray.mk #[51,59,32,49,32,50,59,32,50,32,51,59,32,49,32,51,59,32,45,49,32,45,50,59,32,45,50,32,45,51,59,32,45,49,32,45,51]),Value.string (ByteArray.mk #[52,59,32,49,59,32,50,59,32,45,49,32,45,50,32,51,59,32,45,51,32,52,59,32,45,52]),Value.string (ByteArray.mk #[51,59,32,49,32,45,50,59,32,50,32,45,51,59,32,51,32,45,49,59,32,49,32,50,32,51,59,32,45,49,32,45,50,32,45,51]),Value.string (ByteArray.mk #[52,59,32,49,32,50,59,32,45,49,32,45,50,59,32,50,32,51,59,32,45,50,32,45,51,59,32,51,32,52,59,32,45,51,32,45,52,59,32,49,32,52,32,45,51,59,32,45,49,32,45,52,59,32,49,32,45,52,59,32,45,49,32,52]),Value.string (ByteArray.mk #[50,59,32,49,59,32,45,49,59,32,50])]) rfl (zat rfl (zat rfl (zat rfl (zat rfl (zat rfl (zat rfl (zat rfl (zat rfl (zat rfl (zat rfl (zat rfl (zat rfl (zat rfl (zat rfl (zat rfl zao))))))))))))))) (zas rfl (zas rfl (zas rfl (zas rfl (zas rfl (zas rfl (zas rfl (zas rfl (zas rfl (zas rfl (zas rfl (zas rfl (zas rfl (zas rfl (zas rfl zan))))))))))))))) (zac rfl (zac rfl (zac rfl (zac rfl (zac rfl (zac rfl (zac rfl (zac rfl (zac rfl (zac rfl (zac rfl (zac rfl (zac rfl (zac rfl (zac rfl zad))))))))))))))) (Nat.le_of_ble_eq_true rfl)
 have els25:Els (up wa.heap.size Ha) eS 1 [Value.string (ByteArray.mk #[49,59,32,49,59,32,45,49]),Value.string (ByteArray.mk #[50,59,32,49,32,50,59,32,49,32,45,50,59,32,45,49,32,50,59,32,45,49,32,45,50]),Value.string (ByteArray.mk #[48,59,32,110,111,110,101]),Value.string (ByteArray.mk #[50,59,32,49,59,32,45,49,32,50,59,32,45,50]),Value.string (ByteArray.mk #[51,59,32,49,59,32,45,49,32,50,59,32,45,50,32,51,59,32,45,51]),Value.string (ByteArray.mk #[51,59,32,49,32,50,59,32,45,49,32,51,59,32,45,50,32,51,59,32,45,51]),Value.string (ByteArray.mk #[51,59,32,49,32,50,59,32,45,49,32,50,59,32,45,50,32,51,59,32,45,50,32,45,51]),Value.string (ByteArray.mk #[51,59,32,49,32,50,32,51,59,32,49,32,50,32,45,51,59,32,49,32,45,50,59,32,45,49,32,51,59,32,45,49,32,45,51]),Value.string (ByteArray.mk #[50,59,32,49,32,50,59,32,45,49,59,32,45,50,59,32,49,32,45,50]),Value.string (ByteArray.mk #[52,59,32,49,32,50,59,32,51,32,52,59,32,45,49,32,45,51,59,32,45,50,32,45,52,59,32,45,49,32,45,52,59,32,45,50,32,45,51]),Value.string (ByteArray.mk #[51,59,32,49,32,50,59,32,50,32,51,59,32,49,32,51,59,32,45,49,32,45,50,59,32,45,50,32,45,51,59,32,45,49,32,45,51]),Value.string (ByteArray.mk #[52,59,32,49,59,32,50,59,32,45,49,32,45,50,32,51,59,32,45,51,32,52,59,32,45,52]),Value.string (ByteArray.mk #[51,59,32,49,32,45,50,59,32,50,32,45,51,59,32,51,32,45,49,59,32,49,32,50,32,51,59,32,45,49,32,45,50,32,45,51]),Value.string (ByteArray.mk #[52,59,32,49,32,50,59,32,45,49,32,45,50,59,32,50,32,51,59,32,45,50,32,45,51,59,32,51,32,52,59,32,45,51,32,45,52,59,32,49,32,52,32,45,51,59,32,45,49,32,45,52,59,32,49,32,45,52,59,32,45,49,32,52]),Value.string (ByteArray.mk #[50,59,32,49,59,32,45,49,59,32,50])] [(ByteArray.mk #[49,59,32,49,59,32,45,49]),(ByteArray.mk #[50,59,32,49,32,50,59,32,49,32,45,50,59,32,45,49,32,50,59,32,45,49,32,45,50]),(ByteArray.mk #[48,59,32,110,111,110,101]),(ByteArray.mk #[50,59,32,49,59,32,45,49,32,50,59,32,45,50]),(ByteArray.mk #[51,59,32,49,59,32,45,49,32,50,59,32,45,50,32,51,59,32,45,51]),(ByteArray.mk #[51,59,32,49,32,50,59,32,45,49,32,51,59,32,45,50,32,51,59,32,45,51]),(ByteArray.mk #[51,59,32,49,32,50,59,32,45,49,32,50,59,32,45,50,32,51,59,32,45,50,32,45,51]),(ByteArray.mk #[51,59,32,49,32,50,32,51,59,32,49,32,50,32,45,51,59,32,49,32,45,50,59,32,45,49,32,51,59,32,45,49,32,45,51]),(ByteArray.mk #[50,59,32,49,32,50,59,32,45,49,59,32,45,50,59,32,49,32,45,50]),(ByteArray.mk #[52,59,32,49,32,50,59,32,51,32,52,59,32,45,49,32,45,51,59,32,45,50,32,45,52,59,32,45,49,32,45,52,59,32,45,50,32,45,51]),(ByteArray.mk #[51,59,32,49,32,50,59,32,50,32,51,59,32,49,32,51,59,32,45,49,32,45,50,59,32,45,50,32,45,51,59,32,45,49,32,45,51]),(ByteArray.mk #[52,59,32,49,59,32,50,59,32,45,49,32,45,50,32,51,59,32,45,51,32,52,59,32,45,52]),(ByteArray.mk #[51,59,32,49,32,45,50,59,32,50,32,45,51,59,32,51,32,45,49,59,32,49,32,50,32,51,59,32,45,49,32,45,50,32,45,51]),(ByteArray.mk #[52,59,32,49,32,50,59,32,45,49,32,45,50,59,32,50,32,51,59,32,45,50,32,45,51,59,32,51,32,52,59,32,45,51,32,45,52,59,32,49,32,52,32,45,51,59,32,45,49,32,45,52,59,32,49,32,45,52,59,32,45,49,32,52]),(ByteArray.mk #[50,59,32,49,59,32,45,49,59,32,50])]:=(Els.snoc (H:=(up wa.heap.size Ha)) (E:=eS) (k:=1) (c:=[Value.string (ByteArray.mk #[50,59,32,49,59,32,45,49,59,32,50])]) (x:=(ByteArray.mk #[50,59,32,49,59,32,45,49,59,32,50])) (Els.snoc (H:=(up wa.heap.size Ha)) (E:=eS) (k:=1) (c:=[Value.string (ByteArray.mk #[52,59,32,49,32,50,59,32,45,49,32,45,50,59,32,50,32,51,59,32,45,50,32,45,51,59,32,51,32,52,59,32,45,51,32,45,52,59,32,49,32,52,32,45,51,59,32,45,49,32,45,52,59,32,49,32,45,52,59,32,45,49,32,52])]) (x:=(ByteArray.mk #[52,59,32,49,32,50,59,32,45,49,32,45,50,59,32,50,32,51,59,32,45,50,32,45,51,59,32,51,32,52,59,32,45,51,32,45,52,59,32,49,32,52,32,45,51,59,32,45,49,32,45,52,59,32,49,32,45,52,59,32,45,49,32,52])) (Els.snoc (H:=(up wa.heap.size Ha)) (E:=eS) (k:=1) (c:=[Value.string (ByteArray.mk #[51,59,32,49,32,45,50,59,32,50,32,45,51,59,32,51,32,45,49,59,32,49,32,50,32,51,59,32,45,49,32,45,50,32,45,51])]) (x:=(ByteArray.mk #[51,59,32,49,32,45,50,59,32,50,32,45,51,59,32,51,32,45,49,59,32,49,32,50,32,51,59,32,45,49,32,45,50,32,45,51])) (Els.snoc (H:=(up wa.heap.size Ha)) (E:=eS) (k:=1) (c:=[Value.string (ByteArray.mk #[52,59,32,49,59,32,50,59,32,45,49,32,45,50,32,51,59,32,45,51,32,52,59,32,45,52])]) (x:=(ByteArray.mk #[52,59,32,49,59,32,50,59,32,45,49,32,45,50,32,51,59,32,45,51,32,52,59,32,45,52])) (Els.snoc (H:=(up wa.heap.size Ha)) (E:=eS) (k:=1) (c:=[Value.string (ByteArray.mk #[51,59,32,49,32,50,59,32,50,32,51,59,32,49,32,51,59,32,45,49,32,45,50,59,32,45,50,32,45,51,59,32,45,49,32,45,51])]) (x:=(ByteArray.mk #[51,59,32,49,32,50,59,32,50,32,51,59,32,49,32,51,59,32,45,49,32,45,50,59,32,45,50,32,45,51,59,32,45,49,32,45,51])) (Els.snoc (H:=(up wa.heap.size Ha)) (E:=eS) (k:=1) (c:=[Value.string (ByteArray.mk #[52,59,32,49,32,50,59,32,51,32,52,59,32,45,49,32,45,51,59,32,45,50,32,45,52,59,32,45,49,32,45,52,59,32,45,50,32,45,51])]) (x:=(ByteArray.mk #[52,59,32,49,32,50,59,32,51,32,52,59,32,45,49,32,45,51,59,32,45,50,32,45,52,59,32,45,49,32,45,52,59,32,45,50,32,45,51])) (Els.snoc (H:=(up wa.heap.size Ha)) (E:=eS) (k:=1) (c:=[Value.string (ByteArray.mk #[50,59,32,49,32,50,59,32,45,49,59,32,45,50,59,32,49,32,45,50])]) (x:=(ByteArray.mk #[50,59,32,49,32,50,59,32,45,49,59,32,45,50,59,32,49,32,45,50])) (Els.snoc (H:=(up wa.heap.size Ha)) (E:=eS) (k:=1) (c:=[Value.string (ByteArray.mk #[51,59,32,49,32,50,32,51,59,32,49,32,50,32,45,51,59,32,49,32,45,50,59,32,45,49,32,51,59,32,45,49,32,45,51])]) (x:=(ByteArray.mk #[51,59,32,49,32,50,32,51,59,32,49,32,50,32,45,51,59,32,49,32,45,50,59,32,45,49,32,51,59,32,45,49,32,45,51])) (Els.snoc (H:=(up wa.heap.size Ha)) (E:=eS) (k:=1) (c:=[Value.string (ByteArray.mk #[51,59,32,49,32,50,59,32,45,49,32,50,59,32,45,50,32,51,59,32,45,50,32,45,51])]) (x:=(ByteArray.mk #[51,59,32,49,32,50,59,32,45,49,32,50,59,32,45,50,32,51,59,32,45,50,32,45,51])) (Els.snoc (H:=(up wa.heap.size Ha)) (E:=eS) (k:=1) (c:=[Value.string (ByteArray.mk #[51,59,32,49,32,50,59,32,45,49,32,51,59,32,45,50,32,51,59,32,45,51])]) (x:=(ByteArray.mk #[51,59,32,49,32,50,59,32,45,49,32,51,59,32,45,50,32,51,59,32,45,51])) (Els.snoc (H:=(up wa.heap.size Ha)) (E:=eS) (k:=1) (c:=[Value.string (ByteArray.mk #[51,59,32,49,59,32,45,49,32,50,59,32,45,50,32,51,59,32,45,51])]) (x:=(ByteArray.mk #[51,59,32,49,59,32,45,49,32,50,59,32,45,50,32,51,59,32,45,51])) (Els.snoc (H:=(up wa.heap.size Ha)) (E:=eS) (k:=1) (c:=[Value.string (ByteArray.mk #[50,59,32,49,59,32,45,49,32,50,59,32,45,50])]) (x:=(ByteArray.mk #[50,59,32,49,59,32,45,49,32,50,59,32,45,50])) (Els.snoc (H:=(up wa.heap.size Ha)) (E:=eS) (k:=1) (c:=[Value.string (ByteArray.mk #[48,59,32,110,111,110,101])]) (x:=(ByteArray.mk #[48,59,32,110,111,110,101])) (Els.snoc (H:=(up wa.heap.size Ha)) (E:=eS) (k:=1) (c:=[Value.string (ByteArray.mk #[50,59,32,49,32,50,59,32,49,32,45,50,59,32,45,49,32,50,59,32,45,49,32,45,50])]) (x:=(ByteArray.mk #[50,59,32,49,32,50,59,32,49,32,45,50,59,32,45,49,32,50,59,32,45,49,32,45,50])) (Els.snoc (H:=(up wa.heap.size Ha)) (E:=eS) (k:=1) (c:=[Value.string (ByteArray.mk #[49,59,32,49,59,32,45,49])]) (x:=(ByteArray.mk #[49,59,32,49,59,32,45,49])) Els.nil rfl rfl) rfl rfl) rfl rfl) rfl rfl) rfl rfl) rfl rfl) rfl rfl) rfl rfl) rfl rfl) rfl rfl) rfl rfl) rfl rfl) rfl rfl) rfl rfl) rfl rfl)
 refine FL.v (E.buildSlice (B15 rfl rfl rfl rfl rfl rfl rfl rfl rfl rfl rfl rfl rfl rfl rfl) run23) ?_
 refine FL.v (E.assign (v:=v21) rfl) ?_
 refine FL.nil ?_
 refine FW.ret ?_
 obtain rfl:=hp
 exact ⟨.inr rfl,res1 rfl rfl ⟨_,_,_,_,rfl,S24,els25⟩⟩

@[reducible] def p_spec_l1Cur_of (H0:GH) (w0:World) (Ha:GH) (L:List MO) (b0:Nat) (r:(ByteArray×l1Cur)):Ending→World→Prop :=
 fun e w'=>∃ H':GH,∃ v0_0r:Value,e=.returned (Value.string r.1)∧(St H0 w0 H' w' (.box b0 63 [v0_0r,Value.int .i64 r.2.at_,Value.int .u64 r.2.seed]::L)∧Inc Ha H')∧RSl H' (eN .u8) 1 v0_0r r.2.code
theorem w_spec_l1Cur_of {H0 Ha:GH} {w0 wa:World} {L:List MO} {a0:l1Cur} {b0:Nat} {v0_0:Value} (S0:St H0 w0 Ha wa (.box b0 63 [v0_0,Value.int .i64 a0.at_,Value.int .u64 a0.seed]::L)) (p0_0:RSl Ha (eN .u8) 1 v0_0 a0.code) (v1:Value) (a1:List ByteArray) (p1:RSl Ha eS 1 v1 a1) {r:(ByteArray×l1Cur)} (hp:(PF.zc7 a0 a1)=some r) :
  Calls Tryz.prog 114 #[Value.pointer (some (⟨b0,0,none⟩:Addr)),v1] wa (p_spec_l1Cur_of H0 w0 Ha L b0 r):=by
 unfold PF.zc7 at hp
 refine zae (N:=12) (args:=[Value.pointer (some (⟨b0,0,none⟩:Addr)),v1]) Tryz.func114 rfl rfl rfl ?_
 refine FW.seq (FW.region ?_)
 refine FL.v (E.assign (v:=Value.string (ByteArray.mk #[])) rfl) ?_
 refine FL.nil (FW.seq (FW.region ?_))
 refine FL.v (E.move (v:=v1) rfl) ?_
 refine FL.v (E.move (v:=Value.pointer (some (⟨b0,0,none⟩:Addr))) rfl) ?_
 refine FL.v (E.move (v:=v1) rfl) ?_
 refine FL.v (E.lenP te114 rfl p1) ?_
 obtain ⟨r21,hr22,hp⟩:=bnd hp
 refine FL.call rfl rfl rfl (E.call Tryz.call74 (A2 rfl rfl)) (zaR (L:=(L)) S0 (a0:=a0) p0_0 (len a1) hr22) ?_
 rintro e w24 ⟨H23,v27,rfl,⟨S25,i26⟩,h28⟩
 refine ⟨_,rfl,?_⟩
 have S25:St H0 w0 H23 w24 (.box b0 63 [v27,Value.int .i64 r21.2.at_,Value.int .u64 r21.2.seed]::L):=S25
 obtain ⟨x35,hx36,hp⟩:=bnd hp
 obtain ⟨p29,cs30,pt31,l32,at33,rel34⟩:=p1.at hx36
 obtain rfl:=eS_open rel34
 refine FL.v (E.indexAddr te114 rfl rfl pt31) ?_
 refine FL.v (E.load rfl (zaf Tryz.isAgg9 ((at33.mono i26).now S25.sl) rfl)) ?_
 refine FL.v (E.assign (v:=Value.string x35) rfl) ?_
 refine FL.nil ?_
 refine FW.ret ?_
 obtain rfl:=Option.some.inj hp
 exact ⟨.inr rfl,res1 rfl rfl ⟨_,_,rfl,⟨S25,i26⟩,h28⟩⟩

@[reducible] def p_spec_l1Split (Ha:GH) (wa:World) (r:(List ByteArray)):Ending→World→Prop :=
 fun e w'=>∃ H':GH,∃ v0:Value,∃ n0:Nat,∃ c0:List Value,e=.returned (v0)∧St Ha wa H' w' [.row 9 1 v0 n0 c0]∧Els (up wa.heap.size H') eS 1 c0 r
set_option maxHeartbeats 4000000 in
theorem zeK {Ha:GH} {wa:World} (hs:Sl Ha wa) (a0:ByteArray) (a1:Int) {r:(List ByteArray)} (hp:(PF.zcu a0 a1)=some r) :
  Calls Tryz.prog 144 #[Value.string a0,Value.int .u8 a1] wa (p_spec_l1Split Ha wa r):=by
 unfold PF.zcu at hp
 have S0:=St.init hs
 refine zae (N:=35) (args:=[Value.string a0,Value.int .u8 a1]) Tryz.func144 rfl rfl rfl ?_
 refine FW.seq (FW.region ?_)
 refine FL.v (E.assign (v:=Value.slice none 0 0) rfl) ?_
 refine FL.nil (FW.seq (FW.region ?_))
 obtain ⟨v21,w22,run23,S24⟩:=S0.buildSlice (P:=Tryz.prog) te114 [] (parts:=#[]) (cells:=[]) rfl zao zan zad (Nat.le_of_ble_eq_true rfl)
 have els25:Els (up wa.heap.size Ha) eS 1 [] []:=Els.nil
 refine FL.v (E.buildSlice (B0) run23) ?_
 refine FL.v (E.assign (v:=v21) rfl) ?_
 refine FL.nil (FW.seq (FW.region ?_))
 refine FL.v (E.assign (v:=Value.int .i64 0) rfl) ?_
 refine FL.nil (FW.seq (FW.seq (FW.region ?_)))
 refine FL.v (E.assign (v:=Value.int .i64 0) rfl) ?_
 refine FL.nil ?_
 obtain ⟨m26,hchk27,hp⟩:=bnd hp
 obtain ⟨q27,hq,hp⟩:=bndR hp
 refine FW.block ?_
 refine FW.mono (FW.forR (S:=((List ByteArray)×Int)) (X:=Empty) (fun (i27:Nat) (s27:((List ByteArray)×Int)) f w=>∃ H:GH,∃ v28:Value,∃ n29:Nat,∃ cs30:List Value,St Ha wa H w [.row 9 1 v28 n29 cs30]∧Inc Ha H∧Els (up wa.heap.size H) eS 1 cs30 s27.1∧f 7=Value.int .i64 ((i27:Nat):Int)∧f 0=Value.string a0∧f 1=Value.int .u8 a1∧f 5=v28∧f 6=Value.int .i64 s27.2) (fun (q:Rs ((List ByteArray)×Int) Empty) e f w=>match q with|.go s27=>e=Exit.exit 0∧(∃ H:GH,∃ v28:Value,∃ n29:Nat,∃ cs30:List Value,St Ha wa H w [.row 9 1 v28 n29 cs30]∧Inc Ha H∧Els (up wa.heap.size H) eS 1 cs30 s27.1∧f 0=Value.string a0∧f 5=v28∧f 6=Value.int .i64 s27.2)|.rt x=>x.elim) hq ⟨_,_,_,_,S24,(Inc.rfl _),els25,rfl,rfl,rfl,rfl,rfl⟩ ?_ ?_) ?_
 ·
  clear hp hq
  rintro i27 s27 f67 w66 ⟨H63,v28,n29,cs30,S64,i65,els31,k68,k69,k70,k71,k72⟩ hi27 hj27 o94 hp
  refine FW.seq (FW.seq (FW.region ?_))
  refine FL.v (E.move k68) ?_
  refine FL.v (E.move k69) ?_
  refine FL.v (E.lenS Tryz.runUnderlying9 rfl) ?_
  refine FL.v (E.lssT rfl rfl (lss_chk hj27 hchk27)) ?_
  refine FL.nil ?_
  refine FW.condT rfl rfl ?_
  refine FW.skip (FW.seq (FW.block (FW.seq (FW.region ?_))))
  refine FL.v (E.move k69) ?_
  refine FL.v (E.move k68) ?_
  obtain ⟨z73,h74,hp⟩:=bnd hp
  refine FL.v (E.ixS Tryz.runUnderlying9 rfl rfl h74) ?_
  refine FL.v (E.move k70) ?_
  refine FL.v (E.eql rfl rfl) ?_
  refine FL.nil ?_
  rcases ifB hp with ⟨c75,hp⟩|⟨c75,hp⟩
  ·
   refine FW.condT rfl c75 ?_
   refine FW.seq (FW.region ?_)
   refine FL.v (E.move k71) ?_
   refine FL.v (E.move k69) ?_
   refine FL.v (E.move k72) ?_
   refine FL.v (E.move k68) ?_
   obtain ⟨z76,h77,hp⟩:=bnd hp
   refine FL.v (E.cutS (kl:=.i64) (kh:=.i64) Tryz.underlying9 rfl (.inr ⟨_,rfl,rfl⟩) (.inr ⟨_,rfl,rfl⟩) h77) ?_
   obtain ⟨v78,w79,run80,S81⟩:=S64.buildSlice (P:=Tryz.prog) te114 [Value.string z76] (parts:=#[(0,Value.string z76)]) (cells:=[Value.string z76]) rfl (zat rfl zao) (zas rfl zan) (zac rfl zad) (Nat.le_of_ble_eq_true rfl)
   have els82:Els (up wa.heap.size H63) eS 1 [Value.string z76] [z76]:=(Els.snoc (H:=(up wa.heap.size H63)) (E:=eS) (k:=1) (c:=[Value.string z76]) (x:=z76) Els.nil rfl rfl)
   refine FL.v (E.buildSlice (B1 rfl) run80) ?_
   obtain ⟨xs83,hz84,hp⟩:=bnd hp
   obtain ⟨v85,w88,n86,cs87,run89,S90,els91,ce92⟩:=S81.appendO (P:=Tryz.prog) te114 (i:=1) (j:=0) rfl els31 rfl els82 hz84
   have S90:St Ha wa H63 w88 [.row 9 1 v78 1 [Value.string z76],.row 9 1 v85 n86 cs87]:=S90
   have S93:St Ha wa H63 w88 [.row 9 1 v85 n86 cs87]:=S90.drop 0
   refine FL.v (E.append rfl rfl run89) ?_
   refine FL.v (E.assign (v:=v85) rfl) ?_
   refine FL.nil (FW.region ?_)
   refine FL.v (E.move k68) ?_
   refine FL.v (E.add rfl rfl) ?_
   refine FL.v (E.assign (v:=Value.int .i64 (wr (((i27:Nat):Int) + 1))) rfl) ?_
   refine FL.nil (FW.region ?_)
   refine FL.v (E.move k68) ?_
   refine FL.v (E.add rfl rfl) ?_
   refine FL.v (E.assign (v:=Value.int .i64 (wr (((i27:Nat):Int) + 1))) rfl) ?_
   refine FL.nil ?_
   obtain rfl:=Option.some.inj hp
   exact ⟨rfl,⟨_,_,_,_,S93,i65,els91,(zap rfl hj27 (chk_le hchk27)),k69,k70,rfl,rfl⟩⟩
  ·
   refine FW.condF rfl c75 ?_
   refine FW.skip (FW.region ?_)
   refine FL.v (E.move k68) ?_
   refine FL.v (E.add rfl rfl) ?_
   refine FL.v (E.assign (v:=Value.int .i64 (wr (((i27:Nat):Int) + 1))) rfl) ?_
   refine FL.nil ?_
   obtain rfl:=Option.some.inj hp
   exact ⟨rfl,⟨_,_,_,_,S64,i65,els31,(zap rfl hj27 (chk_le hchk27)),k69,k70,k71,k72⟩⟩
 ·
  clear hp hq
  rintro s27 fAp wAo ⟨HAl,v28,n29,cs30,SAm,iAn,els31,kAq,kAr,kAs,kAt,kAu⟩
  refine FW.seq (FW.seq (FW.region ?_))
  refine FL.v (E.move kAq) ?_
  refine FL.v (E.move kAr) ?_
  refine FL.v (E.lenS Tryz.runUnderlying9 rfl) ?_
  refine FL.v (E.lss rfl rfl) ?_
  refine FL.nil ?_
  refine FW.condF rfl (zc1 hchk27) ?_
  refine FW.exit ?_
  exact ⟨nofun,rfl,⟨_,_,_,_,SAm,iAn,els31,kAr,kAt,kAu⟩⟩
 ·
  clear hq
  intro e f99 w98 hD
  rcases q27 with s27|x27
  ·
   obtain ⟨rfl,hD⟩:=hD
   obtain ⟨H95,v28,n29,cs30,S96,i97,els31,kA0,kA1,kA2⟩:=hD
   replace hp:=el_go hp
   refine FW.seq (FW.region ?_)
   refine FL.v (E.move kA1) ?_
   refine FL.v (E.move kA0) ?_
   refine FL.v (E.move kA2) ?_
   obtain ⟨zA3,hA4,hp⟩:=bnd hp
   refine FL.v (E.cutS (kl:=.i64) (kh:=.i64) Tryz.underlying9 rfl (.inr ⟨_,rfl,rfl⟩) (.inl ⟨rfl,rfl⟩) hA4) ?_
   obtain ⟨vA5,wA6,runA7,SA8⟩:=S96.buildSlice (P:=Tryz.prog) te114 [Value.string zA3] (parts:=#[(0,Value.string zA3)]) (cells:=[Value.string zA3]) rfl (zat rfl zao) (zas rfl zan) (zac rfl zad) (Nat.le_of_ble_eq_true rfl)
   have elsA9:Els (up wa.heap.size H95) eS 1 [Value.string zA3] [zA3]:=(Els.snoc (H:=(up wa.heap.size H95)) (E:=eS) (k:=1) (c:=[Value.string zA3]) (x:=zA3) Els.nil rfl rfl)
   refine FL.v (E.buildSlice (B1 rfl) runA7) ?_
   obtain ⟨xsAa,hzAb,hp⟩:=bnd hp
   obtain ⟨vAc,wAf,nAd,csAe,runAg,SAh,elsAi,ceAj⟩:=SA8.appendO (P:=Tryz.prog) te114 (i:=1) (j:=0) rfl els31 rfl elsA9 hzAb
   have SAh:St Ha wa H95 wAf [.row 9 1 vA5 1 [Value.string zA3],.row 9 1 vAc nAd csAe]:=SAh
   have SAk:St Ha wa H95 wAf [.row 9 1 vAc nAd csAe]:=SAh.drop 0
   refine FL.v (E.append rfl rfl runAg) ?_
   refine FL.v (E.assign (v:=vAc) rfl) ?_
   refine FL.nil ?_
   refine FW.ret ?_
   obtain rfl:=Option.some.inj hp
   exact ⟨.inr rfl,res1 rfl rfl ⟨_,_,_,_,rfl,SAk,elsAi⟩⟩
  ·
   exact x27.elim

theorem zdX {Ha:GH} {wa:World} (hs:Sl Ha wa) (a0:Int) (a1:Int) (a2:Int) :
  Calls Tryz.prog 88 #[Value.int .i64 a0,Value.int .i64 a1,Value.int .i64 a2] wa (Sc Ha wa (Value.bool (PF.zaX a0 a1 a2))):=by
 obtain ⟨r,hp⟩:∃ r,(PF.zaX a0 a1 a2)=r:=⟨_,rfl⟩
 rw [hp]
 unfold PF.zaX at hp
 have S0:=St.init hs
 refine zae (N:=15) (args:=[Value.int .i64 a0,Value.int .i64 a1,Value.int .i64 a2]) Tryz.func88 rfl rfl rfl ?_
 refine FW.seq (FW.region ?_)
 refine FL.v (E.assign (v:=Value.bool false) rfl) ?_
 refine FL.nil (FW.seq (FW.region ?_))
 refine FL.v (E.move (v:=Value.int .i64 a0) rfl) ?_
 refine FL.v (E.move (v:=Value.int .i64 a1) rfl) ?_
 refine FL.v (E.geq rfl rfl) ?_
 refine FL.v (E.move (v:=Value.bool (decide (a1≤a0))) rfl) ?_
 refine FL.cut 4 (fun f w=>∃ H:GH,St Ha wa H w []∧Inc Ha H∧f 14=Value.bool (bif (decide (a1≤a0)) then (decide (a0≤a2)) else false)) ?_ ?_
 ·
  rcases bcase (decide (a1≤a0)) with c27|c27
  ·
   refine FL.val (zab rfl rfl rfl c27) rfl rfl (E.move (v:=Value.int .i64 a0) rfl) ?_
   refine FL.val (zab rfl rfl rfl c27) rfl rfl (E.move (v:=Value.int .i64 a2) rfl) ?_
   refine FL.val (zab rfl rfl rfl c27) rfl rfl (E.leq rfl rfl) ?_
   refine FL.v (E.pickT rfl c27 rfl) ?_
   exact FL.nil ⟨rfl,_,S0,(Inc.rfl _),(congrArg Value.bool (bifT c27).symm)⟩
  ·
   refine FL.skip (wF_no rfl rfl rfl c27) rfl ?_
   refine FL.skip (wF_no rfl rfl rfl c27) rfl ?_
   refine FL.skip (wF_no rfl rfl rfl c27) rfl ?_
   refine FL.v (E.pickF rfl c27 rfl) ?_
   exact FL.nil ⟨rfl,_,S0,(Inc.rfl _),(congrArg Value.bool (bifF c27).symm)⟩
 rintro f26 w25 ⟨H22,S23,i24,k28⟩
 refine FL.v (E.assign k28) ?_
 refine FL.nil ?_
 refine FW.ret ?_
 obtain rfl:=hp
 exact ⟨.inr rfl,res1 rfl rfl ⟨rfl,S23.back⟩⟩

set_option maxHeartbeats 2000000 in
theorem wn149:∀ (m:Nat) (n:Int) {Ha:GH} {wa:World},Sl Ha wa→2 * n.natAbs + (if n < 0 then 1 else 0) < m→-9223372036854775808 < n→n≤9223372036854775807→Calls Tryz.prog 149 #[Value.int .i64 n] wa (Sc Ha wa (Value.string (itoaS n))):=by
 intro m
 induction m with
 | zero=>intro n Ha wa hs hm;omega
 | succ m ih =>
 intro n Ha wa hs hm h0 h1
 have S0:=St.init hs
 have hsz:=itoaS_size n (by omega) h1
 refine zae (N:=25) (args:=[Value.int .i64 n]) Tryz.func149 rfl rfl rfl ?_
 refine FW.seq (FW.region ?_)
 refine FL.v (E.assign (v:=Value.string ByteArray.empty) rfl) ?_
 refine FL.nil (FW.seq (FW.seq (FW.region ?_)))
 refine FL.v (E.move (v:=Value.int .i64 n) rfl) ?_
 refine FL.v (E.lss rfl rfl) ?_
 refine FL.nil ?_
 by_cases hn:n < 0
 ·
  refine FW.condT rfl (decide_eq_true hn) ?_
  refine FW.seq (FW.region ?_)
  refine FL.v (E.move (v:=Value.int .i64 n) rfl) ?_
  refine FL.v (E.neg rfl) ?_
  have e1:wr (-n)=-n:=wr_of _ (by omega) (by omega)
  refine FL.call rfl rfl rfl (E.call Tryz.call149 (A1 rfl)) (ih (wr (-n)) S0.sl (by rw [e1,if_neg (by omega)];rw [if_pos hn] at hm;omega) (by rw [e1];omega) (by rw [e1];omega)) ?_
  rintro e w2 ⟨rfl,r2⟩
  refine ⟨_,rfl,?_⟩
  have S2:=S0.call r2
  have hc:catS (ByteArray.mk #[45]) (itoaS (wr (-n)))=some (itoaS n):=by
   rw [e1,itoaS_neg hn]
   unfold catS
   rw [if_pos]
   have:=itoaS_size (-n) (by omega) (by omega)
   show 1 + _≤_
   omega
  refine FL.v (E.addT rfl rfl hc) ?_
  refine FL.v (E.assign (v:=Value.string (itoaS n)) rfl) ?_
  refine FL.nil ?_
  refine FW.ret ?_
  exact ⟨.inr rfl,res1 rfl rfl ⟨rfl,S2.back⟩⟩
 ·
  refine FW.condF rfl (decide_eq_false hn) ?_
  refine FW.skip (FW.seq (FW.seq (FW.region ?_)))
  refine FL.v (E.move (v:=Value.int .i64 n) rfl) ?_
  refine FL.v (E.lss rfl rfl) ?_
  refine FL.nil ?_
  by_cases h10:n < 10
  ·
   refine FW.condT rfl (decide_eq_true h10) ?_
   have e1:wr (n + 1)=n + 1:=wr_of _ (by omega) (by omega)
   refine FW.seq (FW.region ?_)
   refine FL.v (E.move (v:=Value.int .i64 n) rfl) ?_
   refine FL.v (E.move (v:=Value.int .i64 n) rfl) ?_
   refine FL.v (E.add rfl rfl) ?_
   refine FL.v (E.sliceS (s:=ByteArray.mk #[48,49,50,51,52,53,54,55,56,57]) (a:=n) (b:=wr (n + 1)) Tryz.underlying9 rfl rfl rfl (by omega) (by rw [e1];omega) (by rw [e1];show _≤(10:Int);omega)) ?_
   refine FL.v (E.assign (v:=Value.string ((ByteArray.mk #[48,49,50,51,52,53,54,55,56,57]).extract n.toNat (wr (n + 1)).toNat)) rfl) ?_
   refine FL.nil ?_
   refine FW.ret ?_
   have e2:(ByteArray.mk #[48,49,50,51,52,53,54,55,56,57]).extract n.toNat (wr (n + 1)).toNat=itoaS n:=by rw [e1,digit_of (by omega) h10,itoaS_one (by omega) h10]
   exact ⟨.inr rfl,res1 rfl (congrArg Value.string e2) ⟨rfl,S0.back⟩⟩
  ·
   refine FW.condF rfl (decide_eq_false h10) ?_
   have hq:(n.tdiv 10).natAbs < n.natAbs∧0≤n.tdiv 10∧0≤n.tmod 10∧n.tmod 10 < 10:=by
    obtain ⟨k,rfl⟩:=Int.eq_ofNat_of_zero_le (show 0≤n by omega)
    have e1:((k:Nat):Int).tdiv 10=((k / 10:Nat):Int):=rfl
    have e2:((k:Nat):Int).tmod 10=((k % 10:Nat):Int):=rfl
    rw [e1,e2];omega
   obtain ⟨q1,q2,q3,q4⟩:=hq
   have e1:wr (n.tdiv 10)=n.tdiv 10:=wr_of _ (by omega) (by omega)
   have e3:wr (n.tmod 10 + 1)=n.tmod 10 + 1:=wr_of _ (by omega) (by omega)
   refine FW.skip (FW.seq ?_)
   refine FW.draw (fun w'=>Run wa.heap.size Ha wa Ha w') (by kernel_rfl) (by kernel_rfl) (zaG S0.sl) ?_
   refine FD.val rfl rfl rfl (fun w' hw'=>(E.move (v:=Value.int .i64 n) rfl)) ?_
   refine FD.val rfl rfl rfl (fun w' hw'=>(E.quo rfl rfl (by decide))) ?_
   refine FD.call rfl rfl rfl (fun w' hw'=>(E.call Tryz.call149 (A1 rfl))) (fun w' hw'=>Calls.cls hw' (ih (wr (n.tdiv 10)) (S0.call hw').sl (by rw [e1,if_neg (by omega)];rw [if_neg hn] at hm;omega) (by rw [e1];omega) (by rw [e1];omega))) ?_
   refine FD.val rfl rfl rfl (fun w' hw'=>(E.move (v:=Value.int .i64 n) rfl)) ?_
   refine FD.val rfl rfl rfl (fun w' hw'=>(E.rem rfl rfl (by decide))) ?_
   refine FD.val rfl rfl rfl (fun w' hw'=>(E.move (v:=Value.int .i64 n) rfl)) ?_
   refine FD.val rfl rfl rfl (fun w' hw'=>(E.rem rfl rfl (by decide))) ?_
   refine FD.val rfl rfl rfl (fun w' hw'=>(E.add rfl rfl)) ?_
   refine FD.val rfl rfl rfl (fun w' hw'=>(E.sliceS (s:=ByteArray.mk #[48,49,50,51,52,53,54,55,56,57]) (a:=n.tmod 10) (b:=wr (n.tmod 10 + 1)) Tryz.underlying9 rfl rfl rfl (by omega) (by rw [e3];omega) (by rw [e3];show _≤(10:Int);omega))) ?_
   have hc:catS (itoaS (wr (n.tdiv 10))) ((ByteArray.mk #[48,49,50,51,52,53,54,55,56,57]).extract (n.tmod 10).toNat (wr (n.tmod 10 + 1)).toNat)=some (itoaS n):=by
    rw [e1,e3,digit_of q3 q4,itoaS_more (n:=n) (by omega)]
    unfold catS
    rw [if_pos]
    have h5:=itoaS_size (n.tdiv 10) (by omega) (by omega)
    show (itoaS (n.tdiv 10)).size + 1≤_
    omega
   refine FD.val rfl rfl rfl (fun w' hw'=>(E.addT rfl rfl hc)) ?_
   refine FD.val rfl rfl rfl (fun w' hw'=>(E.assign (v:=Value.string (itoaS n)) rfl)) ?_
   refine FD.nil ?_
   intro w4 r4
   have S4:=S0.call r4
   refine FW.ret ?_
   exact ⟨.inr rfl,res1 rfl rfl ⟨rfl,S4.back⟩⟩
theorem zdY {Ha:GH} {wa:World} (hs:Sl Ha wa) (a0:Int) {r:ByteArray} (hp:(PF.zbX a0)=some r):Calls Tryz.prog 149 #[Value.int .i64 a0] wa (Sc Ha wa (Value.string r)):=by
 unfold PF.zbX numT at hp
 split at hp
 ·
  rename_i h;cases hp
  exact wn149 _ a0 hs (Nat.lt_succ_self _) h.1 h.2
 ·
  cases hp

set_option maxHeartbeats 4000000 in
theorem w_spec_l1Read {Ha:GH} {wa:World} (hs:Sl Ha wa) (a0:ByteArray) {r:(Int×Bool)} (hp:(PF.zcv a0)=some r) :
  Calls Tryz.prog 145 #[Value.string a0] wa (Sc Ha wa (Value.tuple #[Value.int .i64 r.1,Value.bool r.2])):=by
 unfold PF.zcv at hp
 have S0:=St.init hs
 refine zae (N:=58) (args:=[Value.string a0]) Tryz.func145 rfl rfl rfl ?_
 refine FW.seq (FW.region ?_)
 refine FL.v (E.assign (v:=Value.int .i64 0) rfl) ?_
 refine FL.v (E.assign (v:=Value.bool false) rfl) ?_
 refine FL.nil (FW.seq (FW.region ?_))
 refine FL.v (E.move (v:=Value.string a0) rfl) ?_
 refine FL.v (E.assign (v:=Value.string a0) rfl) ?_
 refine FL.nil (FW.seq (FW.seq (FW.region ?_)))
 refine FL.v (E.move (v:=Value.string a0) rfl) ?_
 refine FL.v (E.lenS Tryz.runUnderlying9 rfl) ?_
 refine FL.v (E.gtr rfl rfl) ?_
 refine FL.v (E.move (v:=Value.bool (decide (1 < (a0.size:Int)))) rfl) ?_
 obtain ⟨t23,hqt23,hp⟩:=bnd hp
 refine FL.cut 4 (fun f w=>∃ H:GH,St Ha wa H w []∧Inc Ha H∧f 0=Value.string a0∧f 4=Value.string a0∧f 15=Value.bool t23) ?_ ?_
 ·
  clear hp;have hp:=hqt23;clear hqt23
  rcases ifB hp with ⟨c29,hp⟩|⟨c29,hp⟩
  ·
   refine FL.val (zab rfl rfl rfl c29) rfl rfl (E.move (v:=Value.string a0) rfl) ?_
   obtain ⟨z30,h31,hp⟩:=bnd hp
   refine FL.val (zab rfl rfl rfl c29) rfl rfl (E.ixS Tryz.runUnderlying9 rfl rfl h31) ?_
   refine FL.val (zab rfl rfl rfl c29) rfl rfl (E.eql rfl rfl) ?_
   obtain rfl:=Option.some.inj hp
   refine FL.v (E.pickT rfl c29 rfl) ?_
   exact FL.nil ⟨rfl,_,S0,(Inc.rfl _),rfl,rfl,rfl⟩
  ·
   refine FL.skip (wF_no rfl rfl rfl c29) rfl ?_
   refine FL.skip (wF_no rfl rfl rfl c29) rfl ?_
   refine FL.skip (wF_no rfl rfl rfl c29) rfl ?_
   obtain rfl:=Option.some.inj hp
   refine FL.v (E.pickF rfl c29 rfl) ?_
   exact FL.nil ⟨rfl,_,S0,(Inc.rfl _),rfl,rfl,rfl⟩
 rintro f28 w27 ⟨H24,S25,i26,k32,k33,k34⟩
 refine FL.nil ?_
 obtain ⟨q39,hq,hp⟩:=bndR hp
 refine FW.joinE (S:=ByteArray) (X:=Empty) (q:=q39) (fun s38 f w=>∃ H:GH,St Ha wa H w []∧Inc H24 H∧f 0=Value.string a0∧f 4=Value.string s38) (fun (_:Empty) _ _ _=>False) ?_ ?_ ?_
 ·
  clear hp;have hp:=hq;clear hq
  rcases ifB hp with ⟨c41,hp⟩|⟨c41,hp⟩
  ·
   refine FW.condT k34 c41 ?_
   refine FW.region ?_
   refine FL.v (E.move k33) ?_
   obtain ⟨z42,h43,hp⟩:=bnd hp
   refine FL.v (E.cutS (kl:=.i64) (kh:=.i64) Tryz.underlying9 rfl (.inr ⟨_,rfl,rfl⟩) (.inl ⟨rfl,rfl⟩) h43) ?_
   refine FL.v (E.assign (v:=Value.string z42) rfl) ?_
   refine FL.nil ?_
   obtain rfl:=Option.some.inj hp
   exact ⟨rfl,⟨_,S25,(Inc.rfl _),k32,rfl⟩⟩
  ·
   refine FW.condF k34 c41 ?_
   refine FW.skip ?_
   obtain rfl:=Option.some.inj hp
   exact ⟨rfl,⟨_,S25,(Inc.rfl _),k32,k33⟩⟩
 ·
  rintro s38 rfl f48 w47 ⟨H44,S45,i46,k49,k50⟩
  replace hp:=el_go hp
  refine FW.seq (FW.seq (FW.region ?_))
  refine FL.v (E.move k50) ?_
  refine FL.v (E.lenS Tryz.runUnderlying9 rfl) ?_
  refine FL.call rfl rfl rfl (E.call Tryz.call88 (A3 rfl rfl rfl)) (zdX S45.sl (s38.size:Int) 1 6) ?_
  rintro e w51 ⟨rfl,r52⟩
  refine ⟨_,rfl,?_⟩
  have S53:=S45.call r52
  refine FL.v (E.not rfl) ?_
  refine FL.nil ?_
  rcases ifB hp with ⟨c54,hp⟩|⟨c54,hp⟩
  ·
   refine FW.condT rfl c54 ?_
   refine FW.seq (FW.region ?_)
   refine FL.v (E.assign (v:=Value.int .i64 0) rfl) ?_
   refine FL.v (E.assign (v:=Value.bool false) rfl) ?_
   refine FL.nil ?_
   refine FW.ret ?_
   obtain rfl:=Option.some.inj hp
   exact ⟨.inr rfl,res2 rfl rfl rfl ⟨rfl,S53.back⟩⟩
  ·
   refine FW.condF rfl c54 ?_
   refine FW.skip (FW.seq (FW.region ?_))
   refine FL.v (E.assign (v:=Value.int .i64 0) rfl) ?_
   refine FL.nil (FW.seq (FW.seq (FW.region ?_)))
   refine FL.v (E.assign (v:=Value.int .i64 0) rfl) ?_
   refine FL.nil ?_
   obtain ⟨m55,hchk56,hp⟩:=bnd hp
   obtain ⟨q56,hq,hp⟩:=bndR hp
   refine FW.block ?_
   refine FW.mono (FW.forR (S:=Int) (X:=(Int×Bool)) (fun (i56:Nat) (s56:Int) f w=>∃ H:GH,St Ha wa H w []∧Inc H44 H∧f 6=Value.int .i64 ((i56:Nat):Int)∧f 0=Value.string a0∧f 4=Value.string s38∧f 5=Value.int .i64 s56) (fun q e f w=>match q with|.go s56=>e=Exit.exit 0∧(∃ H:GH,St Ha wa H w []∧Inc H44 H∧f 0=Value.string a0∧f 4=Value.string s38∧f 5=Value.int .i64 s56)|.rt x=>((e=Exit.ret)∧(fun e f w=>(e=Exit.normal∨e=Exit.ret)∧∀ a,Fr (δ:=[]) 58 a f→∃ v,(results Tryz.f145 a.tmps).run Tryz.prog w=.ok v w∧(Sc Ha wa (Value.tuple #[Value.int .i64 x.1,Value.bool x.2])) (.returned v) w) e f w)) hq ⟨_,S53,(Inc.rfl _),rfl,k49,k50,rfl⟩ ?_ ?_) ?_
   ·
    clear hp hq
    rintro i56 s56 f91 w90 ⟨H87,S88,i89,k92,k93,k94,k95⟩ hi56 hj56 oAh hp
    refine FW.seq (FW.seq (FW.region ?_))
    refine FL.v (E.move k92) ?_
    refine FL.v (E.move k94) ?_
    refine FL.v (E.lenS Tryz.runUnderlying9 rfl) ?_
    refine FL.v (E.lssT rfl rfl (lss_chk hj56 hchk56)) ?_
    refine FL.nil ?_
    refine FW.condT rfl rfl ?_
    refine FW.skip (FW.seq (FW.block (FW.seq (FW.seq (FW.region ?_)))))
    refine FL.v (E.move k94) ?_
    refine FL.v (E.move k92) ?_
    obtain ⟨z96,h97,hp⟩:=bnd hp
    refine FL.v (E.ixS Tryz.runUnderlying9 rfl rfl h97) ?_
    refine FL.v (E.lss rfl rfl) ?_
    refine FL.v (E.move (v:=Value.bool (decide (z96 < 48))) rfl) ?_
    obtain ⟨t100,hqtA0,hp⟩:=bnd hp
    refine FL.cut 5 (fun f w=>∃ H:GH,St Ha wa H w []∧Inc H87 H∧f 0=Value.string a0∧f 4=Value.string s38∧f 5=Value.int .i64 s56∧f 6=Value.int .i64 ((i56:Nat):Int)∧f 37=Value.bool t100) ?_ ?_
    ·
     clear hp;have hp:=hqtA0;clear hqtA0
     rcases ifB hp with ⟨cA6,hp⟩|⟨cA6,hp⟩
     ·
      refine FL.skip (wF_no rfl rfl rfl cA6) rfl ?_
      refine FL.skip (wF_no rfl rfl rfl cA6) rfl ?_
      refine FL.skip (wF_no rfl rfl rfl cA6) rfl ?_
      refine FL.skip (wF_no rfl rfl rfl cA6) rfl ?_
      obtain rfl:=Option.some.inj hp
      refine FL.v (E.pickT rfl cA6 rfl) ?_
      exact FL.nil ⟨rfl,_,S88,(Inc.rfl _),k93,k94,k95,k92,rfl⟩
     ·
      refine FL.val (zab rfl rfl rfl cA6) rfl rfl (E.move k94) ?_
      refine FL.val (zab rfl rfl rfl cA6) rfl rfl (E.move k92) ?_
      obtain ⟨zA7,hA8,hp⟩:=bnd hp
      refine FL.val (zab rfl rfl rfl cA6) rfl rfl (E.ixS Tryz.runUnderlying9 rfl rfl hA8) ?_
      refine FL.val (zab rfl rfl rfl cA6) rfl rfl (E.gtr rfl rfl) ?_
      obtain rfl:=Option.some.inj hp
      refine FL.v (E.pickF rfl cA6 rfl) ?_
      exact FL.nil ⟨rfl,_,S88,(Inc.rfl _),k93,k94,k95,k92,rfl⟩
    rintro fA5 wA4 ⟨HA1,SA2,iA3,kA9,kAa,kAb,kAc,kAd⟩
    refine FL.nil ?_
    rcases ifB hp with ⟨cAe,hp⟩|⟨cAe,hp⟩
    ·
     refine FW.condT kAd cAe ?_
     refine FW.seq (FW.region ?_)
     refine FL.v (E.assign (v:=Value.int .i64 0) rfl) ?_
     refine FL.v (E.assign (v:=Value.bool false) rfl) ?_
     refine FL.nil ?_
     refine FW.ret ?_
     obtain rfl:=Option.some.inj hp
     exact ⟨nofun,rfl,⟨.inr rfl,res2 rfl rfl rfl ⟨rfl,SA2.back⟩⟩⟩
    ·
     refine FW.condF kAd cAe ?_
     refine FW.skip (FW.region ?_)
     refine FL.v (E.move kAb) ?_
     refine FL.v (E.mul rfl rfl) ?_
     refine FL.v (E.move kAa) ?_
     refine FL.v (E.move kAc) ?_
     obtain ⟨zAf,hAg,hp⟩:=bnd hp
     refine FL.v (E.ixS Tryz.runUnderlying9 rfl rfl hAg) ?_
     refine FL.v (E.subK rfl rfl) ?_
     refine FL.v (E.conv Tryz.runUnderlying5 Tryz.runUnderlying3 rfl) ?_
     refine FL.v (E.add rfl rfl) ?_
     refine FL.v (E.assign (v:=Value.int .i64 (wr ((wr (10 * s56)) + (wrk true 64 (wrk false 8 (zAf - 48)))))) rfl) ?_
     refine FL.nil (FW.region ?_)
     refine FL.v (E.move kAc) ?_
     refine FL.v (E.add rfl rfl) ?_
     refine FL.v (E.assign (v:=Value.int .i64 (wr (((i56:Nat):Int) + 1))) rfl) ?_
     refine FL.nil ?_
     obtain rfl:=Option.some.inj hp
     exact ⟨rfl,⟨_,SA2,(i89.tr iA3),(zap rfl hj56 (chk_le hchk56)),kA9,kAa,rfl⟩⟩
   ·
    clear hp hq
    rintro s56 fAM wAL ⟨HAI,SAJ,iAK,kAN,kAO,kAP,kAQ⟩
    refine FW.seq (FW.seq (FW.region ?_))
    refine FL.v (E.move kAN) ?_
    refine FL.v (E.move kAP) ?_
    refine FL.v (E.lenS Tryz.runUnderlying9 rfl) ?_
    refine FL.v (E.lss rfl rfl) ?_
    refine FL.nil ?_
    refine FW.condF rfl (zc1 hchk56) ?_
    refine FW.exit ?_
    exact ⟨nofun,rfl,⟨_,SAJ,iAK,kAO,kAP,kAQ⟩⟩
   ·
    clear hq
    intro e fAm wAl hD
    rcases q56 with s56|x56
    ·
     obtain ⟨rfl,hD⟩:=hD
     obtain ⟨HAi,SAj,iAk,kAn,kAo,kAp⟩:=hD
     replace hp:=el_go hp
     refine FW.seq (FW.seq (FW.region ?_))
     refine FL.v (E.move kAo) ?_
     refine FL.v (E.lenS Tryz.runUnderlying9 rfl) ?_
     refine FL.v (E.move kAn) ?_
     refine FL.v (E.lenS Tryz.runUnderlying9 rfl) ?_
     refine FL.v (E.lss rfl rfl) ?_
     refine FL.nil ?_
     obtain ⟨qAs,hq,hp⟩:=bndR hp
     refine FW.joinE (S:=Int) (X:=Empty) (q:=qAs) (fun sAr f w=>∃ H:GH,St Ha wa H w []∧Inc HAi H∧f 0=Value.string a0∧f 5=Value.int .i64 sAr) (fun (_:Empty) _ _ _=>False) ?_ ?_ ?_
     ·
      clear hp;have hp:=hq;clear hq
      rcases ifB hp with ⟨cAu,hp⟩|⟨cAu,hp⟩
      ·
       refine FW.condT rfl cAu ?_
       refine FW.region ?_
       refine FL.v (E.move kAp) ?_
       refine FL.v (E.neg rfl) ?_
       refine FL.v (E.assign (v:=Value.int .i64 (wr (-s56))) rfl) ?_
       refine FL.nil ?_
       obtain rfl:=Option.some.inj hp
       exact ⟨rfl,⟨_,SAj,(Inc.rfl _),kAn,rfl⟩⟩
      ·
       refine FW.condF rfl cAu ?_
       refine FW.skip ?_
       obtain rfl:=Option.some.inj hp
       exact ⟨rfl,⟨_,SAj,(Inc.rfl _),kAn,kAp⟩⟩
     ·
      rintro sAr rfl fAz wAy ⟨HAv,SAw,iAx,kAA,kAB⟩
      replace hp:=el_go hp
      refine FW.seq (FW.seq (FW.region ?_))
      refine FL.v (E.move kAB) ?_
      obtain ⟨rAC,hrAD,hp⟩:=bnd hp
      refine FL.call rfl rfl rfl (E.call Tryz.call149 (A1 rfl)) (zdY SAw.sl sAr hrAD) ?_
      rintro e wAE ⟨rfl,rAF⟩
      refine ⟨_,rfl,?_⟩
      have SAG:=SAw.call rAF
      refine FL.v (E.move kAA) ?_
      refine FL.v (E.neqS rfl rfl) ?_
      refine FL.nil ?_
      rcases ifB hp with ⟨cAH,hp⟩|⟨cAH,hp⟩
      ·
       refine FW.condT rfl cAH ?_
       refine FW.seq (FW.region ?_)
       refine FL.v (E.assign (v:=Value.int .i64 0) rfl) ?_
       refine FL.v (E.assign (v:=Value.bool false) rfl) ?_
       refine FL.nil ?_
       refine FW.ret ?_
       obtain rfl:=Option.some.inj hp
       exact ⟨.inr rfl,res2 rfl rfl rfl ⟨rfl,SAG.back⟩⟩
      ·
       refine FW.condF rfl cAH ?_
       refine FW.skip (FW.seq (FW.region ?_))
       refine FL.v (E.move kAB) ?_
       refine FL.v (E.assign (v:=Value.int .i64 sAr) rfl) ?_
       refine FL.v (E.assign (v:=Value.bool true) rfl) ?_
       refine FL.nil ?_
       refine FW.ret ?_
       obtain rfl:=Option.some.inj hp
       exact ⟨.inr rfl,res2 rfl rfl rfl ⟨rfl,SAG.back⟩⟩
     ·
      intro xAt;exact xAt.elim
    ·
     obtain ⟨he,hL⟩:=hD
     replace hp:=el_rt hp
     obtain rfl:=Option.some.inj hp
     subst he
     exact hL
 ·
  intro x40;exact x40.elim

theorem zdZ {Ha:GH} {wa:World} (hs:Sl Ha wa) (a0:Int) :
  Calls Tryz.prog 122 #[Value.int .i64 a0] wa (Sc Ha wa (Value.bool (PF.zaK a0))):=by
 obtain ⟨r,hp⟩:∃ r,(PF.zaK a0)=r:=⟨_,rfl⟩
 rw [hp]
 unfold PF.zaK at hp
 have S0:=St.init hs
 refine zae (N:=5) (args:=[Value.int .i64 a0]) Tryz.func122 rfl rfl rfl ?_
 refine FW.seq (FW.region ?_)
 refine FL.v (E.assign (v:=Value.bool false) rfl) ?_
 refine FL.nil (FW.seq (FW.region ?_))
 refine FL.v (E.move (v:=Value.int .i64 a0) rfl) ?_
 refine FL.call rfl rfl rfl (E.call Tryz.call88 (A3 rfl rfl rfl)) (zdX S0.sl a0 0 12) ?_
 rintro e w21 ⟨rfl,r22⟩
 refine ⟨_,rfl,?_⟩
 have S23:=S0.call r22
 refine FL.v (E.assign (v:=Value.bool (PF.zaX a0 0 12)) rfl) ?_
 refine FL.nil ?_
 refine FW.ret ?_
 obtain rfl:=hp
 exact ⟨.inr rfl,res1 rfl rfl ⟨rfl,S23.back⟩⟩

theorem w_spec_l2Lit {Ha:GH} {wa:World} (hs:Sl Ha wa) (a0:Int) (a1:Int) :
  Calls Tryz.prog 136 #[Value.int .i64 a0,Value.int .i64 a1] wa (Sc Ha wa (Value.bool (PF.za8 a0 a1))):=by
 obtain ⟨r,hp⟩:∃ r,(PF.za8 a0 a1)=r:=⟨_,rfl⟩
 rw [hp]
 unfold PF.za8 at hp
 have S0:=St.init hs
 refine zae (N:=14) (args:=[Value.int .i64 a0,Value.int .i64 a1]) Tryz.func136 rfl rfl rfl ?_
 refine FW.seq (FW.region ?_)
 refine FL.v (E.assign (v:=Value.bool false) rfl) ?_
 refine FL.nil (FW.seq (FW.region ?_))
 refine FL.v (E.move (v:=Value.int .i64 a1) rfl) ?_
 refine FL.v (E.move (v:=Value.int .i64 a0) rfl) ?_
 refine FL.v (E.neg rfl) ?_
 refine FL.v (E.move (v:=Value.int .i64 a0) rfl) ?_
 refine FL.call rfl rfl rfl (E.call Tryz.call88 (A3 rfl rfl rfl)) (zdX S0.sl a1 (wr (-a0)) a0) ?_
 rintro e w21 ⟨rfl,r22⟩
 refine ⟨_,rfl,?_⟩
 have S23:=S0.call r22
 refine FL.v (E.move (v:=Value.bool (PF.zaX a1 (wr (-a0)) a0)) rfl) ?_
 refine FL.cut 3 (fun f w=>∃ H:GH,St Ha wa H w []∧Inc Ha H∧f 13=Value.bool (bif (PF.zaX a1 (wr (-a0)) a0) then (!(a1 == 0)) else false)) ?_ ?_
 ·
  rcases bcase (PF.zaX a1 (wr (-a0)) a0) with c30|c30
  ·
   refine FL.val (zab rfl rfl rfl c30) rfl rfl (E.move (v:=Value.int .i64 a1) rfl) ?_
   refine FL.val (zab rfl rfl rfl c30) rfl rfl (E.neq rfl rfl) ?_
   refine FL.v (E.pickT rfl c30 rfl) ?_
   exact FL.nil ⟨rfl,_,S23,(Inc.rfl _),(congrArg Value.bool (bifT c30).symm)⟩
  ·
   refine FL.skip (wF_no rfl rfl rfl c30) rfl ?_
   refine FL.skip (wF_no rfl rfl rfl c30) rfl ?_
   refine FL.v (E.pickF rfl c30 rfl) ?_
   exact FL.nil ⟨rfl,_,S23,(Inc.rfl _),(congrArg Value.bool (bifF c30).symm)⟩
 rintro f29 w28 ⟨H25,S26,i27,k31⟩
 refine FL.v (E.assign k31) ?_
 refine FL.nil ?_
 refine FW.ret ?_
 obtain rfl:=hp
 exact ⟨.inr rfl,res1 rfl rfl ⟨rfl,S26.back⟩⟩

theorem zcm {Ha:GH} {wa:World} (hs:Sl Ha wa) (a0:Int) :
  Calls Tryz.prog 91 #[Value.int .i64 a0] wa (Sc Ha wa (Value.int .i64 (PF.zaY a0))):=by
 obtain ⟨r,hp⟩:∃ r,(PF.zaY a0)=r:=⟨_,rfl⟩
 rw [hp]
 unfold PF.zaY at hp
 have S0:=St.init hs
 refine zae (N:=8) (args:=[Value.int .i64 a0]) Tryz.func91 rfl rfl rfl ?_
 refine FW.seq (FW.region ?_)
 refine FL.v (E.assign (v:=Value.int .i64 0) rfl) ?_
 refine FL.nil (FW.seq (FW.seq (FW.region ?_)))
 refine FL.v (E.move (v:=Value.int .i64 a0) rfl) ?_
 refine FL.v (E.lss rfl rfl) ?_
 refine FL.nil ?_
 rcases ifT hp with ⟨c21,hp⟩|⟨c21,hp⟩
 ·
  refine FW.condT rfl c21 ?_
  refine FW.seq (FW.region ?_)
  refine FL.v (E.move (v:=Value.int .i64 a0) rfl) ?_
  refine FL.v (E.neg rfl) ?_
  refine FL.v (E.assign (v:=Value.int .i64 (wr (-a0))) rfl) ?_
  refine FL.nil ?_
  refine FW.ret ?_
  obtain rfl:=hp
  exact ⟨.inr rfl,res1 rfl rfl ⟨rfl,S0.back⟩⟩
 ·
  refine FW.condF rfl c21 ?_
  refine FW.skip (FW.seq (FW.region ?_))
  refine FL.v (E.move (v:=Value.int .i64 a0) rfl) ?_
  refine FL.v (E.assign (v:=Value.int .i64 a0) rfl) ?_
  refine FL.nil ?_
  refine FW.ret ?_
  obtain rfl:=hp
  exact ⟨.inr rfl,res1 rfl rfl ⟨rfl,S0.back⟩⟩

set_option maxHeartbeats 4000000 in
theorem zem {Ha:GH} {wa:World} (hs:Sl Ha wa) (a0:Int) (v1:Value) (a1:List Int) (p1:RSl Ha eI 1 v1 a1) {r:Bool} (hp:(PF.zbG a0 a1)=some r) :
  Calls Tryz.prog 108 #[Value.int .i64 a0,v1] wa (Sc Ha wa (Value.bool r)):=by
 unfold PF.zbG at hp
 have S0:=St.init hs
 refine zae (N:=40) (args:=[Value.int .i64 a0,v1]) Tryz.func108 rfl rfl rfl ?_
 refine FW.seq (FW.region ?_)
 refine FL.v (E.assign (v:=Value.bool false) rfl) ?_
 refine FL.nil (FW.seq (FW.seq (FW.region ?_)))
 refine FL.v (E.move (v:=Value.int .i64 a0) rfl) ?_
 refine FL.call rfl rfl rfl (E.call Tryz.call122 (A1 rfl)) (zdZ S0.sl a0) ?_
 rintro e w21 ⟨rfl,r22⟩
 refine ⟨_,rfl,?_⟩
 have S23:=S0.call r22
 refine FL.v (E.not rfl) ?_
 refine FL.nil ?_
 rcases ifB hp with ⟨c24,hp⟩|⟨c24,hp⟩
 ·
  refine FW.condT rfl c24 ?_
  refine FW.seq (FW.region ?_)
  refine FL.v (E.assign (v:=Value.bool false) rfl) ?_
  refine FL.nil ?_
  refine FW.ret ?_
  obtain rfl:=Option.some.inj hp
  exact ⟨.inr rfl,res1 rfl rfl ⟨rfl,S23.back⟩⟩
 ·
  refine FW.condF rfl c24 ?_
  refine FW.skip (FW.seq (FW.seq (FW.region ?_)))
  refine FL.v (E.assign (v:=Value.int .i64 0) rfl) ?_
  refine FL.nil ?_
  obtain ⟨q26,hq,hp⟩:=bndR hp
  refine FW.block ?_
  refine FW.mono (FW.forL (S:=Unit) (X:=Bool) (fun (i26:Nat) (s26:Unit) f w=>∃ H:GH,St Ha wa H w []∧Inc Ha H∧f 5=Value.int .i64 ((i26:Nat):Int)∧f 0=Value.int .i64 a0∧f 1=v1) (fun q e f w=>match q with|.go s26=>e=Exit.exit 0∧(∃ H:GH,St Ha wa H w []∧Inc Ha H)|.rt x=>((e=Exit.ret)∧(fun e f w=>(e=Exit.normal∨e=Exit.ret)∧∀ a,Fr (δ:=[]) 40 a f→∃ v,(results Tryz.f108 a.tmps).run Tryz.prog w=.ok v w∧(Sc Ha wa (Value.bool x)) (.returned v) w) e f w)) hq ⟨_,S23,(Inc.rfl _),rfl,rfl,rfl⟩ ?_ ?_) ?_
  ·
   clear hp hq
   rintro i26 y25 s26 fAF wAE ⟨HAB,SAC,iAD,kAG,kAH,kAI⟩ hx26 oCn hp
   refine FW.seq (FW.seq (FW.region ?_))
   refine FL.v (E.move kAG) ?_
   refine FL.v (E.move kAI) ?_
   refine FL.v (E.lenP te34 rfl p1) ?_
   refine FL.v (E.lssT rfl rfl (zaw hx26)) ?_
   refine FL.nil ?_
   refine FW.condT rfl rfl ?_
   refine FW.skip (FW.seq (FW.block (FW.seq ?_)))
   refine FW.draw (fun w'=>Run wAE.heap.size HAB wAE HAB w') (by kernel_rfl) (by kernel_rfl) (zaG SAC.sl) ?_
   refine FD.val rfl rfl rfl (fun w' hw'=>(E.move kAH)) ?_
   refine FD.val rfl rfl rfl (fun w' hw'=>(E.move kAI)) ?_
   refine FD.val rfl rfl rfl (fun w' hw'=>(E.move kAG)) ?_
   obtain ⟨pAK,csAL,ptAM,lAN,atAO,relAP⟩:=p1.at (zal hx26)
   obtain rfl:=zam relAP
   refine FD.val rfl rfl rfl (fun w' hw'=>(E.indexAddr te34 rfl rfl ptAM)) ?_
   refine FD.val rfl rfl rfl (fun w' hw'=>(E.load rfl (zaf Tryz.isAgg3 ((atAO.mono iAD).now (SAC.call hw').sl) rfl))) ?_
   refine FD.call rfl rfl rfl (fun w' hw'=>(E.call Tryz.call136 (A2 rfl rfl))) (fun w' hw'=>Calls.cls hw' (w_spec_l2Lit (SAC.call hw').sl a0 y25)) ?_
   refine FD.val rfl rfl rfl (fun w' hw'=>(E.not rfl)) ?_
   refine FD.val rfl rfl rfl (fun w' hw'=>(E.move (v:=Value.bool (!(PF.za8 a0 y25))) rfl)) ?_
   obtain ⟨t192,hqtBu,hp⟩:=bnd hp
   refine FD.cut 17 (fun f=>f 0=Value.int .i64 a0∧f 1=v1∧f 5=Value.int .i64 ((i26:Nat):Int)∧f 39=Value.bool t192) ?_ ?_
   ·
    clear hp;have hp:=hqtBu;clear hqtBu
    rcases ifB hp with ⟨cBA,hp⟩|⟨cBA,hp⟩
    ·
     refine FD.skip (wF_no rfl rfl rfl cBA) rfl ?_
     refine FD.skip (wF_no rfl rfl rfl cBA) rfl ?_
     refine FD.skip (wF_no rfl rfl rfl cBA) rfl ?_
     refine FD.skip (zar rfl rfl rfl) rfl ?_
     refine FD.skip (zar rfl rfl rfl) rfl ?_
     refine FD.skip (zar rfl rfl rfl) rfl ?_
     refine FD.skip (zar rfl rfl rfl) rfl ?_
     refine FD.skip (zar rfl rfl rfl) rfl ?_
     refine FD.skip (zar rfl rfl rfl) rfl ?_
     refine FD.skip (zar rfl rfl rfl) rfl ?_
     refine FD.skip (zar rfl rfl rfl) rfl ?_
     refine FD.skip (zar rfl rfl rfl) rfl ?_
     refine FD.skip (zar rfl rfl rfl) rfl ?_
     refine FD.skip (zar rfl rfl rfl) rfl ?_
     refine FD.skip (zar rfl rfl rfl) rfl ?_
     refine FD.skip (wF_no rfl rfl rfl cBA) rfl ?_
     obtain rfl:=Option.some.inj hp
     refine FD.val rfl rfl rfl (fun w' hw'=>(E.pickT rfl cBA rfl)) ?_
     exact FD.nil ⟨kAH,kAI,kAG,rfl⟩
    ·
     refine FD.val (zab rfl rfl rfl cBA) rfl rfl (fun w' hw'=>(E.move kAG)) ?_
     refine FD.val (zab rfl rfl rfl cBA) rfl rfl (fun w' hw'=>(E.gtr rfl rfl)) ?_
     refine FD.val (zab rfl rfl rfl cBA) rfl rfl (fun w' hw'=>(E.move (v:=Value.bool (decide (0 < ((i26:Nat):Int)))) rfl)) ?_
     obtain ⟨t213,hqtBP,hp⟩:=bnd hp
     refine FD.cut 13 (fun f=>f 0=Value.int .i64 a0∧f 1=v1∧f 5=Value.int .i64 ((i26:Nat):Int)∧f 22=Value.bool (!(PF.za8 a0 y25))∧f 38=Value.bool t213) ?_ ?_
     ·
      clear hp;have hp:=hqtBP;clear hqtBP
      rcases ifB hp with ⟨cBV,hp⟩|⟨cBV,hp⟩
      ·
       refine FD.val (zab rfl rfl rfl cBV) rfl rfl (fun w' hw'=>(E.move kAI)) ?_
       refine FD.val (zab rfl rfl rfl cBV) rfl rfl (fun w' hw'=>(E.move kAG)) ?_
       refine FD.val (zab rfl rfl rfl cBV) rfl rfl (fun w' hw'=>(E.sub rfl rfl)) ?_
       obtain ⟨xC2,hxC3,hp⟩:=bnd hp
       obtain ⟨pBW,csBX,ptBY,lBZ,atC0,relC1⟩:=p1.at hxC3
       obtain rfl:=zam relC1
       refine FD.val (zab rfl rfl rfl cBV) rfl rfl (fun w' hw'=>(E.indexAddr te34 rfl rfl ptBY)) ?_
       refine FD.val (zab rfl rfl rfl cBV) rfl rfl (fun w' hw'=>(E.load rfl (zaf Tryz.isAgg3 ((atC0.mono iAD).now (SAC.call hw').sl) rfl))) ?_
       refine FD.call (zab rfl rfl rfl cBV) rfl rfl (fun w' hw'=>(E.call Tryz.call91 (A1 rfl))) (fun w' hw'=>Calls.cls hw' (zcm (SAC.call hw').sl xC2)) ?_
       refine FD.val (zab rfl rfl rfl cBV) rfl rfl (fun w' hw'=>(E.move kAI)) ?_
       refine FD.val (zab rfl rfl rfl cBV) rfl rfl (fun w' hw'=>(E.move kAG)) ?_
       obtain ⟨pC4,csC5,ptC6,lC7,atC8,relC9⟩:=p1.at (zal hx26)
       obtain rfl:=zam relC9
       refine FD.val (zab rfl rfl rfl cBV) rfl rfl (fun w' hw'=>(E.indexAddr te34 rfl rfl ptC6)) ?_
       refine FD.val (zab rfl rfl rfl cBV) rfl rfl (fun w' hw'=>(E.load rfl (zaf Tryz.isAgg3 ((atC8.mono iAD).now (SAC.call hw').sl) rfl))) ?_
       refine FD.call (zab rfl rfl rfl cBV) rfl rfl (fun w' hw'=>(E.call Tryz.call91 (A1 rfl))) (fun w' hw'=>Calls.cls hw' (zcm (SAC.call hw').sl y25)) ?_
       refine FD.val (zab rfl rfl rfl cBV) rfl rfl (fun w' hw'=>(E.geq rfl rfl)) ?_
       obtain rfl:=Option.some.inj hp
       refine FD.val (zab rfl rfl rfl cBA) rfl rfl (fun w' hw'=>(E.pickT rfl cBV rfl)) ?_
       exact FD.nil ⟨kAH,kAI,kAG,rfl,rfl⟩
      ·
       refine FD.skip (wF_no rfl rfl rfl cBV) rfl ?_
       refine FD.skip (wF_no rfl rfl rfl cBV) rfl ?_
       refine FD.skip (wF_no rfl rfl rfl cBV) rfl ?_
       refine FD.skip (wF_no rfl rfl rfl cBV) rfl ?_
       refine FD.skip (wF_no rfl rfl rfl cBV) rfl ?_
       refine FD.skip (wF_no rfl rfl rfl cBV) rfl ?_
       refine FD.skip (wF_no rfl rfl rfl cBV) rfl ?_
       refine FD.skip (wF_no rfl rfl rfl cBV) rfl ?_
       refine FD.skip (wF_no rfl rfl rfl cBV) rfl ?_
       refine FD.skip (wF_no rfl rfl rfl cBV) rfl ?_
       refine FD.skip (wF_no rfl rfl rfl cBV) rfl ?_
       refine FD.skip (wF_no rfl rfl rfl cBV) rfl ?_
       obtain rfl:=Option.some.inj hp
       refine FD.val (zab rfl rfl rfl cBA) rfl rfl (fun w' hw'=>(E.pickF rfl cBV rfl)) ?_
       exact FD.nil ⟨kAH,kAI,kAG,rfl,rfl⟩
     rintro fBU ⟨kCa,kCb,kCc,kCd,kCe⟩
     obtain rfl:=Option.some.inj hp
     refine FD.val rfl rfl rfl (fun w' hw'=>(E.pickF kCd cBA kCe)) ?_
     exact FD.nil ⟨kCa,kCb,kCc,rfl⟩
   rintro fBz ⟨kCf,kCg,kCh,kCi⟩
   refine FD.nil ?_
   intro wCj rCl
   have SCk:=SAC.call rCl
   rcases ifB hp with ⟨cCm,hp⟩|⟨cCm,hp⟩
   ·
    refine FW.condT kCi cCm ?_
    refine FW.seq (FW.region ?_)
    refine FL.v (E.assign (v:=Value.bool false) rfl) ?_
    refine FL.nil ?_
    refine FW.ret ?_
    obtain rfl:=Option.some.inj hp
    exact ⟨nofun,rfl,⟨.inr rfl,res1 rfl rfl ⟨rfl,SCk.back⟩⟩⟩
   ·
    refine FW.condF kCi cCm ?_
    refine FW.skip (FW.region ?_)
    refine FL.v (E.move kCh) ?_
    refine FL.v (E.add rfl rfl) ?_
    refine FL.v (E.assign (v:=Value.int .i64 (wr (((i26:Nat):Int) + 1))) rfl) ?_
    refine FL.nil ?_
    obtain rfl:=Option.some.inj hp
    exact ⟨rfl,⟨_,SCk,iAD,(zap rfl (zaq hx26) (p1.mono iAD).le),kCf,kCg⟩⟩
  ·
   clear hp hq
   rintro s26 fCx wCw ⟨HCt,SCu,iCv,kCy,kCz,kCA⟩
   refine FW.seq (FW.seq (FW.region ?_))
   refine FL.v (E.move kCy) ?_
   refine FL.v (E.move kCA) ?_
   refine FL.v (E.lenP te34 rfl p1) ?_
   refine FL.v (E.lss rfl rfl) ?_
   refine FL.nil ?_
   refine FW.condF rfl zax ?_
   refine FW.exit ?_
   exact ⟨nofun,rfl,⟨_,SCu,iCv⟩⟩
  ·
   clear hq
   intro e fCs wCr hD
   rcases q26 with s26|x26
   ·
    obtain ⟨rfl,hD⟩:=hD
    obtain ⟨HCo,SCp,iCq⟩:=hD
    replace hp:=el_go hp
    refine FW.seq (FW.region ?_)
    refine FL.v (E.assign (v:=Value.bool true) rfl) ?_
    refine FL.nil ?_
    refine FW.ret ?_
    obtain rfl:=Option.some.inj hp
    exact ⟨.inr rfl,res1 rfl rfl ⟨rfl,SCp.back⟩⟩
   ·
    obtain ⟨he,hL⟩:=hD
    replace hp:=el_rt hp
    obtain rfl:=Option.some.inj hp
    subst he
    exact hL

set_option maxHeartbeats 4000000 in
theorem w_spec_l2Text {Ha:GH} {wa:World} (hs:Sl Ha wa) (v0:Value) (a0:List Int) (p0:RSl Ha eI 1 v0 a0) {r:ByteArray} (hp:(PF.zcw a0)=some r) :
  Calls Tryz.prog 150 #[v0] wa (Sc Ha wa (Value.string r)):=by
 unfold PF.zcw at hp
 have S0:=St.init hs
 refine zae (N:=27) (args:=[v0]) Tryz.func150 rfl rfl rfl ?_
 refine FW.seq (FW.region ?_)
 refine FL.v (E.assign (v:=Value.string (ByteArray.mk #[])) rfl) ?_
 refine FL.nil (FW.seq (FW.seq (FW.region ?_)))
 refine FL.v (E.move (v:=v0) rfl) ?_
 refine FL.v (E.lenP te34 rfl p0) ?_
 refine FL.v (E.eql rfl rfl) ?_
 refine FL.nil ?_
 rcases ifB hp with ⟨c21,hp⟩|⟨c21,hp⟩
 ·
  refine FW.condT rfl c21 ?_
  refine FW.seq (FW.region ?_)
  refine FL.v (E.assign (v:=Value.string (ByteArray.mk #[110,111,110,101])) rfl) ?_
  refine FL.nil ?_
  refine FW.ret ?_
  obtain rfl:=Option.some.inj hp
  exact ⟨.inr rfl,res1 rfl rfl ⟨rfl,S0.back⟩⟩
 ·
  refine FW.condF rfl c21 ?_
  refine FW.skip (FW.seq (FW.region ?_))
  refine FL.v (E.move (v:=v0) rfl) ?_
  obtain ⟨x28,hx29,hp⟩:=bnd hp
  obtain ⟨p22,cs23,pt24,l25,at26,rel27⟩:=p0.at hx29
  obtain rfl:=zam rel27
  refine FL.v (E.indexAddr te34 rfl rfl pt24) ?_
  refine FL.v (E.load rfl (zaf Tryz.isAgg3 (at26.now S0.sl) rfl)) ?_
  obtain ⟨r30,hr31,hp⟩:=bnd hp
  refine FL.call rfl rfl rfl (E.call Tryz.call149 (A1 rfl)) (zdY S0.sl x28 hr31) ?_
  rintro e w32 ⟨rfl,r33⟩
  refine ⟨_,rfl,?_⟩
  have S34:=S0.call r33
  refine FL.v (E.assign (v:=Value.string r30) rfl) ?_
  refine FL.nil (FW.seq (FW.seq (FW.region ?_)))
  refine FL.v (E.assign (v:=Value.int .i64 1) rfl) ?_
  refine FL.nil ?_
  obtain ⟨q35,hq,hp⟩:=bndR hp
  refine FW.block ?_
  refine FW.mono (FW.forR (S:=ByteArray) (X:=Empty) (fun (i35:Nat) (s35:ByteArray) f w=>∃ H:GH,St Ha wa H w []∧Inc Ha H∧f 4=Value.int .i64 ((i35:Nat):Int)∧f 0=v0∧f 3=Value.string s35) (fun (q:Rs ByteArray Empty) e f w=>match q with|.go s35=>e=Exit.exit 0∧(∃ H:GH,St Ha wa H w []∧Inc Ha H∧f 3=Value.string s35)|.rt x=>x.elim) hq ⟨_,S34,(Inc.rfl _),rfl,rfl,rfl⟩ ?_ ?_) ?_
  ·
   clear hp hq
   rintro i35 s35 f65 w64 ⟨H61,S62,i63,k66,k67,k68⟩ hi35 hj35 o86 hp
   refine FW.seq (FW.seq (FW.region ?_))
   refine FL.v (E.move k66) ?_
   refine FL.v (E.move k67) ?_
   refine FL.v (E.lenP te34 rfl p0) ?_
   refine FL.v (E.lssT rfl rfl (lss_natlen hj35)) ?_
   refine FL.nil ?_
   refine FW.condT rfl rfl ?_
   refine FW.skip (FW.seq (FW.block (FW.region ?_)))
   refine FL.v (E.move k68) ?_
   obtain ⟨z69,h70,hp⟩:=bnd hp
   refine FL.v (E.addT rfl rfl h70) ?_
   refine FL.v (E.move k67) ?_
   refine FL.v (E.move k66) ?_
   obtain ⟨x77,hx78,hp⟩:=bnd hp
   obtain ⟨p71,cs72,pt73,l74,at75,rel76⟩:=p0.at hx78
   obtain rfl:=zam rel76
   refine FL.v (E.indexAddr te34 rfl rfl pt73) ?_
   refine FL.v (E.load rfl (zaf Tryz.isAgg3 ((at75.mono i63).now S62.sl) rfl)) ?_
   obtain ⟨r79,hr80,hp⟩:=bnd hp
   refine FL.call rfl rfl rfl (E.call Tryz.call149 (A1 rfl)) (zdY S62.sl x77 hr80) ?_
   rintro e w81 ⟨rfl,r82⟩
   refine ⟨_,rfl,?_⟩
   have S83:=S62.call r82
   obtain ⟨z84,h85,hp⟩:=bnd hp
   refine FL.v (E.addT rfl rfl h85) ?_
   refine FL.v (E.assign (v:=Value.string z84) rfl) ?_
   refine FL.nil (FW.region ?_)
   refine FL.v (E.move k66) ?_
   refine FL.v (E.add rfl rfl) ?_
   refine FL.v (E.assign (v:=Value.int .i64 (wr (((i35:Nat):Int) + 1))) rfl) ?_
   refine FL.nil ?_
   obtain rfl:=Option.some.inj hp
   exact ⟨rfl,⟨_,S83,i63,(zap rfl hj35 (p0.mono i63).le),k67,rfl⟩⟩
  ·
   clear hp hq
   rintro s35 f97 w96 ⟨H93,S94,i95,k98,k99,kA0⟩
   refine FW.seq (FW.seq (FW.region ?_))
   refine FL.v (E.move k98) ?_
   refine FL.v (E.move k99) ?_
   refine FL.v (E.lenP te34 rfl p0) ?_
   refine FL.v (E.lss rfl rfl) ?_
   refine FL.nil ?_
   refine FW.condF rfl dlt_maxlen ?_
   refine FW.exit ?_
   exact ⟨nofun,rfl,⟨_,S94,i95,kA0⟩⟩
  ·
   clear hq
   intro e f91 w90 hD
   rcases q35 with s35|x35
   ·
    obtain ⟨rfl,hD⟩:=hD
    obtain ⟨H87,S88,i89,k92⟩:=hD
    replace hp:=el_go hp
    refine FW.seq (FW.region ?_)
    refine FL.v (E.move k92) ?_
    refine FL.v (E.assign (v:=Value.string s35) rfl) ?_
    refine FL.nil ?_
    refine FW.ret ?_
    obtain rfl:=Option.some.inj hp
    exact ⟨.inr rfl,res1 rfl rfl ⟨rfl,S88.back⟩⟩
   ·
    exact x35.elim

@[reducible] def zeL (Ha:GH) (wa:World) (r:((List Int)×Bool)):Ending→World→Prop :=
 fun e w'=>∃ H':GH,∃ v0:Value,∃ n0:Nat,∃ c0:List Value,e=.returned (Value.tuple #[v0,Value.bool r.2])∧St Ha wa H' w' [.row 3 1 v0 n0 c0]∧Els (up wa.heap.size H') eI 1 c0 r.1
set_option maxHeartbeats 4000000 in
theorem w_spec_l2Parse {Ha:GH} {wa:World} (hs:Sl Ha wa) (a0:Int) (a1:ByteArray) {r:((List Int)×Bool)} (hp:(PF.zc8 a0 a1)=some r) :
  Calls Tryz.prog 146 #[Value.int .i64 a0,Value.string a1] wa (zeL Ha wa r):=by
 unfold PF.zc8 at hp
 have S0:=St.init hs
 refine zae (N:=61) (args:=[Value.int .i64 a0,Value.string a1]) Tryz.func146 rfl rfl rfl ?_
 refine FW.seq (FW.region ?_)
 refine FL.v (E.assign (v:=Value.slice none 0 0) rfl) ?_
 refine FL.v (E.assign (v:=Value.bool false) rfl) ?_
 refine FL.nil (FW.seq (FW.region ?_))
 obtain ⟨v21,w22,run23,S24⟩:=S0.buildSlice (P:=Tryz.prog) te34 [] (parts:=#[]) (cells:=[]) rfl zao zan zad (Nat.le_of_ble_eq_true rfl)
 have els25:Els (up wa.heap.size Ha) eI 1 [] []:=Els.nil
 refine FL.v (E.buildSlice (B0) run23) ?_
 refine FL.v (E.assign (v:=v21) rfl) ?_
 refine FL.nil (FW.seq (FW.seq (FW.region ?_)))
 refine FL.v (E.move (v:=Value.string a1) rfl) ?_
 refine FL.v (E.eqlS rfl rfl) ?_
 refine FL.nil ?_
 rcases ifB hp with ⟨c26,hp⟩|⟨c26,hp⟩
 ·
  refine FW.condT rfl c26 ?_
  refine FW.seq (FW.region ?_)
  refine FL.v (E.move (v:=v21) rfl) ?_
  refine FL.v (E.move (v:=Value.int .i64 a0) rfl) ?_
  refine FL.call rfl rfl rfl (E.call Tryz.call122 (A1 rfl)) (zdZ S24.sl a0) ?_
  rintro e w27 ⟨rfl,r28⟩
  refine ⟨_,rfl,?_⟩
  have S29:=S24.call r28
  refine FL.v (E.assign (v:=v21) rfl) ?_
  refine FL.v (E.assign (v:=Value.bool (PF.zaK a0)) rfl) ?_
  refine FL.nil ?_
  refine FW.ret ?_
  obtain rfl:=Option.some.inj hp
  exact ⟨.inr rfl,res2 rfl rfl rfl ⟨_,_,_,_,rfl,S29,els25⟩⟩
 ·
  refine FW.condF rfl c26 ?_
  refine FW.skip (FW.seq (FW.region ?_))
  refine FL.v (E.move (v:=Value.string a1) rfl) ?_
  obtain ⟨r30,hr31,hp⟩:=bnd hp
  refine FL.call rfl rfl rfl (E.call Tryz.call144 (A2 rfl rfl)) (zeK S24.sl a1 32 hr31) ?_
  rintro e w33 ⟨H32,v36,n37,cs38,rfl,r35,els39⟩
  refine ⟨_,rfl,?_⟩
  have els39:=els39.mono (up_le S24.size)
  have S34:=S24.join (l':=[.row 9 1 v36 n37 cs38,.row 3 1 v21 0 []]) r35 rfl
  refine FL.v (E.assign (v:=v36) rfl) ?_
  refine FL.nil (FW.seq (FW.seq (FW.region ?_)))
  refine FL.v (E.assign (v:=Value.int .i64 0) rfl) ?_
  refine FL.nil ?_
  obtain ⟨q40,hq,hp⟩:=bndR hp
  refine FW.block ?_
  refine FW.mono (FW.iter (S:=((List Int)×Int)) (X:=((List Int)×Bool)) (fun (s40:((List Int)×Int)) f w=>∃ H:GH,∃ v41:Value,∃ n42:Nat,∃ cs43:List Value,St Ha wa H w [.row 9 1 v36 n37 cs38,.row 3 1 v41 n42 cs43]∧Inc H32 H∧Els (up wa.heap.size H) eI 1 cs43 s40.1∧f 0=Value.int .i64 a0∧f 1=Value.string a1∧f 6=v41∧f 7=v36∧f 8=Value.int .i64 s40.2) (fun q e f w=>match q with|.go s40=>e=Exit.exit 0∧(∃ H:GH,∃ v41:Value,∃ n42:Nat,∃ cs43:List Value,St Ha wa H w [.row 9 1 v36 n37 cs38,.row 3 1 v41 n42 cs43]∧Inc H32 H∧Els (up wa.heap.size H) eI 1 cs43 s40.1∧f 0=Value.int .i64 a0∧f 1=Value.string a1∧f 6=v41∧f 7=v36)|.rt x=>((e=Exit.ret)∧(fun e f w=>(e=Exit.normal∨e=Exit.ret)∧∀ a,Fr (δ:=[]) 61 a f→∃ v,(results Tryz.f146 a.tmps).run Tryz.prog w=.ok v w∧(zeL Ha wa x) (.returned v) w) e f w)) hq ⟨_,_,_,_,S34,(Inc.rfl _),(els25.mono (zag r35.run.inc)),rfl,rfl,rfl,rfl,rfl⟩ ?_) ?_
  ·
   clear hp hq
   rintro s40 fA8 wA7 ⟨HA4,v41,n42,cs43,SA5,iA6,els44,kA9,kAa,kAb,kAc,kAd⟩ oB1 hp
   refine FW.seq (FW.seq (FW.region ?_))
   refine FL.v (E.move kAd) ?_
   refine FL.v (E.move kAc) ?_
   refine FL.v (E.lenO te114 rfl SA5 (i:=0) rfl els39 (by decide)) ?_
   refine FL.v (E.lss rfl rfl) ?_
   refine FL.v (E.move (v:=Value.bool (decide (s40.2 < (len r30)))) rfl) ?_
   refine FL.cut 3 (fun f w=>∃ H:GH,St Ha wa H w [.row 9 1 v36 n37 cs38,.row 3 1 v41 n42 cs43]∧Inc HA4 H∧f 0=Value.int .i64 a0∧f 1=Value.string a1∧f 6=v41∧f 7=v36∧f 8=Value.int .i64 s40.2∧f 26=Value.bool (bif (decide (s40.2 < (len r30))) then (decide (s40.2≤12)) else false)) ?_ ?_
   ·
    rcases bcase (decide (s40.2 < (len r30))) with cAk|cAk
    ·
     refine FL.val (zab rfl rfl rfl cAk) rfl rfl (E.move kAd) ?_
     refine FL.val (zab rfl rfl rfl cAk) rfl rfl (E.leq rfl rfl) ?_
     refine FL.v (E.pickT rfl cAk rfl) ?_
     exact FL.nil ⟨rfl,_,SA5,(Inc.rfl _),kA9,kAa,kAb,kAc,kAd,(congrArg Value.bool (bifT cAk).symm)⟩
    ·
     refine FL.skip (wF_no rfl rfl rfl cAk) rfl ?_
     refine FL.skip (wF_no rfl rfl rfl cAk) rfl ?_
     refine FL.v (E.pickF rfl cAk rfl) ?_
     exact FL.nil ⟨rfl,_,SA5,(Inc.rfl _),kA9,kAa,kAb,kAc,kAd,(congrArg Value.bool (bifF cAk).symm)⟩
   rintro fAj wAi ⟨HAf,SAg,iAh,kAl,kAm,kAn,kAo,kAp,kAq⟩
   refine FL.nil ?_
   rcases ifB hp with ⟨cAr,hp⟩|⟨cAr,hp⟩
   ·
    refine FW.condT kAq cAr ?_
    refine FW.skip (FW.seq (FW.block (FW.seq (FW.region ?_))))
    refine FL.v (E.move kAo) ?_
    refine FL.v (E.move kAp) ?_
    obtain ⟨xAy,hxAz,hp⟩:=bnd hp
    obtain ⟨pAs,csAt,ptAu,lAv,atAw,relAx⟩:=SAg.row_at (i:=0) rfl els39 (by decide) hxAz
    obtain rfl:=eS_open relAx
    refine FL.v (E.indexAddr te114 rfl rfl ptAu) ?_
    refine FL.v (E.load rfl (zaf Tryz.isAgg9 atAw rfl)) ?_
    obtain ⟨rAA,hrAB,hp⟩:=bnd hp
    refine FL.call rfl rfl rfl (E.call Tryz.call145 (A1 rfl)) (w_spec_l1Read SAg.sl xAy hrAB) ?_
    rintro e wAC ⟨rfl,rAD⟩
    refine ⟨_,rfl,?_⟩
    have SAE:=SAg.call rAD
    refine FL.v (E.move (v:=Value.tuple #[Value.int .i64 rAA.1,Value.bool rAA.2]) rfl) ?_
    refine FL.v (E.extract (i:=0) rfl rfl) ?_
    refine FL.v (E.extract (i:=1) rfl rfl) ?_
    refine FL.v (E.assign (v:=Value.int .i64 rAA.1) rfl) ?_
    refine FL.v (E.assign (v:=Value.bool rAA.2) rfl) ?_
    refine FL.nil (FW.seq (FW.seq (FW.region ?_)))
    refine FL.v (E.move (v:=Value.bool rAA.2) rfl) ?_
    refine FL.v (E.not rfl) ?_
    refine FL.nil ?_
    rcases ifB hp with ⟨cAF,hp⟩|⟨cAF,hp⟩
    ·
     refine FW.condT rfl cAF ?_
     refine FW.seq (FW.region ?_)
     obtain ⟨vAG,wAH,runAI,SAJ⟩:=SAE.buildSlice (P:=Tryz.prog) te34 [] (parts:=#[]) (cells:=[]) rfl zao zan zad (Nat.le_of_ble_eq_true rfl)
     have elsAK:Els (up wa.heap.size HAf) eI 1 [] []:=Els.nil
     refine FL.v (E.buildSlice (B0) runAI) ?_
     refine FL.v (E.assign (v:=vAG) rfl) ?_
     refine FL.v (E.assign (v:=Value.bool false) rfl) ?_
     refine FL.nil ?_
     refine FW.ret ?_
     obtain rfl:=Option.some.inj hp
     exact ⟨nofun,rfl,⟨.inr rfl,res2 rfl rfl rfl ⟨_,_,_,_,rfl,(SAJ.sel [0] (by decide) rfl),elsAK⟩⟩⟩
    ·
     refine FW.condF rfl cAF ?_
     refine FW.skip (FW.region ?_)
     refine FL.v (E.move kAn) ?_
     refine FL.v (E.move (v:=Value.int .i64 rAA.1) rfl) ?_
     obtain ⟨vAL,wAM,runAN,SAO,elsAP⟩:=SAE.ints (P:=Tryz.prog) te34 (up wa.heap.size HAf) 1 [rAA.1]
     refine FL.v (E.buildSlice (B1 rfl) runAN) ?_
     obtain ⟨xsAQ,hzAR,hp⟩:=bnd hp
     obtain ⟨vAS,wAV,nAT,csAU,runAW,SAX,elsAY,ceAZ⟩:=SAO.appendO (P:=Tryz.prog) te34 (i:=2) (j:=0) rfl (els44.mono (zag iAh)) rfl elsAP hzAR
     have SAX:St Ha wa HAf wAV [.row 3 1 vAL 1 (iC [rAA.1]),.row 9 1 v36 n37 cs38,.row 3 1 vAS nAT csAU]:=SAX
     have SB0:St Ha wa HAf wAV [.row 9 1 v36 n37 cs38,.row 3 1 vAS nAT csAU]:=SAX.drop 0
     refine FL.v (E.append rfl rfl runAW) ?_
     refine FL.v (E.assign (v:=vAS) rfl) ?_
     refine FL.nil (FW.region ?_)
     refine FL.v (E.move kAp) ?_
     refine FL.v (E.add rfl rfl) ?_
     refine FL.v (E.assign (v:=Value.int .i64 (wr (s40.2 + 1))) rfl) ?_
     refine FL.nil ?_
     obtain rfl:=Option.some.inj hp
     exact ⟨rfl,⟨_,_,_,_,SB0,(iA6.tr iAh),elsAY,kAl,kAm,rfl,kAo,rfl⟩⟩
   ·
    refine FW.condF kAq cAr ?_
    refine FW.exit ?_
    obtain rfl:=Option.some.inj hp
    exact ⟨nofun,rfl,⟨_,_,_,_,SAg,(iA6.tr iAh),(els44.mono (zag iAh)),kAl,kAm,kAn,kAo⟩⟩
  ·
   clear hq
   intro e fB6 wB5 hD
   rcases q40 with s40|x40
   ·
    obtain ⟨rfl,hD⟩:=hD
    obtain ⟨HB2,v41,n42,cs43,SB3,iB4,els44,kB7,kB8,kB9,kBa⟩:=hD
    replace hp:=el_go hp
    refine FW.seq (FW.seq (FW.region ?_))
    refine FL.v (E.move kBa) ?_
    refine FL.v (E.lenO te114 rfl SB3 (i:=0) rfl els39 (by decide)) ?_
    refine FL.v (E.gtr rfl rfl) ?_
    refine FL.v (E.move (v:=Value.bool (decide (12 < (len r30)))) rfl) ?_
    obtain ⟨t183,hqtBl,hp⟩:=bnd hp
    refine FL.cut 5 (fun f w=>∃ H:GH,St Ha wa H w [.row 9 1 v36 n37 cs38,.row 3 1 v41 n42 cs43]∧Inc HB2 H∧f 1=Value.string a1∧f 6=v41∧f 52=Value.bool t183) ?_ ?_
    ·
     clear hp;have hp:=hqtBl;clear hqtBl
     rcases ifB hp with ⟨cBr,hp⟩|⟨cBr,hp⟩
     ·
      refine FL.skip (wF_no rfl rfl rfl cBr) rfl ?_
      refine FL.skip (wF_no rfl rfl rfl cBr) rfl ?_
      refine FL.skip (wF_no rfl rfl rfl cBr) rfl ?_
      refine FL.skip (wF_no rfl rfl rfl cBr) rfl ?_
      obtain rfl:=Option.some.inj hp
      refine FL.v (E.pickT rfl cBr rfl) ?_
      exact FL.nil ⟨rfl,_,SB3,(Inc.rfl _),kB8,kB9,rfl⟩
     ·
      refine FL.val (zab rfl rfl rfl cBr) rfl rfl (E.move kB7) ?_
      refine FL.val (zab rfl rfl rfl cBr) rfl rfl (E.move kB9) ?_
      obtain ⟨HBs,SBt,iBu,hBv,nvBw⟩:=SB3.sealRowU (i:=1) (l':=[.row 9 1 v36 n37 cs38]) rfl els44 (by decide) rfl
      obtain ⟨rBx,hrBy,hp⟩:=bnd hp
      refine FL.call (zab rfl rfl rfl cBr) rfl rfl (E.call Tryz.call108 (A2 rfl rfl)) (zem SBt.sl a0 v41 s40.1 (hBv.mono upI) hrBy) ?_
      rintro e wBz ⟨rfl,rBA⟩
      refine ⟨_,rfl,?_⟩
      have rBA:=Run.lend iBu SB3.sl rBA
      have SBB:=SB3.call rBA
      refine FL.val (zab rfl rfl rfl cBr) rfl rfl (E.not rfl) ?_
      obtain rfl:=Option.some.inj hp
      refine FL.v (E.pickF rfl cBr rfl) ?_
      exact FL.nil ⟨rfl,_,SBB,(Inc.rfl _),kB8,kB9,rfl⟩
    rintro fBq wBp ⟨HBm,SBn,iBo,kBC,kBD,kBE⟩
    refine FL.v (E.move kBE) ?_
    obtain ⟨t213,hqtBP,hp⟩:=bnd hp
    refine FL.cut 5 (fun f w=>∃ H:GH,St Ha wa H w [.row 9 1 v36 n37 cs38,.row 3 1 v41 n42 cs43]∧Inc HBm H∧f 6=v41∧f 58=Value.bool t213) ?_ ?_
    ·
     clear hp;have hp:=hqtBP;clear hqtBP
     rcases ifB hp with ⟨cBV,hp⟩|⟨cBV,hp⟩
     ·
      refine FL.skip (wF_no rfl rfl rfl cBV) rfl ?_
      refine FL.skip (wF_no rfl rfl rfl cBV) rfl ?_
      refine FL.skip (wF_no rfl rfl rfl cBV) rfl ?_
      refine FL.skip (wF_no rfl rfl rfl cBV) rfl ?_
      obtain rfl:=Option.some.inj hp
      refine FL.v (E.pickT rfl cBV rfl) ?_
      exact FL.nil ⟨rfl,_,SBn,(Inc.rfl _),kBD,rfl⟩
     ·
      refine FL.val (zab rfl rfl rfl cBV) rfl rfl (E.move kBD) ?_
      obtain ⟨HBW,SBX,iBY,hBZ,nvC0⟩:=SBn.sealRowU (i:=1) (l':=[.row 9 1 v36 n37 cs38]) rfl (els44.mono (zag iBo)) (by decide) rfl
      obtain ⟨rC1,hrC2,hp⟩:=bnd hp
      refine FL.call (zab rfl rfl rfl cBV) rfl rfl (E.call Tryz.call150 (A1 rfl)) (w_spec_l2Text SBX.sl v41 s40.1 (hBZ.mono upI) hrC2) ?_
      rintro e wC3 ⟨rfl,rC4⟩
      refine ⟨_,rfl,?_⟩
      have rC4:=Run.lend iBY SBn.sl rC4
      have SC5:=SBn.call rC4
      refine FL.val (zab rfl rfl rfl cBV) rfl rfl (E.move kBC) ?_
      refine FL.val (zab rfl rfl rfl cBV) rfl rfl (E.neqS rfl rfl) ?_
      obtain rfl:=Option.some.inj hp
      refine FL.v (E.pickF rfl cBV rfl) ?_
      exact FL.nil ⟨rfl,_,SC5,(Inc.rfl _),kBD,rfl⟩
    rintro fBU wBT ⟨HBQ,SBR,iBS,kC6,kC7⟩
    refine FL.nil ?_
    rcases ifB hp with ⟨cC8,hp⟩|⟨cC8,hp⟩
    ·
     refine FW.condT kC7 cC8 ?_
     refine FW.seq (FW.region ?_)
     obtain ⟨vC9,wCa,runCb,SCc⟩:=SBR.buildSlice (P:=Tryz.prog) te34 [] (parts:=#[]) (cells:=[]) rfl zao zan zad (Nat.le_of_ble_eq_true rfl)
     have elsCd:Els (up wa.heap.size HBQ) eI 1 [] []:=Els.nil
     refine FL.v (E.buildSlice (B0) runCb) ?_
     refine FL.v (E.assign (v:=vC9) rfl) ?_
     refine FL.v (E.assign (v:=Value.bool false) rfl) ?_
     refine FL.nil ?_
     refine FW.ret ?_
     obtain rfl:=Option.some.inj hp
     exact ⟨.inr rfl,res2 rfl rfl rfl ⟨_,_,_,_,rfl,(SCc.sel [0] (by decide) rfl),elsCd⟩⟩
    ·
     refine FW.condF kC7 cC8 ?_
     refine FW.skip (FW.seq (FW.region ?_))
     refine FL.v (E.move kC6) ?_
     refine FL.v (E.assign (v:=v41) rfl) ?_
     refine FL.v (E.assign (v:=Value.bool true) rfl) ?_
     refine FL.nil ?_
     refine FW.ret ?_
     obtain rfl:=Option.some.inj hp
     exact ⟨.inr rfl,res2 rfl rfl rfl ⟨_,_,_,_,rfl,(SBR.sel [1] (by decide) rfl),(els44.mono (zag (iBo.tr iBS)))⟩⟩
   ·
    obtain ⟨he,hL⟩:=hD
    replace hp:=el_rt hp
    obtain rfl:=Option.some.inj hp
    subst he
    exact hL

theorem w_spec_l2TextOf {Ha:GH} {wa:World} (hs:Sl Ha wa) (a0:Cnf) (v0_1:Value) (p0_1:RSl Ha (eL eI 1) 1 v0_1 a0.clauses) {r:ByteArray} (hp:(PF.zc9 a0)=some r) :
  Calls Tryz.prog 147 #[Value.agg #[Value.int .i64 a0.vars,v0_1]] wa (Sc Ha wa (Value.string r)):=by
 unfold PF.zc9 at hp
 have S0:=St.init hs
 refine zae (N:=25) (args:=[Value.agg #[Value.int .i64 a0.vars,v0_1]]) Tryz.func147 rfl rfl rfl ?_
 refine FW.seq (FW.region ?_)
 obtain ⟨b21,w22,run23,S24⟩:=S0.box (P:=Tryz.prog) 26 [Value.int .i64 a0.vars,v0_1] (v:=Value.agg #[Value.int .i64 a0.vars,v0_1]) rfl (zac rfl (zac p0_1.one zad))
 refine FL.v (E.box rfl run23) ?_
 obtain ⟨H25,S26,i27,at28⟩:=S24.sealBox (i:=0) (l':=[]) rfl rfl
 refine FL.v (E.assign (v:=Value.string (ByteArray.mk #[])) rfl) ?_
 refine FL.nil (FW.seq (FW.region ?_))
 refine FL.v (E.fieldAddr zaC rfl) ?_
 refine FL.v (E.load rfl (zah Tryz.isAgg3 (at28.now S26.sl) rfl)) ?_
 obtain ⟨r29,hr30,hp⟩:=bnd hp
 refine FL.call rfl rfl rfl (E.call Tryz.call149 (A1 rfl)) (zdY S26.sl a0.vars hr30) ?_
 rintro e w31 ⟨rfl,r32⟩
 refine ⟨_,rfl,?_⟩
 have S33:=S26.call r32
 refine FL.v (E.assign (v:=Value.string r29) rfl) ?_
 refine FL.nil (FW.seq (FW.seq (FW.region ?_)))
 refine FL.v (E.assign (v:=Value.int .i64 0) rfl) ?_
 refine FL.nil ?_
 obtain ⟨q34,hq,hp⟩:=bndR hp
 refine FW.block ?_
 refine FW.mono (FW.iter (S:=(ByteArray×Int)) (X:=Empty) (fun (s34:(ByteArray×Int)) f w=>∃ H:GH,St Ha wa H w []∧Inc H25 H∧f 1=Value.pointer (some ⟨b21,0,none⟩)∧f 3=Value.string s34.1∧f 4=Value.int .i64 s34.2) (fun (q:Rs (ByteArray×Int) Empty) e f w=>match q with|.go s34=>e=Exit.exit 0∧(∃ H:GH,St Ha wa H w []∧Inc H25 H∧f 3=Value.string s34.1)|.rt x=>x.elim) hq ⟨_,S33,(Inc.rfl _),rfl,rfl,rfl⟩ ?_) ?_
 ·
  clear hp hq
  rintro s34 f67 w66 ⟨H63,S64,i65,k68,k69,k70⟩ o91 hp
  refine FW.seq (FW.seq (FW.region ?_))
  refine FL.v (E.move k70) ?_
  refine FL.v (E.fieldAddr zay k68) ?_
  refine FL.v (E.load rfl (zah Tryz.isAgg24 ((at28.mono i65).now S64.sl) rfl)) ?_
  refine FL.v (E.lenP te24 rfl p0_1) ?_
  refine FL.v (E.lss rfl rfl) ?_
  refine FL.nil ?_
  rcases ifB hp with ⟨c71,hp⟩|⟨c71,hp⟩
  ·
   refine FW.condT rfl c71 ?_
   refine FW.skip (FW.seq (FW.block (FW.region ?_)))
   refine FL.v (E.move k69) ?_
   obtain ⟨z72,h73,hp⟩:=bnd hp
   refine FL.v (E.addT rfl rfl h73) ?_
   refine FL.v (E.fieldAddr zay k68) ?_
   refine FL.v (E.load rfl (zah Tryz.isAgg24 ((at28.mono i65).now S64.sl) rfl)) ?_
   refine FL.v (E.move k70) ?_
   obtain ⟨x80,hx81,hp⟩:=bnd hp
   obtain ⟨p74,cs75,pt76,l77,at78,rel79⟩:=p0_1.at hx81
   obtain ⟨v82,rfl,h83⟩:=zav rel79
   refine FL.v (E.indexAddr te24 rfl rfl pt76) ?_
   refine FL.v (E.load rfl (zaf Tryz.isAgg34 ((at78.mono (i27.tr i65)).now S64.sl) rfl)) ?_
   obtain ⟨r84,hr85,hp⟩:=bnd hp
   refine FL.call rfl rfl rfl (E.call Tryz.call150 (A1 rfl)) (w_spec_l2Text S64.sl v82 x80 (h83.mono (i27.tr i65)) hr85) ?_
   rintro e w86 ⟨rfl,r87⟩
   refine ⟨_,rfl,?_⟩
   have S88:=S64.call r87
   obtain ⟨z89,h90,hp⟩:=bnd hp
   refine FL.v (E.addT rfl rfl h90) ?_
   refine FL.v (E.assign (v:=Value.string z89) rfl) ?_
   refine FL.nil (FW.region ?_)
   refine FL.v (E.move k70) ?_
   refine FL.v (E.add rfl rfl) ?_
   refine FL.v (E.assign (v:=Value.int .i64 (wr (s34.2 + 1))) rfl) ?_
   refine FL.nil ?_
   obtain rfl:=Option.some.inj hp
   exact ⟨rfl,⟨_,S88,i65,k68,rfl,rfl⟩⟩
  ·
   refine FW.condF rfl c71 ?_
   refine FW.exit ?_
   obtain rfl:=Option.some.inj hp
   exact ⟨nofun,rfl,⟨_,S64,i65,k69⟩⟩
 ·
  clear hq
  intro e f96 w95 hD
  rcases q34 with s34|x34
  ·
   obtain ⟨rfl,hD⟩:=hD
   obtain ⟨H92,S93,i94,k97⟩:=hD
   replace hp:=el_go hp
   refine FW.seq (FW.region ?_)
   refine FL.v (E.move k97) ?_
   refine FL.v (E.assign (v:=Value.string s34.1) rfl) ?_
   refine FL.nil ?_
   refine FW.ret ?_
   obtain rfl:=Option.some.inj hp
   exact ⟨.inr rfl,res1 rfl rfl ⟨rfl,S93.back⟩⟩
  ·
   exact x34.elim

@[reducible] def zeM (Ha:GH) (wa:World) (r:(Cnf×Bool)):Ending→World→Prop :=
 fun e w'=>∃ H':GH,∃ v0_1:Value,e=.returned (Value.tuple #[Value.agg #[Value.int .i64 r.1.vars,v0_1],Value.bool r.2])∧Run wa.heap.size Ha wa H' w'∧(∃ c,Nest (up wa.heap.size H') (eL eI 1) 1 v0_1 r.1.clauses c)
set_option maxHeartbeats 4000000 in
theorem w_spec_ParseCnf {Ha:GH} {wa:World} (hs:Sl Ha wa) (a0:ByteArray) {r:(Cnf×Bool)} (hp:(PF.zda a0)=some r) :
  Calls Tryz.prog 137 #[Value.string a0] wa (zeM Ha wa r):=by
 unfold PF.zda at hp
 have S0:=St.init hs
 refine zae (N:=82) (args:=[Value.string a0]) Tryz.func137 rfl rfl rfl ?_
 refine FW.seq (FW.region ?_)
 obtain ⟨b21,w22,run23,S24⟩:=S0.alloc (P:=Tryz.prog) 26 [Value.int .i64 0,Value.slice none 0 0] Tryz.zeroValue26 rfl (zac rfl (zac rfl zad))
 refine FL.v (E.alloc run23) ?_
 refine FL.v (E.assign (v:=Value.bool false) rfl) ?_
 refine FL.nil (FW.seq (FW.region ?_))
 refine FL.v (E.move (v:=Value.string a0) rfl) ?_
 obtain ⟨r25,hr26,hp⟩:=bnd hp
 refine FL.call rfl rfl rfl (E.call Tryz.call144 (A2 rfl rfl)) (zeK S24.sl a0 59 hr26) ?_
 rintro e w28 ⟨H27,v31,n32,cs33,rfl,r30,els34⟩
 refine ⟨_,rfl,?_⟩
 have els34:=els34.mono (up_le S24.size)
 have S29:=S24.join (l':=[.row 9 1 v31 n32 cs33,.box b21 26 [Value.int .i64 0,Value.slice none 0 0]]) r30 rfl
 refine FL.v (E.assign (v:=v31) rfl) ?_
 refine FL.nil (FW.seq (FW.region ?_))
 refine FL.v (E.move (v:=v31) rfl) ?_
 obtain ⟨x41,hx42,hp⟩:=bnd hp
 obtain ⟨p35,cs36,pt37,l38,at39,rel40⟩:=S29.row_at (i:=0) rfl els34 (by decide) hx42
 obtain rfl:=eS_open rel40
 refine FL.v (E.indexAddr te114 rfl rfl pt37) ?_
 refine FL.v (E.load rfl (zaf Tryz.isAgg9 at39 rfl)) ?_
 obtain ⟨r43,hr44,hp⟩:=bnd hp
 refine FL.call rfl rfl rfl (E.call Tryz.call145 (A1 rfl)) (w_spec_l1Read S29.sl x41 hr44) ?_
 rintro e w45 ⟨rfl,r46⟩
 refine ⟨_,rfl,?_⟩
 have S47:=S29.call r46
 refine FL.v (E.move (v:=Value.tuple #[Value.int .i64 r43.1,Value.bool r43.2]) rfl) ?_
 refine FL.v (E.extract (i:=0) rfl rfl) ?_
 refine FL.v (E.extract (i:=1) rfl rfl) ?_
 refine FL.v (E.assign (v:=Value.int .i64 r43.1) rfl) ?_
 refine FL.v (E.assign (v:=Value.bool r43.2) rfl) ?_
 refine FL.nil (FW.seq (FW.seq (FW.region ?_)))
 refine FL.v (E.move (v:=Value.bool r43.2) rfl) ?_
 refine FL.v (E.not rfl) ?_
 refine FL.v (E.move (v:=Value.bool (!r43.2)) rfl) ?_
 refine FL.cut 4 (fun f w=>∃ H:GH,St Ha wa H w [.row 9 1 v31 n32 cs33,.box b21 26 [Value.int .i64 0,Value.slice none 0 0]]∧Inc H27 H∧f 0=Value.string a0∧f 2=Value.pointer (some (⟨b21,0,none⟩:Addr))∧f 4=v31∧f 5=Value.int .i64 r43.1∧f 26=Value.bool (bif (!r43.2) then true else (!(PF.zaK r43.1)))) ?_ ?_
 ·
  rcases bcase (!r43.2) with c57|c57
  ·
   refine FL.skip (wF_no rfl rfl rfl c57) rfl ?_
   refine FL.skip (wF_no rfl rfl rfl c57) rfl ?_
   refine FL.skip (wF_no rfl rfl rfl c57) rfl ?_
   refine FL.v (E.pickT rfl c57 rfl) ?_
   exact FL.nil ⟨rfl,_,S47,(Inc.rfl _),rfl,rfl,rfl,rfl,(congrArg Value.bool (bifT c57).symm)⟩
  ·
   refine FL.val (zab rfl rfl rfl c57) rfl rfl (E.move (v:=Value.int .i64 r43.1) rfl) ?_
   refine FL.call (zab rfl rfl rfl c57) rfl rfl (E.call Tryz.call122 (A1 rfl)) (zdZ S47.sl r43.1) ?_
   rintro e w58 ⟨rfl,r59⟩
   refine ⟨_,rfl,?_⟩
   have S60:=S47.call r59
   refine FL.val (zab rfl rfl rfl c57) rfl rfl (E.not rfl) ?_
   refine FL.v (E.pickF rfl c57 rfl) ?_
   exact FL.nil ⟨rfl,_,S60,(Inc.rfl _),rfl,rfl,rfl,rfl,(congrArg Value.bool (bifF c57).symm)⟩
 rintro f56 w55 ⟨H52,S53,i54,k61,k62,k63,k64,k65⟩
 refine FL.v (E.move k65) ?_
 refine FL.cut 4 (fun f w=>∃ H:GH,St Ha wa H w [.row 9 1 v31 n32 cs33,.box b21 26 [Value.int .i64 0,Value.slice none 0 0]]∧Inc H52 H∧f 0=Value.string a0∧f 2=Value.pointer (some (⟨b21,0,none⟩:Addr))∧f 4=v31∧f 5=Value.int .i64 r43.1∧f 31=Value.bool (bif (bif (!r43.2) then true else (!(PF.zaK r43.1))) then true else (decide (61 < (len r25))))) ?_ ?_
 ·
  rcases bcase (bif (!r43.2) then true else (!(PF.zaK r43.1))) with c72|c72
  ·
   refine FL.skip (wF_no rfl rfl rfl c72) rfl ?_
   refine FL.skip (wF_no rfl rfl rfl c72) rfl ?_
   refine FL.skip (wF_no rfl rfl rfl c72) rfl ?_
   refine FL.v (E.pickT rfl c72 rfl) ?_
   exact FL.nil ⟨rfl,_,S53,(Inc.rfl _),k61,k62,k63,k64,(congrArg Value.bool (bifT c72).symm)⟩
  ·
   refine FL.val (zab rfl rfl rfl c72) rfl rfl (E.move k63) ?_
   refine FL.val (zab rfl rfl rfl c72) rfl rfl (E.lenO te114 rfl S53 (i:=0) rfl els34 (by decide)) ?_
   refine FL.val (zab rfl rfl rfl c72) rfl rfl (E.gtr rfl rfl) ?_
   refine FL.v (E.pickF rfl c72 rfl) ?_
   exact FL.nil ⟨rfl,_,S53,(Inc.rfl _),k61,k62,k63,k64,(congrArg Value.bool (bifF c72).symm)⟩
 rintro f71 w70 ⟨H67,S68,i69,k73,k74,k75,k76,k77⟩
 refine FL.nil ?_
 rcases ifB hp with ⟨c78,hp⟩|⟨c78,hp⟩
 ·
  refine FW.condT k77 c78 ?_
  refine FW.seq (FW.region ?_)
  refine FL.v (E.build (B0) (run_build _ 26 #[] #[Value.int .i64 0,Value.slice none 0 0] (by rfl))) ?_
  obtain ⟨w79,run80,S81⟩:=S68.store0 (P:=Tryz.prog) (t:=26) (i:=1) (cs':=[Value.int .i64 0,Value.slice none 0 0]) (l':=[.row 9 1 v31 n32 cs33,.box b21 26 [Value.int .i64 0,Value.slice none 0 0]]) (v:=Value.agg #[Value.int .i64 0,Value.slice none 0 0]) (c:=[Value.int .i64 0,Value.slice none 0 0]) rfl Tryz.sizeOf26 rfl rfl (zac rfl (zac rfl zad)) (Nat.le_of_ble_eq_true rfl) rfl rfl
  refine FL.act rfl rfl (E.store k74 rfl run80) ?_
  refine FL.v (E.assign (v:=Value.bool false) rfl) ?_
  refine FL.nil ?_
  refine FW.ret ?_
  obtain rfl:=Option.some.inj hp
  exact ⟨.inr rfl,resC2 rfl k74 (zaB Tryz.isAgg26 Tryz.sizeOf26 (S81.box_now (i:=1) rfl) rfl) rfl ⟨_,_,rfl,S81.run,⟨_,Nest.nil⟩⟩⟩
 ·
  refine FW.condF k77 c78 ?_
  refine FW.skip (FW.seq (FW.region ?_))
  refine FL.v (E.move k76) ?_
  obtain ⟨v82,w83,run84,S85⟩:=S68.buildSlice (P:=Tryz.prog) te24 [] (parts:=#[]) (cells:=[]) rfl zao zan zad (Nat.le_of_ble_eq_true rfl)
  have els86:Els (up wa.heap.size H67) (eL eI 1) 1 [] []:=Els.nil
  refine FL.v (E.buildSlice (B0) run84) ?_
  refine FL.v (E.build (B2 rfl rfl) (run_build _ 26 #[(0,Value.int .i64 r43.1),(1,v82)] #[Value.int .i64 r43.1,v82] (by obtain ⟨_,_,rfl⟩:=S85.row_ln (i:=0) rfl;rfl))) ?_
  obtain ⟨b87,w88,run89,S90⟩:=S85.alloc (P:=Tryz.prog) 26 [Value.int .i64 0,Value.slice none 0 0] Tryz.zeroValue26 rfl (zac rfl (zac rfl zad))
  refine FL.v (E.alloc run89) ?_
  obtain ⟨w91,run92,S93⟩:=S90.store0 (P:=Tryz.prog) (t:=26) (i:=0) (cs':=[Value.int .i64 r43.1,v82]) (l':=[.box b87 26 [Value.int .i64 r43.1,v82],.row 34 1 v82 0 [],.row 9 1 v31 n32 cs33,.box b21 26 [Value.int .i64 0,Value.slice none 0 0]]) (v:=Value.agg #[Value.int .i64 r43.1,v82]) (c:=[Value.int .i64 r43.1,v82]) rfl Tryz.sizeOf26 rfl rfl (zac rfl (zac (Ln.one (S90.row_ln (i:=1) rfl)) zad)) (Nat.le_of_ble_eq_true rfl) rfl rfl
  refine FL.act rfl rfl (E.store rfl rfl run92) ?_
  refine FL.nil (FW.seq (FW.seq (FW.region ?_)))
  refine FL.v (E.assign (v:=Value.int .i64 1) rfl) ?_
  refine FL.nil ?_
  obtain ⟨q94,hq,hp⟩:=bndR hp
  refine FW.block ?_
  refine FW.mono (FW.iter (S:=((List (List Int))×Int)) (X:=(Cnf×Bool)) (fun (s94:((List (List Int))×Int)) f w=>∃ H:GH,∃ vDu:Value,∃ nDv:Nat,∃ csDw:List Value,St Ha wa H w [.box b87 26 [Value.int .i64 r43.1,vDu],.row 34 1 vDu nDv csDw,.row 9 1 v31 n32 cs33,.box b21 26 [Value.int .i64 0,Value.slice none 0 0]]∧Inc H67 H∧Els (up wa.heap.size H) (eL eI 1) 1 csDw s94.1∧(bl csDw).Nodup∧f 0=Value.string a0∧f 2=Value.pointer (some (⟨b21,0,none⟩:Addr))∧f 4=v31∧f 5=Value.int .i64 r43.1∧f 7=Value.pointer (some (⟨b87,0,none⟩:Addr))∧f 8=Value.int .i64 s94.2) (fun q e f w=>match q with|.go s94=>e=Exit.exit 0∧(∃ H:GH,∃ vDu:Value,∃ nDv:Nat,∃ csDw:List Value,St Ha wa H w [.box b87 26 [Value.int .i64 r43.1,vDu],.row 34 1 vDu nDv csDw,.row 9 1 v31 n32 cs33,.box b21 26 [Value.int .i64 0,Value.slice none 0 0]]∧Inc H67 H∧Els (up wa.heap.size H) (eL eI 1) 1 csDw s94.1∧(bl csDw).Nodup∧f 0=Value.string a0∧f 2=Value.pointer (some (⟨b21,0,none⟩:Addr))∧f 7=Value.pointer (some (⟨b87,0,none⟩:Addr)))|.rt x=>((e=Exit.ret)∧(fun e f w=>(e=Exit.normal∨e=Exit.ret)∧∀ a,Fr (δ:=[]) 82 a f→∃ v,(results Tryz.f137 a.tmps).run Tryz.prog w=.ok v w∧(zeM Ha wa x) (.returned v) w) e f w)) hq ⟨_,_,_,_,S93,(Inc.rfl _),els86,(show (bl []).Nodup from List.nodup_nil),k73,k74,k75,k76,rfl,rfl⟩ ?_) ?_
  ·
   clear hp hq
   rintro s94 fFn wFm ⟨HFj,vDu,nDv,csDw,SFk,iFl,elsDx,ndDy,kFo,kFp,kFq,kFr,kFs,kFt⟩ oH3 hp
   refine FW.seq (FW.seq (FW.region ?_))
   refine FL.v (E.move kFt) ?_
   refine FL.v (E.move kFq) ?_
   refine FL.v (E.lenO te114 rfl SFk (i:=2) rfl els34 (by decide)) ?_
   refine FL.v (E.lss rfl rfl) ?_
   refine FL.nil ?_
   rcases ifB hp with ⟨cFu,hp⟩|⟨cFu,hp⟩
   ·
    refine FW.condT rfl cFu ?_
    refine FW.skip (FW.seq (FW.block (FW.seq (FW.seq (FW.region ?_)))))
    refine FL.v (E.move kFq) ?_
    refine FL.v (E.move kFt) ?_
    obtain ⟨xFB,hxFC,hp⟩:=bnd hp
    obtain ⟨pFv,csFw,ptFx,lFy,atFz,relFA⟩:=SFk.row_at (i:=2) rfl els34 (by decide) hxFC
    obtain rfl:=eS_open relFA
    refine FL.v (E.indexAddr te114 rfl rfl ptFx) ?_
    refine FL.v (E.load rfl (zaf Tryz.isAgg9 atFz rfl)) ?_
    refine FL.v (E.lenS Tryz.runUnderlying9 rfl) ?_
    refine FL.v (E.lss rfl rfl) ?_
    refine FL.v (E.move (v:=Value.bool (decide ((xFB.size:Int) < 2))) rfl) ?_
    obtain ⟨t459,hqtFN,hp⟩:=bnd hp
    refine FL.cut 7 (fun f w=>∃ H:GH,St Ha wa H w [.box b87 26 [Value.int .i64 r43.1,vDu],.row 34 1 vDu nDv csDw,.row 9 1 v31 n32 cs33,.box b21 26 [Value.int .i64 0,Value.slice none 0 0]]∧Inc HFj H∧f 0=Value.string a0∧f 2=Value.pointer (some (⟨b21,0,none⟩:Addr))∧f 4=v31∧f 5=Value.int .i64 r43.1∧f 7=Value.pointer (some (⟨b87,0,none⟩:Addr))∧f 8=Value.int .i64 s94.2∧f 55=Value.bool t459) ?_ ?_
    ·
     clear hp;have hp:=hqtFN;clear hqtFN
     rcases ifB hp with ⟨cFT,hp⟩|⟨cFT,hp⟩
     ·
      refine FL.skip (wF_no rfl rfl rfl cFT) rfl ?_
      refine FL.skip (wF_no rfl rfl rfl cFT) rfl ?_
      refine FL.skip (wF_no rfl rfl rfl cFT) rfl ?_
      refine FL.skip (wF_no rfl rfl rfl cFT) rfl ?_
      refine FL.skip (wF_no rfl rfl rfl cFT) rfl ?_
      refine FL.skip (wF_no rfl rfl rfl cFT) rfl ?_
      obtain rfl:=Option.some.inj hp
      refine FL.v (E.pickT rfl cFT rfl) ?_
      exact FL.nil ⟨rfl,_,SFk,(Inc.rfl _),kFo,kFp,kFq,kFr,kFs,kFt,rfl⟩
     ·
      refine FL.val (zab rfl rfl rfl cFT) rfl rfl (E.move kFq) ?_
      refine FL.val (zab rfl rfl rfl cFT) rfl rfl (E.move kFt) ?_
      obtain ⟨xG0,hxG1,hp⟩:=bnd hp
      obtain ⟨pFU,csFV,ptFW,lFX,atFY,relFZ⟩:=SFk.row_at (i:=2) rfl els34 (by decide) hxG1
      obtain rfl:=eS_open relFZ
      refine FL.val (zab rfl rfl rfl cFT) rfl rfl (E.indexAddr te114 rfl rfl ptFW) ?_
      refine FL.val (zab rfl rfl rfl cFT) rfl rfl (E.load rfl (zaf Tryz.isAgg9 atFY rfl)) ?_
      obtain ⟨zG2,hG3,hp⟩:=bnd hp
      refine FL.val (zab rfl rfl rfl cFT) rfl rfl (E.ixS Tryz.runUnderlying9 rfl rfl hG3) ?_
      refine FL.val (zab rfl rfl rfl cFT) rfl rfl (E.neq rfl rfl) ?_
      obtain rfl:=Option.some.inj hp
      refine FL.v (E.pickF rfl cFT rfl) ?_
      exact FL.nil ⟨rfl,_,SFk,(Inc.rfl _),kFo,kFp,kFq,kFr,kFs,kFt,rfl⟩
    rintro fFS wFR ⟨HFO,SFP,iFQ,kG4,kG5,kG6,kG7,kG8,kG9,kGa⟩
    refine FL.nil ?_
    rcases ifB hp with ⟨cGb,hp⟩|⟨cGb,hp⟩
    ·
     refine FW.condT kGa cGb ?_
     refine FW.seq (FW.region ?_)
     refine FL.v (E.build (B0) (run_build _ 26 #[] #[Value.int .i64 0,Value.slice none 0 0] (by rfl))) ?_
     obtain ⟨wGc,runGd,SGe⟩:=SFP.store0 (P:=Tryz.prog) (t:=26) (i:=3) (cs':=[Value.int .i64 0,Value.slice none 0 0]) (l':=[.box b87 26 [Value.int .i64 r43.1,vDu],.row 34 1 vDu nDv csDw,.row 9 1 v31 n32 cs33,.box b21 26 [Value.int .i64 0,Value.slice none 0 0]]) (v:=Value.agg #[Value.int .i64 0,Value.slice none 0 0]) (c:=[Value.int .i64 0,Value.slice none 0 0]) rfl Tryz.sizeOf26 rfl rfl (zac rfl (zac rfl zad)) (Nat.le_of_ble_eq_true rfl) rfl rfl
     refine FL.act rfl rfl (E.store kG5 rfl runGd) ?_
     refine FL.v (E.assign (v:=Value.bool false) rfl) ?_
     refine FL.nil ?_
     refine FW.ret ?_
     obtain rfl:=Option.some.inj hp
     exact ⟨nofun,rfl,⟨.inr rfl,resC2 rfl kG5 (zaB Tryz.isAgg26 Tryz.sizeOf26 (SGe.box_now (i:=3) rfl) rfl) rfl ⟨_,_,rfl,SGe.run,⟨_,Nest.nil⟩⟩⟩⟩
    ·
     refine FW.condF kGa cGb ?_
     refine FW.skip (FW.seq (FW.region ?_))
     refine FL.v (E.move kG7) ?_
     refine FL.v (E.move kG6) ?_
     refine FL.v (E.move kG9) ?_
     obtain ⟨xGl,hxGm,hp⟩:=bnd hp
     obtain ⟨pGf,csGg,ptGh,lGi,atGj,relGk⟩:=SFP.row_at (i:=2) rfl els34 (by decide) hxGm
     obtain rfl:=eS_open relGk
     refine FL.v (E.indexAddr te114 rfl rfl ptGh) ?_
     refine FL.v (E.load rfl (zaf Tryz.isAgg9 atGj rfl)) ?_
     obtain ⟨zGn,hGo,hp⟩:=bnd hp
     refine FL.v (E.cutS (kl:=.i64) (kh:=.i64) Tryz.underlying9 rfl (.inr ⟨_,rfl,rfl⟩) (.inl ⟨rfl,rfl⟩) hGo) ?_
     obtain ⟨rGp,hrGq,hp⟩:=bnd hp
     refine FL.call rfl rfl rfl (E.call Tryz.call146 (A2 rfl rfl)) (w_spec_l2Parse SFP.sl r43.1 zGn hrGq) ?_
     rintro e wGs ⟨HGr,vGv,nGw,csGx,rfl,rGu,elsGy⟩
     refine ⟨_,rfl,?_⟩
     have elsGy:=elsGy.mono (up_le SFP.size)
     have SGt:=SFP.join (l':=[.row 3 1 vGv nGw csGx,.box b87 26 [Value.int .i64 r43.1,vDu],.row 34 1 vDu nDv csDw,.row 9 1 v31 n32 cs33,.box b21 26 [Value.int .i64 0,Value.slice none 0 0]]) rGu rfl
     refine FL.v (E.move (v:=Value.tuple #[vGv,Value.bool rGp.2]) rfl) ?_
     refine FL.v (E.extract (i:=0) rfl rfl) ?_
     refine FL.v (E.extract (i:=1) rfl rfl) ?_
     refine FL.v (E.assign (v:=vGv) rfl) ?_
     refine FL.v (E.assign (v:=Value.bool rGp.2) rfl) ?_
     refine FL.nil (FW.seq (FW.seq (FW.region ?_)))
     refine FL.v (E.move (v:=Value.bool rGp.2) rfl) ?_
     refine FL.v (E.not rfl) ?_
     refine FL.nil ?_
     rcases ifB hp with ⟨cGz,hp⟩|⟨cGz,hp⟩
     ·
      refine FW.condT rfl cGz ?_
      refine FW.seq (FW.region ?_)
      refine FL.v (E.build (B0) (run_build _ 26 #[] #[Value.int .i64 0,Value.slice none 0 0] (by rfl))) ?_
      obtain ⟨wGA,runGB,SGC⟩:=SGt.store0 (P:=Tryz.prog) (t:=26) (i:=4) (cs':=[Value.int .i64 0,Value.slice none 0 0]) (l':=[.row 3 1 vGv nGw csGx,.box b87 26 [Value.int .i64 r43.1,vDu],.row 34 1 vDu nDv csDw,.row 9 1 v31 n32 cs33,.box b21 26 [Value.int .i64 0,Value.slice none 0 0]]) (v:=Value.agg #[Value.int .i64 0,Value.slice none 0 0]) (c:=[Value.int .i64 0,Value.slice none 0 0]) rfl Tryz.sizeOf26 rfl rfl (zac rfl (zac rfl zad)) (Nat.le_of_ble_eq_true rfl) rfl rfl
      refine FL.act rfl rfl (E.store kG5 rfl runGB) ?_
      refine FL.v (E.assign (v:=Value.bool false) rfl) ?_
      refine FL.nil ?_
      refine FW.ret ?_
      obtain rfl:=Option.some.inj hp
      exact ⟨nofun,rfl,⟨.inr rfl,resC2 rfl kG5 (zaB Tryz.isAgg26 Tryz.sizeOf26 (SGC.box_now (i:=4) rfl) rfl) rfl ⟨_,_,rfl,SGC.run,⟨_,Nest.nil⟩⟩⟩⟩
     ·
      refine FW.condF rfl cGz ?_
      refine FW.skip (FW.region ?_)
      refine FL.v (E.fieldAddr zay kG8) ?_
      refine FL.v (E.load rfl (zah Tryz.isAgg24 (SGt.box_now (i:=1) rfl) rfl)) ?_
      refine FL.v (E.move (v:=vGv) rfl) ?_
      obtain ⟨HGD,SGE,iGF,hGG,nvGH⟩:=SGt.sealRowU (i:=0) (l':=[.box b87 26 [Value.int .i64 r43.1,vDu],.row 34 1 vDu nDv csDw,.row 9 1 v31 n32 cs33,.box b21 26 [Value.int .i64 0,Value.slice none 0 0]]) rfl elsGy (by decide) rfl
      obtain ⟨vGI,wGJ,runGK,SGL⟩:=SGE.buildSlice (P:=Tryz.prog) te24 [vGv] (parts:=#[(0,vGv)]) (cells:=[vGv]) rfl (zat (zaH hGG.cells) zao) (zas hGG.cells zan) (zac hGG.one zad) (Nat.le_of_ble_eq_true rfl)
      have elsGM:Els (up wa.heap.size HGD) (eL eI 1) 1 [vGv] [rGp.1]:=(Els.snoc (H:=(up wa.heap.size HGD)) (E:=(eL eI 1)) (k:=1) (c:=[vGv]) (x:=rGp.1) Els.nil rfl ⟨_,rfl,hGG⟩)
      have ndGN:(bl [vGv]).Nodup:=by exact za5 vGv
      refine FL.v (E.buildSlice (B1 rfl) runGK) ?_
      obtain ⟨xsGO,hzGP,hp⟩:=bnd hp
      obtain ⟨vGQ,wGT,nGR,csGS,runGU,SGV,elsGW,ceGX⟩:=SGL.appendO (P:=Tryz.prog) te24 (i:=2) (j:=0) rfl (elsDx.mono (zag ((iFQ.tr rGu.run.inc).tr iGF))) rfl elsGM hzGP
      have SGV:St Ha wa HGD wGT [.row 34 1 vGI 1 [vGv],.box b87 26 [Value.int .i64 r43.1,vDu],.row 34 1 vGQ nGR csGS,.row 9 1 v31 n32 cs33,.box b21 26 [Value.int .i64 0,Value.slice none 0 0]]:=SGV
      have ndGY:(bl csGS).Nodup:=by rw [ceGX];exact zba ndDy ndGN (Els.dom (elsDx.mono (upI.tr (iFQ.tr rGu.run.inc)))) (by exact nvGH)
      have SGZ:St Ha wa HGD wGT [.box b87 26 [Value.int .i64 r43.1,vDu],.row 34 1 vGQ nGR csGS,.row 9 1 v31 n32 cs33,.box b21 26 [Value.int .i64 0,Value.slice none 0 0]]:=SGV.drop 0
      refine FL.v (E.append rfl rfl runGU) ?_
      refine FL.v (E.fieldAddr zay kG8) ?_
      obtain ⟨wH0,runH1,SH2⟩:=SGZ.store (P:=Tryz.prog) (t:=24) (i:=0) (j:=1) (cs':=[Value.int .i64 r43.1,vGQ]) (l':=[.box b87 26 [Value.int .i64 r43.1,vGQ],.row 34 1 vGQ nGR csGS,.row 9 1 v31 n32 cs33,.box b21 26 [Value.int .i64 0,Value.slice none 0 0]]) (v:=vGQ) (c:=[vGQ]) rfl Tryz.sizeOf24 (Ln.cells (SGZ.row_ln (i:=1) rfl)) rfl (zac (Ln.one (SGZ.row_ln (i:=1) rfl)) zad) (Nat.le_of_ble_eq_true rfl) rfl rfl
      refine FL.act rfl rfl (E.store rfl rfl runH1) ?_
      refine FL.nil (FW.region ?_)
      refine FL.v (E.move kG9) ?_
      refine FL.v (E.add rfl rfl) ?_
      refine FL.v (E.assign (v:=Value.int .i64 (wr (s94.2 + 1))) rfl) ?_
      refine FL.nil ?_
      obtain rfl:=Option.some.inj hp
      exact ⟨rfl,⟨_,_,_,_,SH2,(((iFl.tr iFQ).tr rGu.run.inc).tr iGF),elsGW,ndGY,kG4,kG5,kG6,kG7,kG8,rfl⟩⟩
   ·
    refine FW.condF rfl cFu ?_
    refine FW.exit ?_
    obtain rfl:=Option.some.inj hp
    exact ⟨nofun,rfl,⟨_,_,_,_,SFk,iFl,elsDx,ndDy,kFo,kFp,kFs⟩⟩
  ·
   clear hq
   intro e fH8 wH7 hD
   rcases q94 with s94|x94
   ·
    obtain ⟨rfl,hD⟩:=hD
    obtain ⟨HH4,vDu,nDv,csDw,SH5,iH6,elsDx,ndDy,kH9,kHa,kHb⟩:=hD
    replace hp:=el_go hp
    refine FW.seq (FW.seq (FW.region ?_))
    refine FL.v (E.load kHb (zai Tryz.isAgg26 Tryz.sizeOf26 (SH5.box_now (i:=0) rfl) rfl)) ?_
    obtain ⟨HHc,SHd,iHe,nsHh,nvHg⟩:=SH5.sealRowN (i:=1) (l':=[.box b87 26 [Value.int .i64 r43.1,vDu],.row 9 1 v31 n32 cs33,.box b21 26 [Value.int .i64 0,Value.slice none 0 0]]) rfl elsDx ndDy (by decide) rfl
    have hHf:=nsHh.rsl
    obtain ⟨rHi,hrHj,hp⟩:=bnd hp
    refine FL.call rfl rfl rfl (E.call Tryz.call147 (A1 rfl)) (w_spec_l2TextOf SHd.sl (Cnf.mk r43.1 s94.1) vDu (hHf.mono upI) hrHj) ?_
    rintro e wHk ⟨rfl,rHl⟩
    refine ⟨_,rfl,?_⟩
    have rHl:=Run.lend iHe SH5.sl rHl
    have SHm:=SH5.call rHl
    refine FL.v (E.move kH9) ?_
    refine FL.v (E.neqS rfl rfl) ?_
    refine FL.nil ?_
    rcases ifB hp with ⟨cHn,hp⟩|⟨cHn,hp⟩
    ·
     refine FW.condT rfl cHn ?_
     refine FW.seq (FW.region ?_)
     refine FL.v (E.build (B0) (run_build _ 26 #[] #[Value.int .i64 0,Value.slice none 0 0] (by rfl))) ?_
     obtain ⟨wHo,runHp,SHq⟩:=SHm.store0 (P:=Tryz.prog) (t:=26) (i:=3) (cs':=[Value.int .i64 0,Value.slice none 0 0]) (l':=[.box b87 26 [Value.int .i64 r43.1,vDu],.row 34 1 vDu nDv csDw,.row 9 1 v31 n32 cs33,.box b21 26 [Value.int .i64 0,Value.slice none 0 0]]) (v:=Value.agg #[Value.int .i64 0,Value.slice none 0 0]) (c:=[Value.int .i64 0,Value.slice none 0 0]) rfl Tryz.sizeOf26 rfl rfl (zac rfl (zac rfl zad)) (Nat.le_of_ble_eq_true rfl) rfl rfl
     refine FL.act rfl rfl (E.store kHa rfl runHp) ?_
     refine FL.v (E.assign (v:=Value.bool false) rfl) ?_
     refine FL.nil ?_
     refine FW.ret ?_
     obtain rfl:=Option.some.inj hp
     exact ⟨.inr rfl,resC2 rfl kHa (zaB Tryz.isAgg26 Tryz.sizeOf26 (SHq.box_now (i:=3) rfl) rfl) rfl ⟨_,_,rfl,SHq.run,⟨_,Nest.nil⟩⟩⟩
    ·
     refine FW.condF rfl cHn ?_
     refine FW.skip (FW.seq (FW.region ?_))
     refine FL.v (E.load kHb (zai Tryz.isAgg26 Tryz.sizeOf26 (SHm.box_now (i:=0) rfl) rfl)) ?_
     obtain ⟨wHr,runHs,SHt⟩:=SHm.store0 (P:=Tryz.prog) (t:=26) (i:=3) (cs':=[Value.int .i64 r43.1,vDu]) (l':=[.box b87 26 [Value.int .i64 r43.1,vDu],.row 34 1 vDu nDv csDw,.row 9 1 v31 n32 cs33,.box b21 26 [Value.int .i64 r43.1,vDu]]) (v:=Value.agg #[Value.int .i64 r43.1,vDu]) (c:=[Value.int .i64 r43.1,vDu]) rfl Tryz.sizeOf26 rfl rfl (zac rfl (zac (Ln.one (SHm.row_ln (i:=1) rfl)) zad)) (Nat.le_of_ble_eq_true rfl) rfl rfl
     refine FL.act rfl rfl (E.store kHa rfl runHs) ?_
     refine FL.v (E.assign (v:=Value.bool true) rfl) ?_
     refine FL.nil ?_
     refine FW.ret ?_
     obtain ⟨HHu,SHv,iHw,nsHz,nvHy⟩:=SHt.sealRowN (i:=1) (l':=[.box b87 26 [Value.int .i64 r43.1,vDu],.row 9 1 v31 n32 cs33,.box b21 26 [Value.int .i64 r43.1,vDu]]) rfl elsDx ndDy (by decide) rfl
     have hHx:=nsHz.rsl
     obtain rfl:=Option.some.inj hp
     exact ⟨.inr rfl,resC2 rfl kHa (zaB Tryz.isAgg26 Tryz.sizeOf26 (SHv.box_now (i:=2) rfl) rfl) rfl ⟨_,_,rfl,SHv.run,⟨_,nsHz⟩⟩⟩
   ·
    obtain ⟨he,hL⟩:=hD
    replace hp:=el_rt hp
    obtain rfl:=Option.some.inj hp
    subst he
    exact hL

@[reducible] def p_spec_l2Known (Ha:GH) (wa:World) (r:Cnf):Ending→World→Prop :=
 fun e w'=>∃ H':GH,∃ v0_1:Value,e=.returned (Value.agg #[Value.int .i64 r.vars,v0_1])∧Run wa.heap.size Ha wa H' w'∧(∃ c,Nest (up wa.heap.size H') (eL eI 1) 1 v0_1 r.clauses c)
theorem w_spec_l2Known {Ha:GH} {wa:World} (hs:Sl Ha wa) (a0:ByteArray) {r:Cnf} (hp:(PF.zbY a0)=some r) :
  Calls Tryz.prog 113 #[Value.string a0] wa (p_spec_l2Known Ha wa r):=by
 unfold PF.zbY at hp
 have S0:=St.init hs
 refine zae (N:=11) (args:=[Value.string a0]) Tryz.func113 rfl rfl rfl ?_
 refine FW.seq (FW.region ?_)
 obtain ⟨b21,w22,run23,S24⟩:=S0.alloc (P:=Tryz.prog) 26 [Value.int .i64 0,Value.slice none 0 0] Tryz.zeroValue26 rfl (zac rfl (zac rfl zad))
 refine FL.v (E.alloc run23) ?_
 refine FL.nil (FW.seq (FW.region ?_))
 refine FL.v (E.move (v:=Value.string a0) rfl) ?_
 obtain ⟨r25,hr26,hp⟩:=bnd hp
 refine FL.call rfl rfl rfl (E.call Tryz.call137 (A1 rfl)) (w_spec_ParseCnf S24.sl a0 hr26) ?_
 rintro e w28 ⟨H27,v31,rfl,r30,⟨c34,ns33⟩⟩
 refine ⟨_,rfl,?_⟩
 have h32:=ns33.rsl
 have nv35:New Ha c34:=New.of_up S24.sl (fun b hb=>ns33.dom b (.inr hb))
 have nv36:New Ha [v31]:=New.of_up S24.sl h32.dom
 have h32:=h32.mono (up_le S24.size)
 have ns33:=ns33.mono (up_le S24.size)
 have S29:=S24.call r30
 refine FL.v (E.move (v:=Value.tuple #[Value.agg #[Value.int .i64 r25.1.vars,v31],Value.bool r25.2]) rfl) ?_
 refine FL.v (E.extract (i:=0) rfl rfl) ?_
 refine FL.v (E.extract (i:=1) rfl rfl) ?_
 obtain ⟨b37,w38,run39,S40⟩:=S29.alloc (P:=Tryz.prog) 26 [Value.int .i64 0,Value.slice none 0 0] Tryz.zeroValue26 rfl (zac rfl (zac rfl zad))
 refine FL.v (E.alloc run39) ?_
 obtain ⟨w41,run42,S43⟩:=S40.store0 (P:=Tryz.prog) (t:=26) (i:=0) (cs':=[Value.int .i64 r25.1.vars,v31]) (l':=[.box b37 26 [Value.int .i64 r25.1.vars,v31],.box b21 26 [Value.int .i64 0,Value.slice none 0 0]]) (v:=Value.agg #[Value.int .i64 r25.1.vars,v31]) (c:=[Value.int .i64 r25.1.vars,v31]) rfl Tryz.sizeOf26 rfl rfl (zac rfl (zac h32.one zad)) (Nat.le_of_ble_eq_true rfl) rfl rfl
 refine FL.act rfl rfl (E.store rfl rfl run42) ?_
 obtain ⟨H44,S45,i46,at47⟩:=S43.sealBox (i:=0) (l':=[.box b21 26 [Value.int .i64 0,Value.slice none 0 0]]) rfl rfl
 refine FL.v (E.assign (v:=Value.bool r25.2) rfl) ?_
 refine FL.nil (FW.seq (FW.region ?_))
 refine FL.v (E.load rfl (zai Tryz.isAgg26 Tryz.sizeOf26 (at47.now S45.sl) rfl)) ?_
 obtain ⟨w48,run49,S50⟩:=S45.store0 (P:=Tryz.prog) (t:=26) (i:=0) (cs':=[Value.int .i64 r25.1.vars,v31]) (l':=[.box b21 26 [Value.int .i64 r25.1.vars,v31]]) (v:=Value.agg #[Value.int .i64 r25.1.vars,v31]) (c:=[Value.int .i64 r25.1.vars,v31]) rfl Tryz.sizeOf26 rfl rfl (zac rfl (zac h32.one zad)) (Nat.le_of_ble_eq_true rfl) rfl rfl
 refine FL.act rfl rfl (E.store rfl rfl run49) ?_
 obtain ⟨H51,S52,i53,at54⟩:=S50.sealBox (i:=0) (l':=[]) rfl rfl
 refine FL.nil ?_
 refine FW.ret ?_
 obtain rfl:=Option.some.inj hp
 exact ⟨.inr rfl,resC rfl rfl (zaB Tryz.isAgg26 Tryz.sizeOf26 (at54.now S52.sl) rfl) ⟨_,_,rfl,S52.run,⟨_,(ns33.mono (zag (i46.tr i53)))⟩⟩⟩

set_option maxHeartbeats 4000000 in
theorem w_spec_l2Good {Ha:GH} {wa:World} (hs:Sl Ha wa) (a0:Cnf) (v0_1:Value) (p0_1:RSl Ha (eL eI 1) 1 v0_1 a0.clauses) {r:Bool} (hp:(PF.zcx a0)=some r) :
  Calls Tryz.prog 87 #[Value.agg #[Value.int .i64 a0.vars,v0_1]] wa (Sc Ha wa (Value.bool r)):=by
 unfold PF.zcx at hp
 have S0:=St.init hs
 refine zae (N:=30) (args:=[Value.agg #[Value.int .i64 a0.vars,v0_1]]) Tryz.func87 rfl rfl rfl ?_
 refine FW.seq (FW.region ?_)
 obtain ⟨b21,w22,run23,S24⟩:=S0.box (P:=Tryz.prog) 26 [Value.int .i64 a0.vars,v0_1] (v:=Value.agg #[Value.int .i64 a0.vars,v0_1]) rfl (zac rfl (zac p0_1.one zad))
 refine FL.v (E.box rfl run23) ?_
 obtain ⟨H25,S26,i27,at28⟩:=S24.sealBox (i:=0) (l':=[]) rfl rfl
 refine FL.v (E.assign (v:=Value.bool false) rfl) ?_
 refine FL.nil (FW.seq (FW.seq (FW.region ?_)))
 refine FL.v (E.fieldAddr zaC rfl) ?_
 refine FL.v (E.load rfl (zah Tryz.isAgg3 (at28.now S26.sl) rfl)) ?_
 refine FL.call rfl rfl rfl (E.call Tryz.call122 (A1 rfl)) (zdZ S26.sl a0.vars) ?_
 rintro e w29 ⟨rfl,r30⟩
 refine ⟨_,rfl,?_⟩
 have S31:=S26.call r30
 refine FL.v (E.not rfl) ?_
 refine FL.v (E.move (v:=Value.bool (!(PF.zaK a0.vars))) rfl) ?_
 refine FL.cut 5 (fun f w=>∃ H:GH,St Ha wa H w []∧Inc H25 H∧f 1=Value.pointer (some ⟨b21,0,none⟩)∧f 13=Value.bool (bif (!(PF.zaK a0.vars)) then true else (decide (60 < (len a0.clauses))))) ?_ ?_
 ·
  rcases bcase (!(PF.zaK a0.vars)) with c38|c38
  ·
   refine FL.skip (wF_no rfl rfl rfl c38) rfl ?_
   refine FL.skip (wF_no rfl rfl rfl c38) rfl ?_
   refine FL.skip (wF_no rfl rfl rfl c38) rfl ?_
   refine FL.skip (wF_no rfl rfl rfl c38) rfl ?_
   refine FL.v (E.pickT rfl c38 rfl) ?_
   exact FL.nil ⟨rfl,_,S31,(Inc.rfl _),rfl,(congrArg Value.bool (bifT c38).symm)⟩
  ·
   refine FL.val (zab rfl rfl rfl c38) rfl rfl (E.fieldAddr zay rfl) ?_
   refine FL.val (zab rfl rfl rfl c38) rfl rfl (E.load rfl (zah Tryz.isAgg24 (at28.now S31.sl) rfl)) ?_
   refine FL.val (zab rfl rfl rfl c38) rfl rfl (E.lenP te24 rfl p0_1) ?_
   refine FL.val (zab rfl rfl rfl c38) rfl rfl (E.gtr rfl rfl) ?_
   refine FL.v (E.pickF rfl c38 rfl) ?_
   exact FL.nil ⟨rfl,_,S31,(Inc.rfl _),rfl,(congrArg Value.bool (bifF c38).symm)⟩
 rintro f37 w36 ⟨H33,S34,i35,k39,k40⟩
 refine FL.nil ?_
 rcases ifB hp with ⟨c41,hp⟩|⟨c41,hp⟩
 ·
  refine FW.condT k40 c41 ?_
  refine FW.seq (FW.region ?_)
  refine FL.v (E.assign (v:=Value.bool false) rfl) ?_
  refine FL.nil ?_
  refine FW.ret ?_
  obtain rfl:=Option.some.inj hp
  exact ⟨.inr rfl,res1 rfl rfl ⟨rfl,S34.back⟩⟩
 ·
  refine FW.condF k40 c41 ?_
  refine FW.skip (FW.seq (FW.seq (FW.region ?_)))
  refine FL.v (E.assign (v:=Value.int .i64 0) rfl) ?_
  refine FL.nil ?_
  obtain ⟨q42,hq,hp⟩:=bndR hp
  refine FW.block ?_
  refine FW.mono (FW.iter (S:=Int) (X:=Bool) (fun (s42:Int) f w=>∃ H:GH,St Ha wa H w []∧Inc H33 H∧f 1=Value.pointer (some ⟨b21,0,none⟩)∧f 3=Value.int .i64 s42) (fun q e f w=>match q with|.go s42=>e=Exit.exit 0∧(∃ H:GH,St Ha wa H w []∧Inc H33 H)|.rt x=>((e=Exit.ret)∧(fun e f w=>(e=Exit.normal∨e=Exit.ret)∧∀ a,Fr (δ:=[]) 30 a f→∃ v,(results Tryz.f87 a.tmps).run Tryz.prog w=.ok v w∧(Sc Ha wa (Value.bool x)) (.returned v) w) e f w)) hq ⟨_,S34,(Inc.rfl _),k39,rfl⟩ ?_) ?_
  ·
   clear hp hq
   rintro s42 f72 w71 ⟨H68,S69,i70,k73,k74⟩ o93 hp
   refine FW.seq (FW.seq (FW.region ?_))
   refine FL.v (E.move k74) ?_
   refine FL.v (E.fieldAddr zay k73) ?_
   refine FL.v (E.load rfl (zah Tryz.isAgg24 ((at28.mono (i35.tr i70)).now S69.sl) rfl)) ?_
   refine FL.v (E.lenP te24 rfl p0_1) ?_
   refine FL.v (E.lss rfl rfl) ?_
   refine FL.nil ?_
   rcases ifB hp with ⟨c75,hp⟩|⟨c75,hp⟩
   ·
    refine FW.condT rfl c75 ?_
    refine FW.skip (FW.seq (FW.block (FW.seq ?_)))
    refine FW.draw (fun w'=>Run w71.heap.size H68 w71 H68 w') (by kernel_rfl) (by kernel_rfl) (zaG S69.sl) ?_
    refine FD.val rfl rfl rfl (fun w' hw'=>(E.fieldAddr zaC k73)) ?_
    refine FD.val rfl rfl rfl (fun w' hw'=>(E.load rfl (zah Tryz.isAgg3 ((at28.mono (i35.tr i70)).now (S69.call hw').sl) rfl))) ?_
    refine FD.val rfl rfl rfl (fun w' hw'=>(E.fieldAddr zay k73)) ?_
    refine FD.val rfl rfl rfl (fun w' hw'=>(E.load rfl (zah Tryz.isAgg24 ((at28.mono (i35.tr i70)).now (S69.call hw').sl) rfl))) ?_
    refine FD.val rfl rfl rfl (fun w' hw'=>(E.move k74)) ?_
    obtain ⟨x83,hx84,hp⟩:=bnd hp
    obtain ⟨p77,cs78,pt79,l80,at81,rel82⟩:=p0_1.at hx84
    obtain ⟨v85,rfl,h86⟩:=zav rel82
    refine FD.val rfl rfl rfl (fun w' hw'=>(E.indexAddr te24 rfl rfl pt79)) ?_
    refine FD.val rfl rfl rfl (fun w' hw'=>(E.load rfl (zaf Tryz.isAgg34 ((at81.mono ((i27.tr i35).tr i70)).now (S69.call hw').sl) rfl))) ?_
    obtain ⟨r87,hr88,hp⟩:=bnd hp
    refine FD.call rfl rfl rfl (fun w' hw'=>(E.call Tryz.call108 (A2 rfl rfl))) (fun w' hw'=>Calls.cls hw' (zem (S69.call hw').sl a0.vars v85 x83 (h86.mono ((i27.tr i35).tr i70)) hr88)) ?_
    refine FD.val rfl rfl rfl (fun w' hw'=>(E.not rfl)) ?_
    refine FD.nil ?_
    intro w89 r91
    have S90:=S69.call r91
    rcases ifB hp with ⟨c92,hp⟩|⟨c92,hp⟩
    ·
     refine FW.condT rfl c92 ?_
     refine FW.seq (FW.region ?_)
     refine FL.v (E.assign (v:=Value.bool false) rfl) ?_
     refine FL.nil ?_
     refine FW.ret ?_
     obtain rfl:=Option.some.inj hp
     exact ⟨nofun,rfl,⟨.inr rfl,res1 rfl rfl ⟨rfl,S90.back⟩⟩⟩
    ·
     refine FW.condF rfl c92 ?_
     refine FW.skip (FW.region ?_)
     refine FL.v (E.move k74) ?_
     refine FL.v (E.add rfl rfl) ?_
     refine FL.v (E.assign (v:=Value.int .i64 (wr (s42 + 1))) rfl) ?_
     refine FL.nil ?_
     obtain rfl:=Option.some.inj hp
     exact ⟨rfl,⟨_,S90,i70,k73,rfl⟩⟩
   ·
    refine FW.condF rfl c75 ?_
    refine FW.exit ?_
    obtain rfl:=Option.some.inj hp
    exact ⟨nofun,rfl,⟨_,S69,i70⟩⟩
  ·
   clear hq
   intro e f98 w97 hD
   rcases q42 with s42|x42
   ·
    obtain ⟨rfl,hD⟩:=hD
    obtain ⟨H94,S95,i96⟩:=hD
    replace hp:=el_go hp
    refine FW.seq (FW.region ?_)
    refine FL.v (E.assign (v:=Value.bool true) rfl) ?_
    refine FL.nil ?_
    refine FW.ret ?_
    obtain rfl:=Option.some.inj hp
    exact ⟨.inr rfl,res1 rfl rfl ⟨rfl,S95.back⟩⟩
   ·
    obtain ⟨he,hL⟩:=hD
    replace hp:=el_rt hp
    obtain rfl:=Option.some.inj hp
    subst he
    exact hL

theorem w_spec_l1Has {Ha:GH} {wa:World} (hs:Sl Ha wa) (v0:Value) (a0:List Int) (p0:RSl Ha eI 1 v0 a0) (a1:Int) {r:Bool} (hp:(PF.zdb a0 a1)=some r) :
  Calls Tryz.prog 123 #[v0,Value.int .i64 a1] wa (Sc Ha wa (Value.bool r)):=by
 unfold PF.zdb at hp
 have S0:=St.init hs
 refine zae (N:=18) (args:=[v0,Value.int .i64 a1]) Tryz.func123 rfl rfl rfl ?_
 refine FW.seq (FW.region ?_)
 refine FL.v (E.assign (v:=Value.bool false) rfl) ?_
 refine FL.nil (FW.seq (FW.seq (FW.region ?_)))
 refine FL.v (E.assign (v:=Value.int .i64 0) rfl) ?_
 refine FL.nil ?_
 obtain ⟨q22,hq,hp⟩:=bndR hp
 refine FW.block ?_
 refine FW.mono (FW.forL (S:=Unit) (X:=Bool) (fun (i22:Nat) (s22:Unit) f w=>∃ H:GH,St Ha wa H w []∧Inc Ha H∧f 5=Value.int .i64 ((i22:Nat):Int)∧f 0=v0∧f 1=Value.int .i64 a1) (fun q e f w=>match q with|.go s22=>e=Exit.exit 0∧(∃ H:GH,St Ha wa H w []∧Inc Ha H)|.rt x=>((e=Exit.ret)∧(fun e f w=>(e=Exit.normal∨e=Exit.ret)∧∀ a,Fr (δ:=[]) 18 a f→∃ v,(results Tryz.f123 a.tmps).run Tryz.prog w=.ok v w∧(Sc Ha wa (Value.bool x)) (.returned v) w) e f w)) hq ⟨_,S0,(Inc.rfl _),rfl,rfl,rfl⟩ ?_ ?_) ?_
 ·
  clear hp hq
  rintro i22 y21 s22 f42 w41 ⟨H38,S39,i40,k43,k44,k45⟩ hx22 o53 hp
  refine FW.seq (FW.seq (FW.region ?_))
  refine FL.v (E.move k43) ?_
  refine FL.v (E.move k44) ?_
  refine FL.v (E.lenP te34 rfl p0) ?_
  refine FL.v (E.lssT rfl rfl (zaw hx22)) ?_
  refine FL.nil ?_
  refine FW.condT rfl rfl ?_
  refine FW.skip (FW.seq (FW.block (FW.seq (FW.region ?_))))
  refine FL.v (E.move k44) ?_
  refine FL.v (E.move k43) ?_
  obtain ⟨p46,cs47,pt48,l49,at50,rel51⟩:=p0.at (zal hx22)
  obtain rfl:=zam rel51
  refine FL.v (E.indexAddr te34 rfl rfl pt48) ?_
  refine FL.v (E.load rfl (zaf Tryz.isAgg3 ((at50.mono i40).now S39.sl) rfl)) ?_
  refine FL.v (E.move k45) ?_
  refine FL.v (E.eql rfl rfl) ?_
  refine FL.nil ?_
  rcases ifB hp with ⟨c52,hp⟩|⟨c52,hp⟩
  ·
   refine FW.condT rfl c52 ?_
   refine FW.seq (FW.region ?_)
   refine FL.v (E.assign (v:=Value.bool true) rfl) ?_
   refine FL.nil ?_
   refine FW.ret ?_
   obtain rfl:=Option.some.inj hp
   exact ⟨nofun,rfl,⟨.inr rfl,res1 rfl rfl ⟨rfl,S39.back⟩⟩⟩
  ·
   refine FW.condF rfl c52 ?_
   refine FW.skip (FW.region ?_)
   refine FL.v (E.move k43) ?_
   refine FL.v (E.add rfl rfl) ?_
   refine FL.v (E.assign (v:=Value.int .i64 (wr (((i22:Nat):Int) + 1))) rfl) ?_
   refine FL.nil ?_
   obtain rfl:=Option.some.inj hp
   exact ⟨rfl,⟨_,S39,i40,(zap rfl (zaq hx22) (p0.mono i40).le),k44,k45⟩⟩
 ·
  clear hp hq
  rintro s22 f63 w62 ⟨H59,S60,i61,k64,k65,k66⟩
  refine FW.seq (FW.seq (FW.region ?_))
  refine FL.v (E.move k64) ?_
  refine FL.v (E.move k65) ?_
  refine FL.v (E.lenP te34 rfl p0) ?_
  refine FL.v (E.lss rfl rfl) ?_
  refine FL.nil ?_
  refine FW.condF rfl zax ?_
  refine FW.exit ?_
  exact ⟨nofun,rfl,⟨_,S60,i61⟩⟩
 ·
  clear hq
  intro e f58 w57 hD
  rcases q22 with s22|x22
  ·
   obtain ⟨rfl,hD⟩:=hD
   obtain ⟨H54,S55,i56⟩:=hD
   replace hp:=el_go hp
   refine FW.seq (FW.region ?_)
   refine FL.v (E.assign (v:=Value.bool false) rfl) ?_
   refine FL.nil ?_
   refine FW.ret ?_
   obtain rfl:=Option.some.inj hp
   exact ⟨.inr rfl,res1 rfl rfl ⟨rfl,S55.back⟩⟩
  ·
   obtain ⟨he,hL⟩:=hD
   replace hp:=el_rt hp
   obtain rfl:=Option.some.inj hp
   subst he
   exact hL

theorem zcY {Ha:GH} {wa:World} (hs:Sl Ha wa) (v0:Value) (a0:List Int) (p0:RSl Ha eI 1 v0 a0) (a1:Int) {r:Bool} (hp:(PF.zaZ a0 a1)=some r) :
  Calls Tryz.prog 92 #[v0,Value.int .i64 a1] wa (Sc Ha wa (Value.bool r)):=by
 unfold PF.zaZ at hp
 have S0:=St.init hs
 refine zae (N:=8) (args:=[v0,Value.int .i64 a1]) Tryz.func92 rfl rfl rfl ?_
 refine FW.seq (FW.region ?_)
 refine FL.v (E.assign (v:=Value.bool false) rfl) ?_
 refine FL.nil (FW.seq (FW.region ?_))
 refine FL.v (E.move (v:=v0) rfl) ?_
 refine FL.v (E.move (v:=Value.int .i64 a1) rfl) ?_
 obtain ⟨r21,hr22,hp⟩:=bnd hp
 refine FL.call rfl rfl rfl (E.call Tryz.call123 (A2 rfl rfl)) (w_spec_l1Has S0.sl v0 a0 p0 a1 hr22) ?_
 rintro e w23 ⟨rfl,r24⟩
 refine ⟨_,rfl,?_⟩
 have S25:=S0.call r24
 refine FL.v (E.assign (v:=Value.bool r21) rfl) ?_
 refine FL.nil ?_
 refine FW.ret ?_
 obtain rfl:=Option.some.inj hp
 exact ⟨.inr rfl,res1 rfl rfl ⟨rfl,S25.back⟩⟩

@[reducible] def p_spec_l1Own (Ha:GH) (wa:World) (r:(List Int)):Ending→World→Prop :=
 fun e w'=>∃ H':GH,∃ v0:Value,∃ n0:Nat,∃ c0:List Value,e=.returned (v0)∧St Ha wa H' w' [.row 3 1 v0 n0 c0]∧Els (up wa.heap.size H') eI 1 c0 r
theorem zcn {Ha:GH} {wa:World} (hs:Sl Ha wa) (v0:Value) (a0:List Int) (p0:RSl Ha eI 1 v0 a0) {r:(List Int)} (hp:(PF.zbw a0)=some r) :
  Calls Tryz.prog 51 #[v0] wa (p_spec_l1Own Ha wa r):=by
 unfold PF.zbw at hp
 have S0:=St.init hs
 refine zae (N:=6) (args:=[v0]) Tryz.func51 rfl rfl rfl ?_
 refine FW.seq (FW.region ?_)
 refine FL.v (E.assign (v:=Value.slice none 0 0) rfl) ?_
 refine FL.nil (FW.seq (FW.region ?_))
 obtain ⟨v21,w22,run23,S24⟩:=S0.buildSlice (P:=Tryz.prog) te34 [] (parts:=#[]) (cells:=[]) rfl zao zan zad (Nat.le_of_ble_eq_true rfl)
 have els25:Els (up wa.heap.size Ha) eI 1 [] []:=Els.nil
 refine FL.v (E.buildSlice (B0) run23) ?_
 refine FL.v (E.move (v:=v0) rfl) ?_
 obtain ⟨xs26,hz27,hp⟩:=bnd hp
 obtain ⟨v28,w31,n29,cs30,run32,S33,els34⟩:=S24.appendP (P:=Tryz.prog) (Inc.rfl _) te34 (i:=0) rfl (els25.mono upI) p0 hz27
 have S33:St Ha wa Ha w31 [.row 3 1 v28 n29 cs30]:=S33
 have els34:Els (up wa.heap.size Ha) eI 1 cs30 xs26:=els34.any (fun _ _ _ _ h=>h)
 refine FL.v (E.append rfl rfl run32) ?_
 refine FL.v (E.assign (v:=v28) rfl) ?_
 refine FL.nil ?_
 refine FW.ret ?_
 obtain rfl:=Option.some.inj hp
 exact ⟨.inr rfl,res1 rfl rfl ⟨_,_,_,_,rfl,S33,els34⟩⟩

@[reducible] def p_spec_l2Put (Ha:GH) (wa:World) (r:(List Int)):Ending→World→Prop :=
 fun e w'=>∃ H':GH,∃ v0:Value,∃ n0:Nat,∃ c0:List Value,e=.returned (v0)∧St Ha wa H' w' [.row 3 1 v0 n0 c0]∧Els (up wa.heap.size H') eI 1 c0 r
set_option maxHeartbeats 4000000 in
theorem zcZ {Ha:GH} {wa:World} (hs:Sl Ha wa) (v0:Value) (a0:List Int) (p0:RSl Ha eI 1 v0 a0) (a1:Int) {r:(List Int)} (hp:(PF.zbn a0 a1)=some r) :
  Calls Tryz.prog 93 #[v0,Value.int .i64 a1] wa (p_spec_l2Put Ha wa r):=by
 unfold PF.zbn at hp
 have S0:=St.init hs
 refine zae (N:=33) (args:=[v0,Value.int .i64 a1]) Tryz.func93 rfl rfl rfl ?_
 refine FW.seq (FW.region ?_)
 refine FL.v (E.assign (v:=Value.slice none 0 0) rfl) ?_
 refine FL.nil (FW.seq (FW.region ?_))
 refine FL.v (E.assign (v:=Value.int .i64 0) rfl) ?_
 refine FL.nil (FW.seq ?_)
 obtain ⟨q21,hq,hp⟩:=bndR hp
 refine FW.block ?_
 refine FW.mono (FW.iter (S:=Int) (X:=Empty) (fun (s21:Int) f w=>∃ H:GH,St Ha wa H w []∧Inc Ha H∧f 0=v0∧f 1=Value.int .i64 a1∧f 5=Value.int .i64 s21) (fun (q:Rs Int Empty) e f w=>match q with|.go s21=>e=Exit.exit 0∧(∃ H:GH,St Ha wa H w []∧Inc Ha H∧f 0=v0∧f 1=Value.int .i64 a1∧f 5=Value.int .i64 s21)|.rt x=>x.elim) hq ⟨_,S0,(Inc.rfl _),rfl,rfl,rfl⟩ ?_) ?_
 ·
  clear hp hq
  rintro s21 f74 w73 ⟨H70,S71,i72,k75,k76,k77⟩ oAi hp
  refine FW.seq (FW.seq (FW.region ?_))
  refine FL.v (E.move k77) ?_
  refine FL.v (E.move k75) ?_
  refine FL.v (E.lenP te34 rfl p0) ?_
  refine FL.v (E.lss rfl rfl) ?_
  refine FL.v (E.move (v:=Value.bool (decide (s21 < (len a0)))) rfl) ?_
  obtain ⟨t92,hqt92,hp⟩:=bnd hp
  refine FL.cut 9 (fun f w=>∃ H:GH,St Ha wa H w []∧Inc H70 H∧f 0=v0∧f 1=Value.int .i64 a1∧f 5=Value.int .i64 s21∧f 19=Value.bool t92) ?_ ?_
  ·
   clear hp;have hp:=hqt92;clear hqt92
   rcases ifB hp with ⟨c98,hp⟩|⟨c98,hp⟩
   ·
    refine FL.val (zab rfl rfl rfl c98) rfl rfl (E.move k75) ?_
    refine FL.val (zab rfl rfl rfl c98) rfl rfl (E.move k77) ?_
    obtain ⟨xA5,hxA6,hp⟩:=bnd hp
    obtain ⟨p99,csA0,ptA1,lA2,atA3,relA4⟩:=p0.at hxA6
    obtain rfl:=zam relA4
    refine FL.val (zab rfl rfl rfl c98) rfl rfl (E.indexAddr te34 rfl rfl ptA1) ?_
    refine FL.val (zab rfl rfl rfl c98) rfl rfl (E.load rfl (zaf Tryz.isAgg3 ((atA3.mono i72).now S71.sl) rfl)) ?_
    refine FL.call (zab rfl rfl rfl c98) rfl rfl (E.call Tryz.call91 (A1 rfl)) (zcm S71.sl xA5) ?_
    rintro e wA7 ⟨rfl,rA8⟩
    refine ⟨_,rfl,?_⟩
    have SA9:=S71.call rA8
    refine FL.val (zab rfl rfl rfl c98) rfl rfl (E.move k76) ?_
    refine FL.call (zab rfl rfl rfl c98) rfl rfl (E.call Tryz.call91 (A1 rfl)) (zcm SA9.sl a1) ?_
    rintro e wAa ⟨rfl,rAb⟩
    refine ⟨_,rfl,?_⟩
    have SAc:=SA9.call rAb
    refine FL.val (zab rfl rfl rfl c98) rfl rfl (E.lss rfl rfl) ?_
    obtain rfl:=Option.some.inj hp
    refine FL.v (E.pickT rfl c98 rfl) ?_
    exact FL.nil ⟨rfl,_,SAc,(Inc.rfl _),k75,k76,k77,rfl⟩
   ·
    refine FL.skip (wF_no rfl rfl rfl c98) rfl ?_
    refine FL.skip (wF_no rfl rfl rfl c98) rfl ?_
    refine FL.skip (wF_no rfl rfl rfl c98) rfl ?_
    refine FL.skip (wF_no rfl rfl rfl c98) rfl ?_
    refine FL.skip (wF_no rfl rfl rfl c98) rfl ?_
    refine FL.skip (wF_no rfl rfl rfl c98) rfl ?_
    refine FL.skip (wF_no rfl rfl rfl c98) rfl ?_
    refine FL.skip (wF_no rfl rfl rfl c98) rfl ?_
    obtain rfl:=Option.some.inj hp
    refine FL.v (E.pickF rfl c98 rfl) ?_
    exact FL.nil ⟨rfl,_,S71,(Inc.rfl _),k75,k76,k77,rfl⟩
  rintro f97 w96 ⟨H93,S94,i95,kAd,kAe,kAf,kAg⟩
  refine FL.nil ?_
  rcases ifB hp with ⟨cAh,hp⟩|⟨cAh,hp⟩
  ·
   refine FW.condT kAg cAh ?_
   refine FW.skip (FW.block (FW.region ?_))
   refine FL.v (E.move kAf) ?_
   refine FL.v (E.add rfl rfl) ?_
   refine FL.v (E.assign (v:=Value.int .i64 (wr (s21 + 1))) rfl) ?_
   refine FL.nil ?_
   obtain rfl:=Option.some.inj hp
   exact ⟨rfl,⟨_,S94,(i72.tr i95),kAd,kAe,rfl⟩⟩
  ·
   refine FW.condF kAg cAh ?_
   refine FW.exit ?_
   obtain rfl:=Option.some.inj hp
   exact ⟨nofun,rfl,⟨_,S94,(i72.tr i95),kAd,kAe,kAf⟩⟩
 ·
  clear hq
  intro e fAn wAm hD
  rcases q21 with s21|x21
  ·
   obtain ⟨rfl,hD⟩:=hD
   obtain ⟨HAj,SAk,iAl,kAo,kAp,kAq⟩:=hD
   replace hp:=el_go hp
   refine FW.seq ?_
   obtain ⟨xs22,hc23,hp⟩:=bnd hp
   obtain ⟨r27,hr28,hp⟩:=bnd hp
   obtain ⟨xs43,hz44,hp⟩:=bnd hp
   obtain ⟨xs54,hc55,hp⟩:=bnd hp
   obtain ⟨xs59,hz60,hp⟩:=bnd hp
   refine FW.drawB (Sl HAj) (fun f w=>∃ H:GH,∃ v68:Value,∃ n69:Nat,∃ cs78:List Value,St Ha wa H w [.row 3 1 v68 n69 cs78]∧Inc HAj H∧Els (up wa.heap.size H) eI 1 cs78 xs59∧f 4=v68) (by kernel_rfl) SAk.sl ?_ ?_
   ·
    intro wAr rAs
    have SAt:=SAk.call rAs
    refine FB.t (i:=0) (bs 12 1) rfl (SP.nil SAt.sl) rfl (fun w' hw'=>(E.move kAo)) ?_
    refine FB.t (i:=1) (bs 12 3) rfl (SP.nil SAt.sl) rfl (fun w' hw'=>(E.move kAq)) ?_
    obtain ⟨v24,run25,h26⟩:=p0.cut te34 hc23 (lo:=none) (hi:=some (Value.int .i64 s21)) (.inl ⟨rfl,rfl⟩) (.inr ⟨_,rfl⟩)
    refine FB.t (i:=2) (bs 12 7) rfl (SP.nil SAt.sl) rfl (fun w' hw'=>(E.slice te34 rfl rfl (congrArg some rfl) rfl (run25 _))) ?_
    refine FB.t (i:=4) (bs 12 23) rfl (SP.nil SAt.sl) rfl (fun w' hw'=>(E.move kAp)) ?_
    refine FB.t (i:=7) (bs 12 151) rfl (SP.nil SAt.sl) rfl (fun w' hw'=>(E.move kAo)) ?_
    refine FB.t (i:=8) (bs 12 407) rfl (SP.nil SAt.sl) rfl (fun w' hw'=>(E.move kAq)) ?_
    obtain ⟨v56,run57,h58⟩:=p0.cut te34 hc55 (lo:=some (Value.int .i64 s21)) (hi:=none) (.inr ⟨_,rfl⟩) (.inl ⟨rfl,rfl⟩)
    refine FB.t (i:=9) (bs 12 919) rfl (SP.nil SAt.sl) rfl (fun w' hw'=>(E.slice te34 rfl (congrArg some rfl) rfl rfl (run57 _))) ?_
    refine FB.all2 (i:=3) (j:=5) (by kernel_rfl) ?_ ?_
    ·
     refine FC.call (l':=(bs 12 927)) rfl (by kernel_rfl) rfl rfl rfl (E.call Tryz.call51 (A1 rfl)) (zcn SAt.sl v24 xs22 (h26.mono iAl) hr28) ?_
     rintro e w30 ⟨H29,v33,n35,cs36,rfl,r32,els37⟩
     refine ⟨_,rfl,?_⟩
     have els37:=els37.mono (up_le SAt.size)
     have S31:=SAt.join (l':=[.row 3 1 v33 n35 cs36]) r32 rfl
     refine ⟨(SP.nil (Sl.of_inc r32.run.inc S31.sl)),?_⟩
     refine FB.all1 (i:=5) (by kernel_rfl) ?_
     ·
      obtain ⟨v38,w39,run40,S41,els42⟩:=S31.ints (P:=Tryz.prog) te34 (up wa.heap.size H29) 1 [a1]
      refine FC.val (l':=(bs 12 959)) rfl (by kernel_rfl) rfl rfl rfl (E.buildSlice (B1 rfl) run40) ?_
      refine ⟨(SP.nil (Sl.of_inc r32.run.inc S41.sl)),?_⟩
      refine FB.all1 (i:=6) (by kernel_rfl) ?_
      ·
       obtain ⟨v45,w48,n46,cs47,run49,S50,els51,ce52⟩:=S41.appendO (P:=Tryz.prog) te34 (i:=1) (j:=0) rfl els37 rfl els42 hz44
       have S50:St Ha wa H29 w48 [.row 3 1 v38 1 (iC [a1]),.row 3 1 v45 n46 cs47]:=S50
       have S53:St Ha wa H29 w48 [.row 3 1 v45 n46 cs47]:=S50.drop 0
       refine FC.val (l':=(bs 12 1023)) rfl (by kernel_rfl) rfl rfl rfl (E.append rfl rfl run49) ?_
       refine ⟨(SP.nil (Sl.of_inc r32.run.inc S53.sl)),?_⟩
       refine FB.all1 (i:=10) (by kernel_rfl) ?_
       ·
        obtain ⟨v61,w64,n62,cs63,run65,S66,els67⟩:=S53.appendP (P:=Tryz.prog) (Inc.rfl _) te34 (i:=0) rfl (els51.mono upI) (h58.mono (iAl.tr r32.run.inc)) hz60
        have S66:St Ha wa H29 w64 [.row 3 1 v61 n62 cs63]:=S66
        have els67:Els (up wa.heap.size H29) eI 1 cs63 xs59:=els67.any (fun _ _ _ _ h=>h)
        refine FC.val (l':=(bs 12 2047)) rfl (by kernel_rfl) rfl rfl rfl (E.append rfl rfl run65) ?_
        refine ⟨(SP.nil (Sl.of_inc r32.run.inc S66.sl)),?_⟩
        refine FB.t (i:=11) (bs 12 4095) rfl (SP.nil (Sl.of_inc r32.run.inc S66.sl)) rfl (fun w' hw'=>(E.assign (v:=v61) rfl)) ?_
        exact FB.done (by kernel_rfl) ⟨_,_,_,_,S66,r32.run.inc,els67,rfl⟩
    ·
     obtain ⟨v38,w39,run40,S41,els42⟩:=SAt.ints (P:=Tryz.prog) te34 (up wa.heap.size HAj) 1 [a1]
     refine FC.val (l':=(bs 12 951)) rfl (by kernel_rfl) rfl rfl rfl (E.buildSlice (B1 rfl) run40) ?_
     refine ⟨(SP.nil S41.sl),?_⟩
     refine FB.all1 (i:=3) (by kernel_rfl) ?_
     ·
      refine FC.call (l':=(bs 12 959)) rfl (by kernel_rfl) rfl rfl rfl (E.call Tryz.call51 (A1 rfl)) (zcn S41.sl v24 xs22 (h26.mono iAl) hr28) ?_
      rintro e w30 ⟨H29,v33,n35,cs36,rfl,r32,els37⟩
      refine ⟨_,rfl,?_⟩
      have els37:=els37.mono (up_le S41.size)
      have S31:=S41.join (l':=[.row 3 1 v33 n35 cs36,.row 3 1 v38 1 (iC [a1])]) r32 rfl
      refine ⟨(SP.nil (Sl.of_inc r32.run.inc S31.sl)),?_⟩
      refine FB.all1 (i:=6) (by kernel_rfl) ?_
      ·
       obtain ⟨v45,w48,n46,cs47,run49,S50,els51,ce52⟩:=S31.appendO (P:=Tryz.prog) te34 (i:=0) (j:=1) rfl els37 rfl (els42.mono (zag r32.run.inc)) hz44
       have S50:St Ha wa H29 w48 [.row 3 1 v45 n46 cs47,.row 3 1 v38 1 (iC [a1])]:=S50
       have S53:St Ha wa H29 w48 [.row 3 1 v45 n46 cs47]:=S50.drop 1
       refine FC.val (l':=(bs 12 1023)) rfl (by kernel_rfl) rfl rfl rfl (E.append rfl rfl run49) ?_
       refine ⟨(SP.nil (Sl.of_inc r32.run.inc S53.sl)),?_⟩
       refine FB.all1 (i:=10) (by kernel_rfl) ?_
       ·
        obtain ⟨v61,w64,n62,cs63,run65,S66,els67⟩:=S53.appendP (P:=Tryz.prog) (Inc.rfl _) te34 (i:=0) rfl (els51.mono upI) (h58.mono (iAl.tr r32.run.inc)) hz60
        have S66:St Ha wa H29 w64 [.row 3 1 v61 n62 cs63]:=S66
        have els67:Els (up wa.heap.size H29) eI 1 cs63 xs59:=els67.any (fun _ _ _ _ h=>h)
        refine FC.val (l':=(bs 12 2047)) rfl (by kernel_rfl) rfl rfl rfl (E.append rfl rfl run65) ?_
        refine ⟨(SP.nil (Sl.of_inc r32.run.inc S66.sl)),?_⟩
        refine FB.t (i:=11) (bs 12 4095) rfl (SP.nil (Sl.of_inc r32.run.inc S66.sl)) rfl (fun w' hw'=>(E.assign (v:=v61) rfl)) ?_
        exact FB.done (by kernel_rfl) ⟨_,_,_,_,S66,r32.run.inc,els67,rfl⟩
   ·
    rintro f84 w83 ⟨H80,v68,n69,cs78,S81,i82,els79,k85⟩
    refine FW.ret ?_
    obtain rfl:=Option.some.inj hp
    exact ⟨.inr rfl,res1 rfl k85 ⟨_,_,_,_,rfl,S81,els79⟩⟩
  ·
   exact x21.elim

@[reducible] def zeN (Ha:GH) (wa:World) (r:(Cnf×Bool)):Ending→World→Prop :=
 fun e w'=>∃ H':GH,∃ v0_1:Value,∃ n0_1:Nat,∃ c0_1:List Value,e=.returned (Value.tuple #[Value.agg #[Value.int .i64 r.1.vars,v0_1],Value.bool r.2])∧St Ha wa H' w' [.row 34 1 v0_1 n0_1 c0_1]∧Els (up wa.heap.size H') (eL eI 1) 1 c0_1 r.1.clauses∧(bl c0_1).Nodup
set_option maxHeartbeats 4000000 in
theorem w_spec_RenameCnf {Ha:GH} {wa:World} (hs:Sl Ha wa) (a0:Cnf) (v0_1:Value) (p0_1:RSl Ha (eL eI 1) 1 v0_1 a0.clauses) (v1:Value) (a1:List Int) (p1:RSl Ha eI 1 v1 a1) {r:(Cnf×Bool)} (hp:(PF.zdc a0 a1)=some r) :
  Calls Tryz.prog 116 #[Value.agg #[Value.int .i64 a0.vars,v0_1],v1] wa (zeN Ha wa r):=by
 unfold PF.zdc at hp
 have S0:=St.init hs
 refine zae (N:=110) (args:=[Value.agg #[Value.int .i64 a0.vars,v0_1],v1]) Tryz.func116 rfl rfl rfl ?_
 refine FW.seq (FW.region ?_)
 obtain ⟨b21,w22,run23,S24⟩:=S0.box (P:=Tryz.prog) 26 [Value.int .i64 a0.vars,v0_1] (v:=Value.agg #[Value.int .i64 a0.vars,v0_1]) rfl (zac rfl (zac p0_1.one zad))
 refine FL.v (E.box rfl run23) ?_
 obtain ⟨H25,S26,i27,at28⟩:=S24.sealBox (i:=0) (l':=[]) rfl rfl
 obtain ⟨b29,w30,run31,S32⟩:=S26.alloc (P:=Tryz.prog) 26 [Value.int .i64 0,Value.slice none 0 0] Tryz.zeroValue26 rfl (zac rfl (zac rfl zad))
 refine FL.v (E.alloc run31) ?_
 refine FL.v (E.assign (v:=Value.bool false) rfl) ?_
 refine FL.nil (FW.seq (FW.seq (FW.region ?_)))
 refine FL.v (E.load rfl (zai Tryz.isAgg26 Tryz.sizeOf26 (at28.now S32.sl) rfl)) ?_
 obtain ⟨r33,hr34,hp⟩:=bnd hp
 refine FL.call rfl rfl rfl (E.call Tryz.call87 (A1 rfl)) (w_spec_l2Good S32.sl a0 v0_1 (p0_1.mono i27) hr34) ?_
 rintro e w35 ⟨rfl,r36⟩
 refine ⟨_,rfl,?_⟩
 have S37:=S32.call r36
 refine FL.v (E.not rfl) ?_
 refine FL.v (E.move (v:=Value.bool (!r33)) rfl) ?_
 refine FL.cut 6 (fun f w=>∃ H:GH,St Ha wa H w [.box b29 26 [Value.int .i64 0,Value.slice none 0 0]]∧Inc H25 H∧f 1=v1∧f 2=Value.pointer (some ⟨b21,0,none⟩)∧f 4=Value.pointer (some (⟨b29,0,none⟩:Addr))∧f 22=Value.bool (bif (!r33) then true else (!((len a1) == a0.vars)))) ?_ ?_
 ·
  rcases bcase (!r33) with c44|c44
  ·
   refine FL.skip (wF_no rfl rfl rfl c44) rfl ?_
   refine FL.skip (wF_no rfl rfl rfl c44) rfl ?_
   refine FL.skip (wF_no rfl rfl rfl c44) rfl ?_
   refine FL.skip (wF_no rfl rfl rfl c44) rfl ?_
   refine FL.skip (wF_no rfl rfl rfl c44) rfl ?_
   refine FL.v (E.pickT rfl c44 rfl) ?_
   exact FL.nil ⟨rfl,_,S37,(Inc.rfl _),rfl,rfl,rfl,(congrArg Value.bool (bifT c44).symm)⟩
  ·
   refine FL.val (zab rfl rfl rfl c44) rfl rfl (E.move (v:=v1) rfl) ?_
   refine FL.val (zab rfl rfl rfl c44) rfl rfl (E.lenP te34 rfl p1) ?_
   refine FL.val (zab rfl rfl rfl c44) rfl rfl (E.fieldAddr zaC rfl) ?_
   refine FL.val (zab rfl rfl rfl c44) rfl rfl (E.load rfl (zah Tryz.isAgg3 (at28.now S37.sl) rfl)) ?_
   refine FL.val (zab rfl rfl rfl c44) rfl rfl (E.neq rfl rfl) ?_
   refine FL.v (E.pickF rfl c44 rfl) ?_
   exact FL.nil ⟨rfl,_,S37,(Inc.rfl _),rfl,rfl,rfl,(congrArg Value.bool (bifF c44).symm)⟩
 rintro f43 w42 ⟨H39,S40,i41,k45,k46,k47,k48⟩
 refine FL.nil ?_
 rcases ifB hp with ⟨c49,hp⟩|⟨c49,hp⟩
 ·
  refine FW.condT k48 c49 ?_
  refine FW.seq (FW.region ?_)
  refine FL.v (E.build (B0) (run_build _ 26 #[] #[Value.int .i64 0,Value.slice none 0 0] (by rfl))) ?_
  obtain ⟨w50,run51,S52⟩:=S40.store0 (P:=Tryz.prog) (t:=26) (i:=0) (cs':=[Value.int .i64 0,Value.slice none 0 0]) (l':=[.box b29 26 [Value.int .i64 0,Value.slice none 0 0]]) (v:=Value.agg #[Value.int .i64 0,Value.slice none 0 0]) (c:=[Value.int .i64 0,Value.slice none 0 0]) rfl Tryz.sizeOf26 rfl rfl (zac rfl (zac rfl zad)) (Nat.le_of_ble_eq_true rfl) rfl rfl
  refine FL.act rfl rfl (E.store k47 rfl run51) ?_
  refine FL.v (E.assign (v:=Value.bool false) rfl) ?_
  refine FL.nil ?_
  refine FW.ret ?_
  obtain rfl:=Option.some.inj hp
  exact ⟨.inr rfl,resC2 rfl k47 (zaB Tryz.isAgg26 Tryz.sizeOf26 (S52.box_now (i:=0) rfl) rfl) rfl ⟨_,_,_,_,rfl,((S52.nil 34 1).sel [0] (by decide) rfl),Els.nil,List.nodup_nil⟩⟩
 ·
  refine FW.condF k48 c49 ?_
  refine FW.skip (FW.seq (FW.seq (FW.region ?_)))
  refine FL.v (E.assign (v:=Value.int .i64 0) rfl) ?_
  refine FL.nil ?_
  obtain ⟨q54,hq,hp⟩:=bndR hp
  refine FW.block ?_
  refine FW.mono (FW.forL (S:=Unit) (X:=(Cnf×Bool)) (fun (i54:Nat) (s54:Unit) f w=>∃ H:GH,St Ha wa H w [.box b29 26 [Value.int .i64 0,Value.slice none 0 0]]∧Inc H39 H∧f 6=Value.int .i64 ((i54:Nat):Int)∧f 1=v1∧f 2=Value.pointer (some ⟨b21,0,none⟩)∧f 4=Value.pointer (some (⟨b29,0,none⟩:Addr))) (fun q e f w=>match q with|.go s54=>e=Exit.exit 0∧(∃ H:GH,St Ha wa H w [.box b29 26 [Value.int .i64 0,Value.slice none 0 0]]∧Inc H39 H∧f 1=v1∧f 2=Value.pointer (some ⟨b21,0,none⟩)∧f 4=Value.pointer (some (⟨b29,0,none⟩:Addr)))|.rt x=>((e=Exit.ret)∧(fun e f w=>(e=Exit.normal∨e=Exit.ret)∧∀ a,Fr (δ:=[]) 110 a f→∃ v,(results Tryz.f116 a.tmps).run Tryz.prog w=.ok v w∧(zeN Ha wa x) (.returned v) w) e f w)) hq ⟨_,S40,(Inc.rfl _),rfl,k45,k46,k47⟩ ?_ ?_) ?_
  ·
   clear hp hq
   rintro i54 y53 s54 fAW wAV ⟨HAS,SAT,iAU,kAX,kAY,kAZ,kB0⟩ hx54 oCt hp
   refine FW.seq (FW.seq (FW.region ?_))
   refine FL.v (E.move kAX) ?_
   refine FL.v (E.move kAY) ?_
   refine FL.v (E.lenP te34 rfl p1) ?_
   refine FL.v (E.lssT rfl rfl (zaw hx54)) ?_
   refine FL.nil ?_
   refine FW.condT rfl rfl ?_
   refine FW.skip (FW.seq (FW.block (FW.seq ?_)))
   refine FW.draw (fun w'=>Run wAV.heap.size HAS wAV HAS w') (by kernel_rfl) (by kernel_rfl) (zaG SAT.sl) ?_
   refine FD.val rfl rfl rfl (fun w' hw'=>(E.fieldAddr zaC kAZ)) ?_
   refine FD.val rfl rfl rfl (fun w' hw'=>(E.load rfl (zah Tryz.isAgg3 ((at28.mono (i41.tr iAU)).now (SAT.call hw').sl) rfl))) ?_
   refine FD.val rfl rfl rfl (fun w' hw'=>(E.move kAY)) ?_
   refine FD.val rfl rfl rfl (fun w' hw'=>(E.move kAX)) ?_
   obtain ⟨pB2,csB3,ptB4,lB5,atB6,relB7⟩:=p1.at (zal hx54)
   obtain rfl:=zam relB7
   refine FD.val rfl rfl rfl (fun w' hw'=>(E.indexAddr te34 rfl rfl ptB4)) ?_
   refine FD.val rfl rfl rfl (fun w' hw'=>(E.load rfl (zaf Tryz.isAgg3 ((atB6.mono ((i27.tr i41).tr iAU)).now (SAT.call hw').sl) rfl))) ?_
   refine FD.call rfl rfl rfl (fun w' hw'=>(E.call Tryz.call136 (A2 rfl rfl))) (fun w' hw'=>Calls.cls hw' (w_spec_l2Lit (SAT.call hw').sl a0.vars y53)) ?_
   refine FD.val rfl rfl rfl (fun w' hw'=>(E.not rfl)) ?_
   refine FD.val rfl rfl rfl (fun w' hw'=>(E.move (v:=Value.bool (!(PF.za8 a0.vars y53))) rfl)) ?_
   obtain ⟨t183,hqtBl,hp⟩:=bnd hp
   refine FD.cut 9 (fun f=>f 1=v1∧f 2=Value.pointer (some ⟨b21,0,none⟩)∧f 4=Value.pointer (some (⟨b29,0,none⟩:Addr))∧f 6=Value.int .i64 ((i54:Nat):Int)∧f 47=Value.bool t183) ?_ ?_
   ·
    clear hp;have hp:=hqtBl;clear hqtBl
    rcases ifB hp with ⟨cBr,hp⟩|⟨cBr,hp⟩
    ·
     refine FD.skip (wF_no rfl rfl rfl cBr) rfl ?_
     refine FD.skip (wF_no rfl rfl rfl cBr) rfl ?_
     refine FD.skip (wF_no rfl rfl rfl cBr) rfl ?_
     refine FD.skip (wF_no rfl rfl rfl cBr) rfl ?_
     refine FD.skip (wF_no rfl rfl rfl cBr) rfl ?_
     refine FD.skip (wF_no rfl rfl rfl cBr) rfl ?_
     refine FD.skip (wF_no rfl rfl rfl cBr) rfl ?_
     refine FD.skip (wF_no rfl rfl rfl cBr) rfl ?_
     obtain rfl:=Option.some.inj hp
     refine FD.val rfl rfl rfl (fun w' hw'=>(E.pickT rfl cBr rfl)) ?_
     exact FD.nil ⟨kAY,kAZ,kB0,kAX,rfl⟩
    ·
     refine FD.val (zab rfl rfl rfl cBr) rfl rfl (fun w' hw'=>(E.move kAY)) ?_
     refine FD.val (zab rfl rfl rfl cBr) rfl rfl (fun w' hw'=>(E.move kAX)) ?_
     obtain ⟨xsBs,hcBt,hp⟩:=bnd hp
     obtain ⟨vBu,runBv,hBw⟩:=p1.cut te34 hcBt (lo:=none) (hi:=some (Value.int .i64 ((i54:Nat):Int))) (.inl ⟨rfl,rfl⟩) (.inr ⟨_,rfl⟩)
     refine FD.val (zab rfl rfl rfl cBr) rfl rfl (fun w' hw'=>(E.slice te34 rfl rfl (congrArg some rfl) rfl (runBv _))) ?_
     refine FD.val (zab rfl rfl rfl cBr) rfl rfl (fun w' hw'=>(E.move kAY)) ?_
     refine FD.val (zab rfl rfl rfl cBr) rfl rfl (fun w' hw'=>(E.move kAX)) ?_
     obtain ⟨pBx,csBy,ptBz,lBA,atBB,relBC⟩:=p1.at (zal hx54)
     obtain rfl:=zam relBC
     refine FD.val (zab rfl rfl rfl cBr) rfl rfl (fun w' hw'=>(E.indexAddr te34 rfl rfl ptBz)) ?_
     refine FD.val (zab rfl rfl rfl cBr) rfl rfl (fun w' hw'=>(E.load rfl (zaf Tryz.isAgg3 ((atBB.mono ((i27.tr i41).tr iAU)).now (SAT.call hw').sl) rfl))) ?_
     obtain ⟨rBD,hrBE,hp⟩:=bnd hp
     refine FD.call (zab rfl rfl rfl cBr) rfl rfl (fun w' hw'=>(E.call Tryz.call92 (A2 rfl rfl))) (fun w' hw'=>Calls.cls hw' (zcY (SAT.call hw').sl vBu xsBs (hBw.mono ((i27.tr i41).tr iAU)) y53 hrBE)) ?_
     obtain rfl:=Option.some.inj hp
     refine FD.val rfl rfl rfl (fun w' hw'=>(E.pickF rfl cBr rfl)) ?_
     exact FD.nil ⟨kAY,kAZ,kB0,kAX,rfl⟩
   rintro fBq ⟨kBF,kBG,kBH,kBI,kBJ⟩
   refine FD.val rfl rfl rfl (fun w' hw'=>(E.move kBJ)) ?_
   obtain ⟨t221,hqtBX,hp⟩:=bnd hp
   refine FD.cut 10 (fun f=>f 1=v1∧f 2=Value.pointer (some ⟨b21,0,none⟩)∧f 4=Value.pointer (some (⟨b29,0,none⟩:Addr))∧f 6=Value.int .i64 ((i54:Nat):Int)∧f 58=Value.bool t221) ?_ ?_
   ·
    clear hp;have hp:=hqtBX;clear hqtBX
    rcases ifB hp with ⟨cC3,hp⟩|⟨cC3,hp⟩
    ·
     refine FD.skip (wF_no rfl rfl rfl cC3) rfl ?_
     refine FD.skip (wF_no rfl rfl rfl cC3) rfl ?_
     refine FD.skip (wF_no rfl rfl rfl cC3) rfl ?_
     refine FD.skip (wF_no rfl rfl rfl cC3) rfl ?_
     refine FD.skip (wF_no rfl rfl rfl cC3) rfl ?_
     refine FD.skip (wF_no rfl rfl rfl cC3) rfl ?_
     refine FD.skip (wF_no rfl rfl rfl cC3) rfl ?_
     refine FD.skip (wF_no rfl rfl rfl cC3) rfl ?_
     refine FD.skip (wF_no rfl rfl rfl cC3) rfl ?_
     obtain rfl:=Option.some.inj hp
     refine FD.val rfl rfl rfl (fun w' hw'=>(E.pickT rfl cC3 rfl)) ?_
     exact FD.nil ⟨kBF,kBG,kBH,kBI,rfl⟩
    ·
     refine FD.val (zab rfl rfl rfl cC3) rfl rfl (fun w' hw'=>(E.move kBF)) ?_
     refine FD.val (zab rfl rfl rfl cC3) rfl rfl (fun w' hw'=>(E.move kBI)) ?_
     obtain ⟨xsC4,hcC5,hp⟩:=bnd hp
     obtain ⟨vC6,runC7,hC8⟩:=p1.cut te34 hcC5 (lo:=none) (hi:=some (Value.int .i64 ((i54:Nat):Int))) (.inl ⟨rfl,rfl⟩) (.inr ⟨_,rfl⟩)
     refine FD.val (zab rfl rfl rfl cC3) rfl rfl (fun w' hw'=>(E.slice te34 rfl rfl (congrArg some rfl) rfl (runC7 _))) ?_
     refine FD.val (zab rfl rfl rfl cC3) rfl rfl (fun w' hw'=>(E.move kBF)) ?_
     refine FD.val (zab rfl rfl rfl cC3) rfl rfl (fun w' hw'=>(E.move kBI)) ?_
     obtain ⟨pC9,csCa,ptCb,lCc,atCd,relCe⟩:=p1.at (zal hx54)
     obtain rfl:=zam relCe
     refine FD.val (zab rfl rfl rfl cC3) rfl rfl (fun w' hw'=>(E.indexAddr te34 rfl rfl ptCb)) ?_
     refine FD.val (zab rfl rfl rfl cC3) rfl rfl (fun w' hw'=>(E.load rfl (zaf Tryz.isAgg3 ((atCd.mono ((i27.tr i41).tr iAU)).now (SAT.call hw').sl) rfl))) ?_
     refine FD.val (zab rfl rfl rfl cC3) rfl rfl (fun w' hw'=>(E.neg rfl)) ?_
     obtain ⟨rCf,hrCg,hp⟩:=bnd hp
     refine FD.call (zab rfl rfl rfl cC3) rfl rfl (fun w' hw'=>(E.call Tryz.call92 (A2 rfl rfl))) (fun w' hw'=>Calls.cls hw' (zcY (SAT.call hw').sl vC6 xsC4 (hC8.mono ((i27.tr i41).tr iAU)) (wr (-y53)) hrCg)) ?_
     obtain rfl:=Option.some.inj hp
     refine FD.val rfl rfl rfl (fun w' hw'=>(E.pickF rfl cC3 rfl)) ?_
     exact FD.nil ⟨kBF,kBG,kBH,kBI,rfl⟩
   rintro fC2 ⟨kCh,kCi,kCj,kCk,kCl⟩
   refine FD.nil ?_
   intro wCm rCo
   have SCn:=SAT.call rCo
   rcases ifB hp with ⟨cCp,hp⟩|⟨cCp,hp⟩
   ·
    refine FW.condT kCl cCp ?_
    refine FW.seq (FW.region ?_)
    refine FL.v (E.build (B0) (run_build _ 26 #[] #[Value.int .i64 0,Value.slice none 0 0] (by rfl))) ?_
    obtain ⟨wCq,runCr,SCs⟩:=SCn.store0 (P:=Tryz.prog) (t:=26) (i:=0) (cs':=[Value.int .i64 0,Value.slice none 0 0]) (l':=[.box b29 26 [Value.int .i64 0,Value.slice none 0 0]]) (v:=Value.agg #[Value.int .i64 0,Value.slice none 0 0]) (c:=[Value.int .i64 0,Value.slice none 0 0]) rfl Tryz.sizeOf26 rfl rfl (zac rfl (zac rfl zad)) (Nat.le_of_ble_eq_true rfl) rfl rfl
    refine FL.act rfl rfl (E.store kCj rfl runCr) ?_
    refine FL.v (E.assign (v:=Value.bool false) rfl) ?_
    refine FL.nil ?_
    refine FW.ret ?_
    obtain rfl:=Option.some.inj hp
    exact ⟨nofun,rfl,⟨.inr rfl,resC2 rfl kCj (zaB Tryz.isAgg26 Tryz.sizeOf26 (SCs.box_now (i:=0) rfl) rfl) rfl ⟨_,_,_,_,rfl,((SCs.nil 34 1).sel [0] (by decide) rfl),Els.nil,List.nodup_nil⟩⟩⟩
   ·
    refine FW.condF kCl cCp ?_
    refine FW.skip (FW.region ?_)
    refine FL.v (E.move kCk) ?_
    refine FL.v (E.add rfl rfl) ?_
    refine FL.v (E.assign (v:=Value.int .i64 (wr (((i54:Nat):Int) + 1))) rfl) ?_
    refine FL.nil ?_
    obtain rfl:=Option.some.inj hp
    exact ⟨rfl,⟨_,SCn,iAU,(zap rfl (zaq hx54) (p1.mono ((i27.tr i41).tr iAU)).le),kCh,kCi,kCj⟩⟩
  ·
   clear hp hq
   rintro s54 fDf wDe ⟨HDb,SDc,iDd,kDg,kDh,kDi,kDj⟩
   refine FW.seq (FW.seq (FW.region ?_))
   refine FL.v (E.move kDg) ?_
   refine FL.v (E.move kDh) ?_
   refine FL.v (E.lenP te34 rfl p1) ?_
   refine FL.v (E.lss rfl rfl) ?_
   refine FL.nil ?_
   refine FW.condF rfl zax ?_
   refine FW.exit ?_
   exact ⟨nofun,rfl,⟨_,SDc,iDd,kDh,kDi,kDj⟩⟩
  ·
   clear hq
   intro e fCy wCx hD
   rcases q54 with s54|x54
   ·
    obtain ⟨rfl,hD⟩:=hD
    obtain ⟨HCu,SCv,iCw,kCz,kCA,kCB⟩:=hD
    replace hp:=el_go hp
    refine FW.seq (FW.region ?_)
    refine FL.v (E.fieldAddr zaC kCA) ?_
    refine FL.v (E.load rfl (zah Tryz.isAgg3 ((at28.mono (i41.tr iCw)).now SCv.sl) rfl)) ?_
    obtain ⟨vCC,wCD,runCE,SCF⟩:=SCv.buildSlice (P:=Tryz.prog) te24 [] (parts:=#[]) (cells:=[]) rfl zao zan zad (Nat.le_of_ble_eq_true rfl)
    have elsCG:Els (up wa.heap.size HCu) (eL eI 1) 1 [] []:=Els.nil
    refine FL.v (E.buildSlice (B0) runCE) ?_
    refine FL.v (E.build (B2 rfl rfl) (run_build _ 26 #[(0,Value.int .i64 a0.vars),(1,vCC)] #[Value.int .i64 a0.vars,vCC] (by obtain ⟨_,_,rfl⟩:=SCF.row_ln (i:=0) rfl;rfl))) ?_
    obtain ⟨bCH,wCI,runCJ,SCK⟩:=SCF.alloc (P:=Tryz.prog) 26 [Value.int .i64 0,Value.slice none 0 0] Tryz.zeroValue26 rfl (zac rfl (zac rfl zad))
    refine FL.v (E.alloc runCJ) ?_
    obtain ⟨wCL,runCM,SCN⟩:=SCK.store0 (P:=Tryz.prog) (t:=26) (i:=0) (cs':=[Value.int .i64 a0.vars,vCC]) (l':=[.box bCH 26 [Value.int .i64 a0.vars,vCC],.row 34 1 vCC 0 [],.box b29 26 [Value.int .i64 0,Value.slice none 0 0]]) (v:=Value.agg #[Value.int .i64 a0.vars,vCC]) (c:=[Value.int .i64 a0.vars,vCC]) rfl Tryz.sizeOf26 rfl rfl (zac rfl (zac (Ln.one (SCK.row_ln (i:=1) rfl)) zad)) (Nat.le_of_ble_eq_true rfl) rfl rfl
    refine FL.act rfl rfl (E.store rfl rfl runCM) ?_
    refine FL.nil (FW.seq (FW.seq (FW.region ?_)))
    refine FL.v (E.assign (v:=Value.int .i64 0) rfl) ?_
    refine FL.nil ?_
    obtain ⟨qCO,hq,hp⟩:=bndR hp
    refine FW.block ?_
    refine FW.mono (FW.iter (S:=((List (List Int))×Int)) (X:=Empty) (fun (sCO:((List (List Int))×Int)) f w=>∃ H:GH,∃ vKU:Value,∃ nKV:Nat,∃ csKW:List Value,St Ha wa H w [.box bCH 26 [Value.int .i64 a0.vars,vKU],.row 34 1 vKU nKV csKW,.box b29 26 [Value.int .i64 0,Value.slice none 0 0]]∧Inc HCu H∧Els (up wa.heap.size H) (eL eI 1) 1 csKW sCO.1∧(bl csKW).Nodup∧f 1=v1∧f 2=Value.pointer (some ⟨b21,0,none⟩)∧f 4=Value.pointer (some (⟨b29,0,none⟩:Addr))∧f 7=Value.pointer (some (⟨bCH,0,none⟩:Addr))∧f 8=Value.int .i64 sCO.2) (fun (q:Rs ((List (List Int))×Int) Empty) e f w=>match q with|.go sCO=>e=Exit.exit 2∧(∃ H:GH,∃ vKU:Value,∃ nKV:Nat,∃ csKW:List Value,St Ha wa H w [.box bCH 26 [Value.int .i64 a0.vars,vKU],.row 34 1 vKU nKV csKW,.box b29 26 [Value.int .i64 0,Value.slice none 0 0]]∧Inc HCu H∧Els (up wa.heap.size H) (eL eI 1) 1 csKW sCO.1∧(bl csKW).Nodup∧f 4=Value.pointer (some (⟨b29,0,none⟩:Addr))∧f 7=Value.pointer (some (⟨bCH,0,none⟩:Addr)))|.rt x=>x.elim) hq ⟨_,_,_,_,SCN,(Inc.rfl _),elsCG,(show (bl []).Nodup from List.nodup_nil),kCz,kCA,kCB,rfl,rfl⟩ ?_) ?_
    ·
     clear hp hq
     rintro sCO f58 w57 ⟨H38,vKU,nKV,csKW,S55,i56,elsKX,ndKY,k59,k60,k61,k62,k63⟩ oD0 hp
     refine FW.seq (FW.seq (FW.region ?_))
     refine FL.v (E.move k63) ?_
     refine FL.v (E.fieldAddr zay k60) ?_
     refine FL.v (E.load rfl (zah Tryz.isAgg24 ((at28.mono ((i41.tr iCw).tr i56)).now S55.sl) rfl)) ?_
     refine FL.v (E.lenP te24 rfl p0_1) ?_
     refine FL.v (E.lss rfl rfl) ?_
     refine FL.nil ?_
     rcases ifB hp with ⟨c64,hp⟩|⟨c64,hp⟩
     ·
      refine FW.condT rfl c64 ?_
      refine FW.skip (FW.seq (FW.block (FW.seq (FW.region ?_))))
      obtain ⟨v65,w66,run67,S68⟩:=S55.buildSlice (P:=Tryz.prog) te34 [] (parts:=#[]) (cells:=[]) rfl zao zan zad (Nat.le_of_ble_eq_true rfl)
      have els69:Els (up wa.heap.size H38) eI 1 [] []:=Els.nil
      refine FL.v (E.buildSlice (B0) run67) ?_
      refine FL.v (E.assign (v:=v65) rfl) ?_
      refine FL.nil (FW.seq (FW.seq (FW.region ?_)))
      refine FL.v (E.assign (v:=Value.int .i64 0) rfl) ?_
      refine FL.nil ?_
      obtain ⟨q70,hq,hp⟩:=bndR hp
      refine FW.block ?_
      refine FW.mono (FW.iter (S:=((List Int)×Int)) (X:=Empty) (fun (s70:((List Int)×Int)) f w=>∃ H:GH,∃ v71:Value,∃ n72:Nat,∃ cs73:List Value,St Ha wa H w [.box bCH 26 [Value.int .i64 a0.vars,vKU],.row 34 1 vKU nKV csKW,.box b29 26 [Value.int .i64 0,Value.slice none 0 0],.row 3 1 v71 n72 cs73]∧Inc H38 H∧Els (up wa.heap.size H) eI 1 cs73 s70.1∧f 1=v1∧f 2=Value.pointer (some ⟨b21,0,none⟩)∧f 4=Value.pointer (some (⟨b29,0,none⟩:Addr))∧f 7=Value.pointer (some (⟨bCH,0,none⟩:Addr))∧f 8=Value.int .i64 sCO.2∧f 9=v71∧f 10=Value.int .i64 s70.2) (fun (q:Rs ((List Int)×Int) Empty) e f w=>match q with|.go s70=>e=Exit.exit 4∧(∃ H:GH,∃ v71:Value,∃ n72:Nat,∃ cs73:List Value,St Ha wa H w [.box bCH 26 [Value.int .i64 a0.vars,vKU],.row 34 1 vKU nKV csKW,.box b29 26 [Value.int .i64 0,Value.slice none 0 0],.row 3 1 v71 n72 cs73]∧Inc H38 H∧Els (up wa.heap.size H) eI 1 cs73 s70.1∧f 1=v1∧f 2=Value.pointer (some ⟨b21,0,none⟩)∧f 4=Value.pointer (some (⟨b29,0,none⟩:Addr))∧f 7=Value.pointer (some (⟨bCH,0,none⟩:Addr))∧f 8=Value.int .i64 sCO.2∧f 9=v71)|.rt x=>x.elim) hq ⟨_,_,_,_,(S68.sel [1,2,3,0] (by decide) rfl),(Inc.rfl _),els69,k59,k60,k61,k62,k63,rfl,rfl⟩ ?_) ?_
      ·
       clear hp hq
       rintro s70 f79 w78 ⟨H75,v71,n72,cs73,S76,i77,els74,k80,k81,k82,k83,k84,k85,k86⟩ oBf hp
       refine FW.seq (FW.seq (FW.region ?_))
       refine FL.v (E.move k86) ?_
       refine FL.v (E.fieldAddr zay k81) ?_
       refine FL.v (E.load rfl (zah Tryz.isAgg24 ((at28.mono (((i41.tr iCw).tr i56).tr i77)).now S76.sl) rfl)) ?_
       refine FL.v (E.move k84) ?_
       obtain ⟨x93,hx94,hp⟩:=bnd hp
       obtain ⟨p87,cs88,pt89,l90,at91,rel92⟩:=p0_1.at hx94
       obtain ⟨v95,rfl,h96⟩:=zav rel92
       refine FL.v (E.indexAddr te24 rfl rfl pt89) ?_
       refine FL.v (E.load rfl (zaf Tryz.isAgg34 ((at91.mono ((((i27.tr i41).tr iCw).tr i56).tr i77)).now S76.sl) rfl)) ?_
       refine FL.v (E.lenP te34 rfl h96) ?_
       refine FL.v (E.lss rfl rfl) ?_
       refine FL.nil ?_
       rcases ifB hp with ⟨c97,hp⟩|⟨c97,hp⟩
       ·
        refine FW.condT rfl c97 ?_
        refine FW.skip (FW.seq (FW.block (FW.seq (FW.region ?_))))
        refine FL.v (E.fieldAddr zay k81) ?_
        refine FL.v (E.load rfl (zah Tryz.isAgg24 ((at28.mono (((i41.tr iCw).tr i56).tr i77)).now S76.sl) rfl)) ?_
        refine FL.v (E.move k84) ?_
        obtain ⟨xA4,hxA5,hp⟩:=bnd hp
        obtain ⟨p98,cs99,ptA0,lA1,atA2,relA3⟩:=p0_1.at hxA5
        obtain ⟨vA6,rfl,hA7⟩:=zav relA3
        refine FL.v (E.indexAddr te24 rfl rfl ptA0) ?_
        refine FL.v (E.load rfl (zaf Tryz.isAgg34 ((atA2.mono ((((i27.tr i41).tr iCw).tr i56).tr i77)).now S76.sl) rfl)) ?_
        refine FL.v (E.move k86) ?_
        obtain ⟨xAe,hxAf,hp⟩:=bnd hp
        obtain ⟨pA8,csA9,ptAa,lAb,atAc,relAd⟩:=hA7.at hxAf
        obtain rfl:=zam relAd
        refine FL.v (E.indexAddr te34 rfl rfl ptAa) ?_
        refine FL.v (E.load rfl (zaf Tryz.isAgg3 ((atAc.mono ((((i27.tr i41).tr iCw).tr i56).tr i77)).now S76.sl) rfl)) ?_
        refine FL.v (E.assign (v:=Value.int .i64 xAe) rfl) ?_
        refine FL.nil (FW.seq (FW.region ?_))
        refine FL.v (E.move k80) ?_
        refine FL.v (E.move (v:=Value.int .i64 xAe) rfl) ?_
        refine FL.call rfl rfl rfl (E.call Tryz.call91 (A1 rfl)) (zcm S76.sl xAe) ?_
        rintro e wAg ⟨rfl,rAh⟩
        refine ⟨_,rfl,?_⟩
        have SAi:=S76.call rAh
        refine FL.v (E.sub rfl rfl) ?_
        obtain ⟨xAp,hxAq,hp⟩:=bnd hp
        obtain ⟨pAj,csAk,ptAl,lAm,atAn,relAo⟩:=p1.at hxAq
        obtain rfl:=zam relAo
        refine FL.v (E.indexAddr te34 rfl rfl ptAl) ?_
        refine FL.v (E.load rfl (zaf Tryz.isAgg3 ((atAn.mono ((((i27.tr i41).tr iCw).tr i56).tr i77)).now SAi.sl) rfl)) ?_
        refine FL.v (E.assign (v:=Value.int .i64 xAp) rfl) ?_
        refine FL.nil (FW.seq (FW.seq (FW.region ?_)))
        refine FL.v (E.move (v:=Value.int .i64 xAe) rfl) ?_
        refine FL.v (E.lss rfl rfl) ?_
        refine FL.nil ?_
        rcases ifB hp with ⟨cAr,hp⟩|⟨cAr,hp⟩
        ·
         refine FW.condT rfl cAr ?_
         refine FW.region ?_
         refine FL.v (E.move (v:=Value.int .i64 xAp) rfl) ?_
         refine FL.v (E.neg rfl) ?_
         refine FL.v (E.assign (v:=Value.int .i64 (wr (-xAp))) rfl) ?_
         refine FL.nil (FW.region ?_)
         refine FL.v (E.move k85) ?_
         refine FL.v (E.move (v:=Value.int .i64 (wr (-xAp))) rfl) ?_
         obtain ⟨HAs,SAt,iAu,hAv,nvAw⟩:=SAi.sealRowU (i:=3) (l':=[.box bCH 26 [Value.int .i64 a0.vars,vKU],.row 34 1 vKU nKV csKW,.box b29 26 [Value.int .i64 0,Value.slice none 0 0]]) rfl els74 (by decide) rfl
         obtain ⟨rAx,hrAy,hp⟩:=bnd hp
         refine FL.call rfl rfl rfl (E.call Tryz.call93 (A2 rfl rfl)) (zcZ SAt.sl v71 s70.1 (hAv.mono upI) (wr (-xAp)) hrAy) ?_
         rintro e wAA ⟨HAz,vAF,nAG,csAH,rfl,rAC,elsAI⟩
         refine ⟨_,rfl,?_⟩
         obtain ⟨HAD,rAC,hU140⟩:=St.lendX iAu SAi.sl rAC
         have elsAI:=elsAI.mono (hU140.tr (up_le SAi.size))
         have SAB:=SAi.join (l':=[.row 3 1 vAF nAG csAH,.box bCH 26 [Value.int .i64 a0.vars,vKU],.row 34 1 vKU nKV csKW,.box b29 26 [Value.int .i64 0,Value.slice none 0 0],.row 3 1 v71 n72 cs73]) rAC rfl
         refine FL.v (E.assign (v:=vAF) rfl) ?_
         refine FL.nil (FW.region ?_)
         refine FL.v (E.move k86) ?_
         refine FL.v (E.add rfl rfl) ?_
         refine FL.v (E.assign (v:=Value.int .i64 (wr (s70.2 + 1))) rfl) ?_
         refine FL.nil ?_
         obtain rfl:=Option.some.inj hp
         exact ⟨rfl,⟨_,_,_,_,(SAB.sel [1,2,3,0] (by decide) rfl),(i77.tr rAC.run.inc),elsAI,k80,k81,k82,k83,k84,rfl,rfl⟩⟩
        ·
         refine FW.condF rfl cAr ?_
         refine FW.skip (FW.region ?_)
         refine FL.v (E.move k85) ?_
         refine FL.v (E.move (v:=Value.int .i64 xAp) rfl) ?_
         obtain ⟨HAJ,SAK,iAL,hAM,nvAN⟩:=SAi.sealRowU (i:=3) (l':=[.box bCH 26 [Value.int .i64 a0.vars,vKU],.row 34 1 vKU nKV csKW,.box b29 26 [Value.int .i64 0,Value.slice none 0 0]]) rfl els74 (by decide) rfl
         obtain ⟨rAO,hrAP,hp⟩:=bnd hp
         refine FL.call rfl rfl rfl (E.call Tryz.call93 (A2 rfl rfl)) (zcZ SAK.sl v71 s70.1 (hAM.mono upI) xAp hrAP) ?_
         rintro e wAR ⟨HAQ,vBb,nBc,csBd,rfl,rB8,elsBe⟩
         refine ⟨_,rfl,?_⟩
         obtain ⟨HB9,rB8,hU172⟩:=St.lendX iAL SAi.sl rB8
         have elsBe:=elsBe.mono (hU172.tr (up_le SAi.size))
         have SB1:=SAi.join (l':=[.row 3 1 vBb nBc csBd,.box bCH 26 [Value.int .i64 a0.vars,vKU],.row 34 1 vKU nKV csKW,.box b29 26 [Value.int .i64 0,Value.slice none 0 0],.row 3 1 v71 n72 cs73]) rB8 rfl
         refine FL.v (E.assign (v:=vBb) rfl) ?_
         refine FL.nil (FW.region ?_)
         refine FL.v (E.move k86) ?_
         refine FL.v (E.add rfl rfl) ?_
         refine FL.v (E.assign (v:=Value.int .i64 (wr (s70.2 + 1))) rfl) ?_
         refine FL.nil ?_
         obtain rfl:=Option.some.inj hp
         exact ⟨rfl,⟨_,_,_,_,(SB1.sel [1,2,3,0] (by decide) rfl),(i77.tr rB8.run.inc),elsBe,k80,k81,k82,k83,k84,rfl,rfl⟩⟩
       ·
        refine FW.condF rfl c97 ?_
        refine FW.exit ?_
        obtain rfl:=Option.some.inj hp
        exact ⟨nofun,rfl,⟨_,_,_,_,S76,i77,els74,k80,k81,k82,k83,k84,k85⟩⟩
      ·
       clear hq
       intro e fBk wBj hD
       rcases q70 with s70|x70
       ·
        obtain ⟨rfl,hD⟩:=hD
        obtain ⟨HBg,v71,n72,cs73,SBh,iBi,els74,kBm,kBn,kBo,kBp,kBK,kBL⟩:=hD
        replace hp:=el_go hp
        refine FW.region ?_
        refine FL.v (E.fieldAddr zay kBp) ?_
        refine FL.v (E.load rfl (zah Tryz.isAgg24 (SBh.box_now (i:=0) rfl) rfl)) ?_
        refine FL.v (E.move kBL) ?_
        obtain ⟨HBM,SBN,iBO,hBP,nvBQ⟩:=SBh.sealRowU (i:=3) (l':=[.box bCH 26 [Value.int .i64 a0.vars,vKU],.row 34 1 vKU nKV csKW,.box b29 26 [Value.int .i64 0,Value.slice none 0 0]]) rfl els74 (by decide) rfl
        obtain ⟨vBR,wBS,runBT,SBU⟩:=SBN.buildSlice (P:=Tryz.prog) te24 [v71] (parts:=#[(0,v71)]) (cells:=[v71]) rfl (zat (zaH hBP.cells) zao) (zas hBP.cells zan) (zac hBP.one zad) (Nat.le_of_ble_eq_true rfl)
        have elsBV:Els (up wa.heap.size HBM) (eL eI 1) 1 [v71] [s70.1]:=(Els.snoc (H:=(up wa.heap.size HBM)) (E:=(eL eI 1)) (k:=1) (c:=[v71]) (x:=s70.1) Els.nil rfl ⟨_,rfl,hBP⟩)
        have ndBW:(bl [v71]).Nodup:=by exact za5 v71
        refine FL.v (E.buildSlice (B1 rfl) runBT) ?_
        obtain ⟨xsBY,hzBZ,hp⟩:=bnd hp
        obtain ⟨vC0,wCQ,nC1,csCP,runCR,SCS,elsCT,ceCU⟩:=SBU.appendO (P:=Tryz.prog) te24 (i:=2) (j:=0) rfl (elsKX.mono (zag (iBi.tr iBO))) rfl elsBV hzBZ
        have SCS:St Ha wa HBM wCQ [.row 34 1 vBR 1 [v71],.box bCH 26 [Value.int .i64 a0.vars,vKU],.row 34 1 vC0 nC1 csCP,.box b29 26 [Value.int .i64 0,Value.slice none 0 0]]:=SCS
        have ndCV:(bl csCP).Nodup:=by rw [ceCU];exact zba ndKY ndBW (Els.dom (elsKX.mono (upI.tr iBi))) (by exact nvBQ)
        have SCW:St Ha wa HBM wCQ [.box bCH 26 [Value.int .i64 a0.vars,vKU],.row 34 1 vC0 nC1 csCP,.box b29 26 [Value.int .i64 0,Value.slice none 0 0]]:=SCS.drop 0
        refine FL.v (E.append rfl rfl runCR) ?_
        refine FL.v (E.fieldAddr zay kBp) ?_
        obtain ⟨wCX,runCY,SCZ⟩:=SCW.store (P:=Tryz.prog) (t:=24) (i:=0) (j:=1) (cs':=[Value.int .i64 a0.vars,vC0]) (l':=[.box bCH 26 [Value.int .i64 a0.vars,vC0],.row 34 1 vC0 nC1 csCP,.box b29 26 [Value.int .i64 0,Value.slice none 0 0]]) (v:=vC0) (c:=[vC0]) rfl Tryz.sizeOf24 (Ln.cells (SCW.row_ln (i:=1) rfl)) rfl (zac (Ln.one (SCW.row_ln (i:=1) rfl)) zad) (Nat.le_of_ble_eq_true rfl) rfl rfl
        refine FL.act rfl rfl (E.store rfl rfl runCY) ?_
        refine FL.nil (FW.region ?_)
        refine FL.v (E.move kBK) ?_
        refine FL.v (E.add rfl rfl) ?_
        refine FL.v (E.assign (v:=Value.int .i64 (wr (sCO.2 + 1))) rfl) ?_
        refine FL.nil ?_
        obtain rfl:=Option.some.inj hp
        exact ⟨rfl,⟨_,_,_,_,SCZ,((i56.tr iBi).tr iBO),elsCT,ndCV,kBm,kBn,kBo,kBp,rfl⟩⟩
       ·
        exact x70.elim
     ·
      refine FW.condF rfl c64 ?_
      refine FW.exit ?_
      obtain rfl:=Option.some.inj hp
      exact ⟨nofun,rfl,⟨_,_,_,_,S55,i56,elsKX,ndKY,k61,k62⟩⟩
    ·
     clear hq
     intro e fD5 wD4 hD
     rcases qCO with sCO|xCO
     ·
      obtain ⟨rfl,hD⟩:=hD
      obtain ⟨HD1,vKU,nKV,csKW,SD2,iD3,elsKX,ndKY,kD6,kD7⟩:=hD
      replace hp:=el_go hp
      refine FW.seq (FW.region ?_)
      refine FL.v (E.load kD7 (zai Tryz.isAgg26 Tryz.sizeOf26 (SD2.box_now (i:=0) rfl) rfl)) ?_
      obtain ⟨wD8,runD9,SDa⟩:=SD2.store0 (P:=Tryz.prog) (t:=26) (i:=2) (cs':=[Value.int .i64 a0.vars,vKU]) (l':=[.box bCH 26 [Value.int .i64 a0.vars,vKU],.row 34 1 vKU nKV csKW,.box b29 26 [Value.int .i64 a0.vars,vKU]]) (v:=Value.agg #[Value.int .i64 a0.vars,vKU]) (c:=[Value.int .i64 a0.vars,vKU]) rfl Tryz.sizeOf26 rfl rfl (zac rfl (zac (Ln.one (SD2.row_ln (i:=1) rfl)) zad)) (Nat.le_of_ble_eq_true rfl) rfl rfl
      refine FL.act rfl rfl (E.store kD6 rfl runD9) ?_
      refine FL.v (E.assign (v:=Value.bool true) rfl) ?_
      refine FL.nil ?_
      refine FW.ret ?_
      obtain rfl:=Option.some.inj hp
      exact ⟨.inr rfl,resC2 rfl kD6 (zaB Tryz.isAgg26 Tryz.sizeOf26 (SDa.box_now (i:=2) rfl) rfl) rfl ⟨_,_,_,_,rfl,(SDa.sel [1] (by decide) rfl),elsKX,ndKY⟩⟩
     ·
      exact xCO.elim
   ·
    obtain ⟨he,hL⟩:=hD
    replace hp:=el_rt hp
    obtain rfl:=Option.some.inj hp
    subst he
    exact hL

@[reducible] def p_spec_l1Cur_among (H0:GH) (w0:World) (Ha:GH) (L:List MO) (b0:Nat) (r:(Int×l1Cur)):Ending→World→Prop :=
 fun e w'=>∃ H':GH,∃ v0_0r:Value,e=.returned (Value.int .i64 r.1)∧(St H0 w0 H' w' (.box b0 63 [v0_0r,Value.int .i64 r.2.at_,Value.int .u64 r.2.seed]::L)∧Inc Ha H')∧RSl H' (eN .u8) 1 v0_0r r.2.code
theorem zby {H0 Ha:GH} {w0 wa:World} {L:List MO} {a0:l1Cur} {b0:Nat} {v0_0:Value} (S0:St H0 w0 Ha wa (.box b0 63 [v0_0,Value.int .i64 a0.at_,Value.int .u64 a0.seed]::L)) (p0_0:RSl Ha (eN .u8) 1 v0_0 a0.code) (v1:Value) (a1:List Int) (p1:RSl Ha eI 1 v1 a1) {r:(Int×l1Cur)} (hp:(PF.zaN a0 a1)=some r) :
  Calls Tryz.prog 82 #[Value.pointer (some (⟨b0,0,none⟩:Addr)),v1] wa (p_spec_l1Cur_among H0 w0 Ha L b0 r):=by
 unfold PF.zaN at hp
 refine zae (N:=12) (args:=[Value.pointer (some (⟨b0,0,none⟩:Addr)),v1]) Tryz.func82 rfl rfl rfl ?_
 refine FW.seq (FW.region ?_)
 refine FL.v (E.assign (v:=Value.int .i64 0) rfl) ?_
 refine FL.nil (FW.seq (FW.region ?_))
 refine FL.v (E.move (v:=v1) rfl) ?_
 refine FL.v (E.move (v:=Value.pointer (some (⟨b0,0,none⟩:Addr))) rfl) ?_
 refine FL.v (E.move (v:=v1) rfl) ?_
 refine FL.v (E.lenP te34 rfl p1) ?_
 obtain ⟨r21,hr22,hp⟩:=bnd hp
 refine FL.call rfl rfl rfl (E.call Tryz.call74 (A2 rfl rfl)) (zaR (L:=(L)) S0 (a0:=a0) p0_0 (len a1) hr22) ?_
 rintro e w24 ⟨H23,v27,rfl,⟨S25,i26⟩,h28⟩
 refine ⟨_,rfl,?_⟩
 have S25:St H0 w0 H23 w24 (.box b0 63 [v27,Value.int .i64 r21.2.at_,Value.int .u64 r21.2.seed]::L):=S25
 obtain ⟨x35,hx36,hp⟩:=bnd hp
 obtain ⟨p29,cs30,pt31,l32,at33,rel34⟩:=p1.at hx36
 obtain rfl:=zam rel34
 refine FL.v (E.indexAddr te34 rfl rfl pt31) ?_
 refine FL.v (E.load rfl (zaf Tryz.isAgg3 ((at33.mono i26).now S25.sl) rfl)) ?_
 refine FL.v (E.assign (v:=Value.int .i64 x35) rfl) ?_
 refine FL.nil ?_
 refine FW.ret ?_
 obtain rfl:=Option.some.inj hp
 exact ⟨.inr rfl,res1 rfl rfl ⟨_,_,rfl,⟨S25,i26⟩,h28⟩⟩

@[reducible] def p_spec_l2Without (Ha:GH) (wa:World) (r:(List Int)):Ending→World→Prop :=
 fun e w'=>∃ H':GH,∃ v0:Value,∃ n0:Nat,∃ c0:List Value,e=.returned (v0)∧St Ha wa H' w' [.row 3 1 v0 n0 c0]∧Els (up wa.heap.size H') eI 1 c0 r
set_option maxHeartbeats 4000000 in
theorem zeO {Ha:GH} {wa:World} (hs:Sl Ha wa) (v0:Value) (a0:List Int) (p0:RSl Ha eI 1 v0 a0) (a1:Int) {r:(List Int)} (hp:(PF.zcy a0 a1)=some r) :
  Calls Tryz.prog 90 #[v0,Value.int .i64 a1] wa (p_spec_l2Without Ha wa r):=by
 unfold PF.zcy at hp
 have S0:=St.init hs
 refine zae (N:=29) (args:=[v0,Value.int .i64 a1]) Tryz.func90 rfl rfl rfl ?_
 refine FW.seq (FW.region ?_)
 refine FL.v (E.assign (v:=Value.slice none 0 0) rfl) ?_
 refine FL.nil (FW.seq (FW.region ?_))
 obtain ⟨v21,w22,run23,S24⟩:=S0.buildSlice (P:=Tryz.prog) te34 [] (parts:=#[]) (cells:=[]) rfl zao zan zad (Nat.le_of_ble_eq_true rfl)
 have els25:Els (up wa.heap.size Ha) eI 1 [] []:=Els.nil
 refine FL.v (E.buildSlice (B0) run23) ?_
 refine FL.v (E.assign (v:=v21) rfl) ?_
 refine FL.nil (FW.seq (FW.seq (FW.region ?_)))
 refine FL.v (E.assign (v:=Value.int .i64 0) rfl) ?_
 refine FL.nil ?_
 obtain ⟨q27,hq,hp⟩:=bndR hp
 refine FW.block ?_
 refine FW.mono (FW.forL (S:=(List Int)) (X:=Empty) (fun (i27:Nat) (s27:(List Int)) f w=>∃ H:GH,∃ v28:Value,∃ n29:Nat,∃ cs30:List Value,St Ha wa H w [.row 3 1 v28 n29 cs30]∧Inc Ha H∧Els (up wa.heap.size H) eI 1 cs30 s27∧f 6=Value.int .i64 ((i27:Nat):Int)∧f 0=v0∧f 1=Value.int .i64 a1∧f 5=v28) (fun (q:Rs (List Int) Empty) e f w=>match q with|.go s27=>e=Exit.exit 0∧(∃ H:GH,∃ v28:Value,∃ n29:Nat,∃ cs30:List Value,St Ha wa H w [.row 3 1 v28 n29 cs30]∧Inc Ha H∧Els (up wa.heap.size H) eI 1 cs30 s27∧f 5=v28)|.rt x=>x.elim) hq ⟨_,_,_,_,S24,(Inc.rfl _),els25,rfl,rfl,rfl,rfl⟩ ?_ ?_) ?_
 ·
  clear hp hq
  rintro i27 y26 s27 f77 w76 ⟨H73,v28,n29,cs30,S74,i75,els31,k78,k79,k80,k81⟩ hx27 oAe hp
  refine FW.seq (FW.seq (FW.region ?_))
  refine FL.v (E.move k78) ?_
  refine FL.v (E.move k79) ?_
  refine FL.v (E.lenP te34 rfl p0) ?_
  refine FL.v (E.lssT rfl rfl (zaw hx27)) ?_
  refine FL.nil ?_
  refine FW.condT rfl rfl ?_
  refine FW.skip (FW.seq (FW.block (FW.seq (FW.region ?_))))
  refine FL.v (E.move k79) ?_
  refine FL.v (E.move k78) ?_
  obtain ⟨p82,cs83,pt84,l85,at86,rel87⟩:=p0.at (zal hx27)
  obtain rfl:=zam rel87
  refine FL.v (E.indexAddr te34 rfl rfl pt84) ?_
  refine FL.v (E.load rfl (zaf Tryz.isAgg3 ((at86.mono i75).now S74.sl) rfl)) ?_
  refine FL.call rfl rfl rfl (E.call Tryz.call91 (A1 rfl)) (zcm S74.sl y26) ?_
  rintro e w88 ⟨rfl,r89⟩
  refine ⟨_,rfl,?_⟩
  have S90:=S74.call r89
  refine FL.v (E.move k80) ?_
  refine FL.v (E.neq rfl rfl) ?_
  refine FL.nil ?_
  rcases ifB hp with ⟨c91,hp⟩|⟨c91,hp⟩
  ·
   refine FW.condT rfl c91 ?_
   refine FW.region ?_
   refine FL.v (E.move k81) ?_
   refine FL.v (E.move k79) ?_
   refine FL.v (E.move k78) ?_
   obtain ⟨p92,cs93,pt94,l95,at96,rel97⟩:=p0.at (zal hx27)
   obtain rfl:=zam rel97
   refine FL.v (E.indexAddr te34 rfl rfl pt94) ?_
   refine FL.v (E.load rfl (zaf Tryz.isAgg3 ((at96.mono i75).now S90.sl) rfl)) ?_
   obtain ⟨v98,w99,runA0,SA1,elsA2⟩:=S90.ints (P:=Tryz.prog) te34 (up wa.heap.size H73) 1 [y26]
   refine FL.v (E.buildSlice (B1 rfl) runA0) ?_
   obtain ⟨xsA3,hzA4,hp⟩:=bnd hp
   obtain ⟨vA5,wA8,nA6,csA7,runA9,SAa,elsAb,ceAc⟩:=SA1.appendO (P:=Tryz.prog) te34 (i:=1) (j:=0) rfl els31 rfl elsA2 hzA4
   have SAa:St Ha wa H73 wA8 [.row 3 1 v98 1 (iC [y26]),.row 3 1 vA5 nA6 csA7]:=SAa
   have SAd:St Ha wa H73 wA8 [.row 3 1 vA5 nA6 csA7]:=SAa.drop 0
   refine FL.v (E.append rfl rfl runA9) ?_
   refine FL.v (E.assign (v:=vA5) rfl) ?_
   refine FL.nil (FW.region ?_)
   refine FL.v (E.move k78) ?_
   refine FL.v (E.add rfl rfl) ?_
   refine FL.v (E.assign (v:=Value.int .i64 (wr (((i27:Nat):Int) + 1))) rfl) ?_
   refine FL.nil ?_
   obtain rfl:=Option.some.inj hp
   exact ⟨rfl,⟨_,_,_,_,SAd,i75,elsAb,(zap rfl (zaq hx27) (p0.mono i75).le),k79,k80,rfl⟩⟩
  ·
   refine FW.condF rfl c91 ?_
   refine FW.skip (FW.region ?_)
   refine FL.v (E.move k78) ?_
   refine FL.v (E.add rfl rfl) ?_
   refine FL.v (E.assign (v:=Value.int .i64 (wr (((i27:Nat):Int) + 1))) rfl) ?_
   refine FL.nil ?_
   obtain rfl:=Option.some.inj hp
   exact ⟨rfl,⟨_,_,_,_,S90,i75,els31,(zap rfl (zaq hx27) (p0.mono i75).le),k79,k80,k81⟩⟩
 ·
  clear hp hq
  rintro s27 fAp wAo ⟨HAl,v28,n29,cs30,SAm,iAn,els31,kAq,kAr,kAs,kAt⟩
  refine FW.seq (FW.seq (FW.region ?_))
  refine FL.v (E.move kAq) ?_
  refine FL.v (E.move kAr) ?_
  refine FL.v (E.lenP te34 rfl p0) ?_
  refine FL.v (E.lss rfl rfl) ?_
  refine FL.nil ?_
  refine FW.condF rfl zax ?_
  refine FW.exit ?_
  exact ⟨nofun,rfl,⟨_,_,_,_,SAm,iAn,els31,kAt⟩⟩
 ·
  clear hq
  intro e fAj wAi hD
  rcases q27 with s27|x27
  ·
   obtain ⟨rfl,hD⟩:=hD
   obtain ⟨HAf,v28,n29,cs30,SAg,iAh,els31,kAk⟩:=hD
   replace hp:=el_go hp
   refine FW.seq (FW.region ?_)
   refine FL.v (E.move kAk) ?_
   refine FL.v (E.assign (v:=v28) rfl) ?_
   refine FL.nil ?_
   refine FW.ret ?_
   obtain rfl:=Option.some.inj hp
   exact ⟨.inr rfl,res1 rfl rfl ⟨_,_,_,_,rfl,SAg,els31⟩⟩
  ·
   exact x27.elim

@[reducible] def zfj (H0:GH) (w0:World) (Ha:GH) (L:List MO) (b0:Nat) (r:((List Int)×l1Cur)):Ending→World→Prop :=
 fun e w'=>∃ H':GH,∃ v0:Value,∃ n0:Nat,∃ c0:List Value,∃ v0_0r:Value,e=.returned (v0)∧(St H0 w0 H' w' (.row 3 1 v0 n0 c0::.box b0 63 [v0_0r,Value.int .i64 r.2.at_,Value.int .u64 r.2.seed]::L)∧Inc Ha H')∧Els (up w0.heap.size H') eI 1 c0 r.1∧RSl H' (eN .u8) 1 v0_0r r.2.code
set_option maxHeartbeats 4000000 in
theorem zdC {H0 Ha:GH} {w0 wa:World} {L:List MO} {a0:l1Cur} {b0:Nat} {v0_0:Value} (S0:St H0 w0 Ha wa (.box b0 63 [v0_0,Value.int .i64 a0.at_,Value.int .u64 a0.seed]::L)) (p0_0:RSl Ha (eN .u8) 1 v0_0 a0.code) (a1:Int) {r:((List Int)×l1Cur)} (hp:(PF.zbH a0 a1)=some r) :
  Calls Tryz.prog 111 #[Value.pointer (some (⟨b0,0,none⟩:Addr)),Value.int .i64 a1] wa (zfj H0 w0 Ha L b0 r):=by
 unfold PF.zbH at hp
 refine zae (N:=35) (args:=[Value.pointer (some (⟨b0,0,none⟩:Addr)),Value.int .i64 a1]) Tryz.func111 rfl rfl rfl ?_
 refine FW.seq (FW.region ?_)
 refine FL.v (E.assign (v:=Value.slice none 0 0) rfl) ?_
 refine FL.nil (FW.seq (FW.region ?_))
 obtain ⟨v21,w22,run23,S24⟩:=S0.buildSlice (P:=Tryz.prog) te34 [] (parts:=#[]) (cells:=[]) rfl zao zan zad (Nat.le_of_ble_eq_true rfl)
 have els25:Els (up w0.heap.size Ha) eI 1 [] []:=Els.nil
 refine FL.v (E.buildSlice (B0) run23) ?_
 refine FL.v (E.assign (v:=v21) rfl) ?_
 refine FL.nil (FW.seq (FW.seq (FW.region ?_)))
 refine FL.v (E.move (v:=Value.pointer (some (⟨b0,0,none⟩:Addr))) rfl) ?_
 obtain ⟨v26,w27,run28,S29,els30⟩:=S24.ints (P:=Tryz.prog) te34 (up w0.heap.size Ha) 8 [1,2,2,3,3,4,0,2]
 refine FL.v (E.buildSlice (B8 rfl rfl rfl rfl rfl rfl rfl rfl) run28) ?_
 obtain ⟨H31,S32,i33,h34,nv35⟩:=S29.sealRowU (i:=0) (l':=(.row 3 1 v21 0 []::.box b0 63 [v0_0,Value.int .i64 a0.at_,Value.int .u64 a0.seed]::L)) rfl els30 (by decide) rfl
 obtain ⟨r36,hr37,hp⟩:=bnd hp
 have S38:St H0 w0 H31 w27 (.box b0 63 [v0_0,Value.int .i64 a0.at_,Value.int .u64 a0.seed]::.row 3 1 v21 0 []::L):=S32.front 1 rfl rfl
 refine FL.call rfl rfl rfl (E.call Tryz.call82 (A2 rfl rfl)) (zby (L:=(.row 3 1 v21 0 []::L)) S38 (a0:=a0) (p0_0.mono i33) v26 [1,2,2,3,3,4,0,2] (h34.mono upI) hr37) ?_
 rintro e w40 ⟨H39,v43,rfl,⟨S41,i42⟩,h44⟩
 refine ⟨_,rfl,?_⟩
 have S41:St H0 w0 H39 w40 (.box b0 63 [v43,Value.int .i64 r36.2.at_,Value.int .u64 r36.2.seed]::.row 3 1 v21 0 []::L):=S41
 refine FL.v (E.assign (v:=Value.int .i64 r36.1) rfl) ?_
 refine FL.nil ?_
 obtain ⟨q45,hq,hp⟩:=bndR hp
 refine FW.block ?_
 refine FW.mono (FW.iter (S:=((List Int)×Int×Int×(List Int)×Int)) (X:=Empty) (fun (s45:((List Int)×Int×Int×(List Int)×Int)) f w=>∃ H:GH,∃ vAF:Value,∃ vAH:Value,∃ nAI:Nat,∃ csAJ:List Value,St H0 w0 H w (.box b0 63 [vAF,Value.int .i64 s45.2.1,Value.int .u64 s45.2.2.1]::.row 3 1 vAH nAI csAJ::L)∧Inc H39 H∧RSl H (eN .u8) 1 vAF s45.1∧Els (up w0.heap.size H) eI 1 csAJ s45.2.2.2.1∧f 0=Value.pointer (some (⟨b0,0,none⟩:Addr))∧f 1=Value.int .i64 a1∧f 5=vAH∧f 6=Value.int .i64 s45.2.2.2.2) (fun (q:Rs ((List Int)×Int×Int×(List Int)×Int) Empty) e f w=>match q with|.go s45=>e=Exit.exit 0∧(∃ H:GH,∃ vAF:Value,∃ vAH:Value,∃ nAI:Nat,∃ csAJ:List Value,St H0 w0 H w (.box b0 63 [vAF,Value.int .i64 s45.2.1,Value.int .u64 s45.2.2.1]::.row 3 1 vAH nAI csAJ::L)∧Inc H39 H∧RSl H (eN .u8) 1 vAF s45.1∧Els (up w0.heap.size H) eI 1 csAJ s45.2.2.2.1∧f 5=vAH)|.rt x=>x.elim) hq ⟨_,_,_,_,_,S41,(Inc.rfl _),h44,(els25.mono (zag (i33.tr i42))),rfl,rfl,rfl,rfl⟩ ?_) ?_
 ·
  clear hp hq
  rintro s45 fCi wCh ⟨HCe,vAF,vAH,nAI,csAJ,SCf,iCg,hAG,elsAK,kCj,kCk,kCl,kCm⟩ oDH hp
  refine FW.seq (FW.seq (FW.region ?_))
  refine FL.v (E.move kCm) ?_
  refine FL.v (E.gtr rfl rfl) ?_
  refine FL.v (E.move (v:=Value.bool (decide (0 < s45.2.2.2.2))) rfl) ?_
  refine FL.cut 3 (fun f w=>∃ H:GH,St H0 w0 H w (.box b0 63 [vAF,Value.int .i64 s45.2.1,Value.int .u64 s45.2.2.1]::.row 3 1 vAH nAI csAJ::L)∧Inc HCe H∧f 0=Value.pointer (some (⟨b0,0,none⟩:Addr))∧f 1=Value.int .i64 a1∧f 5=vAH∧f 6=Value.int .i64 s45.2.2.2.2∧f 17=Value.bool (bif (decide (0 < s45.2.2.2.2)) then (decide (0 < a1)) else false)) ?_ ?_
  ·
   rcases bcase (decide (0 < s45.2.2.2.2)) with cCt|cCt
   ·
    refine FL.val (zab rfl rfl rfl cCt) rfl rfl (E.move kCk) ?_
    refine FL.val (zab rfl rfl rfl cCt) rfl rfl (E.gtr rfl rfl) ?_
    refine FL.v (E.pickT rfl cCt rfl) ?_
    exact FL.nil ⟨rfl,_,SCf,(Inc.rfl _),kCj,kCk,kCl,kCm,(congrArg Value.bool (bifT cCt).symm)⟩
   ·
    refine FL.skip (wF_no rfl rfl rfl cCt) rfl ?_
    refine FL.skip (wF_no rfl rfl rfl cCt) rfl ?_
    refine FL.v (E.pickF rfl cCt rfl) ?_
    exact FL.nil ⟨rfl,_,SCf,(Inc.rfl _),kCj,kCk,kCl,kCm,(congrArg Value.bool (bifF cCt).symm)⟩
  rintro fCs wCr ⟨HCo,SCp,iCq,kCu,kCv,kCw,kCx,kCy⟩
  refine FL.nil ?_
  rcases ifB hp with ⟨cCz,hp⟩|⟨cCz,hp⟩
  ·
   refine FW.condT kCy cCz ?_
   refine FW.skip (FW.seq (FW.block (FW.seq (FW.region ?_))))
   refine FL.v (E.move kCu) ?_
   refine FL.v (E.move kCv) ?_
   obtain ⟨rCA,hrCB,hp⟩:=bnd hp
   refine FL.call rfl rfl rfl (E.call Tryz.call74 (A2 rfl rfl)) (zaR (L:=(.row 3 1 vAH nAI csAJ::L)) SCp (a0:=(l1Cur.mk s45.1 s45.2.1 s45.2.2.1)) (hAG.mono iCq) a1 hrCB) ?_
   rintro e wCD ⟨HCC,vCG,rfl,⟨SCE,iCF⟩,hCH⟩
   refine ⟨_,rfl,?_⟩
   have SCE:St H0 w0 HCC wCD (.box b0 63 [vCG,Value.int .i64 rCA.2.at_,Value.int .u64 rCA.2.seed]::.row 3 1 vAH nAI csAJ::L):=SCE
   refine FL.v (E.add rfl rfl) ?_
   refine FL.v (E.assign (v:=Value.int .i64 (wr (1 + rCA.1))) rfl) ?_
   refine FL.nil (FW.seq (FW.region ?_))
   refine FL.v (E.move kCw) ?_
   refine FL.v (E.move (v:=Value.int .i64 (wr (1 + rCA.1))) rfl) ?_
   obtain ⟨HCI,SCJ,iCK,hCL,nvCM⟩:=SCE.sealRowU (i:=1) (l':=(.box b0 63 [vCG,Value.int .i64 rCA.2.at_,Value.int .u64 rCA.2.seed]::L)) rfl (elsAK.mono (zag (iCq.tr iCF))) (by decide) rfl
   obtain ⟨rCN,hrCO,hp⟩:=bnd hp
   refine FL.call rfl rfl rfl (E.call Tryz.call90 (A2 rfl rfl)) (zeO SCJ.sl vAH s45.2.2.2.1 (hCL.mono upI) (wr (1 + rCA.1)) hrCO) ?_
   rintro e wCQ ⟨HCP,vCV,nCW,csCX,rfl,rCS,elsCY⟩
   refine ⟨_,rfl,?_⟩
   obtain ⟨HCT,rCS,hU280⟩:=St.lendX iCK SCE.sl rCS
   have elsCY:=elsCY.mono (hU280.tr (up_le SCE.size))
   have SCR:=SCE.join (l':=(.row 3 1 vCV nCW csCX::.box b0 63 [vCG,Value.int .i64 rCA.2.at_,Value.int .u64 rCA.2.seed]::.row 3 1 vAH nAI csAJ::L)) rCS rfl
   refine FL.v (E.assign (v:=vCV) rfl) ?_
   refine FL.nil (FW.seq (FW.seq (FW.region ?_)))
   refine FL.v (E.move kCu) ?_
   obtain ⟨rCZ,hrD0,hp⟩:=bnd hp
   have SD1:St H0 w0 HCT wCQ (.box b0 63 [vCG,Value.int .i64 rCA.2.at_,Value.int .u64 rCA.2.seed]::.row 3 1 vCV nCW csCX::.row 3 1 vAH nAI csAJ::L):=SCR.front 1 rfl rfl
   refine FL.call rfl rfl rfl (E.call Tryz.call80 (A2 rfl rfl)) (zcl (L:=(.row 3 1 vCV nCW csCX::.row 3 1 vAH nAI csAJ::L)) SD1 (a0:=rCA.2) (hCH.mono rCS.run.inc) 2 hrD0) ?_
   rintro e wD3 ⟨HD2,vD6,rfl,⟨SD4,iD5⟩,hD7⟩
   refine ⟨_,rfl,?_⟩
   have SD4:St H0 w0 HD2 wD3 (.box b0 63 [vD6,Value.int .i64 rCZ.2.at_,Value.int .u64 rCZ.2.seed]::.row 3 1 vCV nCW csCX::.row 3 1 vAH nAI csAJ::L):=SD4
   refine FL.nil ?_
   rcases ifB hp with ⟨cD8,hp⟩|⟨cD8,hp⟩
   ·
    refine FW.condT rfl cD8 ?_
    refine FW.region ?_
    refine FL.v (E.move (v:=Value.int .i64 (wr (1 + rCA.1))) rfl) ?_
    refine FL.v (E.neg rfl) ?_
    refine FL.v (E.assign (v:=Value.int .i64 (wr (-(wr (1 + rCA.1))))) rfl) ?_
    refine FL.nil (FW.region ?_)
    refine FL.v (E.move (v:=vCV) rfl) ?_
    refine FL.v (E.move (v:=Value.int .i64 (wr (-(wr (1 + rCA.1))))) rfl) ?_
    obtain ⟨HD9,SDa,iDb,hDc,nvDd⟩:=SD4.sealRowU (i:=1) (l':=(.box b0 63 [vD6,Value.int .i64 rCZ.2.at_,Value.int .u64 rCZ.2.seed]::.row 3 1 vAH nAI csAJ::L)) rfl (elsCY.mono (zag iD5)) (by decide) rfl
    obtain ⟨rDe,hrDf,hp⟩:=bnd hp
    refine FL.call rfl rfl rfl (E.call Tryz.call93 (A2 rfl rfl)) (zcZ SDa.sl vCV rCN (hDc.mono upI) (wr (-(wr (1 + rCA.1)))) hrDf) ?_
    rintro e wDh ⟨HDg,vDm,nDn,csDo,rfl,rDj,elsDp⟩
    refine ⟨_,rfl,?_⟩
    obtain ⟨HDk,rDj,hU307⟩:=St.lendX iDb SD4.sl rDj
    have elsDp:=elsDp.mono (hU307.tr (up_le SD4.size))
    have SDi:=SD4.join (l':=(.row 3 1 vDm nDn csDo::.box b0 63 [vD6,Value.int .i64 rCZ.2.at_,Value.int .u64 rCZ.2.seed]::.row 3 1 vCV nCW csCX::.row 3 1 vAH nAI csAJ::L)) rDj rfl
    refine FL.v (E.assign (v:=vDm) rfl) ?_
    refine FL.nil (FW.region ?_)
    refine FL.v (E.move kCx) ?_
    refine FL.v (E.sub rfl rfl) ?_
    refine FL.v (E.assign (v:=Value.int .i64 (wr (s45.2.2.2.2 - 1))) rfl) ?_
    refine FL.nil ?_
    obtain rfl:=Option.some.inj hp
    exact ⟨rfl,⟨_,_,_,_,_,(SDi.selT (a:=[.row 3 1 vDm nDn csDo,.box b0 63 [vD6,Value.int .i64 rCZ.2.at_,Value.int .u64 rCZ.2.seed],.row 3 1 vCV nCW csCX,.row 3 1 vAH nAI csAJ]) (l':=[.box b0 63 [vD6,Value.int .i64 rCZ.2.at_,Value.int .u64 rCZ.2.seed],.row 3 1 vDm nDn csDo]) [1,0] (by decide) rfl),(((((iCg.tr iCq).tr iCF).tr rCS.run.inc).tr iD5).tr rDj.run.inc),(hD7.mono rDj.run.inc),elsDp,kCu,kCv,rfl,rfl⟩⟩
   ·
    refine FW.condF rfl cD8 ?_
    refine FW.skip (FW.region ?_)
    refine FL.v (E.move (v:=vCV) rfl) ?_
    refine FL.v (E.move (v:=Value.int .i64 (wr (1 + rCA.1))) rfl) ?_
    obtain ⟨HDq,SDr,iDs,hDt,nvDu⟩:=SD4.sealRowU (i:=1) (l':=(.box b0 63 [vD6,Value.int .i64 rCZ.2.at_,Value.int .u64 rCZ.2.seed]::.row 3 1 vAH nAI csAJ::L)) rfl (elsCY.mono (zag iD5)) (by decide) rfl
    obtain ⟨rDv,hrDw,hp⟩:=bnd hp
    refine FL.call rfl rfl rfl (E.call Tryz.call93 (A2 rfl rfl)) (zcZ SDr.sl vCV rCN (hDt.mono upI) (wr (1 + rCA.1)) hrDw) ?_
    rintro e wDy ⟨HDx,vDD,nDE,csDF,rfl,rDA,elsDG⟩
    refine ⟨_,rfl,?_⟩
    obtain ⟨HDB,rDA,hU324⟩:=St.lendX iDs SD4.sl rDA
    have elsDG:=elsDG.mono (hU324.tr (up_le SD4.size))
    have SDz:=SD4.join (l':=(.row 3 1 vDD nDE csDF::.box b0 63 [vD6,Value.int .i64 rCZ.2.at_,Value.int .u64 rCZ.2.seed]::.row 3 1 vCV nCW csCX::.row 3 1 vAH nAI csAJ::L)) rDA rfl
    refine FL.v (E.assign (v:=vDD) rfl) ?_
    refine FL.nil (FW.region ?_)
    refine FL.v (E.move kCx) ?_
    refine FL.v (E.sub rfl rfl) ?_
    refine FL.v (E.assign (v:=Value.int .i64 (wr (s45.2.2.2.2 - 1))) rfl) ?_
    refine FL.nil ?_
    obtain rfl:=Option.some.inj hp
    exact ⟨rfl,⟨_,_,_,_,_,(SDz.selT (a:=[.row 3 1 vDD nDE csDF,.box b0 63 [vD6,Value.int .i64 rCZ.2.at_,Value.int .u64 rCZ.2.seed],.row 3 1 vCV nCW csCX,.row 3 1 vAH nAI csAJ]) (l':=[.box b0 63 [vD6,Value.int .i64 rCZ.2.at_,Value.int .u64 rCZ.2.seed],.row 3 1 vDD nDE csDF]) [1,0] (by decide) rfl),(((((iCg.tr iCq).tr iCF).tr rCS.run.inc).tr iD5).tr rDA.run.inc),(hD7.mono rDA.run.inc),elsDG,kCu,kCv,rfl,rfl⟩⟩
  ·
   refine FW.condF kCy cCz ?_
   refine FW.exit ?_
   obtain rfl:=Option.some.inj hp
   exact ⟨nofun,rfl,⟨_,_,_,_,_,SCp,(iCg.tr iCq),(hAG.mono iCq),(elsAK.mono (zag iCq)),kCw⟩⟩
 ·
  clear hq
  intro e fDM wDL hD
  rcases q45 with s45|x45
  ·
   obtain ⟨rfl,hD⟩:=hD
   obtain ⟨HDI,vAF,vAH,nAI,csAJ,SDJ,iDK,hAG,elsAK,kDN⟩:=hD
   replace hp:=el_go hp
   refine FW.seq (FW.region ?_)
   refine FL.v (E.move kDN) ?_
   refine FL.v (E.assign (v:=vAH) rfl) ?_
   refine FL.nil ?_
   refine FW.ret ?_
   obtain rfl:=Option.some.inj hp
   exact ⟨.inr rfl,res1 rfl rfl ⟨_,_,_,_,_,rfl,⟨(SDJ.selT (a:=[.box b0 63 [vAF,Value.int .i64 s45.2.1,Value.int .u64 s45.2.2.1],.row 3 1 vAH nAI csAJ]) (l':=[.row 3 1 vAH nAI csAJ,.box b0 63 [vAF,Value.int .i64 s45.2.1,Value.int .u64 s45.2.2.1]]) [1,0] (by decide) rfl),((i33.tr i42).tr iDK)⟩,elsAK,hAG⟩⟩
  ·
   exact x45.elim

@[reducible] def p_spec_l1Cur_hard (H0:GH) (w0:World) (Ha:GH) (L:List MO) (b0:Nat) (r:(Cnf×l1Cur)):Ending→World→Prop :=
 fun e w'=>∃ H':GH,∃ v0_1:Value,∃ v0_0r:Value,e=.returned (Value.agg #[Value.int .i64 r.1.vars,v0_1])∧(St H0 w0 H' w' (.box b0 63 [v0_0r,Value.int .i64 r.2.at_,Value.int .u64 r.2.seed]::L)∧Inc Ha H')∧(∃ c,Nest (up w0.heap.size H') (eL eI 1) 1 v0_1 r.1.clauses c)∧RSl H' (eN .u8) 1 v0_0r r.2.code
set_option maxHeartbeats 4000000 in
theorem zeP {H0 Ha:GH} {w0 wa:World} {L:List MO} {a0:l1Cur} {b0:Nat} {v0_0:Value} (S0:St H0 w0 Ha wa (.box b0 63 [v0_0,Value.int .i64 a0.at_,Value.int .u64 a0.seed]::L)) (p0_0:RSl Ha (eN .u8) 1 v0_0 a0.code) {r:(Cnf×l1Cur)} (hp:(PF.zcz a0)=some r) :
  Calls Tryz.prog 81 #[Value.pointer (some (⟨b0,0,none⟩:Addr))] wa (p_spec_l1Cur_hard H0 w0 Ha L b0 r):=by
 unfold PF.zcz at hp
 refine zae (N:=56) (args:=[Value.pointer (some (⟨b0,0,none⟩:Addr))]) Tryz.func81 rfl rfl rfl ?_
 refine FW.seq (FW.region ?_)
 obtain ⟨b21,w22,run23,S24⟩:=S0.alloc (P:=Tryz.prog) 26 [Value.int .i64 0,Value.slice none 0 0] Tryz.zeroValue26 rfl (zac rfl (zac rfl zad))
 refine FL.v (E.alloc run23) ?_
 refine FL.nil (FW.seq (FW.region ?_))
 refine FL.v (E.move (v:=Value.pointer (some (⟨b0,0,none⟩:Addr))) rfl) ?_
 refine FL.call rfl rfl rfl (E.call Tryz.call115 A0) (w_spec_l2Hard S24.sl ) ?_
 rintro e w26 ⟨H25,v29,n30,cs31,rfl,r28,els32⟩
 refine ⟨_,rfl,?_⟩
 have els32:=els32.mono (up_le S24.size)
 have S27:=S24.join (l':=(.row 9 1 v29 n30 cs31::.box b21 26 [Value.int .i64 0,Value.slice none 0 0]::.box b0 63 [v0_0,Value.int .i64 a0.at_,Value.int .u64 a0.seed]::L)) r28 rfl
 obtain ⟨H33,S34,i35,h36,nv37⟩:=S27.sealRowU (i:=0) (l':=(.box b21 26 [Value.int .i64 0,Value.slice none 0 0]::.box b0 63 [v0_0,Value.int .i64 a0.at_,Value.int .u64 a0.seed]::L)) rfl els32 (by decide) rfl
 obtain ⟨r38,hr39,hp⟩:=bnd hp
 have S40:St H0 w0 H33 w26 (.box b0 63 [v0_0,Value.int .i64 a0.at_,Value.int .u64 a0.seed]::.box b21 26 [Value.int .i64 0,Value.slice none 0 0]::L):=S34.front 1 rfl rfl
 refine FL.call rfl rfl rfl (E.call Tryz.call114 (A2 rfl rfl)) (w_spec_l1Cur_of (L:=(.box b21 26 [Value.int .i64 0,Value.slice none 0 0]::L)) S40 (a0:=a0) (p0_0.mono (r28.run.inc.tr i35)) v29 PF.zbv (h36.mono upI) hr39) ?_
 rintro e w42 ⟨H41,v45,rfl,⟨S43,i44⟩,h46⟩
 refine ⟨_,rfl,?_⟩
 have S43:St H0 w0 H41 w42 (.box b0 63 [v45,Value.int .i64 r38.2.at_,Value.int .u64 r38.2.seed]::.box b21 26 [Value.int .i64 0,Value.slice none 0 0]::L):=S43
 obtain ⟨r47,hr48,hp⟩:=bnd hp
 refine FL.call rfl rfl rfl (E.call Tryz.call113 (A1 rfl)) (w_spec_l2Known S43.sl r38.1 hr48) ?_
 rintro e w50 ⟨H49,v53,rfl,r52,⟨c56,ns55⟩⟩
 refine ⟨_,rfl,?_⟩
 have h54:=ns55.rsl
 have nv57:New H41 c56:=New.of_up S43.sl (fun b hb=>ns55.dom b (.inr hb))
 have nv58:New H41 [v53]:=New.of_up S43.sl h54.dom
 have h54:=h54.mono (up_le S43.size)
 have ns55:=ns55.mono (up_le S43.size)
 have S51:=S43.call r52
 obtain ⟨b59,w60,run61,S62⟩:=S51.alloc (P:=Tryz.prog) 26 [Value.int .i64 0,Value.slice none 0 0] Tryz.zeroValue26 rfl (zac rfl (zac rfl zad))
 refine FL.v (E.alloc run61) ?_
 obtain ⟨w63,run64,S65⟩:=S62.store0 (P:=Tryz.prog) (t:=26) (i:=0) (cs':=[Value.int .i64 r47.vars,v53]) (l':=(.box b59 26 [Value.int .i64 r47.vars,v53]::.box b0 63 [v45,Value.int .i64 r38.2.at_,Value.int .u64 r38.2.seed]::.box b21 26 [Value.int .i64 0,Value.slice none 0 0]::L)) (v:=Value.agg #[Value.int .i64 r47.vars,v53]) (c:=[Value.int .i64 r47.vars,v53]) rfl Tryz.sizeOf26 rfl rfl (zac rfl (zac h54.one zad)) (Nat.le_of_ble_eq_true rfl) rfl rfl
 refine FL.act rfl rfl (E.store rfl rfl run64) ?_
 refine FL.nil (FW.seq (FW.region ?_))
 obtain ⟨v66,w67,run68,S69⟩:=S65.buildSlice (P:=Tryz.prog) te34 [] (parts:=#[]) (cells:=[]) rfl zao zan zad (Nat.le_of_ble_eq_true rfl)
 have els70:Els (up w0.heap.size H49) eI 1 [] []:=Els.nil
 refine FL.v (E.buildSlice (B0) run68) ?_
 refine FL.v (E.assign (v:=v66) rfl) ?_
 refine FL.nil (FW.seq (FW.seq (FW.region ?_)))
 refine FL.v (E.assign (v:=Value.int .i64 1) rfl) ?_
 refine FL.nil ?_
 obtain ⟨q71,hq,hp⟩:=bndR hp
 refine FW.block ?_
 refine FW.mono (FW.iter (S:=((List Int)×(List Int)×Int×Int×Int)) (X:=Empty) (fun (s71:((List Int)×(List Int)×Int×Int×Int)) f w=>∃ H:GH,∃ vAt:Value,∃ nAu:Nat,∃ csAv:List Value,∃ vAx:Value,St H0 w0 H w (.row 3 1 vAt nAu csAv::.box b59 26 [Value.int .i64 r47.vars,v53]::.box b0 63 [vAx,Value.int .i64 s71.2.2.1,Value.int .u64 s71.2.2.2.1]::.box b21 26 [Value.int .i64 0,Value.slice none 0 0]::L)∧Inc H49 H∧Els (up w0.heap.size H) eI 1 csAv s71.1∧RSl H (eN .u8) 1 vAx s71.2.1∧f 0=Value.pointer (some (⟨b0,0,none⟩:Addr))∧f 2=Value.pointer (some (⟨b21,0,none⟩:Addr))∧f 3=Value.pointer (some (⟨b59,0,none⟩:Addr))∧f 4=vAt∧f 5=Value.int .i64 s71.2.2.2.2) (fun (q:Rs ((List Int)×(List Int)×Int×Int×Int) Empty) e f w=>match q with|.go s71=>e=Exit.exit 0∧(∃ H:GH,∃ vAt:Value,∃ nAu:Nat,∃ csAv:List Value,∃ vAx:Value,St H0 w0 H w (.row 3 1 vAt nAu csAv::.box b59 26 [Value.int .i64 r47.vars,v53]::.box b0 63 [vAx,Value.int .i64 s71.2.2.1,Value.int .u64 s71.2.2.2.1]::.box b21 26 [Value.int .i64 0,Value.slice none 0 0]::L)∧Inc H49 H∧Els (up w0.heap.size H) eI 1 csAv s71.1∧RSl H (eN .u8) 1 vAx s71.2.1∧f 0=Value.pointer (some (⟨b0,0,none⟩:Addr))∧f 2=Value.pointer (some (⟨b21,0,none⟩:Addr))∧f 3=Value.pointer (some (⟨b59,0,none⟩:Addr))∧f 4=vAt)|.rt x=>x.elim) hq ⟨_,_,_,_,_,S69,(Inc.rfl _),els70,(h46.mono r52.inc),rfl,rfl,rfl,rfl,rfl⟩ ?_) ?_
 ·
  clear hp hq
  rintro s71 fBu wBt ⟨HBq,vAt,nAu,csAv,vAx,SBr,iBs,elsAw,hAy,kBv,kBw,kBx,kBy,kBz⟩ oCh hp
  refine FW.seq (FW.seq (FW.region ?_))
  refine FL.v (E.move kBz) ?_
  refine FL.v (E.fieldAddr zaC kBx) ?_
  refine FL.v (E.load rfl (zah Tryz.isAgg3 (SBr.box_now (i:=1) rfl) rfl)) ?_
  refine FL.v (E.leq rfl rfl) ?_
  refine FL.nil ?_
  rcases ifB hp with ⟨cBA,hp⟩|⟨cBA,hp⟩
  ·
   refine FW.condT rfl cBA ?_
   refine FW.skip (FW.seq (FW.block (FW.seq (FW.region ?_))))
   refine FL.v (E.move kBv) ?_
   obtain ⟨rBB,hrBC,hp⟩:=bnd hp
   have SBD:St H0 w0 HBq wBt (.box b0 63 [vAx,Value.int .i64 s71.2.2.1,Value.int .u64 s71.2.2.2.1]::.row 3 1 vAt nAu csAv::.box b59 26 [Value.int .i64 r47.vars,v53]::.box b21 26 [Value.int .i64 0,Value.slice none 0 0]::L):=SBr.front 2 rfl rfl
   refine FL.call rfl rfl rfl (E.call Tryz.call80 (A2 rfl rfl)) (zcl (L:=(.row 3 1 vAt nAu csAv::.box b59 26 [Value.int .i64 r47.vars,v53]::.box b21 26 [Value.int .i64 0,Value.slice none 0 0]::L)) SBD (a0:=(l1Cur.mk s71.2.1 s71.2.2.1 s71.2.2.2.1)) hAy 4 hrBC) ?_
   rintro e wBF ⟨HBE,vBI,rfl,⟨SBG,iBH⟩,hBJ⟩
   refine ⟨_,rfl,?_⟩
   have SBG:St H0 w0 HBE wBF (.box b0 63 [vBI,Value.int .i64 rBB.2.at_,Value.int .u64 rBB.2.seed]::.row 3 1 vAt nAu csAv::.box b59 26 [Value.int .i64 r47.vars,v53]::.box b21 26 [Value.int .i64 0,Value.slice none 0 0]::L):=SBG
   refine FL.nil ?_
   rcases ifB hp with ⟨cBK,hp⟩|⟨cBK,hp⟩
   ·
    refine FW.condT rfl cBK ?_
    refine FW.region ?_
    refine FL.v (E.move kBy) ?_
    refine FL.v (E.move kBz) ?_
    refine FL.v (E.neg rfl) ?_
    obtain ⟨vBL,wBM,runBN,SBO,elsBP⟩:=SBG.ints (P:=Tryz.prog) te34 (up w0.heap.size HBE) 1 [(wr (-s71.2.2.2.2))]
    refine FL.v (E.buildSlice (B1 rfl) runBN) ?_
    obtain ⟨xsBQ,hzBR,hp⟩:=bnd hp
    obtain ⟨vBS,wBV,nBT,csBU,runBW,SBX,elsBY,ceBZ⟩:=SBO.appendO (P:=Tryz.prog) te34 (i:=2) (j:=0) rfl (elsAw.mono (zag iBH)) rfl elsBP hzBR
    have SBX:St H0 w0 HBE wBV (.row 3 1 vBL 1 (iC [(wr (-s71.2.2.2.2))])::.box b0 63 [vBI,Value.int .i64 rBB.2.at_,Value.int .u64 rBB.2.seed]::.row 3 1 vBS nBT csBU::.box b59 26 [Value.int .i64 r47.vars,v53]::.box b21 26 [Value.int .i64 0,Value.slice none 0 0]::L):=SBX
    have SC0:St H0 w0 HBE wBV (.box b0 63 [vBI,Value.int .i64 rBB.2.at_,Value.int .u64 rBB.2.seed]::.row 3 1 vBS nBT csBU::.box b59 26 [Value.int .i64 r47.vars,v53]::.box b21 26 [Value.int .i64 0,Value.slice none 0 0]::L):=SBX.drop 0
    refine FL.v (E.append rfl rfl runBW) ?_
    refine FL.v (E.assign (v:=vBS) rfl) ?_
    refine FL.nil (FW.region ?_)
    refine FL.v (E.move kBz) ?_
    refine FL.v (E.add rfl rfl) ?_
    refine FL.v (E.assign (v:=Value.int .i64 (wr (s71.2.2.2.2 + 1))) rfl) ?_
    refine FL.nil ?_
    obtain rfl:=Option.some.inj hp
    exact ⟨rfl,⟨_,_,_,_,_,(SC0.selT (a:=[.box b0 63 [vBI,Value.int .i64 rBB.2.at_,Value.int .u64 rBB.2.seed],.row 3 1 vBS nBT csBU,.box b59 26 [Value.int .i64 r47.vars,v53],.box b21 26 [Value.int .i64 0,Value.slice none 0 0]]) (l':=[.row 3 1 vBS nBT csBU,.box b59 26 [Value.int .i64 r47.vars,v53],.box b0 63 [vBI,Value.int .i64 rBB.2.at_,Value.int .u64 rBB.2.seed],.box b21 26 [Value.int .i64 0,Value.slice none 0 0]]) [1,2,0,3] (by decide) rfl),(iBs.tr iBH),elsBY,hBJ,kBv,kBw,kBx,rfl,rfl⟩⟩
   ·
    refine FW.condF rfl cBK ?_
    refine FW.region ?_
    refine FL.v (E.move kBy) ?_
    refine FL.v (E.move kBz) ?_
    obtain ⟨vC1,wC2,runC3,SC4,elsC5⟩:=SBG.ints (P:=Tryz.prog) te34 (up w0.heap.size HBE) 1 [s71.2.2.2.2]
    refine FL.v (E.buildSlice (B1 rfl) runC3) ?_
    obtain ⟨xsC6,hzC7,hp⟩:=bnd hp
    obtain ⟨vC8,wCb,nC9,csCa,runCc,SCd,elsCe,ceCf⟩:=SC4.appendO (P:=Tryz.prog) te34 (i:=2) (j:=0) rfl (elsAw.mono (zag iBH)) rfl elsC5 hzC7
    have SCd:St H0 w0 HBE wCb (.row 3 1 vC1 1 (iC [s71.2.2.2.2])::.box b0 63 [vBI,Value.int .i64 rBB.2.at_,Value.int .u64 rBB.2.seed]::.row 3 1 vC8 nC9 csCa::.box b59 26 [Value.int .i64 r47.vars,v53]::.box b21 26 [Value.int .i64 0,Value.slice none 0 0]::L):=SCd
    have SCg:St H0 w0 HBE wCb (.box b0 63 [vBI,Value.int .i64 rBB.2.at_,Value.int .u64 rBB.2.seed]::.row 3 1 vC8 nC9 csCa::.box b59 26 [Value.int .i64 r47.vars,v53]::.box b21 26 [Value.int .i64 0,Value.slice none 0 0]::L):=SCd.drop 0
    refine FL.v (E.append rfl rfl runCc) ?_
    refine FL.v (E.assign (v:=vC8) rfl) ?_
    refine FL.nil (FW.region ?_)
    refine FL.v (E.move kBz) ?_
    refine FL.v (E.add rfl rfl) ?_
    refine FL.v (E.assign (v:=Value.int .i64 (wr (s71.2.2.2.2 + 1))) rfl) ?_
    refine FL.nil ?_
    obtain rfl:=Option.some.inj hp
    exact ⟨rfl,⟨_,_,_,_,_,(SCg.selT (a:=[.box b0 63 [vBI,Value.int .i64 rBB.2.at_,Value.int .u64 rBB.2.seed],.row 3 1 vC8 nC9 csCa,.box b59 26 [Value.int .i64 r47.vars,v53],.box b21 26 [Value.int .i64 0,Value.slice none 0 0]]) (l':=[.row 3 1 vC8 nC9 csCa,.box b59 26 [Value.int .i64 r47.vars,v53],.box b0 63 [vBI,Value.int .i64 rBB.2.at_,Value.int .u64 rBB.2.seed],.box b21 26 [Value.int .i64 0,Value.slice none 0 0]]) [1,2,0,3] (by decide) rfl),(iBs.tr iBH),elsCe,hBJ,kBv,kBw,kBx,rfl,rfl⟩⟩
  ·
   refine FW.condF rfl cBA ?_
   refine FW.exit ?_
   obtain rfl:=Option.some.inj hp
   exact ⟨nofun,rfl,⟨_,_,_,_,_,SBr,iBs,elsAw,hAy,kBv,kBw,kBx,kBy⟩⟩
 ·
  clear hq
  intro e fCm wCl hD
  rcases q71 with s71|x71
  ·
   obtain ⟨rfl,hD⟩:=hD
   obtain ⟨HCi,vAt,nAu,csAv,vAx,SCj,iCk,elsAw,hAy,kCn,kCo,kCp,kCq⟩:=hD
   replace hp:=el_go hp
   refine FW.seq (FW.region ?_)
   refine FL.v (E.load kCp (zai Tryz.isAgg26 Tryz.sizeOf26 (SCj.box_now (i:=1) rfl) rfl)) ?_
   refine FL.v (E.move kCq) ?_
   obtain ⟨HCr,SCs,iCt,hCu,nvCv⟩:=SCj.sealRowU (i:=0) (l':=(.box b59 26 [Value.int .i64 r47.vars,v53]::.box b0 63 [vAx,Value.int .i64 s71.2.2.1,Value.int .u64 s71.2.2.2.1]::.box b21 26 [Value.int .i64 0,Value.slice none 0 0]::L)) rfl elsAw (by decide) rfl
   obtain ⟨rCw,hrCx,hp⟩:=bnd hp
   refine FL.call rfl rfl rfl (E.call Tryz.call116 (A2 rfl rfl)) (w_spec_RenameCnf SCs.sl r47 v53 (h54.mono (upI.tr (iCk.tr iCt))) vAt s71.1 (hCu.mono upI) hrCx) ?_
   rintro e wCz ⟨HCy,vCE,nCF,csCG,rfl,rCB,elsCH,ndCI⟩
   refine ⟨_,rfl,?_⟩
   obtain ⟨HCC,rCB,hU263⟩:=St.lendX iCt SCj.sl rCB
   have nvCJ:New HCi csCG:=New.of_up SCj.sl elsCH.dom
   have elsCH:=elsCH.mono (hU263.tr (up_le SCj.size))
   have SCA:=SCj.join (l':=(.row 34 1 vCE nCF csCG::.row 3 1 vAt nAu csAv::.box b59 26 [Value.int .i64 r47.vars,v53]::.box b0 63 [vAx,Value.int .i64 s71.2.2.1,Value.int .u64 s71.2.2.2.1]::.box b21 26 [Value.int .i64 0,Value.slice none 0 0]::L)) rCB rfl
   refine FL.v (E.move (v:=Value.tuple #[Value.agg #[Value.int .i64 rCw.1.vars,vCE],Value.bool rCw.2]) rfl) ?_
   refine FL.v (E.extract (i:=0) rfl rfl) ?_
   refine FL.v (E.extract (i:=1) rfl rfl) ?_
   obtain ⟨wCK,runCL,SCM⟩:=SCA.store0 (P:=Tryz.prog) (t:=26) (i:=2) (cs':=[Value.int .i64 rCw.1.vars,vCE]) (l':=(.row 34 1 vCE nCF csCG::.row 3 1 vAt nAu csAv::.box b59 26 [Value.int .i64 rCw.1.vars,vCE]::.box b0 63 [vAx,Value.int .i64 s71.2.2.1,Value.int .u64 s71.2.2.2.1]::.box b21 26 [Value.int .i64 0,Value.slice none 0 0]::L)) (v:=Value.agg #[Value.int .i64 rCw.1.vars,vCE]) (c:=[Value.int .i64 rCw.1.vars,vCE]) rfl Tryz.sizeOf26 rfl rfl (zac rfl (zac (Ln.one (SCA.row_ln (i:=0) rfl)) zad)) (Nat.le_of_ble_eq_true rfl) rfl rfl
   refine FL.act rfl rfl (E.store kCp rfl runCL) ?_
   refine FL.nil (FW.seq (FW.seq (FW.region ?_)))
   refine FL.v (E.move kCn) ?_
   obtain ⟨rCN,hrCO,hp⟩:=bnd hp
   have SCP:St H0 w0 HCC wCK (.box b0 63 [vAx,Value.int .i64 s71.2.2.1,Value.int .u64 s71.2.2.2.1]::.row 34 1 vCE nCF csCG::.row 3 1 vAt nAu csAv::.box b59 26 [Value.int .i64 rCw.1.vars,vCE]::.box b21 26 [Value.int .i64 0,Value.slice none 0 0]::L):=SCM.front 3 rfl rfl
   refine FL.call rfl rfl rfl (E.call Tryz.call74 (A2 rfl rfl)) (zaR (L:=(.row 34 1 vCE nCF csCG::.row 3 1 vAt nAu csAv::.box b59 26 [Value.int .i64 rCw.1.vars,vCE]::.box b21 26 [Value.int .i64 0,Value.slice none 0 0]::L)) SCP (a0:=(l1Cur.mk s71.2.1 s71.2.2.1 s71.2.2.2.1)) (hAy.mono rCB.run.inc) 3 hrCO) ?_
   rintro e wCR ⟨HCQ,vCU,rfl,⟨SCS,iCT⟩,hCV⟩
   refine ⟨_,rfl,?_⟩
   have SCS:St H0 w0 HCQ wCR (.box b0 63 [vCU,Value.int .i64 rCN.2.at_,Value.int .u64 rCN.2.seed]::.row 34 1 vCE nCF csCG::.row 3 1 vAt nAu csAv::.box b59 26 [Value.int .i64 rCw.1.vars,vCE]::.box b21 26 [Value.int .i64 0,Value.slice none 0 0]::L):=SCS
   refine FL.v (E.assign (v:=Value.int .i64 rCN.1) rfl) ?_
   refine FL.nil ?_
   obtain ⟨qCW,hq,hp⟩:=bndR hp
   refine FW.block ?_
   refine FW.mono (FW.iter (S:=((List (List Int))×(List Int)×Int×Int×Int)) (X:=Empty) (fun (sCW:((List (List Int))×(List Int)×Int×Int×Int)) f w=>∃ H:GH,∃ v72:Value,∃ n73:Nat,∃ cs74:List Value,∃ v77:Value,St H0 w0 H w (.box b0 63 [v77,Value.int .i64 sCW.2.2.1,Value.int .u64 sCW.2.2.2.1]::.row 34 1 v72 n73 cs74::.box b59 26 [Value.int .i64 rCw.1.vars,v72]::.box b21 26 [Value.int .i64 0,Value.slice none 0 0]::L)∧Inc HCQ H∧Els (up w0.heap.size H) (eL eI 1) 1 cs74 sCW.1∧RSl H (eN .u8) 1 v77 sCW.2.1∧(bl cs74).Nodup∧f 0=Value.pointer (some (⟨b0,0,none⟩:Addr))∧f 2=Value.pointer (some (⟨b21,0,none⟩:Addr))∧f 3=Value.pointer (some (⟨b59,0,none⟩:Addr))∧f 6=Value.int .i64 sCW.2.2.2.2) (fun (q:Rs ((List (List Int))×(List Int)×Int×Int×Int) Empty) e f w=>match q with|.go sCW=>e=Exit.exit 2∧(∃ H:GH,∃ v72:Value,∃ n73:Nat,∃ cs74:List Value,∃ v77:Value,St H0 w0 H w (.box b0 63 [v77,Value.int .i64 sCW.2.2.1,Value.int .u64 sCW.2.2.2.1]::.row 34 1 v72 n73 cs74::.box b59 26 [Value.int .i64 rCw.1.vars,v72]::.box b21 26 [Value.int .i64 0,Value.slice none 0 0]::L)∧Inc HCQ H∧Els (up w0.heap.size H) (eL eI 1) 1 cs74 sCW.1∧RSl H (eN .u8) 1 v77 sCW.2.1∧(bl cs74).Nodup∧f 2=Value.pointer (some (⟨b21,0,none⟩:Addr))∧f 3=Value.pointer (some (⟨b59,0,none⟩:Addr)))|.rt x=>x.elim) hq ⟨_,_,_,_,_,(SCS.selT (a:=[.box b0 63 [vCU,Value.int .i64 rCN.2.at_,Value.int .u64 rCN.2.seed],.row 34 1 vCE nCF csCG,.row 3 1 vAt nAu csAv,.box b59 26 [Value.int .i64 rCw.1.vars,vCE],.box b21 26 [Value.int .i64 0,Value.slice none 0 0]]) (l':=[.box b0 63 [vCU,Value.int .i64 rCN.2.at_,Value.int .u64 rCN.2.seed],.row 34 1 vCE nCF csCG,.box b59 26 [Value.int .i64 rCw.1.vars,vCE],.box b21 26 [Value.int .i64 0,Value.slice none 0 0]]) [0,1,3,4] (by decide) rfl),(Inc.rfl _),(elsCH.mono (zag iCT)),hCV,ndCI,kCn,kCo,kCp,rfl⟩ ?_) ?_
   ·
    clear hp hq
    rintro sCW f83 w82 ⟨H79,v72,n73,cs74,v77,S80,i81,els75,h78,nd76,k84,k85,k86,k87⟩ oB1 hp
    refine FW.seq (FW.seq (FW.region ?_))
    refine FL.v (E.move k87) ?_
    refine FL.v (E.gtr rfl rfl) ?_
    refine FL.v (E.move (v:=Value.bool (decide (0 < sCW.2.2.2.2))) rfl) ?_
    refine FL.cut 4 (fun f w=>∃ H:GH,St H0 w0 H w (.box b0 63 [v77,Value.int .i64 sCW.2.2.1,Value.int .u64 sCW.2.2.2.1]::.row 34 1 v72 n73 cs74::.box b59 26 [Value.int .i64 rCw.1.vars,v72]::.box b21 26 [Value.int .i64 0,Value.slice none 0 0]::L)∧Inc H79 H∧f 0=Value.pointer (some (⟨b0,0,none⟩:Addr))∧f 2=Value.pointer (some (⟨b21,0,none⟩:Addr))∧f 3=Value.pointer (some (⟨b59,0,none⟩:Addr))∧f 6=Value.int .i64 sCW.2.2.2.2∧f 43=Value.bool (bif (decide (0 < sCW.2.2.2.2)) then (decide (0 < rCw.1.vars)) else false)) ?_ ?_
    ·
     rcases bcase (decide (0 < sCW.2.2.2.2)) with c93|c93
     ·
      refine FL.val (zab rfl rfl rfl c93) rfl rfl (E.fieldAddr zaC k86) ?_
      refine FL.val (zab rfl rfl rfl c93) rfl rfl (E.load rfl (zah Tryz.isAgg3 (S80.box_now (i:=2) rfl) rfl)) ?_
      refine FL.val (zab rfl rfl rfl c93) rfl rfl (E.gtr rfl rfl) ?_
      refine FL.v (E.pickT rfl c93 rfl) ?_
      exact FL.nil ⟨rfl,_,S80,(Inc.rfl _),k84,k85,k86,k87,(congrArg Value.bool (bifT c93).symm)⟩
     ·
      refine FL.skip (wF_no rfl rfl rfl c93) rfl ?_
      refine FL.skip (wF_no rfl rfl rfl c93) rfl ?_
      refine FL.skip (wF_no rfl rfl rfl c93) rfl ?_
      refine FL.v (E.pickF rfl c93 rfl) ?_
      exact FL.nil ⟨rfl,_,S80,(Inc.rfl _),k84,k85,k86,k87,(congrArg Value.bool (bifF c93).symm)⟩
    rintro f92 w91 ⟨H88,S89,i90,k94,k95,k96,k97,k98⟩
    refine FL.nil ?_
    rcases ifB hp with ⟨c99,hp⟩|⟨c99,hp⟩
    ·
     refine FW.condT k98 c99 ?_
     refine FW.skip (FW.seq (FW.block ?_))
     obtain ⟨rA3,hrA4,hp⟩:=bnd hp
     obtain ⟨xsAq,hzAr,hp⟩:=bnd hp
     refine FW.drawB (Sl H88) (fun f w=>∃ H:GH,∃ vAL:Value,∃ nAM:Nat,∃ csAN:List Value,∃ vAQ:Value,St H0 w0 H w (.box b0 63 [vAQ,Value.int .i64 rA3.2.at_,Value.int .u64 rA3.2.seed]::.row 34 1 vAL nAM csAN::.box b59 26 [Value.int .i64 rCw.1.vars,vAL]::.box b21 26 [Value.int .i64 0,Value.slice none 0 0]::L)∧Inc H88 H∧Els (up w0.heap.size H) (eL eI 1) 1 csAN xsAq∧RSl H (eN .u8) 1 vAQ rA3.2.code∧(bl csAN).Nodup∧f 0=Value.pointer (some (⟨b0,0,none⟩:Addr))∧f 2=Value.pointer (some (⟨b21,0,none⟩:Addr))∧f 3=Value.pointer (some (⟨b59,0,none⟩:Addr))∧f 6=Value.int .i64 sCW.2.2.2.2) (by kernel_rfl) S89.sl ?_ ?_
     ·
      intro wA0 rA1
      have SA2:=S89.call rA1
      refine FB.phase [] (fun w=>WAt w (Addr.add ⟨b59,0,none⟩ 0) [Value.int .i64 rCw.1.vars]) ?_
      refine FB.phase [9] (fun w=>WAt w (Addr.add ⟨b59,0,none⟩ 1) [v72]) ?_
      refine FB.t (i:=0) (bs 10 1) rfl (SP.on ((SA2.box_now (i:=2) rfl).sub (j:=1) (n:=1) (c:=[v72]) rfl) (SP.on ((SA2.box_now (i:=2) rfl).sub (j:=0) (n:=1) (c:=[Value.int .i64 rCw.1.vars]) rfl) (SP.nil SA2.sl))) rfl (fun w' hw'=>(E.fieldAddr zay k96)) ?_
      refine FB.p (i:=1) (bs 10 3) 0 [7,8,9] rfl (SP.on ((SA2.box_now (i:=2) rfl).sub (j:=1) (n:=1) (c:=[v72]) rfl) (SP.on ((SA2.box_now (i:=2) rfl).sub (j:=0) (n:=1) (c:=[Value.int .i64 rCw.1.vars]) rfl) (SP.nil SA2.sl))) rfl rfl (fun w' hw'=>(E.load rfl (zaf Tryz.isAgg24 hw' rfl))) ?_
      refine FB.t (i:=2) (bs 10 7) rfl (SP.on ((SA2.box_now (i:=2) rfl).sub (j:=1) (n:=1) (c:=[v72]) rfl) (SP.on ((SA2.box_now (i:=2) rfl).sub (j:=0) (n:=1) (c:=[Value.int .i64 rCw.1.vars]) rfl) (SP.nil SA2.sl))) rfl (fun w' hw'=>(E.move k94)) ?_
      refine FB.t (i:=3) (bs 10 15) rfl (SP.on ((SA2.box_now (i:=2) rfl).sub (j:=1) (n:=1) (c:=[v72]) rfl) (SP.on ((SA2.box_now (i:=2) rfl).sub (j:=0) (n:=1) (c:=[Value.int .i64 rCw.1.vars]) rfl) (SP.nil SA2.sl))) rfl (fun w' hw'=>(E.fieldAddr zaC k96)) ?_
      refine FB.p (i:=4) (bs 10 31) 1 [5,6,7,8,9] rfl (SP.on ((SA2.box_now (i:=2) rfl).sub (j:=1) (n:=1) (c:=[v72]) rfl) (SP.on ((SA2.box_now (i:=2) rfl).sub (j:=0) (n:=1) (c:=[Value.int .i64 rCw.1.vars]) rfl) (SP.nil SA2.sl))) rfl rfl (fun w' hw'=>(E.load rfl (zaf Tryz.isAgg3 hw' rfl))) ?_
      refine FB.all1 (i:=5) (by kernel_rfl) ?_
      ·
       refine FC.call (l':=(bs 10 63)) rfl (by kernel_rfl) rfl rfl rfl (E.call Tryz.call111 (A2 rfl rfl)) (zdC (L:=(.row 34 1 v72 n73 cs74::.box b59 26 [Value.int .i64 rCw.1.vars,v72]::.box b21 26 [Value.int .i64 0,Value.slice none 0 0]::L)) SA2 (a0:=(l1Cur.mk sCW.2.1 sCW.2.2.1 sCW.2.2.2.1)) (h78.mono i90) rCw.1.vars hrA4) ?_
       rintro e wA6 ⟨HA5,vA9,nAa,csAb,vAd,rfl,⟨SA7,iA8⟩,elsAc,hAe⟩
       refine ⟨_,rfl,?_⟩
       have SA7:St H0 w0 HA5 wA6 (.row 3 1 vA9 nAa csAb::.box b0 63 [vAd,Value.int .i64 rA3.2.at_,Value.int .u64 rA3.2.seed]::.row 34 1 v72 n73 cs74::.box b59 26 [Value.int .i64 rCw.1.vars,v72]::.box b21 26 [Value.int .i64 0,Value.slice none 0 0]::L):=SA7
       refine ⟨(SP.on ((SA7.box_now (i:=3) rfl).sub (j:=1) (n:=1) (c:=[v72]) rfl) (SP.on ((SA7.box_now (i:=3) rfl).sub (j:=0) (n:=1) (c:=[Value.int .i64 rCw.1.vars]) rfl) (SP.nil (Sl.of_inc iA8 SA7.sl)))),?_⟩
       refine FB.all1 (i:=6) (by kernel_rfl) ?_
       ·
        obtain ⟨HAf,SAg,iAh,hAi,nvAj⟩:=SA7.sealRowU (i:=0) (l':=(.box b0 63 [vAd,Value.int .i64 rA3.2.at_,Value.int .u64 rA3.2.seed]::.row 34 1 v72 n73 cs74::.box b59 26 [Value.int .i64 rCw.1.vars,v72]::.box b21 26 [Value.int .i64 0,Value.slice none 0 0]::L)) rfl elsAc (by decide) rfl
        obtain ⟨vAk,wAl,runAm,SAn⟩:=SAg.buildSlice (P:=Tryz.prog) te24 [vA9] (parts:=#[(0,vA9)]) (cells:=[vA9]) rfl (zat (zaH hAi.cells) zao) (zas hAi.cells zan) (zac hAi.one zad) (Nat.le_of_ble_eq_true rfl)
        have elsAo:Els (up w0.heap.size HAf) (eL eI 1) 1 [vA9] [rA3.1]:=(Els.snoc (H:=(up w0.heap.size HAf)) (E:=(eL eI 1)) (k:=1) (c:=[vA9]) (x:=rA3.1) Els.nil rfl ⟨_,rfl,hAi⟩)
        have ndAp:(bl [vA9]).Nodup:=by exact za5 vA9
        refine FC.val (l':=(bs 10 127)) rfl (by kernel_rfl) rfl rfl rfl (E.buildSlice (B1 rfl) runAm) ?_
        refine ⟨(SP.on ((SAn.box_now (i:=3) rfl).sub (j:=1) (n:=1) (c:=[v72]) rfl) (SP.on ((SAn.box_now (i:=3) rfl).sub (j:=0) (n:=1) (c:=[Value.int .i64 rCw.1.vars]) rfl) (SP.nil (Sl.of_inc (iA8.tr iAh) SAn.sl)))),?_⟩
        refine FB.all1 (i:=7) (by kernel_rfl) ?_
        ·
         obtain ⟨vAs,wAB,nAz,csAA,runAC,SAD,elsAE,ceAF⟩:=SAn.appendO (P:=Tryz.prog) te24 (i:=2) (j:=0) rfl (els75.mono (zag ((i90.tr iA8).tr iAh))) rfl elsAo hzAr
         have SAD:St H0 w0 HAf wAB (.row 34 1 vAk 1 [vA9]::.box b0 63 [vAd,Value.int .i64 rA3.2.at_,Value.int .u64 rA3.2.seed]::.row 34 1 vAs nAz csAA::.box b59 26 [Value.int .i64 rCw.1.vars,v72]::.box b21 26 [Value.int .i64 0,Value.slice none 0 0]::L):=SAD
         have ndAG:(bl csAA).Nodup:=by rw [ceAF];exact zba nd76 ndAp (Els.dom (els75.mono (upI.tr (i90.tr iA8)))) (by exact nvAj)
         have SAH:St H0 w0 HAf wAB (.box b0 63 [vAd,Value.int .i64 rA3.2.at_,Value.int .u64 rA3.2.seed]::.row 34 1 vAs nAz csAA::.box b59 26 [Value.int .i64 rCw.1.vars,v72]::.box b21 26 [Value.int .i64 0,Value.slice none 0 0]::L):=SAD.drop 0
         refine FC.val (l':=(bs 10 255)) rfl (by kernel_rfl) rfl rfl rfl (E.append rfl rfl runAC) ?_
         refine ⟨(SP.on ((SAH.box_now (i:=2) rfl).sub (j:=1) (n:=1) (c:=[v72]) rfl) (SP.on ((SAH.box_now (i:=2) rfl).sub (j:=0) (n:=1) (c:=[Value.int .i64 rCw.1.vars]) rfl) (SP.nil (Sl.of_inc (iA8.tr iAh) SAH.sl)))),?_⟩
         refine FB.t (i:=8) (bs 10 511) rfl (SP.on ((SAH.box_now (i:=2) rfl).sub (j:=1) (n:=1) (c:=[v72]) rfl) (SP.on ((SAH.box_now (i:=2) rfl).sub (j:=0) (n:=1) (c:=[Value.int .i64 rCw.1.vars]) rfl) (SP.nil (Sl.of_inc (iA8.tr iAh) SAH.sl)))) rfl (fun w' hw'=>(E.fieldAddr zay k96)) ?_
         refine FB.all1 (i:=9) (by kernel_rfl) ?_
         ·
          obtain ⟨wAI,runAJ,SAK⟩:=SAH.store (P:=Tryz.prog) (t:=24) (i:=2) (j:=1) (cs':=[Value.int .i64 rCw.1.vars,vAs]) (l':=(.box b0 63 [vAd,Value.int .i64 rA3.2.at_,Value.int .u64 rA3.2.seed]::.row 34 1 vAs nAz csAA::.box b59 26 [Value.int .i64 rCw.1.vars,vAs]::.box b21 26 [Value.int .i64 0,Value.slice none 0 0]::L)) (v:=vAs) (c:=[vAs]) rfl Tryz.sizeOf24 (Ln.cells (SAH.row_ln (i:=1) rfl)) rfl (zac (Ln.one (SAH.row_ln (i:=1) rfl)) zad) (Nat.le_of_ble_eq_true rfl) rfl rfl
          refine FC.act (l':=(bs 10 1023)) rfl (by kernel_rfl) rfl rfl (E.store rfl rfl runAJ) ?_
          refine ⟨(SP.o (SP.on ((SAK.box_now (i:=2) rfl).sub (j:=0) (n:=1) (c:=[Value.int .i64 rCw.1.vars]) rfl) (SP.nil (Sl.of_inc (iA8.tr iAh) SAK.sl)))),?_⟩
          exact FB.done (by kernel_rfl) ⟨_,_,_,_,_,SAK,(iA8.tr iAh),elsAE,(hAe.mono iAh),ndAG,k94,k95,k96,k97⟩
     ·
      rintro fAW wAV ⟨HAS,vAL,nAM,csAN,vAQ,SAT,iAU,elsAO,hAR,ndAP,kAX,kAY,kAZ,kB0⟩
      refine FW.region ?_
      refine FL.v (E.move kB0) ?_
      refine FL.v (E.sub rfl rfl) ?_
      refine FL.v (E.assign (v:=Value.int .i64 (wr (sCW.2.2.2.2 - 1))) rfl) ?_
      refine FL.nil ?_
      obtain rfl:=Option.some.inj hp
      exact ⟨rfl,⟨_,_,_,_,_,SAT,((i81.tr i90).tr iAU),elsAO,hAR,ndAP,kAX,kAY,kAZ,rfl⟩⟩
    ·
     refine FW.condF k98 c99 ?_
     refine FW.exit ?_
     obtain rfl:=Option.some.inj hp
     exact ⟨nofun,rfl,⟨_,_,_,_,_,S89,(i81.tr i90),(els75.mono (zag i90)),(h78.mono i90),nd76,k95,k96⟩⟩
   ·
    clear hq
    intro e fB6 wB5 hD
    rcases qCW with sCW|xCW
    ·
     obtain ⟨rfl,hD⟩:=hD
     obtain ⟨HB2,v72,n73,cs74,v77,SB3,iB4,els75,h78,nd76,kB7,kB8⟩:=hD
     replace hp:=el_go hp
     refine FW.seq (FW.region ?_)
     refine FL.v (E.load kB8 (zai Tryz.isAgg26 Tryz.sizeOf26 (SB3.box_now (i:=2) rfl) rfl)) ?_
     obtain ⟨wB9,runBa,SBb⟩:=SB3.store0 (P:=Tryz.prog) (t:=26) (i:=3) (cs':=[Value.int .i64 rCw.1.vars,v72]) (l':=(.box b0 63 [v77,Value.int .i64 sCW.2.2.1,Value.int .u64 sCW.2.2.2.1]::.row 34 1 v72 n73 cs74::.box b59 26 [Value.int .i64 rCw.1.vars,v72]::.box b21 26 [Value.int .i64 rCw.1.vars,v72]::L)) (v:=Value.agg #[Value.int .i64 rCw.1.vars,v72]) (c:=[Value.int .i64 rCw.1.vars,v72]) rfl Tryz.sizeOf26 rfl rfl (zac rfl (zac (Ln.one (SB3.row_ln (i:=1) rfl)) zad)) (Nat.le_of_ble_eq_true rfl) rfl rfl
     refine FL.act rfl rfl (E.store kB7 rfl runBa) ?_
     obtain ⟨HBc,SBd,iBe,nsBh,nvBg⟩:=SBb.sealRowN (i:=1) (l':=(.box b0 63 [v77,Value.int .i64 sCW.2.2.1,Value.int .u64 sCW.2.2.2.1]::.box b59 26 [Value.int .i64 rCw.1.vars,v72]::.box b21 26 [Value.int .i64 rCw.1.vars,v72]::L)) rfl els75 nd76 (by decide) rfl
     have hBf:=nsBh.rsl
     obtain ⟨HBi,SBj,iBk,atBl⟩:=SBd.sealBox (i:=2) (l':=(.box b0 63 [v77,Value.int .i64 sCW.2.2.1,Value.int .u64 sCW.2.2.2.1]::.box b59 26 [Value.int .i64 rCw.1.vars,v72]::L)) rfl rfl
     refine FL.nil ?_
     refine FW.ret ?_
     obtain rfl:=Option.some.inj hp
     exact ⟨.inr rfl,resC rfl kB7 (zaB Tryz.isAgg26 Tryz.sizeOf26 (atBl.now SBj.sl) rfl) ⟨_,_,_,rfl,⟨(SBj.selT (a:=[.box b0 63 [v77,Value.int .i64 sCW.2.2.1,Value.int .u64 sCW.2.2.2.1],.box b59 26 [Value.int .i64 rCw.1.vars,v72]]) (l':=[.box b0 63 [v77,Value.int .i64 sCW.2.2.1,Value.int .u64 sCW.2.2.2.1]]) [0] (by decide) rfl),(((((((((r28.run.inc.tr i35).tr i44).tr r52.inc).tr iCk).tr rCB.run.inc).tr iCT).tr iB4).tr iBe).tr iBk)⟩,⟨_,(nsBh.mono (zag iBk))⟩,(h78.mono (iBe.tr iBk))⟩⟩
    ·
     exact xCW.elim
  ·
   exact x71.elim

@[reducible] def p_spec_l1Cur_lit (H0:GH) (w0:World) (Ha:GH) (L:List MO) (b0:Nat) (r:(Int×l1Cur)):Ending→World→Prop :=
 fun e w'=>∃ H':GH,∃ v0_0r:Value,e=.returned (Value.int .i64 r.1)∧(St H0 w0 H' w' (.box b0 63 [v0_0r,Value.int .i64 r.2.at_,Value.int .u64 r.2.seed]::L)∧Inc Ha H')∧RSl H' (eN .u8) 1 v0_0r r.2.code
set_option maxHeartbeats 4000000 in
theorem zeQ {H0 Ha:GH} {w0 wa:World} {L:List MO} {a0:l1Cur} {b0:Nat} {v0_0:Value} (S0:St H0 w0 Ha wa (.box b0 63 [v0_0,Value.int .i64 a0.at_,Value.int .u64 a0.seed]::L)) (p0_0:RSl Ha (eN .u8) 1 v0_0 a0.code) (a1:Int) {r:(Int×l1Cur)} (hp:(PF.zcA a0 a1)=some r) :
  Calls Tryz.prog 107 #[Value.pointer (some (⟨b0,0,none⟩:Addr)),Value.int .i64 a1] wa (p_spec_l1Cur_lit H0 w0 Ha L b0 r):=by
 unfold PF.zcA at hp
 refine zae (N:=29) (args:=[Value.pointer (some (⟨b0,0,none⟩:Addr)),Value.int .i64 a1]) Tryz.func107 rfl rfl rfl ?_
 refine FW.seq (FW.region ?_)
 refine FL.v (E.assign (v:=Value.int .i64 0) rfl) ?_
 refine FL.nil (FW.seq (FW.seq (FW.region ?_)))
 refine FL.v (E.move (v:=Value.int .i64 a1) rfl) ?_
 refine FL.v (E.lss rfl rfl) ?_
 refine FL.v (E.move (v:=Value.bool (decide (a1 < 1))) rfl) ?_
 obtain ⟨t29,hqt29,hp⟩:=bnd hp
 refine FL.cut 3 (fun f w=>∃ H:GH,∃ v31:Value,St H0 w0 H w (.box b0 63 [v31,Value.int .i64 t29.2.1,Value.int .u64 t29.2.2.1]::L)∧Inc Ha H∧RSl H (eN .u8) 1 v31 t29.1∧f 0=Value.pointer (some (⟨b0,0,none⟩:Addr))∧f 1=Value.int .i64 a1∧f 11=Value.bool t29.2.2.2) ?_ ?_
 ·
  clear hp;have hp:=hqt29;clear hqt29
  rcases ifB hp with ⟨c30,hp⟩|⟨c30,hp⟩
  ·
   refine FL.skip (wF_no rfl rfl rfl c30) rfl ?_
   refine FL.skip (wF_no rfl rfl rfl c30) rfl ?_
   refine FL.v (E.pickT rfl c30 rfl) ?_
   obtain rfl:=Option.some.inj hp
   exact FL.nil ⟨rfl,⟨_,_,S0,(Inc.rfl _),p0_0,rfl,rfl,rfl⟩⟩
  ·
   refine FL.val (zab rfl rfl rfl c30) rfl rfl (E.move (v:=Value.pointer (some (⟨b0,0,none⟩:Addr))) rfl) ?_
   obtain ⟨r33,hr34,hp⟩:=bnd hp
   refine FL.call (zab rfl rfl rfl c30) rfl rfl (E.call Tryz.call80 (A2 rfl rfl)) (zcl (L:=(L)) S0 (a0:=a0) p0_0 40 hr34) ?_
   rintro e w36 ⟨H35,v39,rfl,⟨S37,i38⟩,h40⟩
   refine ⟨_,rfl,?_⟩
   have S37:St H0 w0 H35 w36 (.box b0 63 [v39,Value.int .i64 r33.2.at_,Value.int .u64 r33.2.seed]::L):=S37
   refine FL.v (E.pickF rfl c30 rfl) ?_
   obtain rfl:=Option.some.inj hp
   exact FL.nil ⟨rfl,⟨_,_,S37,i38,h40,rfl,rfl,rfl⟩⟩
 clear hqt29
 rintro f45 w44 ⟨H41,v31,S42,i43,h32,k46,k47,k48⟩
 refine FL.nil ?_
 rcases ifB hp with ⟨c49,hp⟩|⟨c49,hp⟩
 ·
  refine FW.condT k48 c49 ?_
  refine FW.seq (FW.region ?_)
  refine FL.v (E.move k46) ?_
  refine FL.v (E.move k47) ?_
  refine FL.v (E.add rfl rfl) ?_
  refine FL.v (E.move k47) ?_
  refine FL.v (E.neg rfl) ?_
  refine FL.v (E.sub rfl rfl) ?_
  obtain ⟨v50,w51,run52,S53,els54⟩:=S42.ints (P:=Tryz.prog) te34 (up w0.heap.size H41) 3 [0,(wr (a1 + 1)),(wr ((wr (-a1)) - 1))]
  refine FL.v (E.buildSlice (B3 rfl rfl rfl) run52) ?_
  obtain ⟨H55,S56,i57,h58,nv59⟩:=S53.sealRowU (i:=0) (l':=(.box b0 63 [v31,Value.int .i64 t29.2.1,Value.int .u64 t29.2.2.1]::L)) rfl els54 (by decide) rfl
  obtain ⟨r60,hr61,hp⟩:=bnd hp
  refine FL.call rfl rfl rfl (E.call Tryz.call82 (A2 rfl rfl)) (zby (L:=(L)) S56 (a0:=(l1Cur.mk t29.1 t29.2.1 t29.2.2.1)) (h32.mono i57) v50 [0,(wr (a1 + 1)),(wr ((wr (-a1)) - 1))] (h58.mono upI) hr61) ?_
  rintro e w63 ⟨H62,v66,rfl,⟨S64,i65⟩,h67⟩
  refine ⟨_,rfl,?_⟩
  have S64:St H0 w0 H62 w63 (.box b0 63 [v66,Value.int .i64 r60.2.at_,Value.int .u64 r60.2.seed]::L):=S64
  refine FL.v (E.assign (v:=Value.int .i64 r60.1) rfl) ?_
  refine FL.nil ?_
  refine FW.ret ?_
  obtain rfl:=Option.some.inj hp
  exact ⟨.inr rfl,res1 rfl rfl ⟨_,_,rfl,⟨S64,((i43.tr i57).tr i65)⟩,h67⟩⟩
 ·
  refine FW.condF k48 c49 ?_
  refine FW.skip (FW.seq (FW.region ?_))
  refine FL.v (E.move k46) ?_
  refine FL.v (E.move k47) ?_
  obtain ⟨r68,hr69,hp⟩:=bnd hp
  refine FL.call rfl rfl rfl (E.call Tryz.call74 (A2 rfl rfl)) (zaR (L:=(L)) S42 (a0:=(l1Cur.mk t29.1 t29.2.1 t29.2.2.1)) h32 a1 hr69) ?_
  rintro e w71 ⟨H70,v74,rfl,⟨S72,i73⟩,h75⟩
  refine ⟨_,rfl,?_⟩
  have S72:St H0 w0 H70 w71 (.box b0 63 [v74,Value.int .i64 r68.2.at_,Value.int .u64 r68.2.seed]::L):=S72
  refine FL.v (E.add rfl rfl) ?_
  refine FL.v (E.assign (v:=Value.int .i64 (wr (1 + r68.1))) rfl) ?_
  refine FL.nil (FW.seq (FW.seq (FW.region ?_)))
  refine FL.v (E.move k46) ?_
  obtain ⟨r76,hr77,hp⟩:=bnd hp
  refine FL.call rfl rfl rfl (E.call Tryz.call80 (A2 rfl rfl)) (zcl (L:=(L)) S72 (a0:=r68.2) h75 2 hr77) ?_
  rintro e w79 ⟨H78,v82,rfl,⟨S80,i81⟩,h83⟩
  refine ⟨_,rfl,?_⟩
  have S80:St H0 w0 H78 w79 (.box b0 63 [v82,Value.int .i64 r76.2.at_,Value.int .u64 r76.2.seed]::L):=S80
  refine FL.nil ?_
  rcases ifB hp with ⟨c84,hp⟩|⟨c84,hp⟩
  ·
   refine FW.condT rfl c84 ?_
   refine FW.seq (FW.region ?_)
   refine FL.v (E.move (v:=Value.int .i64 (wr (1 + r68.1))) rfl) ?_
   refine FL.v (E.neg rfl) ?_
   refine FL.v (E.assign (v:=Value.int .i64 (wr (-(wr (1 + r68.1))))) rfl) ?_
   refine FL.nil ?_
   refine FW.ret ?_
   obtain rfl:=Option.some.inj hp
   exact ⟨.inr rfl,res1 rfl rfl ⟨_,_,rfl,⟨S80,((i43.tr i73).tr i81)⟩,h83⟩⟩
  ·
   refine FW.condF rfl c84 ?_
   refine FW.skip (FW.seq (FW.region ?_))
   refine FL.v (E.move (v:=Value.int .i64 (wr (1 + r68.1))) rfl) ?_
   refine FL.v (E.assign (v:=Value.int .i64 (wr (1 + r68.1))) rfl) ?_
   refine FL.nil ?_
   refine FW.ret ?_
   obtain rfl:=Option.some.inj hp
   exact ⟨.inr rfl,res1 rfl rfl ⟨_,_,rfl,⟨S80,((i43.tr i73).tr i81)⟩,h83⟩⟩

@[reducible] def zfk (H0:GH) (w0:World) (Ha:GH) (L:List MO) (b0:Nat) (r:((List Int)×l1Cur)):Ending→World→Prop :=
 fun e w'=>∃ H':GH,∃ v0:Value,∃ n0:Nat,∃ c0:List Value,∃ v0_0r:Value,e=.returned (v0)∧(St H0 w0 H' w' (.row 3 1 v0 n0 c0::.box b0 63 [v0_0r,Value.int .i64 r.2.at_,Value.int .u64 r.2.seed]::L)∧Inc Ha H')∧Els (up w0.heap.size H') eI 1 c0 r.1∧RSl H' (eN .u8) 1 v0_0r r.2.code
set_option maxHeartbeats 4000000 in
theorem zfl {H0 Ha:GH} {w0 wa:World} {L:List MO} {a0:l1Cur} {b0:Nat} {v0_0:Value} (S0:St H0 w0 Ha wa (.box b0 63 [v0_0,Value.int .i64 a0.at_,Value.int .u64 a0.seed]::L)) (p0_0:RSl Ha (eN .u8) 1 v0_0 a0.code) (a1:Int) {r:((List Int)×l1Cur)} (hp:(PF.zdd a0 a1)=some r) :
  Calls Tryz.prog 112 #[Value.pointer (some (⟨b0,0,none⟩:Addr)),Value.int .i64 a1] wa (zfk H0 w0 Ha L b0 r):=by
 unfold PF.zdd at hp
 refine zae (N:=52) (args:=[Value.pointer (some (⟨b0,0,none⟩:Addr)),Value.int .i64 a1]) Tryz.func112 rfl rfl rfl ?_
 refine FW.seq (FW.region ?_)
 refine FL.v (E.assign (v:=Value.slice none 0 0) rfl) ?_
 refine FL.nil (FW.seq (FW.region ?_))
 refine FL.v (E.move (v:=Value.pointer (some (⟨b0,0,none⟩:Addr))) rfl) ?_
 refine FL.v (E.move (v:=Value.int .i64 a1) rfl) ?_
 obtain ⟨r21,hr22,hp⟩:=bnd hp
 refine FL.call rfl rfl rfl (E.call Tryz.call111 (A2 rfl rfl)) (zdC (L:=(L)) S0 (a0:=a0) p0_0 a1 hr22) ?_
 rintro e w24 ⟨H23,v27,n28,cs29,v31,rfl,⟨S25,i26⟩,els30,h32⟩
 refine ⟨_,rfl,?_⟩
 have S25:St H0 w0 H23 w24 (.row 3 1 v27 n28 cs29::.box b0 63 [v31,Value.int .i64 r21.2.at_,Value.int .u64 r21.2.seed]::L):=S25
 refine FL.v (E.assign (v:=v27) rfl) ?_
 refine FL.nil (FW.seq (FW.seq (FW.region ?_)))
 refine FL.v (E.move (v:=Value.pointer (some (⟨b0,0,none⟩:Addr))) rfl) ?_
 obtain ⟨r33,hr34,hp⟩:=bnd hp
 have S35:St H0 w0 H23 w24 (.box b0 63 [v31,Value.int .i64 r21.2.at_,Value.int .u64 r21.2.seed]::.row 3 1 v27 n28 cs29::L):=S25.front 1 rfl rfl
 refine FL.call rfl rfl rfl (E.call Tryz.call74 (A2 rfl rfl)) (zaR (L:=(.row 3 1 v27 n28 cs29::L)) S35 (a0:=r21.2) h32 32 hr34) ?_
 rintro e w37 ⟨H36,v40,rfl,⟨S38,i39⟩,h41⟩
 refine ⟨_,rfl,?_⟩
 have S38:St H0 w0 H36 w37 (.box b0 63 [v40,Value.int .i64 r33.2.at_,Value.int .u64 r33.2.seed]::.row 3 1 v27 n28 cs29::L):=S38
 refine FL.nil (FW.block (FW.seq (FW.region ?_)))
 refine FL.v (E.eql rfl rfl) ?_
 refine FL.v (E.assign (v:=Value.bool (r33.1 == 0)) rfl) ?_
 refine FL.nil ?_
 rcases ifB hp with ⟨c42,hp⟩|⟨c42,hp⟩
 ·
  refine FW.condT rfl c42 ?_
  refine FW.region ?_
  refine FL.v (E.move (v:=v27) rfl) ?_
  refine FL.v (E.move (v:=Value.pointer (some (⟨b0,0,none⟩:Addr))) rfl) ?_
  refine FL.v (E.move (v:=Value.int .i64 a1) rfl) ?_
  obtain ⟨r43,hr44,hp⟩:=bnd hp
  refine FL.call rfl rfl rfl (E.call Tryz.call107 (A2 rfl rfl)) (zeQ (L:=(.row 3 1 v27 n28 cs29::L)) S38 (a0:=r33.2) h41 a1 hr44) ?_
  rintro e w46 ⟨H45,v49,rfl,⟨S47,i48⟩,h50⟩
  refine ⟨_,rfl,?_⟩
  have S47:St H0 w0 H45 w46 (.box b0 63 [v49,Value.int .i64 r43.2.at_,Value.int .u64 r43.2.seed]::.row 3 1 v27 n28 cs29::L):=S47
  obtain ⟨v51,w52,run53,S54,els55⟩:=S47.ints (P:=Tryz.prog) te34 (up w0.heap.size H45) 1 [r43.1]
  refine FL.v (E.buildSlice (B1 rfl) run53) ?_
  obtain ⟨xs56,hz57,hp⟩:=bnd hp
  obtain ⟨v58,w61,n59,cs60,run62,S63,els64,ce65⟩:=S54.appendO (P:=Tryz.prog) te34 (i:=2) (j:=0) rfl (els30.mono (zag (i39.tr i48))) rfl els55 hz57
  have S63:St H0 w0 H45 w61 (.row 3 1 v51 1 (iC [r43.1])::.box b0 63 [v49,Value.int .i64 r43.2.at_,Value.int .u64 r43.2.seed]::.row 3 1 v58 n59 cs60::L):=S63
  have S66:St H0 w0 H45 w61 (.box b0 63 [v49,Value.int .i64 r43.2.at_,Value.int .u64 r43.2.seed]::.row 3 1 v58 n59 cs60::L):=S63.drop 0
  refine FL.v (E.append rfl rfl run62) ?_
  refine FL.v (E.assign (v:=v58) rfl) ?_
  refine FL.nil (FW.seq (FW.region ?_))
  refine FL.v (E.move (v:=v58) rfl) ?_
  refine FL.v (E.assign (v:=v58) rfl) ?_
  refine FL.nil ?_
  refine FW.ret ?_
  obtain rfl:=Option.some.inj hp
  exact ⟨.inr rfl,res1 rfl rfl ⟨_,_,_,_,_,rfl,⟨(S66.selT (a:=[.box b0 63 [v49,Value.int .i64 r43.2.at_,Value.int .u64 r43.2.seed],.row 3 1 v58 n59 cs60]) (l':=[.row 3 1 v58 n59 cs60,.box b0 63 [v49,Value.int .i64 r43.2.at_,Value.int .u64 r43.2.seed]]) [1,0] (by decide) rfl),((i26.tr i39).tr i48)⟩,els64,h50⟩⟩
 ·
  refine FW.condF rfl c42 ?_
  refine FW.seq (FW.region ?_)
  refine FL.v (E.eql rfl rfl) ?_
  refine FL.v (E.assign (v:=Value.bool (r33.1 == 1)) rfl) ?_
  refine FL.nil ?_
  rcases ifB hp with ⟨c67,hp⟩|⟨c67,hp⟩
  ·
   refine FW.condT rfl c67 ?_
   refine FW.seq (FW.region ?_)
   refine FL.v (E.move (v:=v27) rfl) ?_
   refine FL.v (E.lenO te34 rfl S38 (i:=1) rfl els30 (by decide)) ?_
   refine FL.v (E.gtr rfl rfl) ?_
   refine FL.nil ?_
   rcases ifB hp with ⟨c68,hp⟩|⟨c68,hp⟩
   ·
    refine FW.condT rfl c68 ?_
    refine FW.region ?_
    refine FL.v (E.move (v:=v27) rfl) ?_
    refine FL.v (E.move (v:=Value.pointer (some (⟨b0,0,none⟩:Addr))) rfl) ?_
    refine FL.v (E.move (v:=Value.int .i64 a1) rfl) ?_
    refine FL.v (E.add rfl rfl) ?_
    refine FL.v (E.move (v:=Value.int .i64 a1) rfl) ?_
    refine FL.v (E.neg rfl) ?_
    refine FL.v (E.sub rfl rfl) ?_
    obtain ⟨v69,w70,run71,S72,els73⟩:=S38.ints (P:=Tryz.prog) te34 (up w0.heap.size H36) 4 [0,(wr (a1 + 1)),(wr ((wr (-a1)) - 1)),(-9223372036854775808)]
    refine FL.v (E.buildSlice (B4 rfl rfl rfl rfl) run71) ?_
    obtain ⟨H74,S75,i76,h77,nv78⟩:=S72.sealRowU (i:=0) (l':=(.box b0 63 [v40,Value.int .i64 r33.2.at_,Value.int .u64 r33.2.seed]::.row 3 1 v27 n28 cs29::L)) rfl els73 (by decide) rfl
    obtain ⟨r79,hr80,hp⟩:=bnd hp
    refine FL.call rfl rfl rfl (E.call Tryz.call82 (A2 rfl rfl)) (zby (L:=(.row 3 1 v27 n28 cs29::L)) S75 (a0:=r33.2) (h41.mono i76) v69 [0,(wr (a1 + 1)),(wr ((wr (-a1)) - 1)),(-9223372036854775808)] (h77.mono upI) hr80) ?_
    rintro e w82 ⟨H81,v85,rfl,⟨S83,i84⟩,h86⟩
    refine ⟨_,rfl,?_⟩
    have S83:St H0 w0 H81 w82 (.box b0 63 [v85,Value.int .i64 r79.2.at_,Value.int .u64 r79.2.seed]::.row 3 1 v27 n28 cs29::L):=S83
    obtain ⟨x93,hx94,hp⟩:=bnd hp
    obtain ⟨p87,cs88,pt89,l90,at91,rel92⟩:=S83.row_at (i:=1) rfl els30 (by decide) hx94
    obtain rfl:=zam rel92
    refine FL.v (E.indexAddr te34 rfl rfl pt89) ?_
    obtain ⟨xs98,hput99,hp⟩:=bnd hp
    obtain ⟨w95,csA1,run96,S97,elsA0,ceA2⟩:=S83.putEls (P:=Tryz.prog) (t:=3) (i:=1) rfl (els30.mono (zag ((i39.tr i76).tr i84))) hput99 pt89 Tryz.sizeOf3 (u:=Value.int .i64 r79.1) (c:=[Value.int .i64 r79.1]) rfl rfl (zac rfl zad) rfl
    have S97:St H0 w0 H81 w95 (.box b0 63 [v85,Value.int .i64 r79.2.at_,Value.int .u64 r79.2.seed]::.row 3 1 v27 n28 csA1::L):=S97
    refine FL.act rfl rfl (E.store rfl rfl run96) ?_
    refine FL.nil (FW.seq (FW.region ?_))
    refine FL.v (E.move (v:=v27) rfl) ?_
    refine FL.v (E.assign (v:=v27) rfl) ?_
    refine FL.nil ?_
    refine FW.ret ?_
    obtain rfl:=Option.some.inj hp
    exact ⟨.inr rfl,res1 rfl rfl ⟨_,_,_,_,_,rfl,⟨(S97.selT (a:=[.box b0 63 [v85,Value.int .i64 r79.2.at_,Value.int .u64 r79.2.seed],.row 3 1 v27 n28 csA1]) (l':=[.row 3 1 v27 n28 csA1,.box b0 63 [v85,Value.int .i64 r79.2.at_,Value.int .u64 r79.2.seed]]) [1,0] (by decide) rfl),(((i26.tr i39).tr i76).tr i84)⟩,elsA0,h86⟩⟩
   ·
    refine FW.condF rfl c68 ?_
    refine FW.skip (FW.seq (FW.region ?_))
    refine FL.v (E.move (v:=v27) rfl) ?_
    refine FL.v (E.assign (v:=v27) rfl) ?_
    refine FL.nil ?_
    refine FW.ret ?_
    obtain rfl:=Option.some.inj hp
    exact ⟨.inr rfl,res1 rfl rfl ⟨_,_,_,_,_,rfl,⟨(S38.selT (a:=[.box b0 63 [v40,Value.int .i64 r33.2.at_,Value.int .u64 r33.2.seed],.row 3 1 v27 n28 cs29]) (l':=[.row 3 1 v27 n28 cs29,.box b0 63 [v40,Value.int .i64 r33.2.at_,Value.int .u64 r33.2.seed]]) [1,0] (by decide) rfl),(i26.tr i39)⟩,(els30.mono (zag i39)),h41⟩⟩
  ·
   refine FW.condF rfl c67 ?_
   refine FW.seq (FW.region ?_)
   refine FL.v (E.eql rfl rfl) ?_
   refine FL.v (E.assign (v:=Value.bool (r33.1 == 2)) rfl) ?_
   refine FL.nil ?_
   rcases ifB hp with ⟨cA3,hp⟩|⟨cA3,hp⟩
   ·
    refine FW.condT rfl cA3 ?_
    refine FW.seq (FW.region ?_)
    refine FL.v (E.move (v:=v27) rfl) ?_
    refine FL.v (E.lenO te34 rfl S38 (i:=1) rfl els30 (by decide)) ?_
    refine FL.v (E.gtr rfl rfl) ?_
    refine FL.nil ?_
    rcases ifB hp with ⟨cA4,hp⟩|⟨cA4,hp⟩
    ·
     refine FW.condT rfl cA4 ?_
     refine FW.seq (FW.region ?_)
     refine FL.v (E.move (v:=v27) rfl) ?_
     obtain ⟨xAb,hxAc,hp⟩:=bnd hp
     obtain ⟨pA5,csA6,ptA7,lA8,atA9,relAa⟩:=S38.row_at (i:=1) rfl els30 (by decide) hxAc
     obtain rfl:=zam relAa
     refine FL.v (E.indexAddr te34 rfl rfl ptA7) ?_
     refine FL.v (E.load rfl (zaf Tryz.isAgg3 atA9 rfl)) ?_
     refine FL.v (E.assign (v:=Value.int .i64 xAb) rfl) ?_
     refine FL.nil (FW.seq (FW.region ?_))
     refine FL.v (E.move (v:=v27) rfl) ?_
     refine FL.v (E.move (v:=v27) rfl) ?_
     obtain ⟨xAj,hxAk,hp⟩:=bnd hp
     obtain ⟨pAd,csAe,ptAf,lAg,atAh,relAi⟩:=S38.row_at (i:=1) rfl els30 (by decide) hxAk
     obtain rfl:=zam relAi
     refine FL.v (E.indexAddr te34 rfl rfl ptAf) ?_
     refine FL.v (E.load rfl (zaf Tryz.isAgg3 atAh rfl)) ?_
     obtain ⟨xAr,hxAs,hp⟩:=bnd hp
     obtain ⟨pAl,csAm,ptAn,lAo,atAp,relAq⟩:=S38.row_at (i:=1) rfl els30 (by decide) hxAs
     obtain rfl:=zam relAq
     refine FL.v (E.indexAddr te34 rfl rfl ptAn) ?_
     obtain ⟨xsAw,hputAx,hp⟩:=bnd hp
     obtain ⟨wAt,csAz,runAu,SAv,elsAy,ceAA⟩:=S38.putEls (P:=Tryz.prog) (t:=3) (i:=1) rfl (els30.mono (zag i39)) hputAx ptAn Tryz.sizeOf3 (u:=Value.int .i64 xAj) (c:=[Value.int .i64 xAj]) rfl rfl (zac rfl zad) rfl
     have SAv:St H0 w0 H36 wAt (.box b0 63 [v40,Value.int .i64 r33.2.at_,Value.int .u64 r33.2.seed]::.row 3 1 v27 n28 csAz::L):=SAv
     refine FL.act rfl rfl (E.store rfl rfl runAu) ?_
     refine FL.nil (FW.region ?_)
     refine FL.v (E.move (v:=v27) rfl) ?_
     refine FL.v (E.move (v:=Value.int .i64 xAb) rfl) ?_
     obtain ⟨xAH,hxAI,hp⟩:=bnd hp
     obtain ⟨pAB,csAC,ptAD,lAE,atAF,relAG⟩:=SAv.row_at (i:=1) rfl elsAy (by decide) hxAI
     obtain rfl:=zam relAG
     refine FL.v (E.indexAddr te34 rfl rfl ptAD) ?_
     obtain ⟨xsAM,hputAN,hp⟩:=bnd hp
     obtain ⟨wAJ,csAP,runAK,SAL,elsAO,ceAQ⟩:=SAv.putEls (P:=Tryz.prog) (t:=3) (i:=1) rfl elsAy hputAN ptAD Tryz.sizeOf3 (u:=Value.int .i64 xAb) (c:=[Value.int .i64 xAb]) rfl rfl (zac rfl zad) rfl
     have SAL:St H0 w0 H36 wAJ (.box b0 63 [v40,Value.int .i64 r33.2.at_,Value.int .u64 r33.2.seed]::.row 3 1 v27 n28 csAP::L):=SAL
     refine FL.act rfl rfl (E.store rfl rfl runAK) ?_
     refine FL.nil (FW.seq (FW.region ?_))
     refine FL.v (E.move (v:=v27) rfl) ?_
     refine FL.v (E.assign (v:=v27) rfl) ?_
     refine FL.nil ?_
     refine FW.ret ?_
     obtain rfl:=Option.some.inj hp
     exact ⟨.inr rfl,res1 rfl rfl ⟨_,_,_,_,_,rfl,⟨(SAL.selT (a:=[.box b0 63 [v40,Value.int .i64 r33.2.at_,Value.int .u64 r33.2.seed],.row 3 1 v27 n28 csAP]) (l':=[.row 3 1 v27 n28 csAP,.box b0 63 [v40,Value.int .i64 r33.2.at_,Value.int .u64 r33.2.seed]]) [1,0] (by decide) rfl),(i26.tr i39)⟩,elsAO,h41⟩⟩
    ·
     refine FW.condF rfl cA4 ?_
     refine FW.skip (FW.seq (FW.region ?_))
     refine FL.v (E.move (v:=v27) rfl) ?_
     refine FL.v (E.assign (v:=v27) rfl) ?_
     refine FL.nil ?_
     refine FW.ret ?_
     obtain rfl:=Option.some.inj hp
     exact ⟨.inr rfl,res1 rfl rfl ⟨_,_,_,_,_,rfl,⟨(S38.selT (a:=[.box b0 63 [v40,Value.int .i64 r33.2.at_,Value.int .u64 r33.2.seed],.row 3 1 v27 n28 cs29]) (l':=[.row 3 1 v27 n28 cs29,.box b0 63 [v40,Value.int .i64 r33.2.at_,Value.int .u64 r33.2.seed]]) [1,0] (by decide) rfl),(i26.tr i39)⟩,(els30.mono (zag i39)),h41⟩⟩
   ·
    refine FW.condF rfl cA3 ?_
    refine FW.skip (FW.seq (FW.region ?_))
    refine FL.v (E.move (v:=v27) rfl) ?_
    refine FL.v (E.assign (v:=v27) rfl) ?_
    refine FL.nil ?_
    refine FW.ret ?_
    obtain rfl:=Option.some.inj hp
    exact ⟨.inr rfl,res1 rfl rfl ⟨_,_,_,_,_,rfl,⟨(S38.selT (a:=[.box b0 63 [v40,Value.int .i64 r33.2.at_,Value.int .u64 r33.2.seed],.row 3 1 v27 n28 cs29]) (l':=[.row 3 1 v27 n28 cs29,.box b0 63 [v40,Value.int .i64 r33.2.at_,Value.int .u64 r33.2.seed]]) [1,0] (by decide) rfl),(i26.tr i39)⟩,(els30.mono (zag i39)),h41⟩⟩

end Go.Proofs
