/- Part of the walks and plain laws behind the claim: it proves helpers, under no condition beyond their own. -/
import Derived.Test.YtdkfkiifbagnnaaGreatMsLB
set_option linter.unusedVariables false
namespace Go.PF
open Go.Pu

structure Cnf where
  vars:Int
  clauses:List (List Int)
structure zad where
  left:List ByteArray
  right:List ByteArray
def okSequent (s:zad):Prop:=(okL okS) s.left∧(okL okS) s.right

structure zac where
  seq:zad
  rule:Int
  main:ByteArray
  a:Int
  b:Int
def okSeqStep (s:zac):Prop:=okSequent s.seq∧okI s.rule∧okS s.main∧okI s.a∧okI s.b

structure za8 where
  steps:List zac
  bad:Bool
structure formula where
  op:Int
  a:Fo
  b:Fo
  text:ByteArray
structure Gate where
  kind:Int
  a:Int
  b:Int
structure l23Search where
  steps:List zac
  open_:Bool
  bits:Int
  bad:Bool
structure seqSearch where
  steps:List zac
  open_:Option zad
structure l1Cur where
  code:List Int
  at_:Int
  seed:Int
structure FregeStep where
  formula:ByteArray
  rule:Int
  a:Int
  b:Int
def zcg (a0:List ByteArray) (a1:Int):Option Int :=
  (bif (decide ((wr (a1 - (len a0))) < 0)) then some (-1) else bdR (forL (S:=Int) (X:=Int) a0 (fun i23 y22 s23=>(bif (decide ((wr (s23 - (y22.size:Int))) < 0)) then some (Lp.rt (-1)) else some (Lp.nx (wr (s23 - (y22.size:Int)))))) (wr (a1 - (len a0)))) (fun s23=>some s23) (fun x23=>some x23))

def zcL (a0:zad) (a1:Int):Option Int :=
  bd (PF.zcg a0.left a1) (fun r29=>(bif (decide (r29 < 0)) then some (-1) else bd (PF.zcg a0.right r29) (fun r35=>(bif (decide (r35 < 0)) then some (-1) else some r35))))

def zb0 (a0:zac) (a1:Int):Option Int :=
  bd (PF.zcL a0.seq a1) (fun r29=>(bif (decide (r29 < 0)) then some (-1) else (bif (decide ((wr (r29 - (a0.main.size:Int))) < 0)) then some (-1) else some (wr (r29 - (a0.main.size:Int))))))

def zch (a0:List zac) (a1:Int):Option Int :=
  (bif (decide ((wr (a1 - (len a0))) < 0)) then some (-1) else bdR (forL (S:=Int) (X:=Int) a0 (fun i23 y22 s23=>bd (PF.zb0 y22 s23) (fun r66=>(bif (decide (r66 < 0)) then some (Lp.rt (-1)) else some (Lp.nx r66)))) (wr (a1 - (len a0)))) (fun s23=>some s23) (fun x23=>some x23))

def zci (a0:List ByteArray):Option (List ByteArray) :=
  bd (mk2 (ByteArray.empty:ByteArray) (len a0) (len a0)) (fun xs21=>bdR (forL (S:=(List ByteArray)) (X:=Empty) a0 (fun i32 y31 s32=>bd (ix s32 ((i32:Nat):Int)) (fun xAh=>bd (put s32 ((i32:Nat):Int) y31) (fun xsAm=>some (Lp.nx xsAm)))) xs21) (fun s32=>some s32) (fun x32=>nomatch x32))

def zcM (a0:zad):Option zad :=
  bd (PF.zci a0.left) (fun r37=>bd (PF.zci a0.right) (fun r50=>some (zad.mk r37 r50)))

def zcj (a0:zac):Option zac :=
  bd (PF.zcM a0.seq) (fun r37=>some (zac.mk r37 a0.rule a0.main a0.a a0.b))

def zbg (a0:List zac):Option (List zac) :=
  bd (mk2 ((zac.mk (zad.mk [] []) 0 ByteArray.empty 0 0):zac) (len a0) (len a0)) (fun xs21=>bdR (forL (S:=(List zac)) (X:=Empty) a0 (fun i33 y32 s33=>bd (PF.zcj y32) (fun rBb=>bd (ix s33 ((i33:Nat):Int)) (fun xBA=>bd (put s33 ((i33:Nat):Int) rBb) (fun xsBJ=>some (Lp.nx xsBJ))))) xs21) (fun s33=>some s33) (fun x33=>nomatch x33))

def za3 (a0:Int) (a1:Int) (a2:Int):Bool :=
  (bif (decide (a1≤a0)) then (decide (a0≤a2)) else false)

noncomputable def zcN (rec_spec_l22End:ByteArray→Int→Option Int) (a0:ByteArray) (a1:Int):Option Int :=
  (bif (decide ((a0.size:Int)≤a1)) then some (-1) else bd (ixS a0 a1) (fun z22=>bd (bif (z22 == 48) then some true else bd (ixS a0 a1) (fun z33=>some (z33 == 49))) (fun t26=>bd (bif t26 then some true else bd (ixS a0 a1) (fun z62=>bd (bif (decide (97≤z62)) then bd (ixS a0 a1) (fun z73=>some (decide (z73≤102))) else some false) (fun t66=>some t66))) (fun t55=>(bif t55 then some (wr (a1 + 1)) else bd (ixS a0 a1) (fun z83=>(bif (z83 == 126) then bd (rec_spec_l22End a0 (wr (a1 + 1))) (fun r86=>some r86) else bd (ixS a0 a1) (fun z91=>(bif (!(z91 == 40)) then some (-1) else bd (rec_spec_l22End a0 (wr (a1 + 1))) (fun r94=>bd (bif (bif (decide (r94 < 0)) then true else (decide ((a0.size:Int)≤r94))) then some true else bd (ixS a0 r94) (fun zAM=>bd (bif (!(zAM == 38)) then bd (ixS a0 r94) (fun zAX=>some (!(zAX == 124))) else some false) (fun t152=>bd (bif t152 then bd (ixS a0 r94) (fun zBc=>some (!(zBc == 62))) else some false) (fun t167=>some t167)))) (fun t141=>(bif t141 then some (-1) else bd (rec_spec_l22End a0 (wr (r94 + 1))) (fun rBm=>bd (bif (bif (decide (rBm < 0)) then true else (decide ((a0.size:Int)≤rBm))) then some true else bd (ixS a0 rBm) (fun zBK=>some (!(zBK == 41)))) (fun t201=>(bif t201 then some (-1) else some (wr (rBm + 1)))))))))))))))))
noncomputable def zck:Nat→ByteArray→Int→Option Int
  | 0=>fun _ _=>none
  | n + 1=>zcN (zck n)
noncomputable def zcO (a0:ByteArray) (a1:Int):Option Int:=zck deep a0 a1

noncomputable def zcl (a0:ByteArray):Option Bool :=
  bd (bif (bif (decide (0 < (a0.size:Int))) then (decide ((a0.size:Int)≤80)) else false) then bd (PF.zcO a0 0) (fun r42=>some (r42 == (a0.size:Int))) else some false) (fun t35=>some t35)

def zbv (a0:ByteArray) (a1:ByteArray):Bool :=
  (bif (!((a0.size:Int) == (a1.size:Int))) then (decide ((a0.size:Int) < (a1.size:Int))) else (ltS a0 a1))

noncomputable def zcm (a0:List ByteArray):Option Bool :=
  (bif (decide (12 < (len a0))) then some false else bdR (forL (S:=Unit) (X:=Bool) a0 (fun i23 y22 s23=>bd (PF.zcl y22) (fun rAK=>bd (bif (!rAK) then some true else bd (bif (decide (0 < ((i23:Nat):Int))) then bd (ix a0 (wr (((i23:Nat):Int) - 1))) (fun xBX=>some (!(PF.zbv xBX y22))) else some false) (fun t208=>some t208)) (fun t187=>(bif t187 then some (Lp.rt false) else some (Lp.nx ()))))) ()) (fun s23=>some true) (fun x23=>some x23))

noncomputable def zcn (a0:zad):Option Bool :=
  bd (PF.zcm a0.left) (fun r29=>bd (bif r29 then bd (PF.zcm a0.right) (fun r46=>some r46) else some false) (fun t39=>some t39))

def zbN (a0:List ByteArray) (a1:ByteArray):Option Bool :=
  bdR (forL (S:=Unit) (X:=Bool) a0 (fun i22 y21 s22=>(bif (y21.toList == a1.toList) then some (Lp.rt true) else some (Lp.nx ()))) ()) (fun s22=>some false) (fun x22=>some x22)

noncomputable def zco (a0:zad):Option Bool :=
  bdR (iter (S:=Int) (X:=Bool) (fun s29=>(bif (decide (s29 < (len a0.left))) then bd (ix a0.left s29) (fun x96=>bd (bif (x96.toList == (ByteArray.mk #[48]).toList) then some true else bd (ix a0.left s29) (fun xAl=>bd (PF.zbN a0.right xAl) (fun rAn=>some rAn))) (fun t108=>(bif t108 then some (Lp.rt true) else some (Lp.nx (wr (s29 + 1)))))) else some (Lp.bk s29))) 0) (fun s29=>bd (PF.zbN a0.right (ByteArray.mk #[49])) (fun rAD=>some rAD)) (fun x29=>some x29)

noncomputable def zb1 (a0:List zac) (a1:Int) (a2:Int):Option Bool :=
  bd (bif (PF.za3 a2 0 (wr (a1 - 1))) then bd (ix a0 a2) (fun x54=>bd (PF.zcn x54.seq) (fun r60=>some r60)) else some false) (fun t41=>some t41)

def zbO (a0:List ByteArray) (a1:List ByteArray):Option Bool :=
  bdR (forL (S:=Unit) (X:=Bool) a0 (fun i22 y21 s22=>bd (PF.zbN a1 y21) (fun r57=>(bif (!r57) then some (Lp.rt false) else some (Lp.nx ())))) ()) (fun s22=>some true) (fun x22=>some x22)

noncomputable def zb2 (a0:ByteArray):Option (Int×ByteArray×ByteArray) :=
  bd (ixS a0 0) (fun z21=>(bif (z21 == 126) then bd (cutS a0 1 (a0.size:Int)) (fun z25=>some (126,z25,(ByteArray.mk #[]))) else bd (ixS a0 0) (fun z30=>(bif (!(z30 == 40)) then bd (ixS a0 0) (fun z33=>some (z33,(ByteArray.mk #[]),(ByteArray.mk #[]))) else bd (PF.zcO a0 1) (fun r35=>bd (ixS a0 r35) (fun z41=>bd (cutS a0 1 r35) (fun z43=>bd (cutS a0 (wr (r35 + 1)) (wr ((a0.size:Int) - 1))) (fun z45=>some (z41,z43,z45)))))))))

noncomputable def zcP (a0:ByteArray) (a1:Bool):Option Int :=
  bd (PF.zb2 a0) (fun r21=>(bif (r21.1 == 126) then (bif (!a1) then some (wr (2 + 1)) else some 2) else (bif (r21.1 == 38) then (bif (!a1) then some (wr (4 + 1)) else some 4) else (bif (r21.1 == 124) then (bif (!a1) then some (wr (6 + 1)) else some 6) else (bif (r21.1 == 62) then (bif (!a1) then some (wr (8 + 1)) else some 8) else some 0)))))

def zb3 (a0:List ByteArray) (a1:ByteArray):Option (List ByteArray) :=
  bdR (forL (S:=(List ByteArray)) (X:=Empty) a0 (fun i27 y26 s27=>(bif (!(y26.toList == a1.toList)) then bd (app s27 [y26]) (fun xs97=>some (Lp.nx xs97)) else some (Lp.nx s27))) []) (fun s27=>some s27) (fun x27=>nomatch x27)

noncomputable def za4 (a0:List ByteArray) (a1:ByteArray):Option (List ByteArray) :=
  bdR (iter (S:=Int) (X:=Empty) (fun s21=>bd (bif (decide (s21 < (len a0))) then bd (ix a0 s21) (fun x96=>some (PF.zbv x96 a1)) else some false) (fun t83=>(bif t83 then some (Lp.nx (wr (s21 + 1))) else some (Lp.bk s21)))) 0) (fun s21=>bd (bif (decide (s21 < (len a0))) then bd (ix a0 s21) (fun xAA=>some (xAA.toList == a1.toList)) else some false) (fun t123=>(bif t123 then some a0 else bd (cut a0 0 s21) (fun xs12143=>bd (app [] xs12143) (fun xs15143=>bd (app xs15143 [a1]) (fun xs24143=>bd (cut a0 s21 (len a0)) (fun xs33143=>bd (app xs24143 xs33143) (fun xs36143=>some xs36143)))))))) (fun x21=>nomatch x21)

noncomputable def zaY (a0:List ByteArray) (a1:ByteArray):Option (List ByteArray) :=
  bd (app [] a0) (fun xs26=>bd (PF.za4 xs26 a1) (fun r41=>some r41))

noncomputable def zb4 (a0:zad) (a1:Int) (a2:ByteArray):Option (List zad) :=
  bd (PF.zb2 a2) (fun r29=>bd (PF.zb3 a0.left a2) (fun r12034=>bd (PF.zb3 a0.right a2) (fun r24034=>(bif (a1 == 2) then bd (PF.zaY a0.right r29.2.1) (fun r36056=>some [(zad.mk r12034 r36056)]) else (bif (a1 == 3) then bd (PF.zaY a0.left r29.2.1) (fun r36075=>some [(zad.mk r36075 r24034)]) else (bif (a1 == 4) then bd (β:=_) (bd (app [] r12034) (fun xs45130=>bd (PF.za4 xs45130 r29.2.1) (fun r45145=>some r45145)):Option (List ByteArray)) (fun s45122=>bd (PF.zaY s45122 r29.2.2) (fun r51094=>some [(zad.mk r51094 a0.right)])) else (bif (a1 == 5) then bd (β:=_) (bd (app [] r24034) (fun xs87142=>bd (PF.za4 xs87142 r29.2.1) (fun r87157=>some r87157)):Option (List ByteArray)) (fun s87134=>bd (β:=_) (bd (app [] r24034) (fun xs105142=>bd (PF.za4 xs105142 r29.2.2) (fun r105157=>some r105157)):Option (List ByteArray)) (fun s105134=>some [(zad.mk a0.left s87134),(zad.mk a0.left s105134)])) else (bif (a1 == 6) then bd (β:=_) (bd (app [] r12034) (fun xs129154=>bd (PF.za4 xs129154 r29.2.1) (fun r129169=>some r129169)):Option (List ByteArray)) (fun s129146=>bd (β:=_) (bd (app [] r12034) (fun xs147154=>bd (PF.za4 xs147154 r29.2.2) (fun r147169=>some r147169)):Option (List ByteArray)) (fun s147146=>some [(zad.mk s129146 a0.right),(zad.mk s147146 a0.right)])) else (bif (a1 == 7) then bd (β:=_) (bd (app [] r24034) (fun xs183166=>bd (PF.za4 xs183166 r29.2.1) (fun r183181=>some r183181)):Option (List ByteArray)) (fun s183158=>bd (PF.zaY s183158 r29.2.2) (fun r189130=>some [(zad.mk a0.left r189130)])) else (bif (a1 == 8) then bd (PF.zaY a0.right r29.2.1) (fun r219142=>bd (PF.zaY r12034 r29.2.2) (fun r231142=>some [(zad.mk r12034 r219142),(zad.mk r231142 a0.right)])) else (bif (a1 == 9) then bd (PF.zaY a0.left r29.2.1) (fun r252154=>bd (β:=_) (bd (app [] r24034) (fun xs252198=>bd (PF.za4 xs252198 r29.2.2) (fun r252213=>some r252213)):Option (List ByteArray)) (fun s252190=>some [(zad.mk r252154 s252190)])) else bd (PF.zaY a0.right a2) (fun r270231=>bd (PF.zaY a0.left a2) (fun r285231=>some [(zad.mk a0.left r270231),(zad.mk r285231 a0.right)])))))))))))))

noncomputable def zcp (a0:zad):Option ByteArray :=
  bdR (iter (S:=(ByteArray×Int)) (X:=Empty) (fun s29=>(bif (decide (s29.2 < (len a0.left))) then (bif (decide (0 < s29.2)) then bd (catS s29.1 (ByteArray.mk #[44,32])) (fun z72=>bd (ix a0.left s29.2) (fun x80=>bd (catS z72 x80) (fun z82=>some (Lp.nx (z82,(wr (s29.2 + 1))))))) else bd (ix a0.left s29.2) (fun x90=>bd (catS s29.1 x90) (fun z92=>some (Lp.nx (z92,(wr (s29.2 + 1))))))) else some (Lp.bk (s29.1,s29.2)))) ((ByteArray.mk #[]),0)) (fun s29=>bd (catS s29.1 (ByteArray.mk #[32,124,45,32])) (fun zA2=>bdR (iter (S:=(ByteArray×Int)) (X:=Empty) (fun sA4=>(bif (decide (sA4.2 < (len a0.right))) then (bif (decide (0 < sA4.2)) then bd (catS sA4.1 (ByteArray.mk #[44,32])) (fun zAL=>bd (ix a0.right sA4.2) (fun xAT=>bd (catS zAL xAT) (fun zAV=>some (Lp.nx (zAV,(wr (sA4.2 + 1))))))) else bd (ix a0.right sA4.2) (fun xB3=>bd (catS sA4.1 xB3) (fun zB5=>some (Lp.nx (zB5,(wr (sA4.2 + 1))))))) else some (Lp.bk (sA4.1,sA4.2)))) (zA2,0)) (fun sA4=>some sA4.1) (fun xA4=>nomatch xA4))) (fun x29=>nomatch x29)

noncomputable def zbP (a0:zad) (a1:zad):Option Bool :=
  bd (PF.zcp a0) (fun r38=>bd (PF.zcp a1) (fun r40=>some (r38.toList == r40.toList)))

noncomputable def zb5 (a0:List zac) (a1:Int):Option Bool :=
  bd (ix a0 a1) (fun x27=>bd (PF.zcn x27.seq) (fun r44=>(bif (bif (!r44) then true else (!(PF.za3 x27.rule 1 11))) then some false else (bif (x27.rule == 1) then bd (bif (bif (bif (x27.main.toList == (ByteArray.mk #[]).toList) then (x27.a == 0) else false) then (x27.b == 0) else false) then bd (PF.zco x27.seq) (fun r98=>some r98) else some false) (fun t91=>some t91) else bd (PF.zb1 a0 a1 x27.a) (fun rA4=>(bif (!rA4) then some false else (bif (x27.rule == 10) then bd (bif (bif (x27.main.toList == (ByteArray.mk #[]).toList) then (x27.b == 0) else false) then bd (ix a0 x27.a) (fun xAN=>bd (PF.zbO xAN.seq.left x27.seq.left) (fun rAT=>some rAT)) else some false) (fun t136=>bd (bif t136 then bd (ix a0 x27.a) (fun xBp=>bd (PF.zbO xBp.seq.right x27.seq.right) (fun rBv=>some rBv)) else some false) (fun t174=>some t174)) else bd (PF.zcl x27.main) (fun rBB=>(bif (!rBB) then some false else bdR (S:=Unit) (X:=Bool) ((bif (!(x27.rule == 11)) then bdR (S:=(List ByteArray)) (X:=Empty) ((bif ((x27.rule.tmod 2) == 0) then some (Rs.go x27.seq.left) else some (Rs.go x27.seq.right))) (fun sCp=>bd (PF.zcP x27.main ((x27.rule.tmod 2) == 0)) (fun rCG=>bd (bif (!(rCG == x27.rule)) then some true else bd (PF.zbN sCp x27.main) (fun rCR=>some (!rCR))) (fun t270=>(bif t270 then some (Rs.rt false) else some (Rs.go ()))))) (fun xCr=>nomatch xCr) else some (Rs.go ()))) (fun sCk=>bd (PF.zb4 x27.seq x27.rule x27.main) (fun rD9=>bd (ix rD9 0) (fun xDq=>bd (ix a0 x27.a) (fun xDC=>bd (PF.zbP xDq xDC.seq) (fun rDI=>(bif (!rDI) then some false else (bif ((len rD9) == 1) then some (x27.b == 0) else bd (PF.zb1 a0 a1 x27.b) (fun rDQ=>bd (bif rDQ then bd (ix rD9 1) (fun xEv=>bd (ix a0 x27.b) (fun xEH=>bd (PF.zbP xEv xEH.seq) (fun rEN=>some rEN))) else some false) (fun t366=>some t366))))))))) (fun xCm=>some xCm))))))))))

noncomputable def zdh (a0:List zac):Option Int :=
  bdR (forL (S:=Unit) (X:=Int) a0 (fun i22 y21 s22=>bd (PF.zb5 a0 ((i22:Nat):Int)) (fun r43=>(bif (!r43) then some (Lp.rt ((i22:Nat):Int)) else some (Lp.nx ())))) ()) (fun s22=>some (-1)) (fun x22=>some x22)

noncomputable def zbQ (a0:List zac):Option Bool :=
  bd (bif (PF.za3 (len a0) 1 200) then bd (PF.zdh a0) (fun r36=>some (decide (r36 < 0))) else some false) (fun t29=>some t29)

def zbw (a0:zad):Option zad :=
  bd (app [] a0.left) (fun xs12033=>bd (app [] a0.right) (fun xs24033=>some (zad.mk xs12033 xs24033)))

def zbm (a0:zac):(List Int) :=
  (bif (a0.rule == 1) then [] else (bif (a0.rule == 5) then [a0.a,a0.b] else (bif (a0.rule == 6) then [a0.a,a0.b] else (bif (a0.rule == 8) then [a0.a,a0.b] else (bif (a0.rule == 11) then [a0.a,a0.b] else [a0.a])))))

def zcQ (a0:List zac) (a1:List zac):Option (List zac) :=
  bdR (forL (S:=(List zac)) (X:=Empty) a0 (fun i27 y26 s27=>bd (PF.zbw y26.seq) (fun rAu=>bd (app s27 [(zac.mk rAu y26.rule y26.main y26.a y26.b)]) (fun xsB1=>some (Lp.nx xsB1)))) []) (fun s27=>bdR (forL (S:=(List zac)) (X:=Empty) a1 (fun iBn yBm sBn=>bd (PF.zbw yBm.seq) (fun rDL=>(bif (decide (0 < (len (PF.zbm (zac.mk rDL yBm.rule yBm.main yBm.a yBm.b))))) then (bif (decide (1 < (len (PF.zbm (zac.mk rDL yBm.rule yBm.main yBm.a yBm.b))))) then bd (app sBn [(zac.mk rDL yBm.rule yBm.main (wr (yBm.a + (len a0))) (wr (yBm.b + (len a0))))]) (fun xsEy=>some (Lp.nx xsEy)) else bd (app sBn [(zac.mk rDL yBm.rule yBm.main (wr (yBm.a + (len a0))) yBm.b)]) (fun xsER=>some (Lp.nx xsER))) else (bif (decide (1 < (len (PF.zbm (zac.mk rDL yBm.rule yBm.main yBm.a yBm.b))))) then bd (app sBn [(zac.mk rDL yBm.rule yBm.main yBm.a (wr (yBm.b + (len a0))))]) (fun xsFe=>some (Lp.nx xsFe)) else bd (app sBn [(zac.mk rDL yBm.rule yBm.main yBm.a yBm.b)]) (fun xsFx=>some (Lp.nx xsFx)))))) s27) (fun sBn=>some sBn) (fun xBn=>nomatch xBn)) (fun x27=>nomatch x27)

def zcR (a0:ByteArray) (a1:ByteArray) (a2:ByteArray):Option ByteArray :=
  bd (catS (ByteArray.mk #[40]) a1) (fun z21=>bd (catS z21 a0) (fun z23=>bd (catS z23 a2) (fun z25=>bd (catS z25 (ByteArray.mk #[41])) (fun z27=>some z27))))

noncomputable def zcS (a0:List zac) (a1:List ByteArray) (a2:Int) (a3:Int) (a4:ByteArray) (a5:ByteArray):Option (List zac) :=
  bd (PF.zcR (ByteArray.mk #[62]) a4 a5) (fun r21=>bd (PF.zaY a1 a4) (fun r26=>bd (PF.zb3 r26 r21) (fun r34=>bd (app [] a1) (fun xs54=>bd (β:=_) (bd (app [] [a5]) (fun xsAy=>bd (PF.za4 xsAy a4) (fun rAN=>some rAN)):Option (List ByteArray)) (fun sAq=>bd (app [] r26) (fun xsB5=>bd (PF.zaY [a5] r21) (fun rBf=>bd (app [] r34) (fun xsBs=>bd (PF.zaY [a5] a4) (fun rBC=>bd (β:=_) (bd (app [] r34) (fun xsCk=>bd (PF.za4 xsCk a5) (fun rCz=>some rCz)):Option (List ByteArray)) (fun sCc=>bd (PF.zaY r26 r21) (fun rCR=>bd (app [] r26) (fun xsD9=>bd (app [] a1) (fun xsDt=>bd (app a0 [(zac.mk (zad.mk xs54 sAq) 10 ByteArray.empty a2 0),(zac.mk (zad.mk xsB5 rBf) 10 ByteArray.empty a3 0),(zac.mk (zad.mk xsBs rBC) 1 ByteArray.empty 0 0),(zac.mk (zad.mk sCc [a5]) 1 ByteArray.empty 0 0),(zac.mk (zad.mk rCR [a5]) 8 r21 (wr ((len a0) + 2)) (wr ((len a0) + 3))),(zac.mk (zad.mk xsD9 [a5]) 11 r21 (wr ((len a0) + 1)) (wr ((len a0) + 4))),(zac.mk (zad.mk xsDt [a5]) 11 a4 (len a0) (wr ((len a0) + 5)))]) (fun xsEw=>some xsEw))))))))))))))

noncomputable def zcT (a0:List zac) (a1:List zac):Option ((List zac)×Bool) :=
  bd (PF.zbQ a0) (fun r21=>bd (bif (!r21) then some true else bd (PF.zbQ a1) (fun r38=>some (!r38))) (fun t31=>(bif t31 then some ([],false) else bd (ix a0 (wr ((len a0) - 1))) (fun x15058=>bd (ix a1 (wr ((len a1) - 1))) (fun x36058=>bd (some x15058.seq) (fun y60066=>bd (bif (!((len y60066.right) == 1)) then some true else bd (some x36058.seq) (fun y60093=>some (!((len y60093.right) == 1)))) (fun t60086=>bd (bif t60086 then some true else bd (some x36058.seq) (fun y60130=>bd (PF.zbO y60066.left y60130.left) (fun r60140=>some (!r60140)))) (fun t60123=>bd (bif t60123 then some true else bd (some x36058.seq) (fun y60172=>bd (PF.zbO y60172.left y60066.left) (fun r60182=>some (!r60182)))) (fun t60165=>(bif t60165 then some ([],false) else bd (some x36058.seq) (fun y60198=>bd (ix y60198.right 0) (fun x60214=>bd (PF.zb2 x60214) (fun r60216=>bd (bif (!(r60216.1 == 62)) then some true else bd (ix y60066.right 0) (fun x60242=>some (!(r60216.2.1.toList == x60242.toList)))) (fun t60229=>(bif t60229 then some ([],false) else bd (PF.zcQ a0 a1) (fun r69256=>bd (PF.zcS r69256 y60066.left (wr ((len a0) - 1)) (wr ((wr ((len a0) + (len a1))) - 1)) r60216.2.1 r60216.2.2) (fun r111256=>bd (β:=_) (bd (PF.zbQ r111256) (fun r114282=>(bif (!r114282) then some (false,[]) else some (true,r111256))):Option (Bool×(List zac))) (fun s114272=>some (s114272.2,s114272.1)))))))))))))))))))

def zbG (a0:Int) (a1:Int) (a2:Int):Bool :=
  (bif (decide (a1≤a0)) then (decide (a0≤a2)) else false)

def zbn (a0:Int):Bool :=
  (bif (decide (97≤a0)) then (decide (a0 < 103)) else false)

def zcU (a0:Int):Option Fo :=
  bd (chrS a0) (fun z21=>some (Fo.node a0 Fo.nil Fo.nil z21))

def zcq (a0:Fo):Option Fo :=
  bd (a0.get) (fun y21=>bd (catS (ByteArray.mk #[126]) y21.text) (fun z29=>some (Fo.node 126 a0 Fo.nil z29)))

def zcV (a0 a1:ByteArray):Option Bool:=hasS a0 a1

def zcW (a0:Int) (a1:Fo) (a2:Fo):Option Fo :=
  bd (a1.get) (fun y15021=>bd (catS (ByteArray.mk #[40]) y15021.text) (fun z24021=>bd (chrS a0) (fun z30021=>bd (catS z24021 z30021) (fun z33021=>bd (a2.get) (fun y39021=>bd (catS z33021 y39021.text) (fun z48021=>bd (catS z48021 (ByteArray.mk #[41])) (fun z51021=>some (Fo.node a0 a1 a2 z51021))))))))

noncomputable def zcX (rec_impl_parseFrom:ByteArray→Option (Fo×ByteArray×Bool)) (a0:ByteArray):Option (Fo×ByteArray×Bool) :=
  (bif (a0.toList == (ByteArray.mk #[]).toList) then some (Fo.nil,(ByteArray.mk #[]),false) else bd (ixS a0 0) (fun z23=>bd (cutS a0 1 (a0.size:Int)) (fun z25=>(bif (bif (bif (PF.zbn z23) then true else (z23 == 48)) then true else (z23 == 49)) then bd (PF.zcU z23) (fun r54=>some (r54,z25,true)) else (bif (z23 == 126) then bd (rec_impl_parseFrom z25) (fun r63=>(bif (!r63.2.2) then some (Fo.nil,(ByteArray.mk #[]),false) else bd (PF.zcq r63.1) (fun r72=>some (r72,r63.2.1,true)))) else (bif (!(z23 == 40)) then some (Fo.nil,(ByteArray.mk #[]),false) else bd (rec_impl_parseFrom z25) (fun r81=>bd (bif (bif (!r81.2.2) then true else (r81.2.1.toList == (ByteArray.mk #[]).toList)) then some true else bd (cutS r81.2.1 0 1) (fun zAd=>bd (PF.zcV (ByteArray.mk #[38,124,62]) zAd) (fun rAf=>some (!rAf)))) (fun t106=>(bif t106 then some (Fo.nil,(ByteArray.mk #[]),false) else bd (ixS r81.2.1 0) (fun zAo=>bd (cutS r81.2.1 1 (r81.2.1.size:Int)) (fun zAq=>bd (rec_impl_parseFrom zAq) (fun rAs=>bd (bif (bif (!rAs.2.2) then true else (rAs.2.1.toList == (ByteArray.mk #[]).toList)) then some true else bd (ixS rAs.2.1 0) (fun zAV=>some (!(zAV == 41)))) (fun t150=>(bif t150 then some (Fo.nil,(ByteArray.mk #[]),false) else bd (PF.zcW zAo r81.1 rAs.1) (fun r12165=>bd (cutS rAs.2.1 1 (rAs.2.1.size:Int)) (fun z18165=>some (r12165,z18165,true)))))))))))))))))
noncomputable def zbR:Nat→ByteArray→Option (Fo×ByteArray×Bool)
  | 0=>fun _=>none
  | n + 1=>zcX (zbR n)
noncomputable def zdD (a0:ByteArray):Option (Fo×ByteArray×Bool):=zbR deep a0

noncomputable def zbx (a0:ByteArray):Option (Fo×Bool) :=
  (bif (decide (80 < (a0.size:Int))) then some (Fo.nil,false) else bd (PF.zdD a0) (fun r22=>(bif (bif (!r22.2.2) then true else (!(r22.2.1.toList == (ByteArray.mk #[]).toList))) then some (Fo.nil,false) else some (r22.1,true))))

noncomputable def zcY (a0:ByteArray):Option Bool :=
  bd (PF.zbx a0) (fun r21=>some r21.2)

def zbc (a0:Int):Bool :=
  (!(a0 == a0))

def zbS (a0:Int) (a1:Int):Int :=
  (bif (PF.zbc a0) then (bif (PF.zbc a1) then 0 else (-1)) else (bif (PF.zbc a1) then 1 else (bif (decide (a0 < a1)) then (-1) else (bif (decide (a1 < a0)) then 1 else 0))))

def strings_Compare (a0 a1:ByteArray):Int:=cmpS a0 a1

def zdi (a0:List Int):Option Int :=
  bdR (forL (S:=Unit) (X:=Int) a0 (fun i22 y21 s22=>(bif (!(y21 == 0)) then some (Lp.rt y21) else some (Lp.nx ()))) ()) (fun s22=>some 0) (fun x22=>some x22)

def zby (a0:ByteArray) (a1:ByteArray):Option Int :=
  bd (PF.zdi [(PF.zbS (a0.size:Int) (a1.size:Int)),(PF.strings_Compare a0 a1)]) (fun r37=>some r37)

noncomputable def zcr (a0:List ByteArray):Option Bool :=
  bdR (forL (S:=Unit) (X:=Bool) a0 (fun i22 y21 s22=>bd (PF.zcY y21) (fun rAN=>bd (bif (!rAN) then some true else bd (bif (decide (0 < ((i22:Nat):Int))) then bd (ix a0 (wr (((i22:Nat):Int) - 1))) (fun xC2=>bd (PF.zby xC2 y21) (fun rC4=>some (decide (0≤rC4)))) else some false) (fun t213=>some t213)) (fun t193=>(bif t193 then some (Lp.rt false) else some (Lp.nx ()))))) ()) (fun s22=>some (decide ((len a0)≤12))) (fun x22=>some x22)

noncomputable def zaQ (a0:zad):Option Bool :=
  bd (PF.zcr a0.left) (fun r29=>bd (bif r29 then bd (PF.zcr a0.right) (fun r46=>some r46) else some false) (fun t39=>some t39))

def zcZ (a0:List ByteArray) (a1:ByteArray):Option Int :=
  bdR (forL (S:=Unit) (X:=Int) a0 (fun i22 y21 s22=>(bif (a1.toList == y21.toList) then some (Lp.rt ((i22:Nat):Int)) else some (Lp.nx ()))) ()) (fun s22=>some (-1)) (fun x22=>some x22)

def zbo (a0:List ByteArray) (a1:ByteArray):Option Bool :=
  bd (PF.zcZ a0 a1) (fun r21=>some (decide (0≤r21)))

def zcs (a0:List ByteArray) (a1:ByteArray→Option Bool):Option Int :=
  bdR (forL (S:=Unit) (X:=Int) a0 (fun i22 y21 s22=>bd (a1 y21) (fun r64=>(bif r64 then some (Lp.rt ((i22:Nat):Int)) else some (Lp.nx ())))) ()) (fun s22=>some (-1)) (fun x22=>some x22)

def zct (a0:List ByteArray) (a1:ByteArray→Option Bool):Option Bool :=
  bd (PF.zcs a0 a1) (fun r21=>some (decide (0≤r21)))

def zc0 (a0:ByteArray) (b0:zad):Option Bool :=
  bd (PF.zbo b0.right a0) (fun r21=>some r21)

def zcu (a0:zad):Option Bool :=
  bd (PF.zbo a0.left (ByteArray.mk #[48])) (fun r29=>bd (bif r29 then some true else bd (PF.zbo a0.right (ByteArray.mk #[49])) (fun r46=>some r46)) (fun t39=>bd (bif t39 then some true else bd (PF.zct a0.left (fun x0=>PF.zc0 x0 a0)) (fun r65=>some r65)) (fun t58=>some t58)))

noncomputable def zbz (a0:Int) (a1:zad→Option Bool) (b0:Int) (b1:List zac):Option Bool :=
  bd (bif (PF.zbG a0 0 (wr (b0 - 1))) then bd (ix b1 a0) (fun x54=>bd (PF.zaQ x54.seq) (fun r60=>some r60)) else some false) (fun t41=>bd (bif t41 then bd (ix b1 a0) (fun xA4=>bd (a1 xA4.seq) (fun rAa=>some rAa)) else some false) (fun t91=>some t91))

def zc1 (a0:ByteArray) (b0:List ByteArray):Option Bool :=
  bd (PF.zbo b0 a0) (fun r21=>some (!r21))

def zcv (a0:List ByteArray) (a1:List ByteArray):Option Bool :=
  bd (PF.zct a0 (fun x0=>PF.zc1 x0 a1)) (fun r29=>some (!r29))

def zbT (a0:zad) (b0:zac):Option Bool :=
  bd (PF.zcv a0.left b0.seq.left) (fun r29=>bd (bif r29 then bd (PF.zcv a0.right b0.seq.right) (fun r46=>some r46) else some false) (fun t39=>some t39))

def zdj (a1:Int):Option (List ByteArray):=if 0≤a1∧a1≤lim then some [] else none

def zc2 (a0:List (List ByteArray)):Option (List ByteArray) :=
  bdR (forL (S:=Int) (X:=Empty) a0 (fun i22 y21 s22=>(bif (decide ((wr (s22 + (len y21))) < 0)) then none else some (Lp.nx (wr (s22 + (len y21)))))) 0) (fun s22=>bd (PF.zdj s22) (fun r69=>bdR (forL (S:=(List ByteArray)) (X:=Empty) a0 (fun i80 y79 s80=>bd (app s80 y79) (fun xsAt=>some (Lp.nx xsAt))) r69) (fun s80=>some s80) (fun x80=>nomatch x80))) (fun x22=>nomatch x22)

noncomputable def zdk (a0:List ByteArray) (a1:ByteArray→ByteArray→Option Int):Option (List ByteArray):=sortF a1 a0

def zdE (a0:List ByteArray):Option (List ByteArray):=some (zax a0)

noncomputable def zaL (a0:List ByteArray) (a1:List ByteArray):Option (List ByteArray) :=
  bd (PF.zc2 [a0,a1]) (fun r31=>bd (PF.zdk r31 (fun x0 x1=>PF.zby x0 x1)) (fun r43=>bd (PF.zdE r43) (fun r51=>some r51)))

def zdZ (a0:zad):Unit :=
  ()

def zb6 (a0:List ByteArray) (a1:List ByteArray):Option Bool :=
  (bif (!((len a0) == (len a1))) then some false else bdR (forL (S:=Unit) (X:=Bool) a0 (fun i23 y22 s23=>bd (ix a1 ((i23:Nat):Int)) (fun x74=>(bif (!(y22.toList == x74.toList)) then some (Lp.rt false) else some (Lp.nx ())))) ()) (fun s23=>some true) (fun x23=>some x23))

def zcw (a0:zad) (a1:zad):Option Bool :=
  bd (PF.zb6 a0.left a1.left) (fun r37=>bd (bif r37 then bd (PF.zb6 a0.right a1.right) (fun r54=>some r54) else some false) (fun t47=>some t47))

def za5 (a0:zad) (b0:zad):Option Bool :=
  bd (PF.zcw b0 a0) (fun r29=>some r29)

def zbH (a0:Int) (a1:Bool):Int :=
  (bif (bif (mget (mput (mput (mput (mput ([]:List (Int×Int)) 126 2) 38 4) 124 6) 62 8) a0).isSome then (!a1) else false) then (wr (((mget (mput (mput (mput (mput ([]:List (Int×Int)) 126 2) 38 4) 124 6) 62 8) a0).getD 0) + 1)) else ((mget (mput (mput (mput (mput ([]:List (Int×Int)) 126 2) 38 4) 124 6) 62 8) a0).getD 0))

def zb7 (a0:List ByteArray):Option (List ByteArray) :=
  bd (app [] a0) (fun xs30=>some xs30)

noncomputable def zc3 (a0:List ByteArray) (a1:ByteArray→Option Bool):Option (List ByteArray) :=
  bd (PF.zcs a0 a1) (fun r26=>(bif (r26 == (-1)) then some a0 else bdR (iter (S:=((List ByteArray)×Int×Int)) (X:=Empty) (fun s32=>(bif (decide (s32.2.2 < (len s32.1))) then bd (ix s32.1 s32.2.2) (fun xAF=>bd (a1 xAF) (fun rAH=>(bif (!rAH) then bd (ix s32.1 s32.2.1) (fun xAY=>bd (put s32.1 s32.2.1 xAF) (fun xsB3=>some (Lp.nx (xsB3,(wr (s32.2.1 + 1)),(wr (s32.2.2 + 1)))))) else some (Lp.nx (s32.1,s32.2.1,(wr (s32.2.2 + 1))))))) else some (Lp.bk (s32.1,s32.2.1,s32.2.2)))) (a0,r26,(wr (r26 + 1)))) (fun s32=>bd (cut s32.1 s32.2.1 (len s32.1)) (fun xsBg=>bd (cut (clearL ByteArray.empty s32.1 s32.2.1) 0 s32.2.1) (fun xsBq=>some xsBq))) (fun x32=>nomatch x32)))

def zcx (a0:ByteArray) (b0:ByteArray):Bool :=
  (b0.toList == a0.toList)

noncomputable def zb8 (a0:List ByteArray) (a1:ByteArray):Option (List ByteArray) :=
  bd (PF.zb7 a0) (fun r29=>bd (PF.zc3 r29 (fun x0=>some (PF.zcx x0 a1))) (fun r39=>some r39))

noncomputable def zc4 (a0:zad) (a1:Int) (a2:Fo):Option (List zad) :=
  bd (a2.get) (fun y12029=>bd (PF.zb8 a0.left y12029.text) (fun r21029=>bd (PF.zb8 a0.right y12029.text) (fun r42029=>bd (a2.get) (fun y54051=>(bif (a1 == 2) then bd (y54051.a.get) (fun y69063=>bd (PF.zaL a0.right [y69063.text]) (fun r81068=>some [(zad.mk r21029 r81068)])) else (bif (a1 == 3) then bd (y54051.a.get) (fun y108076=>bd (PF.zaL a0.left [y108076.text]) (fun r120081=>some [(zad.mk r120081 r42029)])) else (bif (a1 == 4) then bd (y54051.a.get) (fun y147089=>bd (y54051.b.get) (fun y159089=>bd (PF.zaL r21029 [y147089.text,y159089.text]) (fun r171099=>some [(zad.mk r171099 a0.right)]))) else (bif (a1 == 5) then bd (y54051.a.get) (fun y207101=>bd (PF.zaL r42029 [y207101.text]) (fun r219111=>bd (y54051.b.get) (fun y237101=>bd (PF.zaL r42029 [y237101.text]) (fun r249111=>some [(zad.mk a0.left r219111),(zad.mk a0.left r249111)])))) else (bif (a1 == 6) then bd (y54051.a.get) (fun y273113=>bd (PF.zaL r21029 [y273113.text]) (fun r285123=>bd (y54051.b.get) (fun y303113=>bd (PF.zaL r21029 [y303113.text]) (fun r315123=>some [(zad.mk r285123 a0.right),(zad.mk r315123 a0.right)])))) else (bif (a1 == 7) then bd (y54051.a.get) (fun y351125=>bd (y54051.b.get) (fun y363125=>bd (PF.zaL r42029 [y351125.text,y363125.text]) (fun r375135=>some [(zad.mk a0.left r375135)]))) else (bif (a1 == 8) then bd (y54051.a.get) (fun y405137=>bd (PF.zaL a0.right [y405137.text]) (fun r417142=>bd (y54051.b.get) (fun y429137=>bd (PF.zaL r21029 [y429137.text]) (fun r441142=>some [(zad.mk r21029 r417142),(zad.mk r441142 a0.right)])))) else bd (y54051.a.get) (fun y474148=>bd (PF.zaL a0.left [y474148.text]) (fun r486153=>bd (y54051.b.get) (fun y495148=>bd (PF.zaL r42029 [y495148.text]) (fun r507158=>some [(zad.mk r486153 r507158)])))))))))))))))

noncomputable def zb9 (a0:List zac) (a1:Int):Option Bool :=
  bd (ix a0 a1) (fun x43=>bd (PF.zaQ x43.seq) (fun r60=>(bif (!r60) then some false else (bif (x43.rule == 1) then bd (bif (bif (bif (x43.main.toList == (ByteArray.mk #[]).toList) then (x43.a == 0) else false) then (x43.b == 0) else false) then bd (PF.zcu x43.seq) (fun r97=>some r97) else some false) (fun t90=>some t90) else (bif (x43.rule == 10) then bd (bif (bif (x43.main.toList == (ByteArray.mk #[]).toList) then (x43.b == 0) else false) then bd (PF.zbz x43.a (fun x0=>PF.zbT x0 x43) a1 a0) (fun rAq=>some rAq) else some false) (fun t119=>some t119) else bd (PF.zbx x43.main) (fun rAw=>(bif (!rAw.2) then some false else (bif (x43.rule == 11) then bd (PF.zaL x43.seq.right [x43.main]) (fun r42147=>bd (PF.zbz x43.a (fun x0=>PF.za5 x0 (zad.mk x43.seq.left r42147)) a1 a0) (fun r51142=>bd (bif r51142 then bd (PF.zaL x43.seq.left [x43.main]) (fun r87147=>bd (PF.zbz x43.b (fun x0=>PF.za5 x0 (zad.mk r87147 x43.seq.right)) a1 a0) (fun r105142=>some r105142)) else some false) (fun t141_35=>some t141_35))) else bd (rAw.1.get) (fun y117150=>bd (bif ((PF.zbH y117150.op true) == x43.rule) then bd (PF.zbo x43.seq.left x43.main) (fun r117167=>some r117167) else some false) (fun t117160=>bd (bif ((PF.zbH y117150.op false) == x43.rule) then bd (PF.zbo x43.seq.right x43.main) (fun r117187=>some r117187) else some false) (fun t117180=>(bif (bif (x43.rule == 0) then true else (bif (!t117160) then (!t117180) else false)) then some false else bd (PF.zc4 x43.seq x43.rule rAw.1) (fun r117237=>bd (ix r117237 0) (fun x135253=>bd (PF.zbz x43.a (fun x0=>PF.za5 x0 x135253) a1 a0) (fun r144247=>(bif (!r144247) then some false else (bif ((len r117237) == 1) then some (x43.b == 0) else bd (ix r117237 1) (fun x171266=>bd (PF.zbz x43.b (fun x0=>PF.za5 x0 x171266) a1 a0) (fun r180260=>some r180260)))))))))))))))))))

noncomputable def zdl (a0:List zac):Option Int :=
  bdR (forL (S:=Unit) (X:=Int) a0 (fun i22 y21 s22=>bd (PF.zb9 a0 ((i22:Nat):Int)) (fun r45=>(bif (!r45) then some (Lp.rt ((i22:Nat):Int)) else some (Lp.nx ())))) ()) (fun s22=>some (-1)) (fun x22=>some x22)

noncomputable def zca (a0:List zac):Option Bool :=
  bd (bif (PF.zbG (len a0) 1 200) then bd (PF.zdl a0) (fun r36=>some (decide (r36 < 0))) else some false) (fun t29=>some t29)

def zcy (a0:List zac):Option zac :=
  bd (ix a0 (wr ((len a0) - 1))) (fun x31=>some x31)

noncomputable def zdm (a0:zad) (a1:zad):Option Bool :=
  bd (PF.zb6 a0.left a1.left) (fun r37=>(bif (bif (bif (!r37) then true else (!((len a0.right) == 1))) then true else (!((len a1.right) == 1))) then some false else bd (ix a1.right 0) (fun x69=>bd (PF.zbx x69) (fun r71=>bd (r71.1.get) (fun y80=>bd (bif (y80.op == 62) then bd (y80.a.get) (fun yAb=>bd (ix a0.right 0) (fun xAp=>some (yAb.text.toList == xAp.toList))) else some false) (fun t104=>some t104))))))

def zbA (a0:zac):(List Int) :=
  (bif (a0.rule == 1) then [] else (bif (a0.rule == 5) then [a0.a,a0.b] else (bif (a0.rule == 6) then [a0.a,a0.b] else (bif (a0.rule == 8) then [a0.a,a0.b] else (bif (a0.rule == 11) then [a0.a,a0.b] else [a0.a])))))

def zaS (a0:zad):Option zad :=
  bd (PF.zb7 a0.left) (fun r9033=>bd (PF.zb7 a0.right) (fun r18033=>some (zad.mk r9033 r18033)))

noncomputable def zcz (a0:za8) (a1:List zac):Option (Int×za8) :=
  bdR (forL (S:=((List zac)×Bool)) (X:=Empty) a1 (fun i22 y21 s22=>(bif ((len (PF.zbA y21)) == 2) then bd (β:=_) (bd (PF.zaS y21.seq) (fun r273770=>bd (bif s22.2 then some true else bd (PF.zaQ r273770) (fun r273808=>some (!r273808))) (fun t273801=>bd (app s22.1 [(zac.mk r273770 y21.rule y21.main (wr (y21.a + (len a0.steps))) (wr (y21.b + (len a0.steps))))]) (fun xs297831=>some (xs297831,(bif t273801 then true else (decide (200≤(len s22.1)))),(wr ((len xs297831) - 1)))))):Option ((List zac)×Bool×Int)) (fun s273760=>some (Lp.nx (s273760.1,s273760.2.1))) else (bif ((len (PF.zbA y21)) == 1) then bd (β:=_) (bd (PF.zaS y21.seq) (fun r351938=>bd (bif s22.2 then some true else bd (PF.zaQ r351938) (fun r351976=>some (!r351976))) (fun t351969=>bd (app s22.1 [(zac.mk r351938 y21.rule y21.main (wr (y21.a + (len a0.steps))) y21.b)]) (fun xs375999=>some (xs375999,(bif t351969 then true else (decide (200≤(len s22.1)))),(wr ((len xs375999) - 1)))))):Option ((List zac)×Bool×Int)) (fun s351928=>some (Lp.nx (s351928.1,s351928.2.1))) else bd (β:=_) (bd (PF.zaS y21.seq) (fun r430102=>bd (bif s22.2 then some true else bd (PF.zaQ r430102) (fun r430140=>some (!r430140))) (fun t430133=>bd (app s22.1 [(zac.mk r430102 y21.rule y21.main y21.a y21.b)]) (fun xs454163=>some (xs454163,(bif t430133 then true else (decide (200≤(len s22.1)))),(wr ((len xs454163) - 1)))))):Option ((List zac)×Bool×Int)) (fun s430092=>some (Lp.nx (s430092.1,s430092.2.1)))))) (a0.steps,a0.bad)) (fun s22=>some ((wr ((len s22.1) - 1)),(za8.mk s22.1 s22.2))) (fun x22=>nomatch x22)

noncomputable def zc5 (a0:za8) (a1:Int) (a2:Int):Option (Int×za8) :=
  bd (ix a0.steps a1) (fun x28=>bd (ix a0.steps a1) (fun x40=>bd (ix a0.steps a2) (fun x52=>bd (ix x52.seq.right 0) (fun x67=>bd (PF.zbx x67) (fun r69=>bd (r69.1.get) (fun y77=>bd (y77.b.get) (fun y85=>bd (PF.zaL x28.seq.left x40.seq.right) (fun r98=>bd (PF.zb8 r98 y77.text) (fun rAd=>bd (PF.zaL x40.seq.right [y85.text]) (fun rAu=>bd (β:=_) (bd (PF.zaS (zad.mk x28.seq.left rAu)) (fun r39240=>bd (bif a0.bad then some true else bd (PF.zaQ r39240) (fun r39280=>some (!r39280))) (fun t39273=>bd (app a0.steps [(zac.mk r39240 10 ByteArray.empty a1 0)]) (fun xs63303=>some (xs63303,(bif t39273 then true else (decide (200≤(len a0.steps)))),(wr ((len xs63303) - 1)))))):Option ((List zac)×Bool×Int)) (fun s39225=>bd (PF.zaL x52.seq.right [y85.text]) (fun r78325=>bd (β:=_) (bd (PF.zaS (zad.mk r98 r78325)) (fun r117445=>bd (bif s39225.2.1 then some true else bd (PF.zaQ r117445) (fun r117485=>some (!r117485))) (fun t117478=>bd (app s39225.1 [(zac.mk r117445 10 ByteArray.empty a2 0)]) (fun xs141508=>some (xs141508,(bif t117478 then true else (decide (200≤(len s39225.1)))),(wr ((len xs141508) - 1)))))):Option ((List zac)×Bool×Int)) (fun s117425=>bd (PF.zaL [y85.text] x40.seq.right) (fun r156530=>bd (β:=_) (bd (PF.zaS (zad.mk rAd r156530)) (fun r195650=>bd (bif s117425.2.1 then some true else bd (PF.zaQ r195650) (fun r195690=>some (!r195690))) (fun t195683=>bd (app s117425.1 [(zac.mk r195650 1 ByteArray.empty 0 0)]) (fun xs219713=>some (xs219713,(bif t195683 then true else (decide (200≤(len s117425.1)))),(wr ((len xs219713) - 1)))))):Option ((List zac)×Bool×Int)) (fun s195630=>bd (PF.zaL rAd [y85.text]) (fun r234740=>bd (β:=_) (bd (PF.zaS (zad.mk r234740 [y85.text])) (fun r273860=>bd (bif s195630.2.1 then some true else bd (PF.zaQ r273860) (fun r273900=>some (!r273900))) (fun t273893=>bd (app s195630.1 [(zac.mk r273860 1 ByteArray.empty 0 0)]) (fun xs297923=>some (xs297923,(bif t273893 then true else (decide (200≤(len s195630.1)))),(wr ((len xs297923) - 1)))))):Option ((List zac)×Bool×Int)) (fun s273840=>bd (PF.zaL r98 [y77.text]) (fun r336950=>bd (β:=_) (bd (PF.zaS (zad.mk r336950 [y85.text])) (fun r406026=>bd (bif s273840.2.1 then some true else bd (PF.zaQ r406026) (fun r406064=>some (!r406064))) (fun t406057=>bd (app s273840.1 [(zac.mk r406026 8 y77.text s195630.2.2 s273840.2.2)]) (fun xs430087=>some (xs430087,(bif t406057 then true else (decide (200≤(len s273840.1)))),(wr ((len xs430087) - 1)))))):Option ((List zac)×Bool×Int)) (fun s406016=>bd (β:=_) (bd (PF.zaS (zad.mk r98 [y85.text])) (fun r415061=>bd (bif s406016.2.1 then some true else bd (PF.zaQ r415061) (fun r415101=>some (!r415101))) (fun t415094=>bd (app s406016.1 [(zac.mk r415061 11 y77.text s117425.2.2 s406016.2.2)]) (fun xs439124=>some (xs439124,(bif t415094 then true else (decide (200≤(len s406016.1)))),(wr ((len xs439124) - 1)))))):Option ((List zac)×Bool×Int)) (fun s415046=>bd (ix x40.seq.right 0) (fun x454147=>bd (β:=_) (bd (PF.zaS (zad.mk x28.seq.left [y85.text])) (fun r493235=>bd (bif s415046.2.1 then some true else bd (PF.zaQ r493235) (fun r493273=>some (!r493273))) (fun t493266=>bd (app s415046.1 [(zac.mk r493235 11 x454147 s39225.2.2 s415046.2.2)]) (fun xs517296=>some (xs517296,(bif t493266 then true else (decide (200≤(len s415046.1)))),(wr ((len xs517296) - 1)))))):Option ((List zac)×Bool×Int)) (fun s493225=>some (s493225.2.2,(za8.mk s493225.1 s493225.2.1))))))))))))))))))))))))

noncomputable def zcA (a0:List zac) (a1:List zac):Option ((List zac)×Bool) :=
  bd (PF.zca a0) (fun r21=>bd (bif (!r21) then some true else bd (PF.zca a1) (fun r38=>some (!r38))) (fun t31=>bd (bif t31 then some true else bd (PF.zcy a0) (fun r78=>bd (PF.zcy a1) (fun r88=>bd (PF.zdm r78.seq r88.seq) (fun r98=>some (!r98))))) (fun t71=>(bif t71 then some ([],false) else bd (PF.zcz (za8.mk [] false) a0) (fun rAd=>bd (PF.zcz rAd.2 a1) (fun rAp=>bd (PF.zc5 rAp.2 rAd.1 rAp.1) (fun rAC=>bd (β:=_) ((bif rAC.2.bad then some (false,[]) else some (true,rAC.2.steps)):Option (Bool×(List zac))) (fun sAQ=>some (sAQ.2,sAQ.1)))))))))

def zcB (a0:List ByteArray) (a1:List ByteArray):Option Bool :=
  (bif (!((len a0) == (len a1))) then some false else bdR (forL (S:=Unit) (X:=Bool) a0 (fun i23 y22 s23=>bd (ix a1 ((i23:Nat):Int)) (fun x72=>(bif (!(y22.toList == x72.toList)) then some (Lp.rt false) else some (Lp.nx ())))) ()) (fun s23=>some true) (fun x23=>some x23))

def zc6 (a0:zad) (a1:zad):Option Bool :=
  bd (PF.zcB a0.left a1.left) (fun r37=>(bif (!r37) then some false else bd (PF.zcB a0.right a1.right) (fun r43=>(bif (!r43) then some false else some true))))

def zcb (a0:zac) (a1:zac):Option Bool :=
  bd (PF.zc6 a0.seq a1.seq) (fun r37=>(bif (!r37) then some false else (bif (!(a0.rule == a1.rule)) then some false else (bif (!(a0.main.toList == a1.main.toList)) then some false else (bif (!(a0.a == a1.a)) then some false else (bif (!(a0.b == a1.b)) then some false else some true))))))

def zbI (a0:List zac) (a1:List zac):Option Bool :=
  (bif (!((len a0) == (len a1))) then some false else bdR (forL (S:=Unit) (X:=Bool) a0 (fun i23 y22 s23=>bd (ix a1 ((i23:Nat):Int)) (fun x86=>bd (PF.zcb y22 x86) (fun r92=>(bif (!r92) then some (Lp.rt false) else some (Lp.nx ()))))) ()) (fun s23=>some true) (fun x23=>some x23))

noncomputable def zcC (a0:Int):Option ByteArray :=
  (bif (decide (a0≤0)) then some (ByteArray.mk #[109,48]) else bdR (iter (S:=(Int×ByteArray)) (X:=Empty) (fun s22=>(bif (decide (0 < s22.1)) then bd (catS (zbk [(wrk false 8 (wr (48 + (s22.1.tmod 10))))]) s22.2) (fun z51=>some (Lp.nx ((wr (s22.1.tdiv 10)),z51))) else some (Lp.bk (s22.1,s22.2)))) (a0,(ByteArray.mk #[]))) (fun s22=>bd (catS (ByteArray.mk #[109]) s22.2) (fun z60=>some z60)) (fun x22=>nomatch x22))
noncomputable def zaG (a0:Int):ByteArray:=(PF.zcC a0).getD ByteArray.empty
theorem laws_markText_eq (a0:Int):PF.zcC a0=some (PF.zaG a0):=by
  have key:∃ r,PF.zcC a0=some r:=by
    unfold PF.zcC
    cases decide (a0≤0) with
    | true=>exact ⟨_,rfl⟩
    | false =>
      obtain ⟨r,h1,h2⟩:=mtx_some a0
      refine ⟨(ByteArray.mk #[109])++r.2,?_⟩
      show bdR (iter mtxB (a0,ByteArray.mk #[])) (fun s=>bd (catS (ByteArray.mk #[109]) s.2) (fun z=>some z)) (fun x=>nomatch x)=_
      rw [h1]
      show bd (catS (ByteArray.mk #[109]) r.2) (fun z=>some z)=_
      unfold catS
      rw [if_pos (by have:(ByteArray.mk #[109]).size=1:=rfl;omega)]
      rfl
  obtain ⟨r,h⟩:=key
  unfold PF.zaG
  rw [h];rfl

noncomputable def zah (a0:List ByteArray) (a1:Int):List ByteArray×Int :=
  zaC (fun y m=>((PF.zaG m),(wr (m + 1)))) a0 a1

noncomputable def zaz (a0:List zac) (a1:Int):List zac×Int :=
  zaC (fun y m=>((zac.mk (zad.mk ((PF.zah y.seq.left m).1) ((PF.zah y.seq.right ((PF.zah y.seq.left m).2)).1)) ((PF.zah y.seq.right ((PF.zah y.seq.left m).2)).2) (PF.zaG (wr ((PF.zah y.seq.right ((PF.zah y.seq.left m).2)).2 + 1))) (wr ((wr ((PF.zah y.seq.right ((PF.zah y.seq.left m).2)).2 + 1)) + 1)) (wr ((wr ((wr ((PF.zah y.seq.right ((PF.zah y.seq.left m).2)).2 + 1)) + 1)) + 1))),(wr ((wr ((wr ((wr ((PF.zah y.seq.right ((PF.zah y.seq.left m).2)).2 + 1)) + 1)) + 1)) + 1)))) a0 a1

noncomputable def zbU (a0:List ByteArray) (a1:Int):Option Int :=
  bdR (forL (S:=Int) (X:=Int) a0 (fun i22 y21 s22=>(bif (!(y21.toList == (PF.zaG s22).toList)) then some (Lp.rt (-1)) else some (Lp.nx (wr (s22 + 1))))) a1) (fun s22=>some s22) (fun x22=>some x22)

noncomputable def zcc (a0:List zac) (a1:Int):Option Int :=
  bdR (forL (S:=Int) (X:=Int) a0 (fun i22 y21 s22=>bd (PF.zbU y21.seq.left s22) (fun rAt=>(bif (decide (rAt < 0)) then some (Lp.rt (-1)) else bd (PF.zbU y21.seq.right rAt) (fun rAJ=>(bif (decide (rAJ < 0)) then some (Lp.rt (-1)) else (bif (!(y21.rule == rAJ)) then some (Lp.rt (-1)) else (bif (!(y21.main.toList == (PF.zaG (wr (rAJ + 1))).toList)) then some (Lp.rt (-1)) else (bif (!(y21.a == (wr ((wr (rAJ + 1)) + 1)))) then some (Lp.rt (-1)) else (bif (!(y21.b == (wr ((wr ((wr (rAJ + 1)) + 1)) + 1)))) then some (Lp.rt (-1)) else some (Lp.nx (wr ((wr ((wr ((wr (rAJ + 1)) + 1)) + 1)) + 1)))))))))))) a1) (fun s22=>some s22) (fun x22=>some x22)

noncomputable def zdn (a0:List zac) (a1:List zac):Option Bool :=
  bd (PF.zch a0 1048576) (fun r21=>(bif (decide (r21 < 0)) then some true else bd (PF.zch a1 r21) (fun r28=>(bif (decide (r28 < 0)) then some true else bd (PF.zbg a0) (fun r35=>bd (PF.zbg a1) (fun r54=>bd (PF.zcT r35 r54) (fun r73=>bd (PF.zbg a0) (fun r89=>bd (PF.zbg a1) (fun rA8=>bd (PF.zcA r89 rA8) (fun rAr=>bd (PF.zbI rAr.1 r73.1) (fun rAK=>(bif (bif (!rAK) then true else (!(rAr.2 == r73.2))) then some false else bd (PF.zbg a0) (fun rB7=>bd (PF.zbI r89 rB7) (fun rBq=>(bif (!rBq) then some false else bd (PF.zbg a1) (fun rBx=>bd (PF.zbI rA8 rBx) (fun rBQ=>(bif (!rBQ) then some false else bd (bif (decide ((PF.zaz rA8 ((PF.zaz r89 1).2)).2 < 0)) then some true else bd (PF.zbI rAr.1 r73.1) (fun rCC=>some (!rCC))) (fun t255=>(bif (bif t255 then true else (!(rAr.2 == r73.2))) then some false else bd (PF.zcc ((PF.zaz rAr.1 1).1) 1) (fun rDd=>(bif (decide (rDd < 0)) then some false else (bif (!(rDd == (PF.zaz rAr.1 1).2)) then some false else bd (PF.zbg a0) (fun rDl=>bd (PF.zbg a1) (fun rDE=>bd (PF.zcA rDl rDE) (fun rDX=>bd (PF.zbI rDX.1 r73.1) (fun rEg=>(bif (bif (!rEg) then true else (!(rDX.2 == r73.2))) then some false else bd (PF.zcc ((PF.zaz rAr.1 1).1) 1) (fun rEx=>(bif (decide (rEx < 0)) then some false else (bif (!(rEx == (PF.zaz rAr.1 1).2)) then some false else some true)))))))))))))))))))))))))))))))

end Go.PF
