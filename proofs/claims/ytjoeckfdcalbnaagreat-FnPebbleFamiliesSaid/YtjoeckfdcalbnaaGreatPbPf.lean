/- Part of the walks and plain laws behind the claim: it proves helpers, under no condition beyond their own. -/
import Derived.Test.YtjoeckfdcalbnaaGreatPbLB
set_option linter.unusedVariables false
namespace Go.PF
open Go.Pu

structure Cnf where
  vars:Int
  clauses:List (List Int)
def okCnf (s:Cnf):Prop:=okI s.vars∧(okL (okL okI)) s.clauses

structure zbc where
  all:List (List Int)
  rounds:List Int
  counts:List Int
  left:List (List Int)
structure zbd where
  f:Cnf
  w:Int
  all:List (List Int)
  is:List Bool
  rounds:List Int
structure l1Cur where
  code:List Int
  at_:Int
  seed:Int
structure za7 where
  masks:List Int
  rounds:List (Int×Int)
  last:Int
def zbu (a0:List Int):Option (List Int) :=
  bd (app [] a0) (fun xs30=>some xs30)

def zc6 (a0:List Int):Bool :=
  (decide (65536 < (len a0)))

def zct (a0:l1Cur):Option (Int×l1Cur) :=
  bdR (S:=Int) (X:=Empty) ((bif (decide (a0.at_ < (len a0.code))) then bd (ix a0.code a0.at_) (fun x49=>some (Rs.go (wrk true 64 x49))) else some (Rs.go 0))) (fun s38=>(bif (decide ((wr (a0.at_ + 1))≤(len a0.code))) then some (s38,(l1Cur.mk a0.code (wr (a0.at_ + 1)) (wrk false 64 ((wrk false 64 ((wrk false 64 (a0.seed * 6364136223846793005)) + (wrk false 64 s38))) + 337411)))) else some ((wrk true 64 (andK false 64 (shrK 64 (wrk false 64 ((wrk false 64 ((wrk false 64 (a0.seed * 6364136223846793005)) + (wrk false 64 s38))) + 337411)) 40) 255)),(l1Cur.mk a0.code (wr (a0.at_ + 1)) (wrk false 64 ((wrk false 64 ((wrk false 64 (a0.seed * 6364136223846793005)) + (wrk false 64 s38))) + 337411)))))) (fun x40=>nomatch x40)

def zaF (a0:l1Cur) (a1:Int):Option (Int×l1Cur) :=
  (bif (decide (a1≤1)) then some (0,a0) else bd (PF.zct a0) (fun r22=>(bif (decide (200 < a1)) then bd (PF.zct r22.2) (fun r31=>bd (nz a1) (fun u40=>some (((wr ((wr (r22.1 * 256)) + r31.1)).tmod a1),r31.2))) else bd (nz a1) (fun u42=>some ((r22.1.tmod a1),r22.2)))))

def za3 (a0:l1Cur) (a1:Int):Option (Bool×l1Cur) :=
  bd (PF.zaF a0 a1) (fun r21=>some ((r21.1 == 0),r21.2))

def zbv  : (List ByteArray) :=
  [(ByteArray.mk #[49,59,32,49,59,32,45,49]),(ByteArray.mk #[50,59,32,49,32,50,59,32,49,32,45,50,59,32,45,49,32,50,59,32,45,49,32,45,50]),(ByteArray.mk #[48,59,32,110,111,110,101]),(ByteArray.mk #[50,59,32,49,59,32,45,49,32,50,59,32,45,50]),(ByteArray.mk #[51,59,32,49,59,32,45,49,32,50,59,32,45,50,32,51,59,32,45,51]),(ByteArray.mk #[51,59,32,49,32,50,59,32,45,49,32,51,59,32,45,50,32,51,59,32,45,51]),(ByteArray.mk #[51,59,32,49,32,50,59,32,45,49,32,50,59,32,45,50,32,51,59,32,45,50,32,45,51]),(ByteArray.mk #[51,59,32,49,32,50,32,51,59,32,49,32,50,32,45,51,59,32,49,32,45,50,59,32,45,49,32,51,59,32,45,49,32,45,51]),(ByteArray.mk #[50,59,32,49,32,50,59,32,45,49,59,32,45,50,59,32,49,32,45,50]),(ByteArray.mk #[52,59,32,49,32,50,59,32,51,32,52,59,32,45,49,32,45,51,59,32,45,50,32,45,52,59,32,45,49,32,45,52,59,32,45,50,32,45,51]),(ByteArray.mk #[51,59,32,49,32,50,59,32,50,32,51,59,32,49,32,51,59,32,45,49,32,45,50,59,32,45,50,32,45,51,59,32,45,49,32,45,51]),(ByteArray.mk #[52,59,32,49,59,32,50,59,32,45,49,32,45,50,32,51,59,32,45,51,32,52,59,32,45,52]),(ByteArray.mk #[51,59,32,49,32,45,50,59,32,50,32,45,51,59,32,51,32,45,49,59,32,49,32,50,32,51,59,32,45,49,32,45,50,32,45,51]),(ByteArray.mk #[52,59,32,49,32,50,59,32,45,49,32,45,50,59,32,50,32,51,59,32,45,50,32,45,51,59,32,51,32,52,59,32,45,51,32,45,52,59,32,49,32,52,32,45,51,59,32,45,49,32,45,52,59,32,49,32,45,52,59,32,45,49,32,52]),(ByteArray.mk #[50,59,32,49,59,32,45,49,59,32,50])]

def zc7 (a0:l1Cur) (a1:List ByteArray):Option (ByteArray×l1Cur) :=
  bd (PF.zaF a0 (len a1)) (fun r21=>bd (ix a1 r21.1) (fun x35=>some (x35,r21.2)))

def zcu (a0:ByteArray) (a1:Int):Option (List ByteArray) :=
  bd (chk (a0.size:Int)) (fun m26=>bdR (forR (S:=((List ByteArray)×Int)) (X:=Empty) 0 m26 (fun i27 s27=>bd (ixS a0 ((i27:Nat):Int)) (fun z73=>(bif (z73 == a1) then bd (cutS a0 s27.2 ((i27:Nat):Int)) (fun z76=>bd (app s27.1 [z76]) (fun xs83=>some (Lp.nx (xs83,(wr (((i27:Nat):Int) + 1)))))) else some (Lp.nx (s27.1,s27.2))))) ([],0)) (fun s27=>bd (cutS a0 s27.2 (a0.size:Int)) (fun zA3=>bd (app s27.1 [zA3]) (fun xsAa=>some xsAa))) (fun x27=>nomatch x27))

def zaX (a0:Int) (a1:Int) (a2:Int):Bool :=
  (bif (decide (a1≤a0)) then (decide (a0≤a2)) else false)

def zbX (a0:Int):Option ByteArray:=numT a0

def zcv (a0:ByteArray):Option (Int×Bool) :=
  bd (bif (decide (1 < (a0.size:Int))) then bd (ixS a0 0) (fun z30=>some (z30 == 45)) else some false) (fun t23=>bdR (S:=ByteArray) (X:=Empty) ((bif t23 then bd (cutS a0 1 (a0.size:Int)) (fun z42=>some (Rs.go z42)) else some (Rs.go a0))) (fun s38=>(bif (!(PF.zaX (s38.size:Int) 1 6)) then some (0,false) else bd (chk (s38.size:Int)) (fun m55=>bdR (forR (S:=Int) (X:=(Int×Bool)) 0 m55 (fun i56 s56=>bd (ixS s38 ((i56:Nat):Int)) (fun z96=>bd (bif (decide (z96 < 48)) then some true else bd (ixS s38 ((i56:Nat):Int)) (fun zA7=>some (decide (57 < zA7)))) (fun t100=>(bif t100 then some (Lp.rt (0,false)) else bd (ixS s38 ((i56:Nat):Int)) (fun zAf=>some (Lp.nx (wr ((wr (10 * s56)) + (wrk true 64 (wrk false 8 (zAf - 48))))))))))) 0) (fun s56=>bdR (S:=Int) (X:=Empty) ((bif (decide ((s38.size:Int) < (a0.size:Int))) then some (Rs.go (wr (-s56))) else some (Rs.go s56))) (fun sAr=>bd (PF.zbX sAr) (fun rAC=>(bif (!(rAC.toList == a0.toList)) then some (0,false) else some (sAr,true)))) (fun xAt=>nomatch xAt)) (fun x56=>some x56)))) (fun x40=>nomatch x40))

def zaK (a0:Int):Bool :=
  (PF.zaX a0 0 12)

def za8 (a0:Int) (a1:Int):Bool :=
  (bif (PF.zaX a1 (wr (-a0)) a0) then (!(a1 == 0)) else false)

def zaY (a0:Int):Int :=
  (bif (decide (a0 < 0)) then (wr (-a0)) else a0)

def zbG (a0:Int) (a1:List Int):Option Bool :=
  (bif (!(PF.zaK a0)) then some false else bdR (forL (S:=Unit) (X:=Bool) a1 (fun i26 y25 s26=>bd (bif (!(PF.za8 a0 y25)) then some true else bd (bif (decide (0 < ((i26:Nat):Int))) then bd (ix a1 (wr (((i26:Nat):Int) - 1))) (fun xC2=>some (decide ((PF.zaY y25)≤(PF.zaY xC2)))) else some false) (fun t213=>some t213)) (fun t192=>(bif t192 then some (Lp.rt false) else some (Lp.nx ())))) ()) (fun s26=>some true) (fun x26=>some x26))

def zcw (a0:List Int):Option ByteArray :=
  (bif ((len a0) == 0) then some (ByteArray.mk #[110,111,110,101]) else bd (ix a0 0) (fun x28=>bd (PF.zbX x28) (fun r30=>bdR (forR (S:=ByteArray) (X:=Empty) 1 a0.length (fun i35 s35=>bd (catS s35 (ByteArray.mk #[32])) (fun z69=>bd (ix a0 ((i35:Nat):Int)) (fun x77=>bd (PF.zbX x77) (fun r79=>bd (catS z69 r79) (fun z84=>some (Lp.nx z84)))))) r30) (fun s35=>some s35) (fun x35=>nomatch x35))))

noncomputable def zc8 (a0:Int) (a1:ByteArray):Option ((List Int)×Bool) :=
  (bif (a1.toList == (ByteArray.mk #[110,111,110,101]).toList) then some ([],(PF.zaK a0)) else bd (PF.zcu a1 32) (fun r30=>bdR (iter (S:=((List Int)×Int)) (X:=((List Int)×Bool)) (fun s40=>(bif (bif (decide (s40.2 < (len r30))) then (decide (s40.2≤12)) else false) then bd (ix r30 s40.2) (fun xAy=>bd (PF.zcv xAy) (fun rAA=>(bif (!rAA.2) then some (Lp.rt ([],false)) else bd (app s40.1 [rAA.1]) (fun xsAQ=>some (Lp.nx (xsAQ,(wr (s40.2 + 1)))))))) else some (Lp.bk (s40.1,s40.2)))) ([],0)) (fun s40=>bd (bif (decide (12 < (len r30))) then some true else bd (PF.zbG a0 s40.1) (fun rBx=>some (!rBx))) (fun t183=>bd (bif t183 then some true else bd (PF.zcw s40.1) (fun rC1=>some (!(rC1.toList == a1.toList)))) (fun t213=>(bif t213 then some ([],false) else some (s40.1,true))))) (fun x40=>some x40)))

noncomputable def zc9 (a0:Cnf):Option ByteArray :=
  bd (PF.zbX a0.vars) (fun r29=>bdR (iter (S:=(ByteArray×Int)) (X:=Empty) (fun s34=>(bif (decide (s34.2 < (len a0.clauses))) then bd (catS s34.1 (ByteArray.mk #[59,32])) (fun z72=>bd (ix a0.clauses s34.2) (fun x80=>bd (PF.zcw x80) (fun r84=>bd (catS z72 r84) (fun z89=>some (Lp.nx (z89,(wr (s34.2 + 1)))))))) else some (Lp.bk (s34.1,s34.2)))) (r29,0)) (fun s34=>some s34.1) (fun x34=>nomatch x34))

noncomputable def zda (a0:ByteArray):Option (Cnf×Bool) :=
  bd (PF.zcu a0 59) (fun r25=>bd (ix r25 0) (fun x41=>bd (PF.zcv x41) (fun r43=>(bif (bif (bif (!r43.2) then true else (!(PF.zaK r43.1))) then true else (decide (61 < (len r25)))) then some ((Cnf.mk 0 []),false) else bdR (iter (S:=((List (List Int))×Int)) (X:=(Cnf×Bool)) (fun s94=>(bif (decide (s94.2 < (len r25))) then bd (ix r25 s94.2) (fun xFB=>bd (bif (decide ((xFB.size:Int) < 2)) then some true else bd (ix r25 s94.2) (fun xG0=>bd (ixS xG0 0) (fun zG2=>some (!(zG2 == 32))))) (fun t459=>(bif t459 then some (Lp.rt ((Cnf.mk 0 []),false)) else bd (ix r25 s94.2) (fun xGl=>bd (cutS xGl 1 (xGl.size:Int)) (fun zGn=>bd (PF.zc8 r43.1 zGn) (fun rGp=>(bif (!rGp.2) then some (Lp.rt ((Cnf.mk 0 []),false)) else bd (app s94.1 [rGp.1]) (fun xsGO=>some (Lp.nx (xsGO,(wr (s94.2 + 1)))))))))))) else some (Lp.bk (s94.1,s94.2)))) ([],1)) (fun s94=>bd (PF.zc9 (Cnf.mk r43.1 s94.1)) (fun rHi=>(bif (!(rHi.toList == a0.toList)) then some ((Cnf.mk 0 []),false) else some ((Cnf.mk r43.1 s94.1),true)))) (fun x94=>some x94)))))

noncomputable def zbY (a0:ByteArray):Option Cnf :=
  bd (PF.zda a0) (fun r25=>some r25.1)

noncomputable def zcx (a0:Cnf):Option Bool :=
  (bif (bif (!(PF.zaK a0.vars)) then true else (decide (60 < (len a0.clauses)))) then some false else bdR (iter (S:=Int) (X:=Bool) (fun s42=>(bif (decide (s42 < (len a0.clauses))) then bd (ix a0.clauses s42) (fun x83=>bd (PF.zbG a0.vars x83) (fun r87=>(bif (!r87) then some (Lp.rt false) else some (Lp.nx (wr (s42 + 1)))))) else some (Lp.bk s42))) 0) (fun s42=>some true) (fun x42=>some x42))

def zdb (a0:List Int) (a1:Int):Option Bool :=
  bdR (forL (S:=Unit) (X:=Bool) a0 (fun i22 y21 s22=>(bif (y21 == a1) then some (Lp.rt true) else some (Lp.nx ()))) ()) (fun s22=>some false) (fun x22=>some x22)

def zaZ (a0:List Int) (a1:Int):Option Bool :=
  bd (PF.zdb a0 a1) (fun r21=>some r21)

def zbw (a0:List Int):Option (List Int) :=
  bd (app [] a0) (fun xs26=>some xs26)

noncomputable def zbn (a0:List Int) (a1:Int):Option (List Int) :=
  bdR (iter (S:=Int) (X:=Empty) (fun s21=>bd (bif (decide (s21 < (len a0))) then bd (ix a0 s21) (fun xA5=>some (decide ((PF.zaY xA5) < (PF.zaY a1)))) else some false) (fun t92=>(bif t92 then some (Lp.nx (wr (s21 + 1))) else some (Lp.bk s21)))) 0) (fun s21=>bd (cut a0 0 s21) (fun xs9127=>bd (PF.zbw xs9127) (fun r12127=>bd (app r12127 [a1]) (fun xs21127=>bd (cut a0 s21 (len a0)) (fun xs30127=>bd (app xs21127 xs30127) (fun xs33127=>some xs33127)))))) (fun x21=>nomatch x21)

noncomputable def zdc (a0:Cnf) (a1:List Int):Option (Cnf×Bool) :=
  bd (PF.zcx a0) (fun r33=>(bif (bif (!r33) then true else (!((len a1) == a0.vars))) then some ((Cnf.mk 0 []),false) else bdR (forL (S:=Unit) (X:=(Cnf×Bool)) a1 (fun i54 y53 s54=>bd (bif (!(PF.za8 a0.vars y53)) then some true else bd (cut a1 0 ((i54:Nat):Int)) (fun xsBs=>bd (PF.zaZ xsBs y53) (fun rBD=>some rBD))) (fun t183=>bd (bif t183 then some true else bd (cut a1 0 ((i54:Nat):Int)) (fun xsC4=>bd (PF.zaZ xsC4 (wr (-y53))) (fun rCf=>some rCf))) (fun t221=>(bif t221 then some (Lp.rt ((Cnf.mk 0 []),false)) else some (Lp.nx ()))))) ()) (fun s54=>bdR (iter (S:=((List (List Int))×Int)) (X:=Empty) (fun sCO=>(bif (decide (sCO.2 < (len a0.clauses))) then bdR (iter (S:=((List Int)×Int)) (X:=Empty) (fun sPf=>bd (ix a0.clauses sCO.2) (fun xSu=>(bif (decide (sPf.2 < (len xSu))) then bd (ix a0.clauses sCO.2) (fun xSF=>bd (ix xSF sPf.2) (fun xSP=>bd (ix a1 (wr ((PF.zaY xSP) - 1))) (fun xT0=>(bif (decide (xSP < 0)) then bd (PF.zbn sPf.1 (wr (-xT0))) (fun rT8=>some (Lp.nx (rT8,(wr (sPf.2 + 1))))) else bd (PF.zbn sPf.1 xT0) (fun rTp=>some (Lp.nx (rTp,(wr (sPf.2 + 1))))))))) else some (Lp.bk (sPf.1,sPf.2))))) ([],0)) (fun sPf=>bd (app sCO.1 [sPf.1]) (fun xsTY=>some (Lp.nx (xsTY,(wr (sCO.2 + 1)))))) (fun xPf=>nomatch xPf) else some (Lp.bk (sCO.1,sCO.2)))) ([],0)) (fun sCO=>some ((Cnf.mk a0.vars sCO.1),true)) (fun xCO=>nomatch xCO)) (fun x54=>some x54)))

def zaN (a0:l1Cur) (a1:List Int):Option (Int×l1Cur) :=
  bd (PF.zaF a0 (len a1)) (fun r21=>bd (ix a1 r21.1) (fun x35=>some (x35,r21.2)))

def zcy (a0:List Int) (a1:Int):Option (List Int) :=
  bdR (forL (S:=(List Int)) (X:=Empty) a0 (fun i27 y26 s27=>(bif (!((PF.zaY y26) == a1)) then bd (app s27 [y26]) (fun xsA3=>some (Lp.nx xsA3)) else some (Lp.nx s27))) []) (fun s27=>some s27) (fun x27=>nomatch x27)

noncomputable def zbH (a0:l1Cur) (a1:Int):Option ((List Int)×l1Cur) :=
  bd (PF.zaN a0 [1,2,2,3,3,4,0,2]) (fun r36=>bdR (iter (S:=((List Int)×Int×Int×(List Int)×Int)) (X:=Empty) (fun s45=>(bif (bif (decide (0 < s45.2.2.2.2)) then (decide (0 < a1)) else false) then bd (PF.zaF (l1Cur.mk s45.1 s45.2.1 s45.2.2.1) a1) (fun rCA=>bd (PF.zcy s45.2.2.2.1 (wr (1 + rCA.1))) (fun rCN=>bd (PF.za3 rCA.2 2) (fun rCZ=>(bif rCZ.1 then bd (PF.zbn rCN (wr (-(wr (1 + rCA.1))))) (fun rDe=>some (Lp.nx (rCZ.2.code,rCZ.2.at_,rCZ.2.seed,rDe,(wr (s45.2.2.2.2 - 1))))) else bd (PF.zbn rCN (wr (1 + rCA.1))) (fun rDv=>some (Lp.nx (rCZ.2.code,rCZ.2.at_,rCZ.2.seed,rDv,(wr (s45.2.2.2.2 - 1))))))))) else some (Lp.bk (s45.1,s45.2.1,s45.2.2.1,s45.2.2.2.1,s45.2.2.2.2)))) (r36.2.code,r36.2.at_,r36.2.seed,[],r36.1)) (fun s45=>some (s45.2.2.2.1,(l1Cur.mk s45.1 s45.2.1 s45.2.2.1))) (fun x45=>nomatch x45))

noncomputable def zcz (a0:l1Cur):Option (Cnf×l1Cur) :=
  bd (PF.zc7 a0 PF.zbv) (fun r38 => bd (PF.zbY r38.1) (fun r47 => bdR (iter (S := ((List Int) × (List Int) × Int × Int × Int)) (X := Empty) (fun s71 => (bif (decide (s71.2.2.2.2 ≤ r47.vars)) then bd (PF.za3 (l1Cur.mk s71.2.1 s71.2.2.1 s71.2.2.2.1) 4) (fun rBB => (bif rBB.1 then bd (app s71.1 [(wr (-s71.2.2.2.2))]) (fun xsBQ => some (Lp.nx (xsBQ, rBB.2.code, rBB.2.at_, rBB.2.seed, (wr (s71.2.2.2.2 + 1))))) else bd (app s71.1 [s71.2.2.2.2]) (fun xsC6 => some (Lp.nx (xsC6, rBB.2.code, rBB.2.at_, rBB.2.seed, (wr (s71.2.2.2.2 + 1))))))) else some (Lp.bk (s71.1, s71.2.1, s71.2.2.1, s71.2.2.2.1, s71.2.2.2.2)))) ([], r38.2.code, r38.2.at_, r38.2.seed, 1)) (fun s71 => bd (PF.zdc r47 s71.1) (fun rCw => bd (PF.zaF (l1Cur.mk s71.2.1 s71.2.2.1 s71.2.2.2.1) 3) (fun rCN => bdR (iter (S := ((List (List Int)) × (List Int) × Int × Int × Int)) (X := Empty) (fun sCW => (bif (bif (decide (0 < sCW.2.2.2.2)) then (decide (0 < rCw.1.vars)) else false) then bd (PF.zbH (l1Cur.mk sCW.2.1 sCW.2.2.1 sCW.2.2.2.1) rCw.1.vars) (fun r126433=>bd (app sCW.1 [r126433.1]) (fun xs132433=>some (Lp.nx (xs132433,r126433.2.code,r126433.2.at_,r126433.2.seed,(wr (sCW.2.2.2.2 - 1)))))) else some (Lp.bk (sCW.1,sCW.2.1,sCW.2.2.1,sCW.2.2.2.1,sCW.2.2.2.2)))) (rCw.1.clauses,rCN.2.code,rCN.2.at_,rCN.2.seed,rCN.1)) (fun sCW=>some ((Cnf.mk rCw.1.vars sCW.1),(l1Cur.mk sCW.2.1 sCW.2.2.1 sCW.2.2.2.1))) (fun xCW=>nomatch xCW)))) (fun x71=>nomatch x71)))

def zcA (a0:l1Cur) (a1:Int):Option (Int×l1Cur) :=
  bd (bif (decide (a1 < 1)) then some (a0.code,a0.at_,a0.seed,true) else bd (PF.za3 a0 40) (fun r33=>some (r33.2.code,r33.2.at_,r33.2.seed,r33.1))) (fun t29=>(bif t29.2.2.2 then bd (PF.zaN (l1Cur.mk t29.1 t29.2.1 t29.2.2.1) [0,(wr (a1 + 1)),(wr ((wr (-a1)) - 1))]) (fun r60=>some (r60.1,r60.2)) else bd (PF.zaF (l1Cur.mk t29.1 t29.2.1 t29.2.2.1) a1) (fun r68=>bd (PF.za3 r68.2 2) (fun r76=>(bif r76.1 then some ((wr (-(wr (1 + r68.1)))),r76.2) else some ((wr (1 + r68.1)),r76.2))))))

noncomputable def zdd (a0:l1Cur) (a1:Int):Option ((List Int)×l1Cur) :=
  bd (PF.zbH a0 a1) (fun r21=>bd (PF.zaF r21.2 32) (fun r33=>(bif (r33.1 == 0) then bd (PF.zcA r33.2 a1) (fun r43=>bd (app r21.1 [r43.1]) (fun xs56=>some (xs56,r43.2))) else (bif (r33.1 == 1) then (bif (decide (0 < (len r21.1))) then bd (PF.zaN r33.2 [0,(wr (a1 + 1)),(wr ((wr (-a1)) - 1)),(-9223372036854775808)]) (fun r79=>bd (ix r21.1 0) (fun x93=>bd (put r21.1 0 r79.1) (fun xs98=>some (xs98,r79.2)))) else some (r21.1,r33.2)) else (bif (r33.1 == 2) then (bif (decide (1 < (len r21.1))) then bd (ix r21.1 0) (fun xAb=>bd (ix r21.1 1) (fun xAj=>bd (ix r21.1 0) (fun xAr=>bd (put r21.1 0 xAj) (fun xsAw=>bd (ix xsAw 1) (fun xAH=>bd (put xsAw 1 xAb) (fun xsAM=>some (xsAM,r33.2))))))) else some (r21.1,r33.2)) else some (r21.1,r33.2))))))

noncomputable def zde (a0:l1Cur):Option (Cnf×l1Cur) :=
  bd (PF.za3 a0 4) (fun r25=>(bif r25.1 then bd (PF.zcz r25.2) (fun r35=>some (r35.1,r35.2)) else bd (PF.zaN r25.2 [2,3,3,4,5]) (fun r58=>bd (PF.zaF r58.2 10) (fun r78=>bdR (iter (S:=((List (List Int))×(List Int)×Int×Int×Int)) (X:=Empty) (fun s87=>(bif (decide (0 < s87.2.2.2.2)) then bd (PF.zbH (l1Cur.mk s87.2.1 s87.2.2.1 s87.2.2.2.1) r58.1) (fun r126190=>bd (app s87.1 [r126190.1]) (fun xs132190=>some (Lp.nx (xs132190,r126190.2.code,r126190.2.at_,r126190.2.seed,(wr (s87.2.2.2.2 - 1)))))) else some (Lp.bk (s87.1,s87.2.1,s87.2.2.1,s87.2.2.2.1,s87.2.2.2.2)))) ([],r78.2.code,r78.2.at_,r78.2.seed,r78.1)) (fun s87=>bd (PF.zaF (l1Cur.mk s87.2.1 s87.2.2.1 s87.2.2.2.1) 40) (fun r144216=>(bif (r144216.1 == 0) then bd (PF.zaN r144216.2 [(-1),13,12,0,1]) (fun r144235=>some ((Cnf.mk r144235.1 s87.1),r144235.2)) else (bif (r144216.1 == 1) then bd (PF.zdd r144216.2 r58.1) (fun r162256=>bd (app s87.1 [r162256.1]) (fun xs168256=>some ((Cnf.mk r58.1 xs168256),r162256.2))) else (bif (r144216.1 == 2) then bdR (iter (S:=((List (List Int))×(List Int)×Int×Int)) (X:=Empty) (fun s180281=>bd (PF.zaF (l1Cur.mk s180281.2.1 s180281.2.2.1 s180281.2.2.2) 2) (fun r276457=>(bif (decide ((len s180281.1) < (wr (60 + r276457.1)))) then bd (app s180281.1 [[1]]) (fun xs288486=>some (Lp.nx (xs288486,r276457.2.code,r276457.2.at_,r276457.2.seed))) else some (Lp.bk (s180281.1,r276457.2.code,r276457.2.at_,r276457.2.seed))))) (s87.1,r144216.2.code,r144216.2.at_,r144216.2.seed)) (fun s180281=>some ((Cnf.mk r58.1 s180281.1),(l1Cur.mk s180281.2.1 s180281.2.2.1 s180281.2.2.2))) (fun x180281=>nomatch x180281) else (bif (r144216.1 == 3) then bd (PF.zbH r144216.2 r58.1) (fun r306519=>bd (app s87.1 [r306519.1,[]]) (fun xs315519=>some ((Cnf.mk r58.1 xs315519),r306519.2))) else some ((Cnf.mk r58.1 s87.1),r144216.2))))))) (fun x87=>nomatch x87)))))

noncomputable def zbx (a0:l1Cur):Option (Cnf×Int×l1Cur) :=
  bd (PF.zde a0) (fun r25=>bd (PF.za3 r25.2 2) (fun r43=>bdR (S:=((List Int)×Int×Int×Int×(List (List Int)))) (X:=Empty) ((bif r43.1 then bd (PF.zcz r43.2) (fun r74=>some (Rs.go (r74.2.code,r74.2.at_,r74.2.seed,r74.1.vars,r74.1.clauses))) else some (Rs.go (r43.2.code,r43.2.at_,r43.2.seed,r25.1.vars,r25.1.clauses)))) (fun s66=>bd (PF.za3 (l1Cur.mk s66.1 s66.2.1 s66.2.2.1) 24) (fun r95=>bdR (S:=((List Int)×Int×Int×Int)) (X:=Empty) ((bif r95.1 then bd (PF.zaN r95.2 [6,7]) (fun rAF=>some (Rs.go (rAF.2.code,rAF.2.at_,rAF.2.seed,rAF.1))) else some (Rs.go (r95.2.code,r95.2.at_,r95.2.seed,s66.2.2.2.1)))) (fun sAp=>bd (PF.zaF (l1Cur.mk sAp.1 sAp.2.1 sAp.2.2.1) 24) (fun r15160=>bd (cut [1,1,2,2,0,3,4,6,7,(-1)] 0 (wr (7 + (wr (r15160.1.tdiv 8))))) (fun xs24160=>bd (PF.zaN r15160.2 xs24160) (fun r27160=>some ((Cnf.mk sAp.2.2.2 s66.2.2.2.2),r27160.1,r27160.2))))) (fun xAr=>nomatch xAr))) (fun x68=>nomatch x68)))

noncomputable def zdP (a0:List Int):Option (Cnf×Int) :=
  bd (PF.zbx (l1Cur.mk a0 0 0)) (fun r29=>some (r29.1,r29.2.1))

noncomputable def zdf (a0:List Int):Option (Cnf×Int) :=
  bd (PF.zdP a0) (fun r25=>some (r25.1,r25.2))

def zbe (a0:Int) (a1:Int) (a2:Int):Bool :=
  (bif (decide (a1≤a0)) then (decide (a0≤a2)) else false)

def zbI (a0:Int) (a1:Int):Bool :=
  (bif (!(a1 == 0)) then (PF.zbe a1 (wr (-a0)) a0) else false)

def zaA (a0:Int):Int :=
  (mx a0 (wr (-a0)))

def zbo (a0:Int):Bool :=
  (PF.zbe a0 0 12)

def zbZ (a0:Int) (a1:List Int):Option Bool :=
  bdR (forL (S:=Unit) (X:=Bool) a1 (fun i22 y21 s22=>bd (bif (!(PF.zbI a0 y21)) then some true else bd (bif (decide (0 < ((i22:Nat):Int))) then bd (ix a1 (wr (((i22:Nat):Int) - 1))) (fun xBu=>some (decide ((PF.zaA y21)≤(PF.zaA xBu)))) else some false) (fun t179=>some t179)) (fun t164=>(bif t164 then some (Lp.rt false) else some (Lp.nx ())))) ()) (fun s22=>some (PF.zbo a0)) (fun x22=>some x22)

def zdg (a0:Cnf):Option Bool :=
  bdR (forL (S:=Unit) (X:=Bool) a0.clauses (fun i30 y29 s30=>bd (PF.zbZ a0.vars y29) (fun r71=>(bif (!r71) then some (Lp.rt false) else some (Lp.nx ())))) ()) (fun s30=>some (bif (PF.zbo a0.vars) then (decide ((len a0.clauses)≤60)) else false)) (fun x30=>some x30)

def zbf (a0:Cnf) (a1:Int):Option Bool :=
  bd (PF.zdg a0) (fun r29=>some (bif (bif r29 then (decide (a0.vars≤6)) else false) then (PF.zbe a1 0 6) else false))

def zbJ (a0:List (List Int)) (a1:(List Int)→Option Bool):Option Int :=
  bdR (forL (S:=Unit) (X:=Int) a0 (fun i22 y21 s22=>bd (a1 y21) (fun r68=>(bif r68 then some (Lp.rt ((i22:Nat):Int)) else some (Lp.nx ())))) ()) (fun s22=>some (-1)) (fun x22=>some x22)

def zcB (a0:List (List Int)) (a1:(List Int)→Option Bool):Option Bool :=
  bd (PF.zbJ a0 a1) (fun r21=>some (decide (0≤r21)))

def zdh (a0:List Int) (a1:Int):Option Int :=
  bdR (forL (S:=Unit) (X:=Int) a0 (fun i22 y21 s22=>(bif (a1 == y21) then some (Lp.rt ((i22:Nat):Int)) else some (Lp.nx ()))) ()) (fun s22=>some (-1)) (fun x22=>some x22)

def zbp (a0:List Int) (a1:Int):Option Bool :=
  bd (PF.zdh a0 a1) (fun r21=>some (decide (0≤r21)))

def zcC (a0:List Int) (a1:List Int):Option Int :=
  bdR (forL (S:=Int) (X:=Int) a0 (fun i22 y21 s22=>bd (PF.zbp a1 y21) (fun r67=>(bif r67 then some (Lp.rt 1) else bd (PF.zbp a1 (wr (-y21))) (fun r73=>(bif (!r73) then some (Lp.nx 0) else some (Lp.nx s22)))))) (-1)) (fun s22=>some s22) (fun x22=>some x22)

def zcD (a0:List Int) (b0:Int) (b1:List Int):Option Bool :=
  bd (bif (decide ((len a0)≤b0)) then bd (PF.zcC a0 b1) (fun r33=>some (decide (r33 < 0))) else some false) (fun t26=>some t26)

def zcE (a0:Cnf) (a1:Int) (a2:List Int):Option Bool :=
  bd (bif (decide ((len a2)≤(wr (a1 + 1)))) then bd (PF.zcB a0.clauses (fun x0=>PF.zcD x0 a1 a2)) (fun r57=>some (!r57)) else some false) (fun t50=>some t50)

noncomputable def zdi (a0:List (List Int)) (a1:(List Int)→(List Int)→Option Int):Option (List (List Int)):=sortF a1 a0

def za4 (a0:Int):Bool :=
  (!(a0 == a0))

def zaO (a0:Int) (a1:Int):Int :=
  (bif (PF.za4 a0) then (bif (PF.za4 a1) then 0 else (-1)) else (bif (PF.za4 a1) then 1 else (bif (decide (a0 < a1)) then (-1) else (bif (decide (a1 < a0)) then 1 else 0))))

def zdj (a0:List Int) (a1:List Int) (a2:Int→Int→Option Int):Option Int :=
  bdR (forL (S:=Unit) (X:=Int) a0 (fun i22 y21 s22=>(bif (decide ((len a1)≤((i22:Nat):Int))) then some (Lp.rt 1) else bd (ix a1 ((i22:Nat):Int)) (fun x84=>bd (a2 y21 x84) (fun r86=>(bif (!(r86 == 0)) then some (Lp.rt r86) else some (Lp.nx ())))))) ()) (fun s22=>(bif (decide ((len a0) < (len a1))) then some (-1) else some 0)) (fun x22=>some x22)

def zcF (a0:List Int):Option Int :=
  bdR (forL (S:=Unit) (X:=Int) a0 (fun i22 y21 s22=>(bif (!(y21 == 0)) then some (Lp.rt y21) else some (Lp.nx ()))) ()) (fun s22=>some 0) (fun x22=>some x22)

def zbK (a0:Int) (a1:Int):Option Int :=
  bd (PF.zcF [(PF.zaO (PF.zaA a0) (PF.zaA a1)),(PF.zaO a1 a0)]) (fun r43=>some r43)

def zaQ (a0:List Int) (a1:List Int):Option Int :=
  bd (PF.zdj a0 a1 (fun x0 x1=>PF.zbK x0 x1)) (fun r24=>bd (PF.zcF [(PF.zaO (len a0) (len a1)),r24]) (fun r39=>some r39))

noncomputable def zb0 (a0:Cnf) (a1:Int) (c0:List Int) (s0:(List (List Int))):Option ((List (List Int))) :=
  bd (PF.zcE a0 a1 c0) (fun rBI=>(bif rBI then bd (app s0 [c0]) (fun xsBT=>some xsBT) else some s0))

noncomputable def zbL (a0:Cnf) (a1:Int):Option (List (List Int)) :=
  (bif (bif (decide (a0.vars < 0)) then true else (decide (1000 < a0.vars))) then none else bd (foldO (PF.zb0 a0 a1) ([]::visL a0.vars.toNat 1 []) []) (fun s44=>bd (PF.zdi s44 (fun x0 x1=>PF.zaQ x0 x1)) (fun rCj=>some rCj)))

def zbq (a0:Int):Option Int :=
  bd (chk a0) (fun m21=>bdR (forR (S:=Int) (X:=Empty) 0 m21 (fun i22 s22=>some (Lp.nx (wr (s22 * 3)))) 1) (fun s22=>some s22) (fun x22=>nomatch x22))

def za0 (a0:List Int):Option Int :=
  bdR (forL (S:=Int) (X:=Empty) a0 (fun i22 y21 s22=>(bif (decide (0 < y21)) then bd (PF.zbq (wr (y21 - 1))) (fun r65=>some (Lp.nx (wr (s22 + (wr (2 * r65)))))) else bd (PF.zbq (wr ((wr (-y21)) - 1))) (fun r70=>some (Lp.nx (wr (s22 + r70)))))) 0) (fun s22=>some s22) (fun x22=>nomatch x22)

def zcG (a0:Cnf) (a1:List (List Int)):Option (List Bool) :=
  bd (PF.zbq a0.vars) (fun r29=>bd (mk2 (false:Bool) r29 r29) (fun xs34=>bdR (forL (S:=(List Bool)) (X:=Empty) a1 (fun i45 y44 s45=>bd (PF.za0 y44) (fun rAH=>bd (ix s45 rAH) (fun xAS=>bd (put s45 rAH true) (fun xsAX=>some (Lp.nx xsAX))))) xs34) (fun s45=>some s45) (fun x45=>nomatch x45)))

def zek (a0:List Int) (a1:Int) (a2:Int):Option (List Int):=delL a0 a1 a2

def zdk (a0:List Int) (a1:Int):Option (List Int) :=
  bd (PF.zbu a0) (fun r21=>bd (PF.zek r21 a1 (wr (a1 + 1))) (fun r31=>some r31))

noncomputable def zcH (a0:Int):Option (List Int) :=
  bdR (iter (S:=((List Int)×Int)) (X:=Empty) (fun s22=>(bif (decide (s22.2≤a0)) then bd (app s22.1 [s22.2]) (fun xs66=>some (Lp.nx (xs66,(wr (s22.2 + 1))))) else some (Lp.bk (s22.1,s22.2)))) ([],1)) (fun s22=>some s22.1) (fun x22=>nomatch x22)

def zdl (a0:List Int) (a1:Int→Option Bool):Option Int :=
  bdR (forL (S:=Unit) (X:=Int) a0 (fun i22 y21 s22=>bd (a1 y21) (fun r64=>(bif r64 then some (Lp.rt ((i22:Nat):Int)) else some (Lp.nx ())))) ()) (fun s22=>some (-1)) (fun x22=>some x22)

noncomputable def zdm (a0:List Int) (a1:Int→Option Bool):Option (List Int) :=
  bd (PF.zdl a0 a1) (fun r26=>(bif (r26 == (-1)) then some a0 else bdR (iter (S:=((List Int)×Int×Int)) (X:=Empty) (fun s32=>(bif (decide (s32.2.2 < (len s32.1))) then bd (ix s32.1 s32.2.2) (fun xAF=>bd (a1 xAF) (fun rAH=>(bif (!rAH) then bd (ix s32.1 s32.2.1) (fun xAY=>bd (put s32.1 s32.2.1 xAF) (fun xsB3=>some (Lp.nx (xsB3,(wr (s32.2.1 + 1)),(wr (s32.2.2 + 1)))))) else some (Lp.nx (s32.1,s32.2.1,(wr (s32.2.2 + 1))))))) else some (Lp.bk (s32.1,s32.2.1,s32.2.2)))) (a0,r26,(wr (r26 + 1)))) (fun s32=>bd (cut s32.1 s32.2.1 (len s32.1)) (fun xsBg=>bd (cut (clearL 0 s32.1 s32.2.1) 0 s32.2.1) (fun xsBq=>some xsBq))) (fun x32=>nomatch x32)))

def zdQ (a0:List Int) (a1:List Int):Option Int :=
  bdR (forL (S:=Unit) (X:=Int) a0 (fun i22 y21 s22=>bd (PF.zbp a1 y21) (fun r82=>bd (bif (!r82) then bd (PF.zbp a1 (wr (-y21))) (fun r99=>some (!r99)) else some false) (fun t92=>(bif t92 then some (Lp.rt y21) else some (Lp.nx ()))))) ()) (fun s22=>some 0) (fun x22=>some x22)

def zcI (a0:Int) (b0:List Int):Option Bool :=
  bd (PF.zdQ [a0] b0) (fun r31=>some (r31 == 0))

noncomputable def zdn (a0:Int) (a1:List Int):Option (List Int) :=
  bd (PF.zcH a0) (fun r29=>bd (PF.zdm r29 (fun x0=>PF.zcI x0 a1)) (fun r39=>some r39))

noncomputable def zbM (a0:Cnf) (a1:Int) (a2:List Bool) (a3:List Int):Option Bool :=
  bdR (forL (S:=Unit) (X:=Bool) a3 (fun i30 y29 s30=>bd (PF.zdk a3 ((i30:Nat):Int)) (fun r82=>bd (PF.za0 r82) (fun r97=>bd (ix a2 r97) (fun xA8=>(bif (!xA8) then some (Lp.rt false) else some (Lp.nx ())))))) ()) (fun s30=>(bif (decide (a1 < (len a3))) then some true else bd (PF.zdn a0.vars a3) (fun rAm=>bd (chk (len rAm)) (fun m132=>bdR (forR (S:=Unit) (X:=Bool) 0 m132 (fun iAx sAx=>bd (ix rAm ((iAx:Nat):Int)) (fun xCc=>bd (PF.za0 a3) (fun rCe=>bd (PF.zbq (wr (xCc - 1))) (fun rCj=>bd (ix a2 (wr (rCe + rCj))) (fun xCu=>bd (bif (!xCu) then bd (PF.za0 a3) (fun rCV=>bd (PF.zbq (wr (xCc - 1))) (fun rD0=>bd (ix a2 (wr (rCV + (wr (2 * rD0))))) (fun xDb=>some (!xDb)))) else some false) (fun t274=>(bif t274 then some (Lp.rt false) else some (Lp.nx ())))))))) ()) (fun sAx=>some true) (fun xAx=>some xAx))))) (fun x30=>some x30)

noncomputable def zbN (a0:Cnf) (a1:Int):Option (Option zbd) :=
  bd (PF.zbL a0 a1) (fun r15029=>bd (PF.zcG a0 r15029) (fun r51047=>bd (mk2 (0:Int) (len r51047) (len r51047)) (fun xs66066=>bdR (iter (S:=((List Int)×(List Bool)×Int)) (X:=(Option zbd)) (fun s66079=>bdR (forL (S:=(List Int)) (X:=Empty) r15029 (fun i256073 y256072 s256073=>bd (PF.za0 y256072) (fun r337179=>bd (ix s66079.2.1 r337179) (fun x340185=>bd (bif x340185 then bd (PF.zbM a0 a1 s66079.2.1 y256072) (fun r370184=>some (!r370184)) else some false) (fun t319178_18=>(bif t319178_18 then bd (PF.za0 y256072) (fun r382196=>bd (app s256073 [r382196]) (fun xs382206=>some (Lp.nx xs382206))) else some (Lp.nx s256073)))))) []) (fun s256073=>(bif ((len s256073) == 0) then some (Lp.rt (some (zbd.mk a0 a1 r15029 s66079.2.1 s66079.1))) else bd (chk (len s256073)) (fun m382243=>bdR (forR (S:=((List Int)×(List Bool))) (X:=Empty) 0 m382243 (fun i382244 s382244=>bd (ix s256073 ((i382244:Nat):Int)) (fun x382439=>bd (ix s382244.2 x382439) (fun x382447=>bd (put s382244.2 x382439 false) (fun xs382452=>bd (ix s382244.1 x382439) (fun x382463=>bd (put s382244.1 x382439 s66079.2.2) (fun xs382468=>some (Lp.nx (xs382468,xs382452)))))))) (s66079.1,s66079.2.1)) (fun s382244=>some (Lp.nx (s382244.1,s382244.2,(wr (s66079.2.2 + 1))))) (fun x382244=>nomatch x382244)))) (fun x256073=>nomatch x256073)) (xs66066,r51047,1)) (fun s66079=>none) (fun x66079=>some x66079))))

def zcJ (a0:List (List Int)):Option (List (List Int)) :=
  bdR (forL (S:=(List (List Int))) (X:=Empty) a0 (fun i22 y21 s22=>bd (PF.zbu y21) (fun r95=>bd (app s22 [r95]) (fun xsAg=>some (Lp.nx xsAg)))) []) (fun s22=>some s22) (fun x22=>nomatch x22)

noncomputable def zdo (a0:List (List Int)) (a1:(List Int)→Option Bool):Option (List (List Int)) :=
  bd (PF.zbJ a0 a1) (fun r26=>(bif (r26 == (-1)) then some a0 else bdR (iter (S:=((List (List Int))×Int×Int)) (X:=Empty) (fun s32=>(bif (decide (s32.2.2 < (len s32.1))) then bd (ix s32.1 s32.2.2) (fun xAN=>bd (a1 xAN) (fun rAR=>(bif (!rAR) then bd (ix s32.1 s32.2.1) (fun xB8=>bd (put s32.1 s32.2.1 xAN) (fun xsBf=>some (Lp.nx (xsBf,(wr (s32.2.1 + 1)),(wr (s32.2.2 + 1)))))) else some (Lp.nx (s32.1,s32.2.1,(wr (s32.2.2 + 1))))))) else some (Lp.bk (s32.1,s32.2.1,s32.2.2)))) (a0,r26,(wr (r26 + 1)))) (fun s32=>bd (cut s32.1 s32.2.1 (len s32.1)) (fun xsBs=>bd (cut (clearL [] s32.1 s32.2.1) 0 s32.2.1) (fun xsBC=>some xsBC))) (fun x32=>nomatch x32)))

def zdp (a0:List Int) (b0:zbd):Option Bool :=
  bd (PF.za0 a0) (fun r22=>bd (ix b0.is r22) (fun x30=>some (!x30)))

noncomputable def zcK (a0:zbd):Option (List (List Int)) :=
  bd (PF.zcJ a0.all) (fun r29=>bd (PF.zdo r29 (fun x0=>PF.zdp x0 a0)) (fun r41=>some r41))

noncomputable def zb1 (a0:Cnf) (a1:Int):Option ((List (List Int))×Bool) :=
  bd (PF.zbf a0 a1) (fun r29=>(bif (!r29) then some ([],false) else bd (PF.zbN a0 a1) (fun r35=>bd r35 (fun y43=>bd (PF.zcK y43) (fun r57=>some (r57,true))))))

noncomputable def zdR (a0:Cnf):Option Bool :=
  bd (bif (decide (a0.vars≤6)) then bd (PF.zcx a0) (fun r41=>some r41) else some false) (fun t34=>some t34)

def zcL (a0:Int):Bool :=
  (PF.zaX a0 0 6)

noncomputable def zbr (a0:Cnf) (a1:Int):Option Bool :=
  bd (PF.zdR a0) (fun r29=>some (bif r29 then (PF.zcL a1) else false))

def zdq (a0:List Int) (a1:List Int):Option Int :=
  bdR (forL (S:=Int) (X:=Int) a0 (fun i22 y21 s22=>bd (PF.zaZ a1 y21) (fun r71=>(bif r71 then some (Lp.rt 1) else bd (PF.zaZ a1 (wr (-y21))) (fun r83=>(bif (!r83) then some (Lp.nx 0) else some (Lp.nx s22)))))) (-1)) (fun s22=>some s22) (fun x22=>some x22)

noncomputable def zb2 (a0:Cnf) (a1:Int) (a2:List Int):Option Bool :=
  (bif (decide ((wr (a1 + 1)) < (len a2))) then some false else bdR (iter (S:=Int) (X:=Bool) (fun s30=>(bif (decide (s30 < (len a0.clauses))) then bd (ix a0.clauses s30) (fun xAa=>bd (bif (decide ((len xAa)≤a1)) then bd (ix a0.clauses s30) (fun xAG=>bd (PF.zdq xAG a2) (fun rAK=>some (decide (rAK < 0)))) else some false) (fun t129=>(bif t129 then some (Lp.rt false) else some (Lp.nx (wr (s30 + 1)))))) else some (Lp.bk s30))) 0) (fun s30=>some true) (fun x30=>some x30))

noncomputable def zdr (rec_spec_l13All:Cnf→Int→(List Int)→Int→Option (List (List Int))) (a0:Cnf) (a1:Int) (a2:List Int) (a3:Int):Option (List (List Int)) :=
  bd (PF.zb2 a0 a1 a2) (fun r34=>(bif (!r34) then some [] else bd (app [] [a2]) (fun xs45=>bdR (iter (S:=((List (List Int))×Int)) (X:=Empty) (fun s56=>(bif (decide (s56.2≤a0.vars)) then bd (PF.zbw a2) (fun r102111=>bd (app r102111 [s56.2]) (fun xs111111=>bd (rec_spec_l13All a0 a1 xs111111 s56.2) (fun r117116=>bd (app s56.1 r117116) (fun xs120111=>bd (PF.zbw a2) (fun r144126=>bd (app r144126 [(wr (-s56.2))]) (fun xs156126=>bd (rec_spec_l13All a0 a1 xs156126 s56.2) (fun r162131=>bd (app xs120111 r162131) (fun xs165126=>some (Lp.nx (xs165126,(wr (s56.2 + 1)))))))))))) else some (Lp.bk (s56.1,s56.2)))) (xs45,(wr (a3 + 1)))) (fun s56=>some s56.1) (fun x56=>nomatch x56))))
noncomputable def zcM:Nat→Cnf→Int→(List Int)→Int→Option (List (List Int))
  | 0=>fun _ _ _ _=>none
  | n + 1=>zdr (zcM n)
noncomputable def zel (a0:Cnf) (a1:Int) (a2:List Int) (a3:Int):Option (List (List Int)):=zcM deep a0 a1 a2 a3

def zaL (a0:Int):Int :=
  (bif (decide (a0 < 0)) then (wr ((wr ((-2) * a0)) + 1)) else (wr (2 * a0)))

def zcN (a0:List Int) (a1:List Int):Option Bool :=
  (bif (!((len a0) == (len a1))) then some (decide ((len a0) < (len a1))) else bdR (forL (S:=Unit) (X:=Bool) a0 (fun i23 y22 s23=>bd (ix a1 ((i23:Nat):Int)) (fun x90=>(bif (!(y22 == x90)) then bd (ix a1 ((i23:Nat):Int)) (fun xA9=>some (Lp.rt (decide ((PF.zaL y22) < (PF.zaL xA9))))) else some (Lp.nx ())))) ()) (fun s23=>some false) (fun x23=>some x23))

noncomputable def zcO (a0:List (List Int)) (a1:List Int):Option Int :=
  bdR (iter (S:=(Int×Int)) (X:=Empty) (fun s21=>(bif (decide (s21.1 < s21.2)) then bd (ix a0 (wr ((wr (s21.1 + s21.2)).tdiv 2))) (fun x64=>bd (PF.zcN x64 a1) (fun r68=>(bif r68 then some (Lp.nx ((wr ((wr ((wr (s21.1 + s21.2)).tdiv 2)) + 1)),s21.2)) else some (Lp.nx (s21.1,(wr ((wr (s21.1 + s21.2)).tdiv 2))))))) else some (Lp.bk (s21.1,s21.2)))) (0,(len a0))) (fun s21=>some s21.1) (fun x21=>nomatch x21)

def zcP (a0:List Int) (a1:List Int):Option Bool :=
  (bif (!((len a0) == (len a1))) then some false else bdR (forL (S:=Unit) (X:=Bool) a0 (fun i23 y22 s23=>bd (ix a1 ((i23:Nat):Int)) (fun x72=>(bif (!(y22 == x72)) then some (Lp.rt false) else some (Lp.nx ())))) ()) (fun s23=>some true) (fun x23=>some x23))

noncomputable def zds (a0:List (List Int)) (a1:List Int):Option (List (List Int)) :=
  bd (PF.zcO a0 a1) (fun r21=>bd (bif (decide (r21 < (len a0))) then bd (ix a0 r21) (fun x54=>bd (PF.zcP x54 a1) (fun r58=>some r58)) else some false) (fun t41=>(bif t41 then some a0 else bd (cut a0 0 r21) (fun xs12068=>bd (app [] xs12068) (fun xs15068=>bd (app xs15068 [a1]) (fun xs24068=>bd (cut a0 r21 (len a0)) (fun xs33068=>bd (app xs24068 xs33068) (fun xs36068=>some xs36068))))))))

noncomputable def zb3 (a0:Cnf) (a1:Int):Option (List (List Int)) :=
  bd (PF.zel a0 a1 [] 0) (fun r39=>bdR (iter (S:=((List (List Int))×Int)) (X:=Empty) (fun s60=>(bif (decide (s60.2 < (len r39))) then bd (ix r39 s60.2) (fun xA7=>bd (PF.zds s60.1 xA7) (fun rAb=>some (Lp.nx (rAb,(wr (s60.2 + 1)))))) else some (Lp.bk (s60.1,s60.2)))) ([],0)) (fun s60=>some s60.1) (fun x60=>nomatch x60))

noncomputable def zb4 (a0:List (List Int)) (a1:List Int):Option Int :=
  bd (PF.zcO a0 a1) (fun r21=>bd (bif (decide (r21 < (len a0))) then bd (ix a0 r21) (fun x54=>bd (PF.zcP x54 a1) (fun r58=>some r58)) else some false) (fun t41=>(bif t41 then some r21 else some (-1))))

noncomputable def zb5 (a0:Cnf) (a1:Int) (a2:List (List Int)) (a3:List Int):Option Bool :=
  bdR (forL (S:=Unit) (X:=Bool) a3 (fun i30 y29 s30=>bd (PF.zcy a3 (PF.zaY y29)) (fun r90=>bd (PF.zb4 a2 r90) (fun rA5=>(bif (decide (rA5 < 0)) then some (Lp.rt false) else some (Lp.nx ()))))) ()) (fun s30=>bdR (iter (S:=Int) (X:=Bool) (fun sAl=>(bif (bif (decide (sAl≤a0.vars)) then (decide ((len a3)≤a1)) else false) then bd (PF.zaZ a3 sAl) (fun rDj=>bd (bif (!rDj) then bd (PF.zaZ a3 (wr (-sAl))) (fun rDA=>some (!rDA)) else some false) (fun t315=>bd (bif t315 then bd (PF.zbn a3 sAl) (fun rEc=>bd (PF.zb4 a2 rEc) (fun rEr=>some (decide (rEr < 0)))) else some false) (fun t353=>bd (bif t353 then bd (PF.zbn a3 (wr (-sAl))) (fun rF3=>bd (PF.zb4 a2 rF3) (fun rFi=>some (decide (rFi < 0)))) else some false) (fun t406=>(bif t406 then some (Lp.rt false) else some (Lp.nx (wr (sAl + 1)))))))) else some (Lp.bk sAl))) 1) (fun sAl=>some true) (fun xAl=>some xAl)) (fun x30=>some x30)

noncomputable def zbg (a0:Cnf) (a1:Int):Option zbc :=
  bd (PF.zb3 a0 a1) (fun r35=>bd (mk2 (0:Int) (len r35) (len r35)) (fun xs60=>bdR (iter (S:=((List Int)×(List Int)×(List (List Int))×Int)) (X:=zbc) (fun s76=>bdR (iter (S:=((List (List Int))×(List Int)×Int×Int)) (X:=Empty) (fun sRs=>(bif (decide (sRs.2.2.2 < (len r35))) then bd (ix sRs.2.1 sRs.2.2.2) (fun xWb=>(bif (decide (0 < xWb)) then some (Lp.nx (sRs.1,sRs.2.1,sRs.2.2.1,(wr (sRs.2.2.2 + 1)))) else bd (ix r35 sRs.2.2.2) (fun xWl=>bd (PF.zb5 a0 a1 s76.2.2.1 xWl) (fun rWp=>(bif rWp then bd (ix r35 sRs.2.2.2) (fun xWB=>bd (app sRs.1 [xWB]) (fun xsWK=>some (Lp.nx (xsWK,sRs.2.1,sRs.2.2.1,(wr (sRs.2.2.2 + 1)))))) else bd (ix sRs.2.1 sRs.2.2.2) (fun xX1=>bd (put sRs.2.1 sRs.2.2.2 s76.2.2.2) (fun xsX6=>some (Lp.nx (sRs.1,xsX6,(wr (sRs.2.2.1 + 1)),(wr (sRs.2.2.2 + 1))))))))))) else some (Lp.bk (sRs.1,sRs.2.1,sRs.2.2.1,sRs.2.2.2)))) ([],s76.1,0,0)) (fun sRs=>(bif (sRs.2.2.1 == 0) then some (Lp.rt (zbc.mk r35 sRs.2.1 s76.2.1 s76.2.2.1)) else bd (app s76.2.1 [sRs.2.2.1]) (fun xsXH=>some (Lp.nx (sRs.2.1,xsXH,sRs.1,(wr (s76.2.2.2 + 1))))))) (fun xRs=>nomatch xRs)) (xs60,[],r35,1)) (fun s76=>none) (fun x76=>some x76)))

def zdt (a0:List (List Int)):Option (List (List Int)) :=
  bdR (forL (S:=(List (List Int))) (X:=Empty) a0 (fun i27 y26 s27=>bd (PF.zbw y26) (fun r98=>bd (app s27 [r98]) (fun xsAj=>some (Lp.nx xsAj)))) []) (fun s27=>some s27) (fun x27=>nomatch x27)

noncomputable def zb6 (a0:Cnf) (a1:Int):Option ((List (List Int))×Bool) :=
  bd (PF.zbr a0 a1) (fun r29=>(bif (!r29) then some ([],false) else bd (PF.zbg a0 a1) (fun r40=>bd (PF.zdt r40.left) (fun r57=>some (r57,true)))))

def zb7 (a0:List Int) (a1:List Int):Option Bool :=
  (bif (!((len a0) == (len a1))) then some false else bdR (forL (S:=Unit) (X:=Bool) a0 (fun i23 y22 s23=>bd (ix a1 ((i23:Nat):Int)) (fun x72=>(bif (!(y22 == x72)) then some (Lp.rt false) else some (Lp.nx ())))) ()) (fun s23=>some true) (fun x23=>some x23))

def zcQ (a0:List (List Int)) (a1:List (List Int)):Option Bool :=
  (bif (!((len a0) == (len a1))) then some false else bdR (forL (S:=Unit) (X:=Bool) a0 (fun i23 y22 s23=>bd (ix a1 ((i23:Nat):Int)) (fun x80=>bd (PF.zb7 y22 x80) (fun r84=>(bif (!r84) then some (Lp.rt false) else some (Lp.nx ()))))) ()) (fun s23=>some true) (fun x23=>some x23))

noncomputable def zb8 (a0:Cnf) (a1:Int):Option (Bool×Bool) :=
  bd (PF.zbf a0 a1) (fun r29=>(bif (!r29) then some (false,false) else bd (PF.zbN a0 a1) (fun r35=>bd r35 (fun y43=>bd (PF.zcK y43) (fun r57=>some ((decide (0 < (len r57))),true))))))

noncomputable def zb9 (a0:Cnf) (a1:Int):Option (Bool×Bool) :=
  bd (PF.zbr a0 a1) (fun r29=>(bif (!r29) then some (false,false) else bd (PF.zbg a0 a1) (fun r35=>some ((decide (0 < (len r35.left))),true))))

def zca (a0:List Int):Option Int :=
  bdR (forL (S:=Int) (X:=Empty) a0 (fun i22 y21 s22=>(bif (decide (0 < y21)) then bd (nn (wr (y21 - 1))) (fun u60=>some (Lp.nx (orK false 16 s22 (shlK false 16 1 (wr (y21 - 1)))))) else bd (nn (wr ((wr (6 - y21)) - 1))) (fun u62=>some (Lp.nx (orK false 16 s22 (shlK false 16 1 (wr ((wr (6 - y21)) - 1)))))))) 0) (fun s22=>some s22) (fun x22=>nomatch x22)

def za9 (a0:Int):Int :=
  (orK false 16 (shlK false 16 (andK false 16 a0 63) 6) (shrK 16 a0 6))

def zak (a0:Int) (a1:Int):Int :=
  (andK false 16 (orK false 16 (andK false 16 a0 (PF.za9 a1)) (shrK 16 (andK false 16 a0 (PF.za9 a1)) 6)) 63)

def zcb (a0:Int):Bool :=
  (bif (!(a0 == 0)) then ((andK false 16 a0 (wrk false 16 (a0 - 1))) == 0) else false)

noncomputable def zbO (a0:Int):Option Int :=
  bdR (iter (S:=(Int×Int)) (X:=Empty) (fun s21=>(bif (!(s21.1 == 0)) then some (Lp.nx ((andK false 16 s21.1 (wrk false 16 (s21.1 - 1))),(wr (s21.2 + 1)))) else some (Lp.bk (s21.1,s21.2)))) (a0,0)) (fun s21=>some s21.2) (fun x21=>nomatch x21)

noncomputable def zcR (a0:Cnf) (a1:Int):Option (Option za7) :=
  bdR (forL (S:=((List Int)×Int×(List (Int×Int)))) (X:=Empty) a0.clauses (fun i42 y41 s42=>(bif (decide ((len y41)≤a1)) then bd (PF.zca y41) (fun rBy=>bd (β:=_) ((bif (!((mget s42.2.2 rBy).isSome)) then bd (app s42.1 [rBy]) (fun xsCn=>some (xsCn,0,(mput s42.2.2 rBy 0))) else some (s42.1,s42.2.1,s42.2.2)):Option ((List Int)×Int×(List (Int×Int)))) (fun sC5=>some (Lp.nx (sC5.1,sC5.2.1,sC5.2.2)))) else some (Lp.nx (s42.1,s42.2.1,s42.2.2)))) ([],0,([]:List (Int×Int)))) (fun s42=>bdR (iter (S:=((List Int)×Int×(List (Int×Int))×Int×Int)) (X:=Empty) (fun sCR=>(bif (decide (sCR.2.2.2.1 < (len sCR.1))) then bdR (iter (S:=((List Int)×Int×(List (Int×Int))×Int)) (X:=Empty) (fun sSy=>(bif (decide (sSy.2.2.2 < (len sCR.1))) then bd (cut sSy.1 0 sSy.2.2.2) (fun xsZY=>bdR (forL (S:=((List Int)×Int×(List (Int×Int)))) (X:=Empty) xsZY (fun i1720 y1719 s1720=>bd (ix s1720.1 sSy.2.2.2) (fun x1922=>(bif (!(PF.zcb (PF.zak x1922 y1719))) then some (Lp.nx (s1720.1,s1720.2.1,s1720.2.2)) else bd (PF.zbO (anK false 16 (orK false 16 x1922 y1719) (orK false 16 (PF.zak x1922 y1719) (shlK false 16 (PF.zak x1922 y1719) 6)))) (fun r1931=>(bif (decide (r1931≤a1)) then bd (β:=_) ((bif (!((mget s1720.2.2 (anK false 16 (orK false 16 x1922 y1719) (orK false 16 (PF.zak x1922 y1719) (shlK false 16 (PF.zak x1922 y1719) 6)))).isSome)) then bd (app s1720.1 [(anK false 16 (orK false 16 x1922 y1719) (orK false 16 (PF.zak x1922 y1719) (shlK false 16 (PF.zak x1922 y1719) 6)))]) (fun xs1987=>some (xs1987,sCR.2.2.2.2,(mput s1720.2.2 (anK false 16 (orK false 16 x1922 y1719) (orK false 16 (PF.zak x1922 y1719) (shlK false 16 (PF.zak x1922 y1719) 6))) sCR.2.2.2.2))) else some (s1720.1,s1720.2.1,s1720.2.2)):Option ((List Int)×Int×(List (Int×Int)))) (fun s1967=>some (Lp.nx (s1967.1,s1967.2.1,s1967.2.2))) else some (Lp.nx (s1720.1,s1720.2.1,s1720.2.2))))))) (sSy.1,sSy.2.1,sSy.2.2.1)) (fun s1720=>some (Lp.nx (s1720.1,s1720.2.1,s1720.2.2,(wr (sSy.2.2.2 + 1))))) (fun x1720=>nomatch x1720)) else some (Lp.bk (sSy.1,sSy.2.1,sSy.2.2.1,sSy.2.2.2)))) (sCR.1,sCR.2.1,sCR.2.2.1,sCR.2.2.2.1)) (fun sSy=>some (Lp.nx (sSy.1,sSy.2.1,sSy.2.2.1,(len sCR.1),(wr (sCR.2.2.2.2 + 1))))) (fun xSy=>nomatch xSy) else some (Lp.bk (sCR.1,sCR.2.1,sCR.2.2.1,sCR.2.2.2.1,sCR.2.2.2.2)))) (s42.1,s42.2.1,s42.2.2,0,1)) (fun sCR=>some (some (za7.mk sCR.1 sCR.2.2.1 sCR.2.1))) (fun xCR=>nomatch xCR)) (fun x42=>nomatch x42)

def zdu (a0:za7) (a1:List Int):Option Int :=
  bd (PF.zca a1) (fun r22=>(bif (mget a0.rounds r22).isSome then some ((mget a0.rounds r22).getD 0) else some (-1)))

noncomputable def zdv (a0:Cnf) (a1:Int):Option Bool :=
  bd (PF.zcR a0 a1) (fun r29=>bd r29 (fun y37=>bd (PF.zdu y37 []) (fun r46=>some (decide (0≤r46)))))

noncomputable def zcc (a0:Cnf) (a1:Int):Option (Bool×Bool) :=
  bd (PF.zbf a0 a1) (fun r29=>(bif (!r29) then some (false,false) else bd (PF.zdv a0 a1) (fun r35=>some (r35,true))))

noncomputable def zcd (a0:Cnf) (a1:Int):Option ((List (List Int))×Bool) :=
  bd (PF.zbf a0 a1) (fun r29=>(bif (!r29) then some ([],false) else bd (PF.zbL a0 a1) (fun r35=>bd (PF.zcJ r35) (fun r50=>some (r50,true)))))

noncomputable def zce (a0:Cnf) (a1:Int):Option ((List (List Int))×Bool) :=
  bd (PF.zbr a0 a1) (fun r29=>(bif (!r29) then some ([],false) else bd (PF.zb3 a0 a1) (fun r46=>some (r46,true))))

noncomputable def zcf (a0:Cnf) (a1:Int):Option ((List Int)×Bool) :=
  bd (PF.zbf a0 a1) (fun r29=>(bif (!r29) then some ([],false) else bd (PF.zbN a0 a1) (fun r35=>bd r35 (fun y43=>bdR (forL (S:=(List Int)) (X:=Empty) y43.rounds (fun i58 y57 s58=>bdR (iter (S:=(List Int)) (X:=Empty) (fun sB8=>(bif (decide ((len sB8) < y57)) then bd (app sB8 [0]) (fun xsBU=>some (Lp.nx xsBU)) else some (Lp.bk sB8))) s58) (fun sB8=>(bif (decide (0 < y57)) then bd (ix sB8 (wr (y57 - 1))) (fun xCn=>bd (ix sB8 (wr (y57 - 1))) (fun xCv=>bd (put sB8 (wr (y57 - 1)) (wr (xCn + 1))) (fun xsCA=>some (Lp.nx xsCA)))) else some (Lp.nx sB8))) (fun xB8=>nomatch xB8)) []) (fun s58=>some (s58,true)) (fun x58=>nomatch x58)))))

noncomputable def zcg (a0:Cnf) (a1:Int):Option ((List Int)×Bool) :=
  bd (PF.zbr a0 a1) (fun r29=>(bif (!r29) then some ([],false) else bd (PF.zbg a0 a1) (fun r45=>some (r45.counts,true))))

noncomputable def zch (a0:Int):Option (List Int) :=
  bdR (iter (S:=((List Int)×Int)) (X:=Empty) (fun s21=>(bif (decide (s21.2≤6)) then bd (nn (wr (s21.2 - 1))) (fun u98=>(bif ((andK false 16 (shrK 16 a0 (wr (s21.2 - 1))) 1) == 1) then bd (app s21.1 [s21.2]) (fun xsA5=>bd (nn (wr ((wr (6 + s21.2)) - 1))) (fun u117=>(bif ((andK false 16 (shrK 16 a0 (wr ((wr (6 + s21.2)) - 1))) 1) == 1) then bd (app xsA5 [(wr (-s21.2))]) (fun xsAo=>some (Lp.nx (xsAo,(wr (s21.2 + 1))))) else some (Lp.nx (xsA5,(wr (s21.2 + 1))))))) else bd (nn (wr ((wr (6 + s21.2)) - 1))) (fun u136=>(bif ((andK false 16 (shrK 16 a0 (wr ((wr (6 + s21.2)) - 1))) 1) == 1) then bd (app s21.1 [(wr (-s21.2))]) (fun xsAH=>some (Lp.nx (xsAH,(wr (s21.2 + 1))))) else some (Lp.nx (s21.1,(wr (s21.2 + 1)))))))) else some (Lp.bk (s21.1,s21.2)))) ([],1)) (fun s21=>some s21.1) (fun x21=>nomatch x21)

noncomputable def zdw (a0:za7):Option (List (List Int)) :=
  bdR (forL (S:=(List (List Int))) (X:=Empty) a0.masks (fun i22 y21 s22=>bd (PF.zch y21) (fun r91=>bd (app s22 [r91]) (fun xsAc=>some (Lp.nx xsAc)))) []) (fun s22=>bd (PF.zdi s22 (fun x0 x1=>PF.zaQ x0 x1)) (fun rAv=>some rAv)) (fun x22=>nomatch x22)

noncomputable def zci (a0:Cnf) (a1:Int):Option ((List (List Int))×Bool) :=
  bd (PF.zbf a0 a1) (fun r29=>(bif (!r29) then some ([],false) else bd (PF.zcR a0 a1) (fun r35=>bd r35 (fun y43=>bd (PF.zdw y43) (fun r52=>some (r52,true))))))

def zcS (a0:Int) (a1:List Int):Option Bool :=
  bd (PF.zbZ a0 a1) (fun r21=>some r21)

def zcT (a0:Int) (a1:List Int) (a2:List Int):Option (Int×Bool) :=
  bd (PF.zbZ a0 a1) (fun r21=>bd (bif (!r21) then some true else bd (PF.zcS a0 a2) (fun r38=>some (!r38))) (fun t31=>(bif t31 then some (0,false) else bd (PF.zcC a1 a2) (fun r47=>some (r47,true)))))

noncomputable def zcU (a0:List Int) (b0:Cnf) (b1:Int) (b2:List Bool):Option Bool :=
  bd (PF.zbM b0 b1 b2 a0) (fun r21=>some (!r21))

noncomputable def zdx (a0:Cnf) (a1:Int) (a2:List (List Int)):Option Bool :=
  bdR (forL (S:=Unit) (X:=Bool) a2 (fun i38 y37 s38=>bd (PF.zcS a0.vars y37) (fun rBP=>bd (bif (!rBP) then some true else bd (PF.zcE a0 a1 y37) (fun rC6=>some (!rC6))) (fun t223=>bd (bif t223 then some true else bd (bif (decide (0 < ((i38:Nat):Int))) then bd (ix a2 (wr (((i38:Nat):Int) - 1))) (fun xDC=>bd (PF.zaQ xDC y37) (fun rDG=>some (decide (0≤rDG)))) else some false) (fun t311=>some t311)) (fun t289=>(bif t289 then some (Lp.rt false) else some (Lp.nx ())))))) ()) (fun s38=>bd (PF.zcG a0 a2) (fun rEa=>bd (bif (decide (0 < (len a2))) then bd (PF.zcB a2 (fun x0=>PF.zcU x0 a0 a1 rEa)) (fun rEM=>some (!rEM)) else some false) (fun t389=>some t389))) (fun x38=>some x38)

noncomputable def zcj (a0:Cnf) (a1:Int) (a2:List (List Int)):Option (Bool×Bool) :=
  bd (PF.zbf a0 a1) (fun r29=>(bif (!r29) then some (false,false) else bd (PF.zdx a0 a1 a2) (fun r35=>some (r35,true))))

def zck (a0:Int) (a1:Int):Int :=
  (bif (decide (a0 < a1)) then a0 else a1)

noncomputable def zdy (a0:l1Cur) (a1:Int):Option ((List Int)×l1Cur) :=
  bdR (iter (S:=((List Int)×(List Int)×Int×Int×Int)) (X:=Empty) (fun s26=>(bif (decide (s26.2.2.2.2≤(PF.zck a1 12))) then bd (PF.zaF (l1Cur.mk s26.2.1 s26.2.2.1 s26.2.2.2.1) 4) (fun rB0=>(bif (rB0.1 == 0) then bd (app s26.1 [s26.2.2.2.2]) (fun xsBf=>some (Lp.nx (xsBf,rB0.2.code,rB0.2.at_,rB0.2.seed,(wr (s26.2.2.2.2 + 1))))) else (bif (rB0.1 == 1) then bd (app s26.1 [(wr (-s26.2.2.2.2))]) (fun xsBw=>some (Lp.nx (xsBw,rB0.2.code,rB0.2.at_,rB0.2.seed,(wr (s26.2.2.2.2 + 1))))) else some (Lp.nx (s26.1,rB0.2.code,rB0.2.at_,rB0.2.seed,(wr (s26.2.2.2.2 + 1))))))) else some (Lp.bk (s26.1,s26.2.1,s26.2.2.1,s26.2.2.2.1,s26.2.2.2.2)))) ([],a0.code,a0.at_,a0.seed,1)) (fun s26=>some (s26.1,(l1Cur.mk s26.2.1 s26.2.2.1 s26.2.2.2.1))) (fun x26=>nomatch x26)

noncomputable def zdz (a0:l1Cur) (a1:Int):Option ((List Int)×l1Cur) :=
  bd (PF.zdy a0 a1) (fun r21=>bd (PF.zaF r21.2 32) (fun r33=>(bif (r33.1 == 0) then bd (PF.zcA r33.2 a1) (fun r43=>bd (app r21.1 [r43.1]) (fun xs56=>some (xs56,r43.2))) else (bif (r33.1 == 1) then (bif (decide (0 < (len r21.1))) then bd (PF.zaN r33.2 [0,(wr (a1 + 1)),(-9223372036854775808)]) (fun r79=>bd (ix r21.1 0) (fun x93=>bd (put r21.1 0 r79.1) (fun xs98=>some (xs98,r79.2)))) else some (r21.1,r33.2)) else some (r21.1,r33.2)))))

noncomputable def zdS (a0:l1Cur):Option (Cnf×Int×(List (List Int))×l1Cur) :=
  bd (PF.zbx a0) (fun r25=>bdR (iter (S:=(Int×(List (List Int))×(List Int)×Int×Int×Int×(List (List Int))×Int)) (X:=Empty) (fun s48=>(bif (bif (decide (s48.2.2.2.2.2.2.2 < 6)) then ((len s48.2.2.2.2.2.2.1) == 0) else false) then bd (PF.zbr (Cnf.mk s48.1 s48.2.1) s48.2.2.2.2.2.1) (fun rDi=>(bif rDi then bd (PF.zbg (Cnf.mk s48.1 s48.2.1) s48.2.2.2.2.2.1) (fun rDo=>(bif (bif ((len rDo.left) == 0) then (decide (s48.2.2.2.2.2.2.2 < 5)) else false) then bd (PF.zbx (l1Cur.mk s48.2.2.1 s48.2.2.2.1 s48.2.2.2.2.1)) (fun rE0=>some (Lp.nx (rE0.1.vars,rE0.1.clauses,rE0.2.2.code,rE0.2.2.at_,rE0.2.2.seed,rE0.2.1,rDo.left,(wr (s48.2.2.2.2.2.2.2 + 1))))) else some (Lp.nx (s48.1,s48.2.1,s48.2.2.1,s48.2.2.2.1,s48.2.2.2.2.1,s48.2.2.2.2.2.1,rDo.left,(wr (s48.2.2.2.2.2.2.2 + 1)))))) else (bif (bif ((len s48.2.2.2.2.2.2.1) == 0) then (decide (s48.2.2.2.2.2.2.2 < 5)) else false) then bd (PF.zbx (l1Cur.mk s48.2.2.1 s48.2.2.2.1 s48.2.2.2.2.1)) (fun rEt=>some (Lp.nx (rEt.1.vars,rEt.1.clauses,rEt.2.2.code,rEt.2.2.at_,rEt.2.2.seed,rEt.2.1,s48.2.2.2.2.2.2.1,(wr (s48.2.2.2.2.2.2.2 + 1))))) else some (Lp.nx (s48.1,s48.2.1,s48.2.2.1,s48.2.2.2.1,s48.2.2.2.2.1,s48.2.2.2.2.2.1,s48.2.2.2.2.2.2.1,(wr (s48.2.2.2.2.2.2.2 + 1))))))) else some (Lp.bk (s48.1,s48.2.1,s48.2.2.1,s48.2.2.2.1,s48.2.2.2.2.1,s48.2.2.2.2.2.1,s48.2.2.2.2.2.2.1,s48.2.2.2.2.2.2.2)))) (r25.1.vars,r25.1.clauses,r25.2.2.code,r25.2.2.at_,r25.2.2.seed,r25.2.1,[],0)) (fun s48=>bd (PF.zaF (l1Cur.mk s48.2.2.1 s48.2.2.2.1 s48.2.2.2.2.1) 20) (fun rES=>(bif (rES.1 == 0) then (bif (decide (0 < (len s48.2.2.2.2.2.2.1))) then bd (cut s48.2.2.2.2.2.2.1 1 (len s48.2.2.2.2.2.2.1)) (fun xsF3=>some ((Cnf.mk s48.1 s48.2.1),s48.2.2.2.2.2.1,xsF3,rES.2)) else some ((Cnf.mk s48.1 s48.2.1),s48.2.2.2.2.2.1,s48.2.2.2.2.2.2.1,rES.2)) else (bif (rES.1 == 1) then bd (PF.zdz rES.2 s48.1) (fun rFA=>bd (app s48.2.2.2.2.2.2.1 [rFA.1]) (fun xsFX=>some ((Cnf.mk s48.1 s48.2.1),s48.2.2.2.2.2.1,xsFX,rFA.2))) else (bif (rES.1 == 2) then (bif (decide (0 < (len s48.2.2.2.2.2.2.1))) then bd (cut s48.2.2.2.2.2.2.1 0 (wr ((len s48.2.2.2.2.2.2.1) - 1))) (fun xsGm=>some ((Cnf.mk s48.1 s48.2.1),s48.2.2.2.2.2.1,xsGm,rES.2)) else some ((Cnf.mk s48.1 s48.2.1),s48.2.2.2.2.2.1,s48.2.2.2.2.2.2.1,rES.2)) else some ((Cnf.mk s48.1 s48.2.1),s48.2.2.2.2.2.1,s48.2.2.2.2.2.2.1,rES.2)))))) (fun x48=>nomatch x48))

noncomputable def zcV (a0:List Int):Option (Cnf×Int×(List (List Int))) :=
  bd (PF.zdS (l1Cur.mk a0 0 0)) (fun r29=>some (r29.1,r29.2.1,r29.2.2.1))

def zdT (a0:Int) (a1:List Int):Option Bool :=
  bd (PF.zbG a0 a1) (fun r21=>some r21)

noncomputable def zdA (a0:Cnf) (a1:Int) (a2:List (List Int)):Option Bool :=
  bdR (forL (S:=Unit) (X:=Bool) a2 (fun i30 y29 s30=>bd (PF.zdT a0.vars y29) (fun rBZ=>bd (bif (!rBZ) then some true else bd (PF.zb2 a0 a1 y29) (fun rCq=>some (!rCq))) (fun t235=>bd (bif t235 then some true else bd (bif (decide (0 < ((i30:Nat):Int))) then bd (ix a2 (wr (((i30:Nat):Int) - 1))) (fun xE2=>bd (PF.zcN xE2 y29) (fun rEe=>some (!rEe))) else some false) (fun t337=>some t337)) (fun t310=>(bif t310 then some (Lp.rt false) else some (Lp.nx ())))))) ()) (fun s30=>bdR (forL (S:=Unit) (X:=Bool) a2 (fun iEF yEE sEF=>bd (PF.zb5 a0 a1 a2 yEE) (fun rFm=>(bif (!rFm) then some (Lp.rt false) else some (Lp.nx ())))) ()) (fun sEF=>some (decide (0 < (len a2)))) (fun xEF=>some xEF)) (fun x30=>some x30)

noncomputable def zcW (a0:Cnf) (a1:Int) (a2:List (List Int)):Option (Bool×Bool) :=
  bd (PF.zbr a0 a1) (fun r29=>(bif (!r29) then some (false,false) else bd (bif (decide ((len a2)≤729)) then bd (PF.zdA a0 a1 a2) (fun r47=>some r47) else some false) (fun t40=>some (t40,true))))

noncomputable def zdU (a0:List Int):Option Bool :=
  (bif (PF.zc6 a0) then some true else bd (PF.zdf a0) (fun r25=>bd (PF.zb1 r25.1 r25.2) (fun r45=>bd (PF.zb6 r25.1 r25.2) (fun r56=>bd (bif (!(r45.2 == r56.2)) then some true else bd (PF.zcQ r45.1 r56.1) (fun rA2=>some (!rA2))) (fun t84=>(bif t84 then some false else bd (PF.zb8 r25.1 r25.2) (fun rAe=>bd (PF.zb9 r25.1 r25.2) (fun rAj=>(bif (bif (bif (bif (!(rAe.1 == rAj.1)) then true else (!(rAe.2 == rAj.2))) then true else (!(rAe.2 == r45.2))) then true else (!(rAe.1 == (decide (0 < (len r45.1)))))) then some false else bd (PF.zcc r25.1 r25.2) (fun rB6=>(bif (bif (!(rB6.2 == r45.2)) then true else (bif r45.2 then (rB6.1 == rAe.1) else false)) then some false else bd (PF.zcd r25.1 r25.2) (fun rBU=>bd (PF.zce r25.1 r25.2) (fun rC6=>bd (bif (bif (!(rBU.2 == rC6.2)) then true else (!(rBU.2 == r45.2))) then some true else bd (PF.zcQ rBU.1 rC6.1) (fun rCS=>some (!rCS))) (fun t265=>(bif t265 then some false else bd (PF.zcf r25.1 r25.2) (fun rD6=>bd (PF.zcg r25.1 r25.2) (fun rDg=>bd (bif (bif (!(rD6.2 == rDg.2)) then true else (!(rD6.2 == r45.2))) then some true else bd (PF.zb7 rD6.1 rDg.1) (fun rE2=>some (!rE2))) (fun t338=>(bif t338 then some false else bdR (iter (S:=(Int×Int)) (X:=Empty) (fun sEh=>(bif (decide (sEh.2 < (len rD6.1))) then bd (ix rD6.1 sEh.2) (fun xF2=>some (Lp.nx ((wr (sEh.1 - xF2)),(wr (sEh.2 + 1))))) else some (Lp.bk (sEh.1,sEh.2)))) ((len rBU.1),0)) (fun sEh=>(bif (!(sEh.1 == (len r45.1))) then some false else bd (PF.zci r25.1 r25.2) (fun rFj=>bdR (S:=Unit) (X:=Bool) ((bif (bif r45.2 then rFj.2 else false) then bdR (iter (S:=(Int×Int)) (X:=Empty) (fun sIi=>(bif (decide (sIi.2 < (len rBU.1))) then bdR (iter (S:=(Bool×Int)) (X:=Empty) (fun sKC=>(bif (bif (decide (sKC.2 < (len rFj.1))) then sKC.1 else false) then bd (ix rFj.1 sKC.2) (fun xMC=>bd (ix rBU.1 sIi.2) (fun xMM=>bd (PF.zcT r25.1.vars xMC xMM) (fun rMQ=>some (Lp.nx ((bif rMQ.2 then (decide ((-1) < rMQ.1)) else false),(wr (sKC.2 + 1))))))) else some (Lp.bk (sKC.1,sKC.2)))) (true,0)) (fun sKC=>(bif sKC.1 then some (Lp.nx ((wr (sIi.1 + 1)),(wr (sIi.2 + 1)))) else some (Lp.nx (sIi.1,(wr (sIi.2 + 1)))))) (fun xKC=>nomatch xKC) else some (Lp.bk (sIi.1,sIi.2)))) (0,0)) (fun sIi=>(bif (!(sIi.1 == (len r45.1))) then some (Rs.rt false) else some (Rs.go ()))) (fun xIi=>nomatch xIi) else some (Rs.go ()))) (fun sIe=>bdR (S:=Unit) (X:=Bool) ((bif rAe.1 then bd (PF.zcj r25.1 r25.2 r45.1) (fun rOl=>(bif (bif (!rOl.2) then true else (!rOl.1)) then some (Rs.rt false) else some (Rs.go ()))) else some (Rs.go ()))) (fun sOc=>bd (PF.zcV a0) (fun rOG=>bd (PF.zcj rOG.1 rOG.2.1 rOG.2.2) (fun rP2=>bd (PF.zcW rOG.1 rOG.2.1 rOG.2.2) (fun rP7=>some (bif (rP2.1 == rP7.1) then (rP2.2 == rP7.2) else false))))) (fun xOe=>some xOe)) (fun xIg=>some xIg)))) (fun xEh=>nomatch xEh))))))))))))))))))))

end Go.PF
