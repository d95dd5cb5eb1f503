/- Part of the walks and plain laws behind the claim: it proves helpers, under no condition beyond their own. -/
import Derived.Test.YtkaikagbfoadpaaGreatPpLB
import Derived.Test.YtkaikagbfoadpaaGreatPpLC
set_option linter.unusedVariables false
namespace Go.PF
open Go.Pu

structure Cnf where
  vars:Int
  clauses:List (List Int)
def okCnf (s:Cnf):Prop:=okI s.vars∧(okL (okL okI)) s.clauses

structure Term where
  mono:Int
  coeff:Int
structure PcStep where
  kind:Int
  poly:List Term
  a:Int
  b:Int
  x:Int
  y:Int
structure zaf where
  coeffs:List Int
  bound:Int
structure zab where
  ineq:zaf
  kind:Int
  a:Int
  b:Int
  k:Int
structure ring where
  p:Int
  vars:Int
structure algebra where
  ring:ring
  f:Cnf
  q:List (List Int)
structure l1Cur where
  code:List Int
  at_:Int
  seed:Int
structure zae where
  clause:List Int
  left:Int
  right:Int
  pivot:Int
def zcw (s:zae):Prop:=(okL okI) s.clause∧okI s.left∧okI s.right∧okI s.pivot

def zdm (a0:List Int):Bool :=
  (decide (65536 < (len a0)))

def zcR (a0:l1Cur):Option (Int×l1Cur) :=
  bdR (S:=Int) (X:=Empty) ((bif (decide (a0.at_ < (len a0.code))) then bd (ix a0.code a0.at_) (fun x49=>some (Rs.go (wrk true 64 x49))) else some (Rs.go 0))) (fun s38=>(bif (decide ((wr (a0.at_ + 1))≤(len a0.code))) then some (s38,(l1Cur.mk a0.code (wr (a0.at_ + 1)) (wrk false 64 ((wrk false 64 ((wrk false 64 (a0.seed * 6364136223846793005)) + (wrk false 64 s38))) + 337411)))) else some ((wrk true 64 (andK false 64 (shrK 64 (wrk false 64 ((wrk false 64 ((wrk false 64 (a0.seed * 6364136223846793005)) + (wrk false 64 s38))) + 337411)) 40) 255)),(l1Cur.mk a0.code (wr (a0.at_ + 1)) (wrk false 64 ((wrk false 64 ((wrk false 64 (a0.seed * 6364136223846793005)) + (wrk false 64 s38))) + 337411)))))) (fun x40=>nomatch x40)

def zaM (a0:l1Cur) (a1:Int):Option (Int×l1Cur) :=
  (bif (decide (a1≤1)) then some (0,a0) else bd (PF.zcR a0) (fun r22=>(bif (decide (200 < a1)) then bd (PF.zcR r22.2) (fun r31=>bd (nz a1) (fun u40=>some (((wr ((wr (r22.1 * 256)) + r31.1)).tmod a1),r31.2))) else bd (nz a1) (fun u42=>some ((r22.1.tmod a1),r22.2)))))

def zbo (a0:l1Cur) (a1:Int):Option (Bool×l1Cur) :=
  bd (PF.zaM a0 a1) (fun r21=>some ((r21.1 == 0),r21.2))

def zb2  : (List ByteArray) :=
  [(ByteArray.mk #[49,59,32,49,59,32,45,49]),(ByteArray.mk #[50,59,32,49,32,50,59,32,49,32,45,50,59,32,45,49,32,50,59,32,45,49,32,45,50]),(ByteArray.mk #[48,59,32,110,111,110,101]),(ByteArray.mk #[50,59,32,49,59,32,45,49,32,50,59,32,45,50]),(ByteArray.mk #[51,59,32,49,59,32,45,49,32,50,59,32,45,50,32,51,59,32,45,51]),(ByteArray.mk #[51,59,32,49,32,50,59,32,45,49,32,51,59,32,45,50,32,51,59,32,45,51]),(ByteArray.mk #[51,59,32,49,32,50,59,32,45,49,32,50,59,32,45,50,32,51,59,32,45,50,32,45,51]),(ByteArray.mk #[51,59,32,49,32,50,32,51,59,32,49,32,50,32,45,51,59,32,49,32,45,50,59,32,45,49,32,51,59,32,45,49,32,45,51]),(ByteArray.mk #[50,59,32,49,32,50,59,32,45,49,59,32,45,50,59,32,49,32,45,50]),(ByteArray.mk #[52,59,32,49,32,50,59,32,51,32,52,59,32,45,49,32,45,51,59,32,45,50,32,45,52,59,32,45,49,32,45,52,59,32,45,50,32,45,51]),(ByteArray.mk #[51,59,32,49,32,50,59,32,50,32,51,59,32,49,32,51,59,32,45,49,32,45,50,59,32,45,50,32,45,51,59,32,45,49,32,45,51]),(ByteArray.mk #[52,59,32,49,59,32,50,59,32,45,49,32,45,50,32,51,59,32,45,51,32,52,59,32,45,52]),(ByteArray.mk #[51,59,32,49,32,45,50,59,32,50,32,45,51,59,32,51,32,45,49,59,32,49,32,50,32,51,59,32,45,49,32,45,50,32,45,51]),(ByteArray.mk #[52,59,32,49,32,50,59,32,45,49,32,45,50,59,32,50,32,51,59,32,45,50,32,45,51,59,32,51,32,52,59,32,45,51,32,45,52,59,32,49,32,52,32,45,51,59,32,45,49,32,45,52,59,32,49,32,45,52,59,32,45,49,32,52]),(ByteArray.mk #[50,59,32,49,59,32,45,49,59,32,50])]

def zdn (a0:l1Cur) (a1:List ByteArray):Option (ByteArray×l1Cur) :=
  bd (PF.zaM a0 (len a1)) (fun r21=>bd (ix a1 r21.1) (fun x35=>some (x35,r21.2)))

def zcS (a0:ByteArray) (a1:Int):Option (List ByteArray) :=
  bd (chk (a0.size:Int)) (fun m26=>bdR (forR (S:=((List ByteArray)×Int)) (X:=Empty) 0 m26 (fun i27 s27=>bd (ixS a0 ((i27:Nat):Int)) (fun z73=>(bif (z73 == a1) then bd (cutS a0 s27.2 ((i27:Nat):Int)) (fun z76=>bd (app s27.1 [z76]) (fun xs83=>some (Lp.nx (xs83,(wr (((i27:Nat):Int) + 1)))))) else some (Lp.nx (s27.1,s27.2))))) ([],0)) (fun s27=>bd (cutS a0 s27.2 (a0.size:Int)) (fun zA3=>bd (app s27.1 [zA3]) (fun xsAa=>some xsAa))) (fun x27=>nomatch x27))

def zan (a0:Int) (a1:Int) (a2:Int):Bool :=
  (bif (decide (a1≤a0)) then (decide (a0≤a2)) else false)

def zcx (a0:Int):Option ByteArray:=numT a0

def zcT (a0:ByteArray):Option (Int×Bool) :=
  bd (bif (decide (1 < (a0.size:Int))) then bd (ixS a0 0) (fun z30=>some (z30 == 45)) else some false) (fun t23=>bdR (S:=ByteArray) (X:=Empty) ((bif t23 then bd (cutS a0 1 (a0.size:Int)) (fun z42=>some (Rs.go z42)) else some (Rs.go a0))) (fun s38=>(bif (!(PF.zan (s38.size:Int) 1 6)) then some (0,false) else bd (chk (s38.size:Int)) (fun m55=>bdR (forR (S:=Int) (X:=(Int×Bool)) 0 m55 (fun i56 s56=>bd (ixS s38 ((i56:Nat):Int)) (fun z96=>bd (bif (decide (z96 < 48)) then some true else bd (ixS s38 ((i56:Nat):Int)) (fun zA7=>some (decide (57 < zA7)))) (fun t100=>(bif t100 then some (Lp.rt (0,false)) else bd (ixS s38 ((i56:Nat):Int)) (fun zAf=>some (Lp.nx (wr ((wr (10 * s56)) + (wrk true 64 (wrk false 8 (zAf - 48))))))))))) 0) (fun s56=>bdR (S:=Int) (X:=Empty) ((bif (decide ((s38.size:Int) < (a0.size:Int))) then some (Rs.go (wr (-s56))) else some (Rs.go s56))) (fun sAr=>bd (PF.zcx sAr) (fun rAC=>(bif (!(rAC.toList == a0.toList)) then some (0,false) else some (sAr,true)))) (fun xAt=>nomatch xAt)) (fun x56=>some x56)))) (fun x40=>nomatch x40))

def zba (a0:Int):Bool :=
  (PF.zan a0 0 12)

def zbE (a0:Int) (a1:Int):Bool :=
  (bif (PF.zan a1 (wr (-a0)) a0) then (!(a1 == 0)) else false)

def zaH (a0:Int):Int :=
  (bif (decide (a0 < 0)) then (wr (-a0)) else a0)

def zb3 (a0:Int) (a1:List Int):Option Bool :=
  (bif (!(PF.zba a0)) then some false else bdR (forL (S:=Unit) (X:=Bool) a1 (fun i26 y25 s26=>bd (bif (!(PF.zbE a0 y25)) then some true else bd (bif (decide (0 < ((i26:Nat):Int))) then bd (ix a1 (wr (((i26:Nat):Int) - 1))) (fun xC2=>some (decide ((PF.zaH y25)≤(PF.zaH xC2)))) else some false) (fun t213=>some t213)) (fun t192=>(bif t192 then some (Lp.rt false) else some (Lp.nx ())))) ()) (fun s26=>some true) (fun x26=>some x26))

def zcU (a0:List Int):Option ByteArray :=
  (bif ((len a0) == 0) then some (ByteArray.mk #[110,111,110,101]) else bd (ix a0 0) (fun x28=>bd (PF.zcx x28) (fun r30=>bdR (forR (S:=ByteArray) (X:=Empty) 1 a0.length (fun i35 s35=>bd (catS s35 (ByteArray.mk #[32])) (fun z69=>bd (ix a0 ((i35:Nat):Int)) (fun x77=>bd (PF.zcx x77) (fun r79=>bd (catS z69 r79) (fun z84=>some (Lp.nx z84)))))) r30) (fun s35=>some s35) (fun x35=>nomatch x35))))

noncomputable def zdo (a0:Int) (a1:ByteArray):Option ((List Int)×Bool) :=
  (bif (a1.toList == (ByteArray.mk #[110,111,110,101]).toList) then some ([],(PF.zba a0)) else bd (PF.zcS a1 32) (fun r30=>bdR (iter (S:=((List Int)×Int)) (X:=((List Int)×Bool)) (fun s40=>(bif (bif (decide (s40.2 < (len r30))) then (decide (s40.2≤12)) else false) then bd (ix r30 s40.2) (fun xAy=>bd (PF.zcT xAy) (fun rAA=>(bif (!rAA.2) then some (Lp.rt ([],false)) else bd (app s40.1 [rAA.1]) (fun xsAQ=>some (Lp.nx (xsAQ,(wr (s40.2 + 1)))))))) else some (Lp.bk (s40.1,s40.2)))) ([],0)) (fun s40=>bd (bif (decide (12 < (len r30))) then some true else bd (PF.zb3 a0 s40.1) (fun rBx=>some (!rBx))) (fun t183=>bd (bif t183 then some true else bd (PF.zcU s40.1) (fun rC1=>some (!(rC1.toList == a1.toList)))) (fun t213=>(bif t213 then some ([],false) else some (s40.1,true))))) (fun x40=>some x40)))

noncomputable def zdp (a0:Cnf):Option ByteArray :=
  bd (PF.zcx a0.vars) (fun r29=>bdR (iter (S:=(ByteArray×Int)) (X:=Empty) (fun s34=>(bif (decide (s34.2 < (len a0.clauses))) then bd (catS s34.1 (ByteArray.mk #[59,32])) (fun z72=>bd (ix a0.clauses s34.2) (fun x80=>bd (PF.zcU x80) (fun r84=>bd (catS z72 r84) (fun z89=>some (Lp.nx (z89,(wr (s34.2 + 1)))))))) else some (Lp.bk (s34.1,s34.2)))) (r29,0)) (fun s34=>some s34.1) (fun x34=>nomatch x34))

noncomputable def zdq (a0:ByteArray):Option (Cnf×Bool) :=
  bd (PF.zcS a0 59) (fun r25=>bd (ix r25 0) (fun x41=>bd (PF.zcT x41) (fun r43=>(bif (bif (bif (!r43.2) then true else (!(PF.zba r43.1))) then true else (decide (61 < (len r25)))) then some ((Cnf.mk 0 []),false) else bdR (iter (S:=((List (List Int))×Int×Int)) (X:=(Cnf×Bool)) (fun s94=>(bif (decide (s94.2.2 < (len r25))) then bd (ix r25 s94.2.2) (fun xDM=>bd (bif (decide ((xDM.size:Int) < 2)) then some true else bd (ix r25 s94.2.2) (fun xEb=>bd (ixS xEb 0) (fun zEd=>some (!(zEd == 32))))) (fun t346=>(bif t346 then some (Lp.rt ((Cnf.mk 0 []),false)) else bd (ix r25 s94.2.2) (fun xEw=>bd (cutS xEw 1 (xEw.size:Int)) (fun zEy=>bd (PF.zdo r43.1 zEy) (fun rEA=>(bif (!rEA.2) then some (Lp.rt ((Cnf.mk 0 []),false)) else bd (app s94.1 [rEA.1]) (fun xsEZ=>some (Lp.nx (xsEZ,s94.2.1,(wr (s94.2.2 + 1)))))))))))) else some (Lp.bk (s94.1,s94.2.1,s94.2.2)))) ([],r43.1,1)) (fun s94=>bd (PF.zdp (Cnf.mk s94.2.1 s94.1)) (fun rFt=>(bif (!(rFt.toList == a0.toList)) then some ((Cnf.mk 0 []),false) else some ((Cnf.mk s94.2.1 s94.1),true)))) (fun x94=>some x94)))))

noncomputable def zcy (a0:ByteArray):Option Cnf :=
  bd (PF.zdq a0) (fun r25=>some r25.1)

noncomputable def zb4 (a0:Cnf):Option Bool :=
  (bif (bif (!(PF.zba a0.vars)) then true else (decide (60 < (len a0.clauses)))) then some false else bdR (iter (S:=Int) (X:=Bool) (fun s42=>(bif (decide (s42 < (len a0.clauses))) then bd (ix a0.clauses s42) (fun x83=>bd (PF.zb3 a0.vars x83) (fun r87=>(bif (!r87) then some (Lp.rt false) else some (Lp.nx (wr (s42 + 1)))))) else some (Lp.bk s42))) 0) (fun s42=>some true) (fun x42=>some x42))

def zdr (a0:List Int) (a1:Int):Option Bool :=
  bdR (forL (S:=Unit) (X:=Bool) a0 (fun i22 y21 s22=>(bif (y21 == a1) then some (Lp.rt true) else some (Lp.nx ()))) ()) (fun s22=>some false) (fun x22=>some x22)

def zaY (a0:List Int) (a1:Int):Option Bool :=
  bd (PF.zdr a0 a1) (fun r21=>some r21)

def zcd (a0:List Int):Option (List Int) :=
  bd (app [] a0) (fun xs26=>some xs26)

noncomputable def zbU (a0:List Int) (a1:Int):Option (List Int) :=
  bdR (iter (S:=Int) (X:=Empty) (fun s21=>bd (bif (decide (s21 < (len a0))) then bd (ix a0 s21) (fun xA5=>some (decide ((PF.zaH xA5) < (PF.zaH a1)))) else some false) (fun t92=>(bif t92 then some (Lp.nx (wr (s21 + 1))) else some (Lp.bk s21)))) 0) (fun s21=>bd (cut a0 0 s21) (fun xs9127=>bd (PF.zcd xs9127) (fun r12127=>bd (app r12127 [a1]) (fun xs21127=>bd (cut a0 s21 (len a0)) (fun xs30127=>bd (app xs21127 xs30127) (fun xs33127=>some xs33127)))))) (fun x21=>nomatch x21)

noncomputable def zds (a0:Cnf) (a1:List Int):Option (Cnf×Bool) :=
  bd (PF.zb4 a0) (fun r33=>(bif (bif (!r33) then true else (!((len a1) == a0.vars))) then some ((Cnf.mk 0 []),false) else bdR (forL (S:=Unit) (X:=(Cnf×Bool)) a1 (fun i54 y53 s54=>bd (bif (!(PF.zbE a0.vars y53)) then some true else bd (cut a1 0 ((i54:Nat):Int)) (fun xsBs=>bd (PF.zaY xsBs y53) (fun rBD=>some rBD))) (fun t183=>bd (bif t183 then some true else bd (cut a1 0 ((i54:Nat):Int)) (fun xsC4=>bd (PF.zaY xsC4 (wr (-y53))) (fun rCf=>some rCf))) (fun t221=>(bif t221 then some (Lp.rt ((Cnf.mk 0 []),false)) else some (Lp.nx ()))))) ()) (fun s54=>bdR (iter (S:=((List (List Int))×Int×Int)) (X:=Empty) (fun sCO=>(bif (decide (sCO.2.2 < (len a0.clauses))) then bdR (iter (S:=((List Int)×Int)) (X:=Empty) (fun sLa=>bd (ix a0.clauses sCO.2.2) (fun xOp=>(bif (decide (sLa.2 < (len xOp))) then bd (ix a0.clauses sCO.2.2) (fun xOA=>bd (ix xOA sLa.2) (fun xOK=>bd (ix a1 (wr ((PF.zaH xOK) - 1))) (fun xOV=>(bif (decide (xOK < 0)) then bd (PF.zbU sLa.1 (wr (-xOV))) (fun rP3=>some (Lp.nx (rP3,(wr (sLa.2 + 1))))) else bd (PF.zbU sLa.1 xOV) (fun rPk=>some (Lp.nx (rPk,(wr (sLa.2 + 1))))))))) else some (Lp.bk (sLa.1,sLa.2))))) ([],0)) (fun sLa=>bd (app sCO.1 [sLa.1]) (fun xsPT=>some (Lp.nx (xsPT,sCO.2.1,(wr (sCO.2.2 + 1)))))) (fun xLa=>nomatch xLa) else some (Lp.bk (sCO.1,sCO.2.1,sCO.2.2)))) ([],a0.vars,0)) (fun sCO=>some ((Cnf.mk sCO.2.1 sCO.1),true)) (fun xCO=>nomatch xCO)) (fun x54=>some x54)))

def za5 (a0:l1Cur) (a1:List Int):Option (Int×l1Cur) :=
  bd (PF.zaM a0 (len a1)) (fun r21=>bd (ix a1 r21.1) (fun x35=>some (x35,r21.2)))

def zcz (a0:List Int) (a1:Int):Option (List Int) :=
  bdR (forL (S:=(List Int)) (X:=Empty) a0 (fun i27 y26 s27=>(bif (!((PF.zaH y26) == a1)) then bd (app s27 [y26]) (fun xsA3=>some (Lp.nx xsA3)) else some (Lp.nx s27))) []) (fun s27=>some s27) (fun x27=>nomatch x27)

noncomputable def zce (a0:l1Cur) (a1:Int):Option ((List Int)×l1Cur) :=
  bd (PF.za5 a0 [1,2,2,3,3,4,0,2]) (fun r36=>bdR (iter (S:=((List Int)×Int×Int×(List Int)×Int)) (X:=Empty) (fun s45=>(bif (bif (decide (0 < s45.2.2.2.2)) then (decide (0 < a1)) else false) then bd (PF.zaM (l1Cur.mk s45.1 s45.2.1 s45.2.2.1) a1) (fun rCA=>bd (PF.zcz s45.2.2.2.1 (wr (1 + rCA.1))) (fun rCN=>bd (PF.zbo rCA.2 2) (fun rCZ=>(bif rCZ.1 then bd (PF.zbU rCN (wr (-(wr (1 + rCA.1))))) (fun rDe=>some (Lp.nx (rCZ.2.code,rCZ.2.at_,rCZ.2.seed,rDe,(wr (s45.2.2.2.2 - 1))))) else bd (PF.zbU rCN (wr (1 + rCA.1))) (fun rDv=>some (Lp.nx (rCZ.2.code,rCZ.2.at_,rCZ.2.seed,rDv,(wr (s45.2.2.2.2 - 1))))))))) else some (Lp.bk (s45.1,s45.2.1,s45.2.2.1,s45.2.2.2.1,s45.2.2.2.2)))) (r36.2.code,r36.2.at_,r36.2.seed,[],r36.1)) (fun s45=>some (s45.2.2.2.1,(l1Cur.mk s45.1 s45.2.1 s45.2.2.1))) (fun x45=>nomatch x45))

noncomputable def zcV (a0:l1Cur):Option (Cnf×l1Cur) :=
  bd (PF.zdn a0 PF.zb2) (fun r38=>bd (PF.zcy r38.1) (fun r47=>bdR (iter (S:=((List Int)×(List Int)×Int×Int×Int)) (X:=Empty) (fun s71=>(bif (decide (s71.2.2.2.2≤r47.vars)) then bd (PF.zbo (l1Cur.mk s71.2.1 s71.2.2.1 s71.2.2.2.1) 4) (fun rBB=>(bif rBB.1 then bd (app s71.1 [(wr (-s71.2.2.2.2))]) (fun xsBQ=>some (Lp.nx (xsBQ,rBB.2.code,rBB.2.at_,rBB.2.seed,(wr (s71.2.2.2.2 + 1))))) else bd (app s71.1 [s71.2.2.2.2]) (fun xsC6=>some (Lp.nx (xsC6,rBB.2.code,rBB.2.at_,rBB.2.seed,(wr (s71.2.2.2.2 + 1))))))) else some (Lp.bk (s71.1,s71.2.1,s71.2.2.1,s71.2.2.2.1,s71.2.2.2.2)))) ([],r38.2.code,r38.2.at_,r38.2.seed,1)) (fun s71=>bd (PF.zds r47 s71.1) (fun rCw=>bd (PF.zaM (l1Cur.mk s71.2.1 s71.2.2.1 s71.2.2.2.1) 3) (fun rCN=>bdR (iter (S:=((List (List Int))×(List Int)×Int×Int×Int×Int)) (X:=Empty) (fun sCW=>(bif (bif (decide (0 < sCW.2.2.2.2.2)) then (decide (0 < sCW.2.2.2.2.1)) else false) then bd (PF.zce (l1Cur.mk sCW.2.1 sCW.2.2.1 sCW.2.2.2.1) sCW.2.2.2.2.1) (fun r90388=>bd (app sCW.1 [r90388.1]) (fun xs96388=>some (Lp.nx (xs96388,r90388.2.code,r90388.2.at_,r90388.2.seed,sCW.2.2.2.2.1,(wr (sCW.2.2.2.2.2 - 1)))))) else some (Lp.bk (sCW.1,sCW.2.1,sCW.2.2.1,sCW.2.2.2.1,sCW.2.2.2.2.1,sCW.2.2.2.2.2)))) (rCw.1.clauses,rCN.2.code,rCN.2.at_,rCN.2.seed,rCw.1.vars,rCN.1)) (fun sCW=>some ((Cnf.mk sCW.2.2.2.2.1 sCW.1),(l1Cur.mk sCW.2.1 sCW.2.2.1 sCW.2.2.2.1))) (fun xCW=>nomatch xCW)))) (fun x71=>nomatch x71)))

def zdt (a0:l1Cur) (a1:Int):Option (Int×l1Cur) :=
  bd (bif (decide (a1 < 1)) then some (a0.code,a0.at_,a0.seed,true) else bd (PF.zbo a0 40) (fun r33=>some (r33.2.code,r33.2.at_,r33.2.seed,r33.1))) (fun t29=>(bif t29.2.2.2 then bd (PF.za5 (l1Cur.mk t29.1 t29.2.1 t29.2.2.1) [0,(wr (a1 + 1)),(wr ((wr (-a1)) - 1))]) (fun r60=>some (r60.1,r60.2)) else bd (PF.zaM (l1Cur.mk t29.1 t29.2.1 t29.2.2.1) a1) (fun r68=>bd (PF.zbo r68.2 2) (fun r76=>(bif r76.1 then some ((wr (-(wr (1 + r68.1)))),r76.2) else some ((wr (1 + r68.1)),r76.2))))))

noncomputable def zdu (a0:l1Cur) (a1:Int):Option ((List Int)×l1Cur) :=
  bd (PF.zce a0 a1) (fun r21=>bd (PF.zaM r21.2 32) (fun r33=>(bif (r33.1 == 0) then bd (PF.zdt r33.2 a1) (fun r43=>bd (app r21.1 [r43.1]) (fun xs56=>some (xs56,r43.2))) else (bif (r33.1 == 1) then (bif (decide (0 < (len r21.1))) then bd (PF.za5 r33.2 [0,(wr (a1 + 1)),(wr ((wr (-a1)) - 1)),(-9223372036854775808)]) (fun r79=>bd (ix r21.1 0) (fun x93=>bd (put r21.1 0 r79.1) (fun xs98=>some (xs98,r79.2)))) else some (r21.1,r33.2)) else (bif (r33.1 == 2) then (bif (decide (1 < (len r21.1))) then bd (ix r21.1 0) (fun xAb=>bd (ix r21.1 1) (fun xAj=>bd (ix r21.1 0) (fun xAr=>bd (put r21.1 0 xAj) (fun xsAw=>bd (ix xsAw 1) (fun xAH=>bd (put xsAw 1 xAb) (fun xsAM=>some (xsAM,r33.2))))))) else some (r21.1,r33.2)) else some (r21.1,r33.2))))))

noncomputable def zdv (a0:l1Cur):Option (Cnf×l1Cur) :=
  bd (PF.zbo a0 4) (fun r25=>(bif r25.1 then bd (PF.zcV r25.2) (fun r35=>some (r35.1,r35.2)) else bd (PF.za5 r25.2 [2,3,3,4,5]) (fun r58=>bd (PF.zaM r58.2 10) (fun r78=>bdR (iter (S:=((List (List Int))×(List Int)×Int×Int×Int×Int)) (X:=Empty) (fun s87=>(bif (decide (0 < s87.2.2.2.2.2)) then bd (PF.zce (l1Cur.mk s87.2.1 s87.2.2.1 s87.2.2.2.1) s87.2.2.2.2.1) (fun r90157=>bd (app s87.1 [r90157.1]) (fun xs96157=>some (Lp.nx (xs96157,r90157.2.code,r90157.2.at_,r90157.2.seed,s87.2.2.2.2.1,(wr (s87.2.2.2.2.2 - 1)))))) else some (Lp.bk (s87.1,s87.2.1,s87.2.2.1,s87.2.2.2.1,s87.2.2.2.2.1,s87.2.2.2.2.2)))) ([],r78.2.code,r78.2.at_,r78.2.seed,r58.1,r78.1)) (fun s87=>bd (PF.zaM (l1Cur.mk s87.2.1 s87.2.2.1 s87.2.2.2.1) 40) (fun r108183=>(bif (r108183.1 == 0) then bd (PF.za5 r108183.2 [(-1),13,12,0,1]) (fun r108202=>some ((Cnf.mk r108202.1 s87.1),r108202.2)) else (bif (r108183.1 == 1) then bd (PF.zdu r108183.2 s87.2.2.2.2.1) (fun r126223=>bd (app s87.1 [r126223.1]) (fun xs132223=>some ((Cnf.mk s87.2.2.2.2.1 xs132223),r126223.2))) else (bif (r108183.1 == 2) then bdR (iter (S:=((List (List Int))×(List Int)×Int×Int×Int)) (X:=Empty) (fun s144248=>bd (PF.zaM (l1Cur.mk s144248.2.1 s144248.2.2.1 s144248.2.2.2.1) 2) (fun r213366=>(bif (decide ((len s144248.1) < (wr (60 + r213366.1)))) then bd (app s144248.1 [[1]]) (fun xs225395=>some (Lp.nx (xs225395,r213366.2.code,r213366.2.at_,r213366.2.seed,s144248.2.2.2.2))) else some (Lp.bk (s144248.1,r213366.2.code,r213366.2.at_,r213366.2.seed,s144248.2.2.2.2))))) (s87.1,r108183.2.code,r108183.2.at_,r108183.2.seed,s87.2.2.2.2.1)) (fun s144248=>some ((Cnf.mk s144248.2.2.2.2 s144248.1),(l1Cur.mk s144248.2.1 s144248.2.2.1 s144248.2.2.2.1))) (fun x144248=>nomatch x144248) else (bif (r108183.1 == 3) then bd (PF.zce r108183.2 s87.2.2.2.2.1) (fun r243428=>bd (app s87.1 [r243428.1,[]]) (fun xs252428=>some ((Cnf.mk s87.2.2.2.2.1 xs252428),r243428.2))) else some ((Cnf.mk s87.2.2.2.2.1 s87.1),r108183.2))))))) (fun x87=>nomatch x87)))))

def zcf (a0:Int) (a1:List Int):Option zaf :=
  bd (mk2 (0:Int) a0 a0) (fun xs25=>bdR (forL (S:=((List Int)×Int)) (X:=Empty) a1 (fun i43 y42 s43=>(bif (decide (0 < y42)) then bd (ix s43.1 (wr (y42 - 1))) (fun x162160=>bd (put s43.1 (wr (y42 - 1)) 1) (fun xs165157=>some (Lp.nx (xs165157,s43.2)))) else bd (ix s43.1 (wr ((wr (-y42)) - 1))) (fun x198174=>bd (put s43.1 (wr ((wr (-y42)) - 1)) (-1)) (fun xs201171=>some (Lp.nx (xs201171,(wr (s43.2 - 1)))))))) (xs25,1)) (fun s43=>some (zaf.mk s43.1 s43.2)) (fun x43=>nomatch x43))

def zbk (a0:Int) (a1:Int) (a2:Int) (a3:Int):Option zaf :=
  bd (mk2 (0:Int) a0 a0) (fun xs25=>bd (ix xs25 (wr (a1 - 1))) (fun x48=>bd (put xs25 (wr (a1 - 1)) a2) (fun xs53=>some (zaf.mk xs53 a3))))

noncomputable def zaZ (a0:zaf) (a1:zaf):Option zaf :=
  bdR (iter (S:=((List Int)×Int×Int)) (X:=Empty) (fun s54=>(bif (decide (s54.2.2 < (len a0.coeffs))) then bd (ix a0.coeffs s54.2.2) (fun x132126=>bd (ix a1.coeffs s54.2.2) (fun x147126=>bd (app s54.1 [(wr (x132126 + x147126))]) (fun xs159120=>some (Lp.nx (xs159120,s54.2.1,(wr (s54.2.2 + 1))))))) else some (Lp.bk (s54.1,s54.2.1,s54.2.2)))) ([],(wr (a0.bound + a1.bound)),0)) (fun s54=>some (zaf.mk s54.1 s54.2.1)) (fun x54=>nomatch x54)

noncomputable def zcA (a0:zaf) (a1:Int):Option zaf :=
  bdR (iter (S:=((List Int)×Int×Int)) (X:=Empty) (fun s46=>(bif (decide (s46.2.2 < (len a0.coeffs))) then bd (ix a0.coeffs s46.2.2) (fun x108118=>bd (app s46.1 [(wr (x108118 * a1))]) (fun xs123112=>some (Lp.nx (xs123112,s46.2.1,(wr (s46.2.2 + 1)))))) else some (Lp.bk (s46.1,s46.2.1,s46.2.2)))) ([],(wr (a0.bound * a1)),0)) (fun s46=>some (zaf.mk s46.1 s46.2.1)) (fun x46=>nomatch x46)

def zcg (a0:Int) (a1:Int):Option Int :=
  (bif (decide (0 < a0)) then bd (nz a1) (fun u23=>some (wr ((wr ((wr (a0 + a1)) - 1)).tdiv a1))) else bd (nz a1) (fun u25=>some (wr (-(wr ((wr (-a0)).tdiv a1))))))

noncomputable def zbF (a0:zaf) (a1:Int):Option (zaf×Bool) :=
  bd (PF.zcg a0.bound a1) (fun r35=>bdR (iter (S:=((List Int)×Int×Int)) (X:=(zaf×Bool)) (fun s51=>(bif (decide (s51.2.2 < (len a0.coeffs))) then bd (ix a0.coeffs s51.2.2) (fun x90165=>bd (nz a1) (fun u90168=>(bif (!((x90165.tmod a1) == 0)) then some (Lp.rt ((zaf.mk [] 0),false)) else bd (ix a0.coeffs s51.2.2) (fun x108186=>bd (nz a1) (fun u117181=>bd (app s51.1 [(wr (x108186.tdiv a1))]) (fun xs123180=>some (Lp.nx (xs123180,s51.2.1,(wr (s51.2.2 + 1)))))))))) else some (Lp.bk (s51.1,s51.2.1,s51.2.2)))) ([],r35,0)) (fun s51=>some ((zaf.mk s51.1 s51.2.1),true)) (fun x51=>some x51))

def zbV (a0:Int) (a1:zaf):Option Bool :=
  (bif (bif (!((len a1.coeffs) == a0)) then true else (!(PF.zan a1.bound (-10000) 10000))) then some false else bd (chk a0) (fun m46=>bdR (forR (S:=Unit) (X:=Bool) 0 m46 (fun i47 s47=>bd (ix a1.coeffs ((i47:Nat):Int)) (fun x82=>(bif (!(PF.zan x82 (-1000) 1000)) then some (Lp.rt false) else some (Lp.nx ())))) ()) (fun s47=>some true) (fun x47=>some x47)))

noncomputable def zdw (a0:l1Cur) (a1:Cnf):Option ((List zab)×l1Cur) :=
  bd (PF.zb4 a1) (fun r34=>(bif (!r34) then some ([],a0) else bd (PF.zaM a0 10) (fun r40=>bdR (iter (S:=((List zab)×(List Int)×Int×Int×Int)) (X:=Empty) (fun s49=>(bif (decide (0≤s49.2.2.2.2)) then bd (PF.za5 (l1Cur.mk s49.2.1 s49.2.2.1 s49.2.2.2.1) [1,1,1,2,3,4,4,4,5,6]) (fun r360792=>bdR (S:=((List Int)×Int×Int×Int×Int×Int)) (X:=Empty) ((bif (bif ((len s49.1) == 0) then (decide (3 < r360792.1)) else false) then some (Rs.go ([],0,1,0,0,0)) else some (Rs.go ([],0,r360792.1,0,0,0)))) (fun s360825=>bdR (S:=((List Int)×Int×Int×Int×Int×Int×(List Int)×Int×Int×Bool)) (X:=(Rs Unit Empty)) ((bif (s360825.2.2.1 == 1) then (bif ((len a1.clauses) == 0) then some (Rs.rt (Rs.go ())) else bd (PF.zaM r360792.2 (len a1.clauses)) (fun r541074=>bd (ix a1.clauses r541074.1) (fun x562092=>bd (PF.zcf a1.vars x562092) (fun r568086=>some (Rs.go (r568086.coeffs,r568086.bound,s360825.2.2.1,r541074.1,s360825.2.2.2.2.1,s360825.2.2.2.2.2,r541074.2.code,r541074.2.at_,r541074.2.seed,true)))))) else (bif (s360825.2.2.1 == 2) then (bif (a1.vars == 0) then some (Rs.rt (Rs.go ())) else bd (PF.zaM r360792.2 a1.vars) (fun r580103=>bd (PF.zbk a1.vars (wr (1 + r580103.1)) 1 0) (fun r580115=>(bif (s360825.2.2.1 == 3) then bd (PF.zbk a1.vars (wr (1 + r580103.1)) (-1) (-1)) (fun r580128=>some (Rs.go (r580128.coeffs,r580128.bound,s360825.2.2.1,(wr (1 + r580103.1)),s360825.2.2.2.2.1,s360825.2.2.2.2.2,r580103.2.code,r580103.2.at_,r580103.2.seed,true))) else some (Rs.go (r580115.coeffs,r580115.bound,s360825.2.2.1,(wr (1 + r580103.1)),s360825.2.2.2.2.1,s360825.2.2.2.2.2,r580103.2.code,r580103.2.at_,r580103.2.seed,true)))))) else (bif (s360825.2.2.1 == 3) then (bif (a1.vars == 0) then some (Rs.rt (Rs.go ())) else bd (PF.zaM r360792.2 a1.vars) (fun r580142=>bd (PF.zbk a1.vars (wr (1 + r580142.1)) 1 0) (fun r580154=>bd (PF.zbk a1.vars (wr (1 + r580142.1)) (-1) (-1)) (fun r580166=>some (Rs.go (r580166.coeffs,r580166.bound,s360825.2.2.1,(wr (1 + r580142.1)),s360825.2.2.2.2.1,s360825.2.2.2.2.2,r580142.2.code,r580142.2.at_,r580142.2.seed,true)))))) else (bif (s360825.2.2.1 == 4) then bd (PF.zaM r360792.2 (len s49.1)) (fun r580179=>bd (PF.zaM r580179.2 (len s49.1)) (fun r580191=>bd (ix s49.1 r580179.1) (fun x592208=>bd (ix s49.1 r580191.1) (fun x610208=>bd (PF.zaZ x592208.ineq x610208.ineq) (fun r619202=>some (Rs.go (r619202.coeffs,r619202.bound,s360825.2.2.1,r580179.1,r580191.1,s360825.2.2.2.2.2,r580191.2.code,r580191.2.at_,r580191.2.seed,true))))))) else (bif (s360825.2.2.1 == 5) then bd (PF.zaM r360792.2 (len s49.1)) (fun r631218=>bd (PF.za5 r631218.2 [1,2,3]) (fun r631240=>bd (ix s49.1 r631218.1) (fun x643257=>bd (PF.zcA x643257.ineq r631240.1) (fun r658251=>some (Rs.go (r658251.coeffs,r658251.bound,s360825.2.2.1,r631218.1,s360825.2.2.2.2.1,r631240.1,r631240.2.code,r631240.2.at_,r631240.2.seed,true)))))) else (bif (s360825.2.2.1 == 6) then bd (PF.zaM r360792.2 (len s49.1)) (fun r670267=>bd (PF.za5 r670267.2 [2,2,3]) (fun r670289=>bd (ix s49.1 r670267.1) (fun x682306=>bd (PF.zbF x682306.ineq r670289.1) (fun r697300=>some (Rs.go (r697300.1.coeffs,r697300.1.bound,s360825.2.2.1,r670267.1,s360825.2.2.2.2.1,r670289.1,r670289.2.code,r670289.2.at_,r670289.2.seed,r697300.2)))))) else some (Rs.go (s360825.1,s360825.2.1,s360825.2.2.1,s360825.2.2.2.1,s360825.2.2.2.2.1,s360825.2.2.2.2.2,r360792.2.code,r360792.2.at_,r360792.2.seed,true))))))))) (fun s541064=>bd (bif s541064.2.2.2.2.2.2.2.2.2 then bd (PF.zbV a1.vars (zaf.mk s541064.1 s541064.2.1)) (fun r721338=>some r721338) else some false) (fun t721331=>(bif t721331 then bd (app s49.1 [(zab.mk (zaf.mk s541064.1 s541064.2.1) s541064.2.2.1 s541064.2.2.2.1 s541064.2.2.2.2.1 s541064.2.2.2.2.2.1)]) (fun xs721355=>some (Lp.nx (xs721355,s541064.2.2.2.2.2.2.1,s541064.2.2.2.2.2.2.2.1,s541064.2.2.2.2.2.2.2.2.1,(wr (s49.2.2.2.2 - 1))))) else some (Lp.nx (s49.1,s541064.2.2.2.2.2.2.1,s541064.2.2.2.2.2.2.2.1,s541064.2.2.2.2.2.2.2.2.1,(wr (s49.2.2.2.2 - 1))))))) (fun x541066=>el x541066 (fun s541071=>some (Lp.nx (s49.1,r360792.2.code,r360792.2.at_,r360792.2.seed,(wr (s49.2.2.2.2 - 1))))) (fun x541066=>nomatch x541066))) (fun x360827=>nomatch x360827)) else some (Lp.bk (s49.1,s49.2.1,s49.2.2.1,s49.2.2.2.1,s49.2.2.2.2)))) ([],r40.2.code,r40.2.at_,r40.2.seed,r40.1)) (fun s49=>(bif ((len s49.1) == 0) then some (s49.1,(l1Cur.mk s49.2.1 s49.2.2.1 s49.2.2.2.1)) else bd (PF.zaM (l1Cur.mk s49.2.1 s49.2.2.1 s49.2.2.2.1) (len s49.1)) (fun r721384=>bd (PF.zaM r721384.2 16) (fun r721392=>(bif (r721392.1 == 0) then bd (ix s49.1 r721384.1) (fun x736407=>bd (PF.za5 r721392.2 [1,(-1),1099511627776]) (fun r754406=>bd (ix s49.1 r721384.1) (fun x760407=>bd (put s49.1 r721384.1 (zab.mk (zaf.mk x760407.ineq.coeffs (wr (x736407.ineq.bound + r754406.1))) x760407.kind x760407.a x760407.b x760407.k)) (fun xs769404=>some (xs769404,r754406.2))))) else (bif (r721392.1 == 1) then bd (PF.za5 r721392.2 [0,7,1,4]) (fun r775425=>bd (ix s49.1 r721384.1) (fun x775439=>bd (put s49.1 r721384.1 (zab.mk x775439.ineq r775425.1 x775439.a x775439.b x775439.k)) (fun xs775446=>some (xs775446,r775425.2)))) else (bif (r721392.1 == 2) then bd (PF.za5 r721392.2 [(-1),r721384.1,(len s49.1),0]) (fun r775462=>bd (ix s49.1 r721384.1) (fun x775476=>bd (put s49.1 r721384.1 (zab.mk x775476.ineq x775476.kind r775462.1 x775476.b x775476.k)) (fun xs775483=>some (xs775483,r775462.2)))) else (bif (r721392.1 == 3) then bd (PF.za5 r721392.2 [(-1),r721384.1,1]) (fun r775499=>bd (ix s49.1 r721384.1) (fun x775513=>bd (put s49.1 r721384.1 (zab.mk x775513.ineq x775513.kind x775513.a r775499.1 x775513.k)) (fun xs775520=>some (xs775520,r775499.2)))) else (bif (r721392.1 == 4) then bd (PF.za5 r721392.2 [(-1),1,1001]) (fun r775536=>bd (ix s49.1 r721384.1) (fun x775550=>bd (put s49.1 r721384.1 (zab.mk x775550.ineq x775550.kind x775550.a x775550.b r775536.1)) (fun xs775557=>some (xs775557,r775536.2)))) else (bif (r721392.1 == 5) then bd (PF.zaM r721392.2 3) (fun r775563=>bdR (iter (S:=((List zab)×(List Int)×Int×Int)) (X:=Empty) (fun s775571=>bd (PF.zbo (l1Cur.mk s775571.2.1 s775571.2.2.1 s775571.2.2.2) 2) (fun r775821=>(bif (bif r775821.1 then (decide ((len s775571.1) < (wr (399 + r775563.1)))) else false) then bd (ix s775571.1 r721384.1) (fun x775848=>bd (app s775571.1 [(zab.mk x775848.ineq 5 r721384.1 0 1)]) (fun xs775857=>bdR (iter (S:=(List zab)) (X:=Empty) (fun s775868=>(bif (decide ((len s775868) < (wr (399 + r775563.1)))) then bd (ix s775868 (wr ((len s775868) - 1))) (fun x775925=>bd (app s775868 [x775925]) (fun xs775934=>some (Lp.nx xs775934))) else some (Lp.bk s775868))) xs775857) (fun s775868=>some (Lp.nx (s775868,r775821.2.code,r775821.2.at_,r775821.2.seed))) (fun x775868=>nomatch x775868))) else some (Lp.bk (s775571.1,r775821.2.code,r775821.2.at_,r775821.2.seed))))) (s49.1,r775563.2.code,r775563.2.at_,r775563.2.seed)) (fun s775571=>some (s775571.1,(l1Cur.mk s775571.2.1 s775571.2.2.1 s775571.2.2.2))) (fun x775571=>nomatch x775571)) else some (s49.1,r721392.2))))))))))) (fun x49=>nomatch x49))))

noncomputable def zcW (a0:List Int):Option (Cnf×(List zab)) :=
  bd (PF.zdv (l1Cur.mk a0 0 0)) (fun r29=>bd (PF.zdw r29.2 r29.1) (fun r12050=>some (r29.1,r12050.1)))

noncomputable def zdx (a0:List Int):Option (Cnf×(List zab)) :=
  bd (PF.zcW a0) (fun r25=>some (r25.1,r25.2))

def zaI (a0:Int) (a1:Int) (a2:Int):Bool :=
  (bif (decide (a1≤a0)) then (decide (a0≤a2)) else false)

def zch (a0:Int) (a1:Int):Bool :=
  (bif (!(a1 == 0)) then (PF.zaI a1 (wr (-a0)) a0) else false)

def zbb (a0:Int):Int :=
  (mx a0 (wr (-a0)))

def zbg (a0:Int):Bool :=
  (PF.zaI a0 0 12)

def zdy (a0:Int) (a1:List Int):Option Bool :=
  bdR (forL (S:=Unit) (X:=Bool) a1 (fun i22 y21 s22=>bd (bif (!(PF.zch a0 y21)) then some true else bd (bif (decide (0 < ((i22:Nat):Int))) then bd (ix a1 (wr (((i22:Nat):Int) - 1))) (fun xBu=>some (decide ((PF.zbb y21)≤(PF.zbb xBu)))) else some false) (fun t179=>some t179)) (fun t164=>(bif t164 then some (Lp.rt false) else some (Lp.nx ())))) ()) (fun s22=>some (PF.zbg a0)) (fun x22=>some x22)

def zbW (a0:Cnf):Option Bool :=
  bdR (forL (S:=Unit) (X:=Bool) a0.clauses (fun i30 y29 s30=>bd (PF.zdy a0.vars y29) (fun r71=>(bif (!r71) then some (Lp.rt false) else some (Lp.nx ())))) ()) (fun s30=>some (bif (PF.zbg a0.vars) then (decide ((len a0.clauses)≤60)) else false)) (fun x30=>some x30)

def zdz (a0:List Int) (a1:Int→Option Bool):Option Int :=
  bdR (forL (S:=Unit) (X:=Int) a0 (fun i22 y21 s22=>bd (a1 y21) (fun r64=>(bif r64 then some (Lp.rt ((i22:Nat):Int)) else some (Lp.nx ())))) ()) (fun s22=>some (-1)) (fun x22=>some x22)

def zci (a0:List Int) (a1:Int→Option Bool):Option Bool :=
  bd (PF.zdz a0 a1) (fun r21=>some (decide (0≤r21)))

def zcX (a0:Int):Bool :=
  (!(PF.zaI a0 (-1000) 1000))

def zcB (a0:Int) (a1:zaf):Option Bool :=
  bd (bif (bif (bif (PF.zbg a0) then ((len a1.coeffs) == a0) else false) then (PF.zaI a1.bound (-10000) 10000) else false) then bd (PF.zci a1.coeffs (fun x0=>some (PF.zcX x0))) (fun r68=>some (!r68)) else some false) (fun t61=>some t61)

def zcY (a0:Cnf) (a1:List zab) (a2:Int) (a3:Int):Option (zaf×Bool) :=
  bd (bif (!(PF.zaI a3 0 (wr (a2 - 1)))) then some true else bd (ix a1 a3) (fun x61=>bd (PF.zcB a0.vars x61.ineq) (fun r65=>some (!r65)))) (fun t48=>(bif t48 then some ((zaf.mk [] 0),false) else bd (ix a1 a3) (fun x91=>some (x91.ineq,true))))

def zen (a0:Int) (a1:List Int):Option zaf :=
  bd (mk2 (0:Int) a0 a0) (fun xs27=>bdR (forL (S:=((List Int)×Int)) (X:=Empty) a1 (fun i47 y46 s47=>(bif (decide (0 < y46)) then bd (ix s47.1 (wr (y46 - 1))) (fun xBh=>bd (put s47.1 (wr (y46 - 1)) 1) (fun xsBm=>some (Lp.nx (xsBm,s47.2)))) else bd (ix s47.1 (wr ((wr (-y46)) - 1))) (fun xBx=>bd (put s47.1 (wr ((wr (-y46)) - 1)) (-1)) (fun xsBC=>some (Lp.nx (xsBC,(wr (s47.2 - 1)))))))) (xs27,1)) (fun s47=>some (zaf.mk s47.1 s47.2)) (fun x47=>nomatch x47))

def zbh (a0:Int) (a1:Int):Bool :=
  (PF.zaI a1 1 a0)

def zcZ (a0:Int) (a1:Int) (a2:Int) (a3:Int):Option zaf :=
  bd (mk2 (0:Int) a0 a0) (fun xs27=>bd (ix xs27 (wr (a1 - 1))) (fun x52=>bd (put xs27 (wr (a1 - 1)) a2) (fun xs57=>some (zaf.mk xs57 a3))))

def zcC (a0:zaf) (a1:zaf) (a2:Int→Int→Option Int):Option zaf :=
  bd (a2 a0.bound a1.bound) (fun r43=>bdR (forL (S:=((List Int)×Int)) (X:=Empty) a0.coeffs (fun i65 y64 s65=>bd (ix a1.coeffs ((i65:Nat):Int)) (fun x120162=>bd (a2 y64 x120162) (fun r126156=>bd (app s65.1 [r126156]) (fun xs132156=>some (Lp.nx (xs132156,s65.2)))))) ([],r43)) (fun s65=>some (zaf.mk s65.1 s65.2)) (fun x65=>nomatch x65))

def zcD (a0:Int) (a1:Int):Int :=
  (wr (a0 + a1))

def zc0 (a0:zaf) (a1:zaf):Option zaf :=
  bd (PF.zcC a0 a1 (fun x0 x1=>some (PF.zcD x0 x1))) (fun r43=>some r43)

def zcj (a0:Int) (a1:Int) (b0:Int):Int :=
  (wr (b0 * a0))

def zdA (a0:zaf) (a1:Int):Option zaf :=
  bd (PF.zcC a0 a0 (fun x0 x1=>some (PF.zcj x0 x1 a1))) (fun r43=>some r43)

def zdB (a0:Int) (b0:Int):Option Bool :=
  bd (nz b0) (fun u22=>some (!((a0.tmod b0) == 0)))

def zdC (a0:Int) (a1:Int):Option Int :=
  bd (nz a1) (fun u22=>bd (nz a1) (fun u24=>(bif (decide (0 < (a0.tmod a1))) then some (wr ((wr (a0.tdiv a1)) + 1)) else some (wr (a0.tdiv a1)))))

def zcE (a0:Int) (a1:Int) (b0:Int):Option Int :=
  bd (PF.zdC a0 b0) (fun r21=>some r21)

def zdD (a0:zaf) (a1:Int):Option (zaf×Bool) :=
  bd (PF.zci a0.coeffs (fun x0=>PF.zdB x0 a1)) (fun r43=>(bif r43 then some ((zaf.mk [] 0),false) else bd (PF.zcC a0 a0 (fun x0 x1=>PF.zcE x0 x1 a1)) (fun r59=>some (r59,true))))

def zdE (a0:Cnf) (a1:List zab) (a2:Int):Option (zaf×Bool) :=
  bd (ix a1 a2) (fun x41=>bd (PF.zcY a0 a1 a2 x41.a) (fun r56=>bd (PF.zcY a0 a1 a2 x41.b) (fun r77=>(bif (bif (bif (bif (x41.kind == 1) then (PF.zaI x41.a 0 (wr ((len a0.clauses) - 1))) else false) then (x41.b == 0) else false) then (x41.k == 0) else false) then bd (ix a0.clauses x41.a) (fun x21161=>bd (PF.zen a0.vars x21161) (fun r27155=>some (r27155,true))) else (bif (bif (bif (bif (x41.kind == 2) then (PF.zbh a0.vars x41.a) else false) then (x41.b == 0) else false) then (x41.k == 0) else false) then bd (PF.zcZ a0.vars x41.a 1 0) (fun r39218=>some (r39218,true)) else (bif (bif (bif (bif (x41.kind == 3) then (PF.zbh a0.vars x41.a) else false) then (x41.b == 0) else false) then (x41.k == 0) else false) then bd (PF.zcZ a0.vars x41.a (-1) (-1)) (fun r39282=>some (r39282,true)) else (bif (bif (bif (bif (x41.kind == 4) then r56.2 else false) then r77.2 else false) then (x41.k == 0) else false) then bd (PF.zc0 r56.1 r77.1) (fun r39335=>some (r39335,true)) else (bif (bif (bif (bif (x41.kind == 5) then r56.2 else false) then (x41.b == 0) else false) then (PF.zaI x41.k 1 1000) else false) then bd (PF.zdA r56.1 x41.k) (fun r39390=>some (r39390,true)) else (bif (bif (bif (bif (x41.kind == 6) then r56.2 else false) then (x41.b == 0) else false) then (PF.zaI x41.k 2 1000) else false) then bd (PF.zdD r56.1 x41.k) (fun r39442=>some (r39442.1,r39442.2)) else some ((zaf.mk [] 0),false))))))))))

def zeo (a0:List Int) (a1:List Int):Option Bool :=
  (bif (!((len a0) == (len a1))) then some false else bdR (forL (S:=Unit) (X:=Bool) a0 (fun i23 y22 s23=>bd (ix a1 ((i23:Nat):Int)) (fun x74=>(bif (!(y22 == x74)) then some (Lp.rt false) else some (Lp.nx ())))) ()) (fun s23=>some true) (fun x23=>some x23))

def zdF (a0:zaf) (a1:zaf):Option Bool :=
  bd (bif (a0.bound == a1.bound) then bd (PF.zeo a0.coeffs a1.coeffs) (fun r49=>some r49) else some false) (fun t42=>some t42)

def zdG (a0:Cnf) (a1:List zab) (a2:Int):Option Bool :=
  bd (PF.zdE a0 a1 a2) (fun r29=>bd (bif r29.2 then bd (ix a1 a2) (fun x77=>bd (PF.zcB a0.vars x77.ineq) (fun r81=>some r81)) else some false) (fun t64=>bd (bif t64 then bd (ix a1 a2) (fun xAc=>bd (PF.zdF r29.1 xAc.ineq) (fun rAg=>some rAg)) else some false) (fun t99=>some t99)))

def zc1 (a0:Cnf) (a1:List zab):Option Int :=
  bdR (forL (S:=Unit) (X:=Int) a1 (fun i30 y29 s30=>bd (PF.zdG a0 a1 ((i30:Nat):Int)) (fun r55=>(bif (!r55) then some (Lp.rt ((i30:Nat):Int)) else some (Lp.nx ())))) ()) (fun s30=>some (-1)) (fun x30=>some x30)

def zck (a0:Cnf) (a1:List zab):Option Bool :=
  bd (PF.zbW a0) (fun r29=>bd (bif (bif r29 then (PF.zaI (len a1) 1 400) else false) then bd (PF.zc1 a0 a1) (fun r62=>some (decide (r62 < 0))) else some false) (fun t55=>some t55))

def zc2 (a0:Cnf) (a1:List zab):Option (Bool×Bool) :=
  bd (PF.zck a0 a1) (fun r30=>bd (PF.zbW a0) (fun r32=>some (r30,(bif r32 then (decide ((len a1)≤400)) else false))))

noncomputable def zcl (a0:Cnf) (a1:List zab):Option Bool :=
  bd (PF.zb4 a0) (fun r29=>some (bif r29 then (decide ((len a1)≤400)) else false))

def zcF (a0:List Int) (a1:List Int):Option Bool :=
  (bif (!((len a0) == (len a1))) then some false else bdR (forL (S:=Unit) (X:=Bool) a0 (fun i23 y22 s23=>bd (ix a1 ((i23:Nat):Int)) (fun x72=>(bif (!(y22 == x72)) then some (Lp.rt false) else some (Lp.nx ())))) ()) (fun s23=>some true) (fun x23=>some x23))

def zbX (a0:zaf) (a1:zaf):Option Bool :=
  bd (PF.zcF a0.coeffs a1.coeffs) (fun r37=>some (bif r37 then (a0.bound == a1.bound) else false))

noncomputable def zdH (a0:Cnf) (a1:List zab) (a2:Int):Option Bool :=
  bd (ix a1 a2) (fun x35=>bd (PF.zbV a0.vars x35.ineq) (fun r50=>(bif (!r50) then some false else bd (bif (PF.zan x35.a 0 (wr (a2 - 1))) then bd (ix a1 x35.a) (fun x82=>bd (PF.zbV a0.vars x82.ineq) (fun r86=>some r86)) else some false) (fun t69=>(bif (x35.kind == 1) then bd (bif (bif (bif (x35.b == 0) then (x35.k == 0) else false) then (PF.zan x35.a 0 (wr ((len a0.clauses) - 1))) else false) then bd (ix a0.clauses x35.a) (fun x81103=>bd (PF.zcf a0.vars x81103) (fun r87097=>bd (PF.zbX x35.ineq r87097) (fun r90097=>some r90097))) else some false) (fun t96_30=>some t96_30) else (bif (x35.kind == 2) then bd (bif (bif (bif (x35.b == 0) then (x35.k == 0) else false) then (PF.zan x35.a 1 a0.vars) else false) then bd (PF.zbk a0.vars x35.a 1 0) (fun r171105=>bd (PF.zbX x35.ineq r171105) (fun r174105=>some r174105)) else some false) (fun t102104_24=>some t102104_24) else (bif (x35.kind == 3) then bd (bif (bif (bif (x35.b == 0) then (x35.k == 0) else false) then (PF.zan x35.a 1 a0.vars) else false) then bd (PF.zbk a0.vars x35.a (-1) (-1)) (fun r255113=>bd (PF.zbX x35.ineq r255113) (fun r258113=>some r258113)) else some false) (fun t186112_24=>some t186112_24) else (bif (x35.kind == 4) then bd (bif (bif (bif (x35.k == 0) then t69 else false) then (PF.zan x35.b 0 (wr (a2 - 1))) else false) then bd (ix a1 x35.b) (fun x330127=>bd (PF.zbV a0.vars x330127.ineq) (fun r339121=>some r339121)) else some false) (fun t270120_23=>bd (bif t270120_23 then bd (ix a1 x35.a) (fun x363127=>bd (ix a1 x35.b) (fun x381127=>bd (PF.zaZ x363127.ineq x381127.ineq) (fun r390121=>bd (PF.zbX x35.ineq r390121) (fun r393121=>some r393121)))) else some false) (fun t270120_41=>some t270120_41)) else (bif (x35.kind == 5) then bd (bif (bif (bif (x35.b == 0) then t69 else false) then (PF.zan x35.k 1 1000) else false) then bd (ix a1 x35.a) (fun x459135=>bd (PF.zcA x459135.ineq x35.k) (fun r474129=>bd (PF.zbX x35.ineq r474129) (fun r477129=>some r477129))) else some false) (fun t405128_24=>some t405128_24) else (bif (x35.kind == 6) then (bif (bif (bif (!(x35.b == 0)) then true else (!t69)) then true else (!(PF.zan x35.k 2 1000))) then some false else bd (ix a1 x35.a) (fun x501170=>bd (PF.zbF x501170.ineq x35.k) (fun r516164=>bd (bif r516164.2 then bd (PF.zbX x35.ineq r516164.1) (fun r540190=>some r540190) else some false) (fun t540183=>some t540183)))) else some false))))))))))

noncomputable def zc3 (a0:Cnf) (a1:List zab):Option Int :=
  bdR (forL (S:=Unit) (X:=Int) a1 (fun i30 y29 s30=>bd (PF.zdH a0 a1 ((i30:Nat):Int)) (fun r53=>(bif (!r53) then some (Lp.rt ((i30:Nat):Int)) else some (Lp.nx ())))) ()) (fun s30=>some (-1)) (fun x30=>some x30)

noncomputable def zcG (a0:Cnf) (a1:List zab):Option Bool :=
  bd (PF.zcl a0 a1) (fun r29=>bd (bif (bif r29 then (decide (0 < (len a1))) else false) then bd (PF.zc3 a0 a1) (fun r56=>some (decide (r56 < 0))) else some false) (fun t49=>some t49))

noncomputable def zdI (a0:Cnf) (a1:List zab):Option (Bool×Bool) :=
  bd (PF.zcl a0 a1) (fun r29=>(bif (!r29) then some (false,false) else bd (PF.zcG a0 a1) (fun r35=>some (r35,true))))

def zdJ (a0:Cnf) (a1:List zab):Option (Int×Bool) :=
  bd (PF.zbW a0) (fun r29=>(bif (bif (!r29) then true else (decide (400 < (len a1)))) then some (0,false) else bd (PF.zc1 a0 a1) (fun r45=>some (r45,true))))

noncomputable def zdK (a0:Cnf) (a1:List zab):Option (Int×Bool) :=
  bd (PF.zcl a0 a1) (fun r29=>(bif (!r29) then some (0,false) else bd (PF.zc3 a0 a1) (fun r35=>some (r35,true))))

def zdL (a0:List (List Int)) (a1:(List Int)→Option Bool):Option Int :=
  bdR (forL (S:=Unit) (X:=Int) a0 (fun i22 y21 s22=>bd (a1 y21) (fun r68=>(bif r68 then some (Lp.rt ((i22:Nat):Int)) else some (Lp.nx ())))) ()) (fun s22=>some (-1)) (fun x22=>some x22)

def zdM (a0:List (List Int)) (a1:(List Int)→Option Bool):Option Bool :=
  bd (PF.zdL a0 a1) (fun r21=>some (decide (0≤r21)))

def zep (a0:Int) (b0:Int):Option Bool :=
  bd (nn (wr ((PF.zbb a0) - 1))) (fun u23=>some (((andK true 64 (shrK 64 b0 (wr ((PF.zbb a0) - 1))) 1) == 1) == (decide (0 < a0))))

def zdN (a0:List Int) (a1:Int):Option Bool :=
  bd (PF.zci a0 (fun x0=>PF.zep x0 a1)) (fun r29=>some r29)

def zdO (a0:List Int) (b0:Int):Option Bool :=
  bd (PF.zdN a0 b0) (fun r21=>some (!r21))

def zcm (a0:List (List Int)) (a1:Int):Option Bool :=
  bd (PF.zdM a0 (fun x0=>PF.zdO x0 a1)) (fun r29=>some (!r29))

def zc4 (a0:zaf) (a1:Int):Option Bool :=
  bdR (forL (S:=Int) (X:=Empty) a0.coeffs (fun i30 y29 s30=>bd (nn ((i30:Nat):Int)) (fun u69=>(bif ((andK true 64 (shrK 64 a1 ((i30:Nat):Int)) 1) == 1) then some (Lp.nx (wr (s30 + y29))) else some (Lp.nx s30)))) 0) (fun s30=>some (decide (a0.bound≤s30))) (fun x30=>nomatch x30)

def zc5 (a0:Cnf) (a1:zaf):Option (Bool×Bool) :=
  bd (PF.zbW a0) (fun r37=>bd (bif (!r37) then some true else bd (PF.zcB a0.vars a1) (fun r54=>some (!r54))) (fun t47=>(bif t47 then some (false,false) else bd (β:=_) (bd (nn a0.vars) (fun u216=>bd (chk (shlK true 64 1 a0.vars)) (fun m217=>bdR (forR (S:=Bool) (X:=Bool) 0 m217 (fun iBU sBU=>bd (PF.zcm a0.clauses ((iBU:Nat):Int)) (fun rDQ=>bd (bif rDQ then bd (β:=_) (bd (PF.zc4 a1 ((iBU:Nat):Int)) (fun rEs=>some (rEs,rEs)):Option (Bool×Bool)) (fun sEr=>some (sEr.1,(!sEr.2))) else some (sBU,false)) (fun t365=>(bif t365.2 then some (Lp.rt t365.1) else some (Lp.nx t365.1))))) true) (fun sBU=>some sBU) (fun xBU=>some xBU))):Option Bool) (fun sBI=>some (sBI,true)))))

def za7 (a0:zab):(List Int) :=
  (bif (a0.kind == 4) then [a0.a,a0.b] else (bif (a0.kind == 5) then [a0.a] else (bif (a0.kind == 6) then [a0.a] else [])))

noncomputable def zcn (a0:List Int):Option (List Int) :=
  bdR (iter (S:=((List Int)×Int×Int)) (X:=Empty) (fun s21=>(bif (decide (s21.2.1 < s21.2.2)) then bd (ix s21.1 s21.2.2) (fun x129077=>bd (ix s21.1 s21.2.1) (fun x141077=>bd (ix s21.1 s21.2.1) (fun x147077=>bd (put s21.1 s21.2.1 x129077) (fun xs150074=>bd (ix xs150074 s21.2.2) (fun x153077=>bd (put xs150074 s21.2.2 x141077) (fun xs156074=>some (Lp.nx (xs156074,(wr (s21.2.1 + 1)),(wr (s21.2.2 - 1)))))))))) else some (Lp.bk (s21.1,s21.2.1,s21.2.2)))) (a0,0,(wr ((len a0) - 1)))) (fun s21=>some s21.1) (fun x21=>nomatch x21)

def zeq (a0:List Int):Option (List Int) :=
  bd (app [] a0) (fun xs30=>some xs30)

def zcH (a0:zaf):Option zaf :=
  bd (PF.zeq a0.coeffs) (fun r9040=>some (zaf.mk r9040 a0.bound))

def zbi (a0:List Int) (a1:Int):Option Int :=
  bdR (forL (S:=Unit) (X:=Int) a0 (fun i22 y21 s22=>(bif (a1 == y21) then some (Lp.rt ((i22:Nat):Int)) else some (Lp.nx ()))) ()) (fun s22=>some (-1)) (fun x22=>some x22)

def zbp (a0:zab):(List Int) :=
  (bif (a0.kind == 4) then [a0.a,a0.b] else (bif (a0.kind == 5) then [a0.a] else (bif (a0.kind == 6) then [a0.a] else [])))

noncomputable def zdP (a0:List zab):Option (List zab) :=
  bd (mk2 (false:Bool) (len a0) (len a0)) (fun xs9021=>bd (mk2 (0:Int) (len a0) (len a0)) (fun xs18021=>bd (ix xs9021 (wr ((len a0) - 1))) (fun x30044=>bd (put xs9021 (wr ((len a0) - 1)) true) (fun xs30049=>bdR (iter (S:=((List Bool)×Int)) (X:=Empty) (fun s30054=>(bif (decide (0≤s30054.2)) then bd (ix a0 s30054.2) (fun x30445=>bdR (iter (S:=((List Bool)×Int)) (X:=Empty) (fun s30457=>bd (bif (decide (s30457.2 < (len (PF.zbp x30445)))) then bd (ix s30457.1 s30054.2) (fun x30626=>some x30626) else some false) (fun t30613=>(bif t30613 then bd (ix (PF.zbp x30445) s30457.2) (fun x30642=>bd (ix s30457.1 x30642) (fun x30650=>bd (put s30457.1 x30642 true) (fun xs30655=>some (Lp.nx (xs30655,(wr (s30457.2 + 1))))))) else some (Lp.bk (s30457.1,s30457.2))))) (s30054.1,0)) (fun s30457=>some (Lp.nx (s30457.1,(wr (s30054.2 - 1))))) (fun x30457=>nomatch x30457)) else some (Lp.bk (s30054.1,s30054.2)))) (xs30049,(wr ((len a0) - 1)))) (fun s30054=>bdR (forL (S:=((List zab)×(List Int))) (X:=Empty) a0 (fun i30685 y30684 s30685=>bd (ix s30054.1 ((i30685:Nat):Int)) (fun x109002=>(bif (!x109002) then some (Lp.nx (s30685.1,s30685.2)) else bd (app [] y30684.ineq.coeffs) (fun xs124020=>bdR (S:=((List Int)×Int×Int×Int×Int×Int)) (X:=Empty) ((bif (decide (0 < (len (PF.zbp (zab.mk (zaf.mk xs124020 y30684.ineq.bound) y30684.kind y30684.a y30684.b y30684.k))))) then bd (ix s30685.2 y30684.a) (fun x148067=>some (Rs.go (xs124020,y30684.ineq.bound,y30684.kind,x148067,y30684.b,y30684.k))) else some (Rs.go (xs124020,y30684.ineq.bound,y30684.kind,y30684.a,y30684.b,y30684.k)))) (fun s148055=>bdR (S:=((List Int)×Int×Int×Int×Int×Int)) (X:=Empty) ((bif (s148055.2.2.1 == 4) then bd (ix s30685.2 s148055.2.2.2.2.1) (fun x148107=>some (Rs.go (s148055.1,s148055.2.1,s148055.2.2.1,s148055.2.2.2.1,x148107,s148055.2.2.2.2.2))) else some (Rs.go (s148055.1,s148055.2.1,s148055.2.2.1,s148055.2.2.2.1,s148055.2.2.2.2.1,s148055.2.2.2.2.2)))) (fun s148095=>bd (ix s30685.2 ((i30685:Nat):Int)) (fun x148129=>bd (put s30685.2 ((i30685:Nat):Int) (len s30685.1)) (fun xs148134=>bd (app s30685.1 [(zab.mk (zaf.mk s148095.1 s148095.2.1) s148095.2.2.1 s148095.2.2.2.1 s148095.2.2.2.2.1 s148095.2.2.2.2.2)]) (fun xs148144=>some (Lp.nx (xs148144,xs148134)))))) (fun x148097=>nomatch x148097)) (fun x148057=>nomatch x148057))))) ([],xs18021)) (fun s30685=>some s30685.1) (fun x30685=>nomatch x30685)) (fun x30054=>nomatch x30054)))))

noncomputable def zdQ (a0:Cnf) (a1:List zab):Option ((List zab)×Bool) :=
  bd (PF.zcG a0 a1) (fun r29=>(bif (!r29) then some ([],false) else bd (PF.zdP a1) (fun r40=>some (r40,true))))

def zdR (a0:List Int) (a1:List Int):Option Bool :=
  (bif (!((len a0) == (len a1))) then some false else bdR (forL (S:=Unit) (X:=Bool) a0 (fun i23 y22 s23=>bd (ix a1 ((i23:Nat):Int)) (fun x72=>(bif (!(y22 == x72)) then some (Lp.rt false) else some (Lp.nx ())))) ()) (fun s23=>some true) (fun x23=>some x23))

def zdS (a0:List zab) (a1:List zab):Option Bool :=
  (bif (!((len a0) == (len a1))) then some false else bdR (forL (S:=Unit) (X:=Bool) a0 (fun i23 y22 s23=>bd (ix a1 ((i23:Nat):Int)) (fun xDv=>bd (bif (!(y22.kind == xDv.kind)) then some true else bd (ix a1 ((i23:Nat):Int)) (fun xEc=>some (!(y22.a == xEc.a)))) (fun t339=>bd (bif t339 then some true else bd (ix a1 ((i23:Nat):Int)) (fun xEX=>some (!(y22.b == xEX.b)))) (fun t386=>bd (bif t386 then some true else bd (ix a1 ((i23:Nat):Int)) (fun xFI=>some (!(y22.k == xFI.k)))) (fun t433=>bd (bif t433 then some true else bd (ix a1 ((i23:Nat):Int)) (fun xGt=>some (!(y22.ineq.bound == xGt.ineq.bound)))) (fun t480=>bd (bif t480 then some true else bd (ix a1 ((i23:Nat):Int)) (fun xHg=>bd (PF.zdR y22.ineq.coeffs xHg.ineq.coeffs) (fun rHk=>some (!rHk)))) (fun t529=>(bif t529 then some (Lp.rt false) else some (Lp.nx ()))))))))) ()) (fun s23=>some true) (fun x23=>some x23))

def zer (a0:Cnf) (a1:Int):Option zae :=
  bd (ix a0.clauses a1) (fun x39=>bd (PF.zcd x39) (fun r43=>some (zae.mk r43 (-1) a1 0)))

noncomputable def zdT (a0:List Int) (a1:List Int):Option ((List Int)×Bool) :=
  bd (PF.zcd a0) (fun r21=>bdR (forL (S:=(List Int)) (X:=((List Int)×Bool)) a1 (fun i32 y31 s32=>bd (PF.zaY s32 (wr (-y31))) (fun rBC=>(bif rBC then some (Lp.rt ([],false)) else bd (PF.zaY s32 y31) (fun rBY=>(bif (!rBY) then bd (PF.zbU s32 y31) (fun rCf=>some (Lp.nx rCf)) else some (Lp.nx s32)))))) r21) (fun s32=>some (s32,true)) (fun x32=>some x32))

noncomputable def zbq (a0:List Int) (a1:List Int) (a2:Int):Option ((List Int)×Bool) :=
  bd (PF.zaY a0 a2) (fun r21=>bd (bif (!r21) then some true else bd (PF.zaY a1 (wr (-a2))) (fun r38=>some (!r38))) (fun t31=>(bif t31 then some ([],false) else bd (PF.zcz a0 a2) (fun r53=>bd (PF.zcz a1 a2) (fun r63=>bd (PF.zdT r53 r63) (fun r83=>some (r83.1,r83.2)))))))

def zbr (a0:List Int) (a1:List Int):Option Bool :=
  bdR (forL (S:=Unit) (X:=Bool) a0 (fun i22 y21 s22=>bd (PF.zaY a1 y21) (fun r57=>(bif (!r57) then some (Lp.rt false) else some (Lp.nx ())))) ()) (fun s22=>some true) (fun x22=>some x22)

def zbz (a0:zae):(List Int) :=
  (bif (a0.left == (-1)) then [] else (bif (a0.right == (-1)) then [a0.left] else [a0.left,a0.right]))

noncomputable def zdU (a0:List zae):Option (List Bool) :=
  bd (mk2 (false:Bool) (len a0) (len a0)) (fun xs21=>bdR (iter (S:=((List Bool)×Int)) (X:=Empty) (fun s31=>(bif (decide (0≤s31.2)) then (bif (s31.2 == (wr ((len a0) - 1))) then bd (ix s31.1 s31.2) (fun xIu=>bd (put s31.1 s31.2 true) (fun xsIz=>bd (ix a0 s31.2) (fun xIK=>bdR (iter (S:=((List Bool)×Int)) (X:=Empty) (fun sIW=>bd (bif (decide (sIW.2 < (len (PF.zbz xIK)))) then bd (ix sIW.1 s31.2) (fun xLA=>some xLA) else some false) (fun t805=>(bif t805 then bd (ix (PF.zbz xIK) sIW.2) (fun xLP=>bd (ix sIW.1 xLP) (fun xLX=>bd (put sIW.1 xLP true) (fun xsM2=>some (Lp.nx (xsM2,(wr (sIW.2 + 1))))))) else some (Lp.bk (sIW.1,sIW.2))))) (xsIz,0)) (fun sIW=>some (Lp.nx (sIW.1,(wr (s31.2 - 1))))) (fun xIW=>nomatch xIW)))) else bd (ix a0 s31.2) (fun xMm=>bdR (iter (S:=((List Bool)×Int)) (X:=Empty) (fun sMy=>bd (bif (decide (sMy.2 < (len (PF.zbz xMm)))) then bd (ix sMy.1 s31.2) (fun xPc=>some xPc) else some false) (fun t1029=>(bif t1029 then bd (ix (PF.zbz xMm) sMy.2) (fun xPr=>bd (ix sMy.1 xPr) (fun xPz=>bd (put sMy.1 xPr true) (fun xsPE=>some (Lp.nx (xsPE,(wr (sMy.2 + 1))))))) else some (Lp.bk (sMy.1,sMy.2))))) (s31.1,0)) (fun sMy=>some (Lp.nx (sMy.1,(wr (s31.2 - 1))))) (fun xMy=>nomatch xMy))) else some (Lp.bk (s31.1,s31.2)))) (xs21,(wr ((len a0) - 1)))) (fun s31=>some s31.1) (fun x31=>nomatch x31))

def zc6 (a0:zae) (a1:List Int):Option zae :=
  bd (PF.zcd a0.clause) (fun r9033=>(bif (decide (0≤a0.left)) then bd (ix a1 a0.left) (fun x42054=>(bif (decide (0≤a0.right)) then bd (ix a1 a0.right) (fun x42066=>some (zae.mk r9033 x42054 x42066 a0.pivot)) else some (zae.mk r9033 x42054 a0.right a0.pivot))) else some (zae.mk r9033 a0.left a0.right a0.pivot)))

noncomputable def zbs (a0:List zae):Option (List zae) :=
  bd (PF.zdU a0) (fun r9021=>bd (mk2 (0:Int) (len a0) (len a0)) (fun xs18021=>bdR (forL (S:=((List zae)×(List Int))) (X:=Empty) a0 (fun i33045 y33044 s33045=>bd (ix r9021 ((i33045:Nat):Int)) (fun x33230=>(bif x33230 then bd (ix s33045.2 ((i33045:Nat):Int)) (fun x33239=>bd (put s33045.2 ((i33045:Nat):Int) (len s33045.1)) (fun xs33244=>bd (PF.zc6 y33044 xs33244) (fun r33262=>bd (app s33045.1 [r33262]) (fun xs33279=>some (Lp.nx (xs33279,xs33244)))))) else some (Lp.nx (s33045.1,s33045.2))))) ([],xs18021)) (fun s33045=>some s33045.1) (fun x33045=>nomatch x33045)))

noncomputable def zdV (a0:Cnf) (a1:Int):Option (List zae) :=
  bdR (iter (S:=((List zae)×Int)) (X:=Empty) (fun s34=>(bif (decide (s34.2 < (len a0.clauses))) then bd (PF.zer a0 s34.2) (fun r87=>bd (app s34.1 [r87]) (fun xsA2=>some (Lp.nx (xsA2,(wr (s34.2 + 1)))))) else some (Lp.bk (s34.1,s34.2)))) ([],0)) (fun s34=>bdR (iter (S:=((List zae)×Int)) (X:=(List zae)) (fun sAn=>(bif (decide (sAn.2 < (len sAn.1))) then bdR (iter (S:=((List zae)×Int)) (X:=(Lp ((List zae)×Int) (List zae))) (fun s57421=>(bif (bif (decide (s57421.2 < sAn.2)) then (decide ((len s57421.1) < a1)) else false) then bdR (iter (S:=((List zae)×Int)) (X:=(Lp ((List zae)×Int) (Lp ((List zae)×Int) (List zae)))) (fun s171834=>(bif (decide (s171834.2≤a0.vars)) then bd (ix s171834.1 sAn.2) (fun x286190=>bd (PF.zaY x286190.clause (wr (-s171834.2))) (fun r286194=>(bif r286194 then bd (ix s171834.1 s57421.2) (fun x295206=>bd (ix s171834.1 sAn.2) (fun x310206=>bd (PF.zbq x295206.clause x310206.clause s171834.2) (fun r322200=>bdR (iter (S:=(Bool×Int)) (X:=Empty) (fun s343220=>(bif (bif (decide (s343220.2 < (len s171834.1))) then s343220.1 else false) then bd (ix s171834.1 s343220.2) (fun x343319=>bd (PF.zbr x343319.clause r322200.1) (fun r343328=>some (Lp.nx ((!r343328),(wr (s343220.2 + 1)))))) else some (Lp.bk (s343220.1,s343220.2)))) (r322200.2,0)) (fun s343220=>(bif s343220.1 then bd (app s171834.1 [(zae.mk r322200.1 s57421.2 sAn.2 s171834.2)]) (fun xs343361=>(bif ((len r322200.1) == 0) then bd (PF.zbs xs343361) (fun r343380=>some (Lp.rt (Lp.rt (Lp.rt r343380)))) else some (Lp.nx (xs343361,(wr (s171834.2 + 1)))))) else some (Lp.nx (s171834.1,(wr (s171834.2 + 1)))))) (fun x343220=>nomatch x343220)))) else bd (ix s171834.1 sAn.2) (fun x352400=>bd (ix s171834.1 s57421.2) (fun x367400=>bd (PF.zbq x352400.clause x367400.clause s171834.2) (fun r379394=>bdR (iter (S:=(Bool×Int)) (X:=Empty) (fun s400414=>(bif (bif (decide (s400414.2 < (len s171834.1))) then s400414.1 else false) then bd (ix s171834.1 s400414.2) (fun x400513=>bd (PF.zbr x400513.clause r379394.1) (fun r400522=>some (Lp.nx ((!r400522),(wr (s400414.2 + 1)))))) else some (Lp.bk (s400414.1,s400414.2)))) (r379394.2,0)) (fun s400414=>(bif s400414.1 then bd (app s171834.1 [(zae.mk r379394.1 sAn.2 s57421.2 s171834.2)]) (fun xs400555=>(bif ((len r379394.1) == 0) then bd (PF.zbs xs400555) (fun r400574=>some (Lp.rt (Lp.rt (Lp.rt r400574)))) else some (Lp.nx (xs400555,(wr (s171834.2 + 1)))))) else some (Lp.nx (s171834.1,(wr (s171834.2 + 1)))))) (fun x400414=>nomatch x400414))))))) else some (Lp.bk (s171834.1,s171834.2)))) (s57421.1,1)) (fun s171834=>some (Lp.nx (s171834.1,(wr (s57421.2 + 1))))) (fun x171834=>some x171834) else some (Lp.bk (s57421.1,s57421.2)))) (sAn.1,0)) (fun s57421=>some (Lp.nx (s57421.1,(wr (sAn.2 + 1))))) (fun x57421=>some x57421) else some (Lp.bk (sAn.1,sAn.2)))) (s34.1,0)) (fun sAn=>some sAn.1) (fun xAn=>some xAn)) (fun x34=>nomatch x34)

noncomputable def zdW (a0:l1Cur) (a1:Cnf):Option ((List zae)×l1Cur) :=
  bd (PF.zb4 a1) (fun r29=>(bif (!r29) then some ([],a0) else bd (PF.zdV a1 120) (fun r40=>some (r40,a0))))

noncomputable def zes (a0:Cnf) (a1:List zae):Option Bool :=
  bd (bif (decide ((len a1)≤200)) then bd (PF.zb4 a0) (fun r41=>some r41) else some false) (fun t34=>some t34)

def zc7 (a0:Cnf) (a1:List zae) (a2:Int) (a3:Int):Option Bool :=
  bd (bif (PF.zan a3 0 (wr (a2 - 1))) then bd (ix a1 a3) (fun x55=>bd (PF.zb3 a0.vars x55.clause) (fun r59=>some r59)) else some false) (fun t42=>some t42)

noncomputable def zdX (a0:Cnf) (a1:List zae) (a2:Int):Option Bool :=
  bd (ix a1 a2) (fun x35=>bd (PF.zb3 a0.vars x35.clause) (fun r50=>(bif (!r50) then some false else (bif (x35.left == (-1)) then bd (bif (bif (x35.pivot == 0) then (PF.zan x35.right 0 (wr ((len a0.clauses) - 1))) else false) then bd (ix a0.clauses x35.right) (fun x93=>bd (PF.zcF x93 x35.clause) (fun r97=>some r97)) else some false) (fun t80=>some t80) else bd (PF.zc7 a0 a1 a2 x35.left) (fun rA3=>(bif (!rA3) then some false else (bif (x35.right == (-1)) then bd (bif (x35.pivot == 0) then bd (ix a1 x35.left) (fun xAA=>bd (PF.zbr xAA.clause x35.clause) (fun rAE=>some rAE)) else some false) (fun t123=>some t123) else bd (PF.zc7 a0 a1 a2 x35.right) (fun rAK=>(bif (bif (!rAK) then true else (!(PF.zan x35.pivot 1 a0.vars))) then some false else bd (ix a1 x35.left) (fun x12174=>bd (ix a1 x35.right) (fun x30174=>bd (PF.zbq x12174.clause x30174.clause x35.pivot) (fun r45168=>bd (bif r45168.2 then bd (PF.zcF r45168.1 x35.clause) (fun r66203=>some r66203) else some false) (fun t66191=>some t66191)))))))))))))

noncomputable def zdY (a0:Cnf) (a1:List zae):Option Int :=
  bdR (forL (S:=Unit) (X:=Int) a1 (fun i30 y29 s30=>bd (PF.zdX a0 a1 ((i30:Nat):Int)) (fun r53=>(bif (!r53) then some (Lp.rt ((i30:Nat):Int)) else some (Lp.nx ())))) ()) (fun s30=>some (-1)) (fun x30=>some x30)

noncomputable def zdZ (a0:Cnf) (a1:List zae):Option Bool :=
  bd (PF.zes a0 a1) (fun r29=>bd (bif r29 then bd (PF.zdY a0 a1) (fun r46=>some (decide (r46 < 0))) else some false) (fun t39=>some t39))

noncomputable def zet (a0:Cnf) (a1:List zae):Option Bool :=
  bd (bif (decide (0 < (len a1))) then bd (PF.zdZ a0 a1) (fun r41=>some r41) else some false) (fun t34=>some t34)

def zbK (a0:zae):Bool :=
  (decide (a0.left < 0))

def zaD (a0:List zab) (a1:Int) (a2:Int) (a3:Int) (a4:Int) (a5:zaf):Option (List zab) :=
  bd (app a0 [(zab.mk a5 a1 a2 a3 a4)]) (fun xs34=>some xs34)

def zbL (a0:zae):Bool :=
  (bif (decide (0≤a0.left)) then (decide (0≤a0.right)) else false)

def zcI (a0:List Int) (a1:List Int):Option (List Int) :=
  bdR (forL (S:=(List Int)) (X:=Empty) a0 (fun i27 y26 s27=>bd (PF.zaY a1 y26) (fun r90=>(bif (!r90) then bd (app s27 [y26]) (fun xsA7=>some (Lp.nx xsA7)) else some (Lp.nx s27)))) []) (fun s27=>some s27) (fun x27=>nomatch x27)

def zbt (a0:Int) (a1:Int):Option zaf :=
  (bif (decide (0 < a1)) then bd (PF.zbk a0 a1 1 0) (fun r28=>some r28) else bd (PF.zbk a0 (wr (-a1)) (-1) (-1)) (fun r40=>some r40))

def zcJ (a0:List Int) (a1:List Int) (a2:List Int):Option (List Int) :=
  bdR (forL (S:=(List Int)) (X:=Empty) a0 (fun i27 y26 s27=>bd (PF.zaY a1 y26) (fun rA2=>bd (PF.zaY a2 y26) (fun rAa=>(bif (!(rA2 == rAa)) then bd (app s27 [y26]) (fun xsAr=>some (Lp.nx xsAr)) else some (Lp.nx s27))))) []) (fun s27=>some s27) (fun x27=>nomatch x27)

noncomputable def zd0 (a0:Cnf) (a1:List zae):Option ((List zab)×(List Int)) :=
  bdR (iter (S:=((List Int)×(List zab)×Int)) (X:=Empty) (fun s39=>(bif (bif (decide (s39.2.2 < (len a1))) then (decide ((len s39.2.1)≤400)) else false) then bd (ix a1 s39.2.2) (fun x300281=>(bif (PF.zbK x300281) then bd (PF.zcf a0.vars x300281.clause) (fun r324300=>bd (PF.zaD s39.2.1 1 x300281.right 0 0 r324300) (fun r327300=>bd (app s39.1 [(wr ((len r327300) - 1))]) (fun xs336320=>some (Lp.nx (xs336320,r327300,(wr (s39.2.2 + 1))))))) else (bif (!(PF.zbL x300281)) then bd (ix s39.1 x300281.left) (fun x357341=>bd (ix a1 x300281.left) (fun x378341=>bd (PF.zcI x300281.clause x378341.clause) (fun r387335=>bd (β:=_) (bdR (iter (S:=((List zab)×Int×Int)) (X:=Empty) (fun s507423=>(bif (decide (s507423.2.2 < (len r387335))) then bd (ix r387335 s507423.2.2) (fun x624506=>(bif (decide (x624506 < 0)) then bd (ix r387335 s507423.2.2) (fun x639515=>bd (ix r387335 s507423.2.2) (fun x657515=>bd (PF.zbt a0.vars x657515) (fun r663509=>bd (PF.zaD s507423.1 3 (PF.zaH x639515) 0 0 r663509) (fun r666509=>bd (ix r666509 s507423.2.1) (fun x699530=>bd (ix r666509 (wr ((len r666509) - 1))) (fun x720530=>bd (PF.zaZ x699530.ineq x720530.ineq) (fun r729524=>bd (PF.zaD r666509 4 s507423.2.1 (wr ((len r666509) - 1)) 0 r729524) (fun r732524=>some (Lp.nx (r732524,(wr ((len r732524) - 1)),(wr (s507423.2.2 + 1)))))))))))) else bd (ix r387335 s507423.2.2) (fun x756544=>bd (ix r387335 s507423.2.2) (fun x774544=>bd (PF.zbt a0.vars x774544) (fun r780538=>bd (PF.zaD s507423.1 2 (PF.zaH x756544) 0 0 r780538) (fun r783538=>bd (ix r783538 s507423.2.1) (fun x816559=>bd (ix r783538 (wr ((len r783538) - 1))) (fun x837559=>bd (PF.zaZ x816559.ineq x837559.ineq) (fun r846553=>bd (PF.zaD r783538 4 s507423.2.1 (wr ((len r783538) - 1)) 0 r846553) (fun r849553=>some (Lp.nx (r849553,(wr ((len r849553) - 1)),(wr (s507423.2.2 + 1)))))))))))))) else some (Lp.bk (s507423.1,s507423.2.1,s507423.2.2)))) (s39.2.1,x357341,0)) (fun s507423=>some (s507423.1,s507423.2.1)) (fun x507423=>nomatch x507423):Option ((List zab)×Int)) (fun s507418=>bd (app s39.1 [s507418.2]) (fun xs411356=>some (Lp.nx (xs411356,s507418.1,(wr (s39.2.2 + 1))))))))) else bd (ix s39.1 x300281.left) (fun x426373=>bd (ix s39.1 x300281.right) (fun x441373=>bd (ix s39.1 x300281.left) (fun x459373=>bd (ix s39.2.1 x459373) (fun x465373=>bd (ix s39.1 x300281.right) (fun x486373=>bd (ix s39.2.1 x486373) (fun x492373=>bd (PF.zaZ x465373.ineq x492373.ineq) (fun r501367=>bd (PF.zaD s39.2.1 4 x426373 x441373 0 r501367) (fun r504367=>bd (ix a1 x300281.left) (fun x549389=>bd (ix a1 x300281.right) (fun x567389=>bd (PF.zcJ x300281.clause x549389.clause x567389.clause) (fun r576383=>bd (β:=_) (bdR (iter (S:=((List zab)×Int×Int)) (X:=Empty) (fun s696471=>(bif (decide (s696471.2.2 < (len r576383))) then bd (ix r576383 s696471.2.2) (fun x813554=>(bif (decide (x813554 < 0)) then bd (ix r576383 s696471.2.2) (fun x828563=>bd (ix r576383 s696471.2.2) (fun x846563=>bd (PF.zbt a0.vars x846563) (fun r852557=>bd (PF.zaD s696471.1 3 (PF.zaH x828563) 0 0 r852557) (fun r855557=>bd (ix r855557 s696471.2.1) (fun x888578=>bd (ix r855557 (wr ((len r855557) - 1))) (fun x909578=>bd (PF.zaZ x888578.ineq x909578.ineq) (fun r918572=>bd (PF.zaD r855557 4 s696471.2.1 (wr ((len r855557) - 1)) 0 r918572) (fun r921572=>some (Lp.nx (r921572,(wr ((len r921572) - 1)),(wr (s696471.2.2 + 1)))))))))))) else bd (ix r576383 s696471.2.2) (fun x945592=>bd (ix r576383 s696471.2.2) (fun x963592=>bd (PF.zbt a0.vars x963592) (fun r969586=>bd (PF.zaD s696471.1 2 (PF.zaH x945592) 0 0 r969586) (fun r972586=>bd (ix r972586 s696471.2.1) (fun x1005607=>bd (ix r972586 (wr ((len r972586) - 1))) (fun x1026607=>bd (PF.zaZ x1005607.ineq x1026607.ineq) (fun r1035601=>bd (PF.zaD r972586 4 s696471.2.1 (wr ((len r972586) - 1)) 0 r1035601) (fun r1038601=>some (Lp.nx (r1038601,(wr ((len r1038601) - 1)),(wr (s696471.2.2 + 1)))))))))))))) else some (Lp.bk (s696471.1,s696471.2.1,s696471.2.2)))) (r504367,(wr ((len r504367) - 1)),0)) (fun s696471=>some (s696471.1,s696471.2.1)) (fun x696471=>nomatch x696471):Option ((List zab)×Int)) (fun s696466=>bd (ix s696466.1 s696466.2) (fun x600405=>bd (PF.zbF x600405.ineq 2) (fun r600409=>bd (PF.zaD s696466.1 6 s696466.2 0 2 r600409.1) (fun r600431=>bd (app s39.1 [(wr ((len r600431) - 1))]) (fun xs600447=>some (Lp.nx (xs600447,r600431,(wr (s39.2.2 + 1))))))))))))))))))))))) else some (Lp.bk (s39.1,s39.2.1,s39.2.2)))) ([],[],0)) (fun s39=>some (s39.2.1,s39.1)) (fun x39=>nomatch x39)

noncomputable def zd1 (a0:Cnf) (a1:List zae):Option ((List zab)×Bool) :=
  bd (PF.zet a0 a1) (fun r29=>(bif (!r29) then some ([],false) else bd (PF.zd0 a0 a1) (fun r40=>(bif (decide (400 < (len r40.1))) then some ([],false) else bd (ix r40.2 (wr ((len r40.2) - 1))) (fun x66=>bd (cut r40.1 0 (wr (x66 + 1))) (fun xs68=>some (xs68,true)))))))

noncomputable def zd2 (a0:List Int):Option (Cnf×(List zab)) :=
  bd (PF.zbo (l1Cur.mk a0 0 0) 3) (fun r29=>(bif r29.1 then bd (PF.zcW a0) (fun r38=>some (r38.1,r38.2)) else bd (PF.zcV r29.2) (fun r54=>bd (PF.zdW r54.2 r54.1) (fun r12075=>bd (PF.zd1 r54.1 r12075.1) (fun r15081=>bd (bif (decide (0 < (len r15081.1))) then bd (PF.zbo r12075.2 4) (fun r36103=>some (r36103.2.code,r36103.2.at_,r36103.2.seed,r36103.1)) else some (r12075.2.code,r12075.2.at_,r12075.2.seed,false)) (fun t36099=>(bif t36099.2.2.2 then bd (PF.zaM (l1Cur.mk t36099.1 t36099.2.1 t36099.2.2.1) (len r15081.1)) (fun r36122=>bd (ix r15081.1 r36122.1) (fun x36136=>bd (ix r15081.1 r36122.1) (fun x36146=>bd (put r15081.1 r36122.1 (zab.mk (zaf.mk x36146.ineq.coeffs (wr (x36136.ineq.bound + 1))) x36146.kind x36146.a x36146.b x36146.k)) (fun xs36153=>some (r54.1,xs36153))))) else some (r54.1,r15081.1))))))))

def zeu (a0:List zab):Option zab :=
  bd (ix a0 (wr ((len a0) - 1))) (fun x31=>some x31)

def zc8 (a0:Int):Bool :=
  (!(a0 == 0))

def zd3 (a0:zaf):Option Bool :=
  bd (bif (decide (1≤a0.bound)) then bd (PF.zci a0.coeffs (fun x0=>some (PF.zc8 x0))) (fun r41=>some (!r41)) else some false) (fun t34=>some t34)

def zd4 (a0:Cnf) (a1:List zab):Option (Bool×Bool) :=
  bd (PF.zck a0 a1) (fun r9029=>bd (bif r9029 then bd (PF.zeu a1) (fun r18029=>bd (PF.zd3 r18029.ineq) (fun r24029=>some r24029)) else some false) (fun t28_8=>bd (PF.zbW a0) (fun r33029=>some (t28_8,(bif r33029 then (decide ((len a1)≤400)) else false)))))

noncomputable def zev (a0:Cnf) (a1:List zab):Option Bool :=
  bd (PF.zcG a0 a1) (fun r29=>(bif (!r29) then some false else bd (ix a1 (wr ((len a1) - 1))) (fun x41=>bd (bif (decide (1≤x41.ineq.bound)) then bd (mk2 (0:Int) a0.vars a0.vars) (fun xs27058=>bd (PF.zcF x41.ineq.coeffs xs27058) (fun r30063=>some r30063)) else some false) (fun t57_10=>some t57_10))))

noncomputable def zd5 (a0:Cnf) (a1:List zab):Option (Bool×Bool) :=
  bd (PF.zcl a0 a1) (fun r29=>(bif (!r29) then some (false,false) else bd (PF.zev a0 a1) (fun r35=>some (r35,true))))

def zd6 (a0:Int) (a1:List (List Int)):Option Bool :=
  bd (β:=_) (bd (nn a0) (fun u154=>bd (chk (shlK true 64 1 a0)) (fun m155=>bdR (forR (S:=Bool) (X:=Bool) 0 m155 (fun iAU sAU=>bd (PF.zcm a1 ((iAU:Nat):Int)) (fun rCw=>bd (bif rCw then bd (β:=_) (some (true,false):Option (Bool×Bool)) (fun sCS=>some (sCS.1,(!sCS.2))) else some (sAU,false)) (fun t273=>(bif t273.2 then some (Lp.rt t273.1) else some (Lp.nx t273.1))))) false) (fun sAU=>some sAU) (fun xAU=>some xAU))):Option Bool) (fun sAI=>some sAI)

def zd7 (a0:Cnf):Option (Bool×Bool) :=
  bd (PF.zbW a0) (fun r29=>(bif (!r29) then some (false,false) else bd (PF.zd6 a0.vars a0.clauses) (fun r35=>some (r35,true))))

noncomputable def zew (a0:List Int):Option Bool :=
  (bif (PF.zdm a0) then some true else bd (PF.zdx a0) (fun r25=>bd (PF.zc2 r25.1 r25.2) (fun r54=>bd (PF.zdI r25.1 r25.2) (fun r64=>(bif (bif (!(r54.1 == r64.1)) then true else (!(r54.2 == r64.2))) then some false else bd (PF.zdJ r25.1 r25.2) (fun r88=>bd (PF.zdK r25.1 r25.2) (fun r98=>(bif (bif (bif (bif (!(r88.1 == r98.1)) then true else (!(r88.2 == r98.2))) then true else (!(r88.2 == r54.2))) then true else (bif (bif r54.2 then (decide (0 < (len r25.2))) else false) then (!(r54.1 == (r88.1 == (-1)))) else false)) then some false else bdR (S:=Unit) (X:=Bool) ((bif (bif r54.2 then r54.1 else false) then bdR (iter (S:=Int) (X:=(Rs Unit Bool)) (fun s61077=>(bif (bif (decide (s61077 < (len r25.2))) then (decide (s61077 < 60)) else false) then bd (ix r25.2 s61077) (fun x61158=>bd (PF.zc5 r25.1 x61158.ineq) (fun r61162=>(bif (bif (!r61162.2) then true else (!r61162.1)) then some (Lp.rt (Rs.rt false)) else some (Lp.nx (wr (s61077 + 1)))))) else some (Lp.bk s61077))) 0) (fun s61077=>bd (β:=_) (bd (PF.zck r25.1 r25.2) (fun r61826=>(bif (!r61826) then some (false,[]) else bd (β:=_) (bd (β:=_) (bd (mk2 (false:Bool) (len r25.2) (len r25.2)) (fun xs62843=>bdR (iter (S:=((List Bool)×(List Int)×Int)) (X:=Empty) (fun s62853=>(bif (decide (0≤s62853.2.2)) then bd (ix s62853.1 s62853.2.2) (fun x63243=>(bif (bif (!x63243) then (decide (s62853.2.2 < (wr ((len r25.2) - 1)))) else false) then some (Lp.nx (s62853.1,s62853.2.1,(wr (s62853.2.2 - 1)))) else bd (app s62853.2.1 [s62853.2.2]) (fun xs63264=>bd (β:=_) (bd (ix r25.2 s62853.2.2) (fun x63304=>some (PF.za7 x63304)):Option (List Int)) (fun s63293=>bd (chk (len s63293)) (fun m63321=>bdR (forR (S:=(List Bool)) (X:=Empty) 0 m63321 (fun i63322 s63322=>bd (ix s63293 ((i63322:Nat):Int)) (fun x63420=>bd (ix s63322 x63420) (fun x63428=>bd (put s63322 x63420 true) (fun xs63433=>some (Lp.nx xs63433))))) s62853.1) (fun s63322=>some (Lp.nx (s63322,xs63264,(wr (s62853.2.2 - 1))))) (fun x63322=>nomatch x63322)))))) else some (Lp.bk (s62853.1,s62853.2.1,s62853.2.2)))) (xs62843,[],(wr ((len r25.2) - 1)))) (fun s62853=>bd (PF.zcn s62853.2.1) (fun r63469=>some r63469)) (fun x62853=>nomatch x62853)):Option (List Int)) (fun s62838=>bd (chk (len s62838)) (fun m63483=>bdR (forR (S:=(List zab)) (X:=Empty) 0 m63483 (fun i63484 s63484=>bd (ix s62838 ((i63484:Nat):Int)) (fun x63649=>bd (ix r25.2 x63649) (fun x63657=>bd (PF.zcH x63657.ineq) (fun r63668=>(bif (decide (0 < (len (PF.za7 (zab.mk r63668 x63657.kind x63657.a x63657.b x63657.k))))) then bd (PF.zbi s62838 x63657.a) (fun r63694=>(bif ((len (PF.za7 (zab.mk r63668 x63657.kind x63657.a x63657.b x63657.k))) == 2) then bd (PF.zbi s62838 x63657.b) (fun r63708=>bd (app s63484 [(zab.mk r63668 x63657.kind r63694 r63708 x63657.k)]) (fun xs63726=>some (Lp.nx xs63726))) else bd (app s63484 [(zab.mk r63668 x63657.kind r63694 x63657.b x63657.k)]) (fun xs63744=>some (Lp.nx xs63744)))) else bd (app s63484 [(zab.mk r63668 x63657.kind x63657.a x63657.b x63657.k)]) (fun xs63762=>some (Lp.nx xs63762))))))) []) (fun s63484=>some s63484) (fun x63484=>nomatch x63484))):Option (List zab)) (fun s62420=>some (true,s62420)))):Option (Bool×(List zab))) (fun s61807=>bd (PF.zdQ r25.1 r25.2) (fun r63807=>bd (bif (bif (!(s61807.1 == r63807.2)) then true else (!s61807.1)) then some true else bd (PF.zdS s61807.2 r63807.1) (fun r63867=>some (!r63867))) (fun t63849=>(bif (bif t63849 then true else ((len s61807.2) == 0)) then some (Rs.rt false) else bd (PF.zc2 r25.1 s61807.2) (fun r63896=>bd (ix r25.2 (wr ((len r25.2) - 1))) (fun x78907=>bd (ix s61807.2 (wr ((len s61807.2) - 1))) (fun x99907=>bd (bif (bif (bif (!r63896.2) then true else (!r63896.1)) then true else (!(x78907.ineq.bound == x99907.ineq.bound))) then some true else bd (PF.zdR x78907.ineq.coeffs x99907.ineq.coeffs) (fun r123954=>some (!r123954))) (fun t123947=>(bif t123947 then some (Rs.rt false) else some (Rs.go ()))))))))))) (fun x61077=>some x61077) else some (Rs.go ()))) (fun s61073=>bd (PF.zd2 a0) (fun r123968=>bd (PF.zd4 r123968.1 r123968.2) (fun r123997=>bd (PF.zd5 r123968.1 r123968.2) (fun r124007=>(bif (bif (!(r123997.1 == r124007.1)) then true else (!(r123997.2 == r124007.2))) then some false else (bif (bif r123997.2 then r123997.1 else false) then bd (PF.zd7 r123968.1) (fun r124034=>(bif (bif (!r124034.2) then true else r124034.1) then some false else some true)) else some true)))))) (fun x61075=>some x61075)))))))))

end Go.PF
