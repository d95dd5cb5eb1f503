/- Part of the walks and plain laws behind the claim: it proves helpers, under no condition beyond their own. -/
import Derived.Test.YtkaikagbfoadpaaGreatFcLB
set_option linter.unusedVariables false
namespace Go.PF
open Go.Pu

structure Cnf where
  vars:Int
  clauses:List (List Int)
def okCnf (s:Cnf):Prop:=okI s.vars∧(okL (okL okI)) s.clauses

structure Term where
  mono:Int
  coeff:Int
structure PcStep where
  kind:Int
  poly:List Term
  a:Int
  b:Int
  x:Int
  y:Int
structure Inequality where
  coeffs:List Int
  bound:Int
structure PlaneStep where
  ineq:Inequality
  kind:Int
  a:Int
  b:Int
  k:Int
structure ring where
  p:Int
  vars:Int
structure algebra where
  ring:ring
  f:Cnf
  q:List (List Int)
structure l1Cur where
  code:List Int
  at_:Int
  seed:Int
structure zaa where
  clause:List Int
  left:Int
  right:Int
  pivot:Int
def zaE (s:zaa):Prop:=(okL okI) s.clause∧okI s.left∧okI s.right∧okI s.pivot

def zcF (a0:List Int):Bool :=
  (decide (65536 < (len a0)))

def zcb (a0:l1Cur):Option (Int×l1Cur) :=
  bdR (S:=Int) (X:=Empty) ((bif (decide (a0.at_ < (len a0.code))) then bd (ix a0.code a0.at_) (fun x49=>some (Rs.go (wrk true 64 x49))) else some (Rs.go 0))) (fun s38=>(bif (decide ((wr (a0.at_ + 1))≤(len a0.code))) then some (s38,(l1Cur.mk a0.code (wr (a0.at_ + 1)) (wrk false 64 ((wrk false 64 ((wrk false 64 (a0.seed * 6364136223846793005)) + (wrk false 64 s38))) + 337411)))) else some ((wrk true 64 (andK false 64 (shrK 64 (wrk false 64 ((wrk false 64 ((wrk false 64 (a0.seed * 6364136223846793005)) + (wrk false 64 s38))) + 337411)) 40) 255)),(l1Cur.mk a0.code (wr (a0.at_ + 1)) (wrk false 64 ((wrk false 64 ((wrk false 64 (a0.seed * 6364136223846793005)) + (wrk false 64 s38))) + 337411)))))) (fun x40=>nomatch x40)

def zaI (a0:l1Cur) (a1:Int):Option (Int×l1Cur) :=
  (bif (decide (a1≤1)) then some (0,a0) else bd (PF.zcb a0) (fun r22=>(bif (decide (200 < a1)) then bd (PF.zcb r22.2) (fun r31=>bd (nz a1) (fun u40=>some (((wr ((wr (r22.1 * 256)) + r31.1)).tmod a1),r31.2))) else bd (nz a1) (fun u42=>some ((r22.1.tmod a1),r22.2)))))

def zaK (a0:l1Cur) (a1:Int):Option (Bool×l1Cur) :=
  bd (PF.zaI a0 a1) (fun r21=>some ((r21.1 == 0),r21.2))

def zbB  : (List ByteArray) :=
  [(ByteArray.mk #[49,59,32,49,59,32,45,49]),(ByteArray.mk #[50,59,32,49,32,50,59,32,49,32,45,50,59,32,45,49,32,50,59,32,45,49,32,45,50]),(ByteArray.mk #[48,59,32,110,111,110,101]),(ByteArray.mk #[50,59,32,49,59,32,45,49,32,50,59,32,45,50]),(ByteArray.mk #[51,59,32,49,59,32,45,49,32,50,59,32,45,50,32,51,59,32,45,51]),(ByteArray.mk #[51,59,32,49,32,50,59,32,45,49,32,51,59,32,45,50,32,51,59,32,45,51]),(ByteArray.mk #[51,59,32,49,32,50,59,32,45,49,32,50,59,32,45,50,32,51,59,32,45,50,32,45,51]),(ByteArray.mk #[51,59,32,49,32,50,32,51,59,32,49,32,50,32,45,51,59,32,49,32,45,50,59,32,45,49,32,51,59,32,45,49,32,45,51]),(ByteArray.mk #[50,59,32,49,32,50,59,32,45,49,59,32,45,50,59,32,49,32,45,50]),(ByteArray.mk #[52,59,32,49,32,50,59,32,51,32,52,59,32,45,49,32,45,51,59,32,45,50,32,45,52,59,32,45,49,32,45,52,59,32,45,50,32,45,51]),(ByteArray.mk #[51,59,32,49,32,50,59,32,50,32,51,59,32,49,32,51,59,32,45,49,32,45,50,59,32,45,50,32,45,51,59,32,45,49,32,45,51]),(ByteArray.mk #[52,59,32,49,59,32,50,59,32,45,49,32,45,50,32,51,59,32,45,51,32,52,59,32,45,52]),(ByteArray.mk #[51,59,32,49,32,45,50,59,32,50,32,45,51,59,32,51,32,45,49,59,32,49,32,50,32,51,59,32,45,49,32,45,50,32,45,51]),(ByteArray.mk #[52,59,32,49,32,50,59,32,45,49,32,45,50,59,32,50,32,51,59,32,45,50,32,45,51,59,32,51,32,52,59,32,45,51,32,45,52,59,32,49,32,52,32,45,51,59,32,45,49,32,45,52,59,32,49,32,45,52,59,32,45,49,32,52]),(ByteArray.mk #[50,59,32,49,59,32,45,49,59,32,50])]

def zcG (a0:l1Cur) (a1:List ByteArray):Option (ByteArray×l1Cur) :=
  bd (PF.zaI a0 (len a1)) (fun r21=>bd (ix a1 r21.1) (fun x35=>some (x35,r21.2)))

def zcc (a0:ByteArray) (a1:Int):Option (List ByteArray) :=
  bd (chk (a0.size:Int)) (fun m26=>bdR (forR (S:=((List ByteArray)×Int)) (X:=Empty) 0 m26 (fun i27 s27=>bd (ixS a0 ((i27:Nat):Int)) (fun z73=>(bif (z73 == a1) then bd (cutS a0 s27.2 ((i27:Nat):Int)) (fun z76=>bd (app s27.1 [z76]) (fun xs83=>some (Lp.nx (xs83,(wr (((i27:Nat):Int) + 1)))))) else some (Lp.nx (s27.1,s27.2))))) ([],0)) (fun s27=>bd (cutS a0 s27.2 (a0.size:Int)) (fun zA3=>bd (app s27.1 [zA3]) (fun xsAa=>some xsAa))) (fun x27=>nomatch x27))

def zaU (a0:Int) (a1:Int) (a2:Int):Bool :=
  (bif (decide (a1≤a0)) then (decide (a0≤a2)) else false)

def zbS (a0:Int):Option ByteArray:=numT a0

def zcd (a0:ByteArray):Option (Int×Bool) :=
  bd (bif (decide (1 < (a0.size:Int))) then bd (ixS a0 0) (fun z30=>some (z30 == 45)) else some false) (fun t23=>bdR (S:=ByteArray) (X:=Empty) ((bif t23 then bd (cutS a0 1 (a0.size:Int)) (fun z42=>some (Rs.go z42)) else some (Rs.go a0))) (fun s38=>(bif (!(PF.zaU (s38.size:Int) 1 6)) then some (0,false) else bd (chk (s38.size:Int)) (fun m55=>bdR (forR (S:=Int) (X:=(Int×Bool)) 0 m55 (fun i56 s56=>bd (ixS s38 ((i56:Nat):Int)) (fun z96=>bd (bif (decide (z96 < 48)) then some true else bd (ixS s38 ((i56:Nat):Int)) (fun zA7=>some (decide (57 < zA7)))) (fun t100=>(bif t100 then some (Lp.rt (0,false)) else bd (ixS s38 ((i56:Nat):Int)) (fun zAf=>some (Lp.nx (wr ((wr (10 * s56)) + (wrk true 64 (wrk false 8 (zAf - 48))))))))))) 0) (fun s56=>bdR (S:=Int) (X:=Empty) ((bif (decide ((s38.size:Int) < (a0.size:Int))) then some (Rs.go (wr (-s56))) else some (Rs.go s56))) (fun sAr=>bd (PF.zbS sAr) (fun rAC=>(bif (!(rAC.toList == a0.toList)) then some (0,false) else some (sAr,true)))) (fun xAt=>nomatch xAt)) (fun x56=>some x56)))) (fun x40=>nomatch x40))

def zaZ (a0:Int):Bool :=
  (PF.zaU a0 0 12)

def zbf (a0:Int) (a1:Int):Bool :=
  (bif (PF.zaU a1 (wr (-a0)) a0) then (!(a1 == 0)) else false)

def zaq (a0:Int):Int :=
  (bif (decide (a0 < 0)) then (wr (-a0)) else a0)

def zbC (a0:Int) (a1:List Int):Option Bool :=
  (bif (!(PF.zaZ a0)) then some false else bdR (forL (S:=Unit) (X:=Bool) a1 (fun i26 y25 s26=>bd (bif (!(PF.zbf a0 y25)) then some true else bd (bif (decide (0 < ((i26:Nat):Int))) then bd (ix a1 (wr (((i26:Nat):Int) - 1))) (fun xC2=>some (decide ((PF.zaq y25)≤(PF.zaq xC2)))) else some false) (fun t213=>some t213)) (fun t192=>(bif t192 then some (Lp.rt false) else some (Lp.nx ())))) ()) (fun s26=>some true) (fun x26=>some x26))

def zce (a0:List Int):Option ByteArray :=
  (bif ((len a0) == 0) then some (ByteArray.mk #[110,111,110,101]) else bd (ix a0 0) (fun x28=>bd (PF.zbS x28) (fun r30=>bdR (forR (S:=ByteArray) (X:=Empty) 1 a0.length (fun i35 s35=>bd (catS s35 (ByteArray.mk #[32])) (fun z69=>bd (ix a0 ((i35:Nat):Int)) (fun x77=>bd (PF.zbS x77) (fun r79=>bd (catS z69 r79) (fun z84=>some (Lp.nx z84)))))) r30) (fun s35=>some s35) (fun x35=>nomatch x35))))

noncomputable def zcH (a0:Int) (a1:ByteArray):Option ((List Int)×Bool) :=
  (bif (a1.toList == (ByteArray.mk #[110,111,110,101]).toList) then some ([],(PF.zaZ a0)) else bd (PF.zcc a1 32) (fun r30=>bdR (iter (S:=((List Int)×Int)) (X:=((List Int)×Bool)) (fun s40=>(bif (bif (decide (s40.2 < (len r30))) then (decide (s40.2≤12)) else false) then bd (ix r30 s40.2) (fun xAy=>bd (PF.zcd xAy) (fun rAA=>(bif (!rAA.2) then some (Lp.rt ([],false)) else bd (app s40.1 [rAA.1]) (fun xsAQ=>some (Lp.nx (xsAQ,(wr (s40.2 + 1)))))))) else some (Lp.bk (s40.1,s40.2)))) ([],0)) (fun s40=>bd (bif (decide (12 < (len r30))) then some true else bd (PF.zbC a0 s40.1) (fun rBx=>some (!rBx))) (fun t183=>bd (bif t183 then some true else bd (PF.zce s40.1) (fun rC1=>some (!(rC1.toList == a1.toList)))) (fun t213=>(bif t213 then some ([],false) else some (s40.1,true))))) (fun x40=>some x40)))

noncomputable def zcI (a0:Cnf):Option ByteArray :=
  bd (PF.zbS a0.vars) (fun r29=>bdR (iter (S:=(ByteArray×Int)) (X:=Empty) (fun s34=>(bif (decide (s34.2 < (len a0.clauses))) then bd (catS s34.1 (ByteArray.mk #[59,32])) (fun z72=>bd (ix a0.clauses s34.2) (fun x80=>bd (PF.zce x80) (fun r84=>bd (catS z72 r84) (fun z89=>some (Lp.nx (z89,(wr (s34.2 + 1)))))))) else some (Lp.bk (s34.1,s34.2)))) (r29,0)) (fun s34=>some s34.1) (fun x34=>nomatch x34))

noncomputable def zcJ (a0:ByteArray):Option (Cnf×Bool) :=
  bd (PF.zcc a0 59) (fun r25=>bd (ix r25 0) (fun x41=>bd (PF.zcd x41) (fun r43=>(bif (bif (bif (!r43.2) then true else (!(PF.zaZ r43.1))) then true else (decide (61 < (len r25)))) then some ((Cnf.mk 0 []),false) else bdR (iter (S:=((List (List Int))×Int×Int)) (X:=(Cnf×Bool)) (fun s94=>(bif (decide (s94.2.2 < (len r25))) then bd (ix r25 s94.2.2) (fun xDM=>bd (bif (decide ((xDM.size:Int) < 2)) then some true else bd (ix r25 s94.2.2) (fun xEb=>bd (ixS xEb 0) (fun zEd=>some (!(zEd == 32))))) (fun t346=>(bif t346 then some (Lp.rt ((Cnf.mk 0 []),false)) else bd (ix r25 s94.2.2) (fun xEw=>bd (cutS xEw 1 (xEw.size:Int)) (fun zEy=>bd (PF.zcH r43.1 zEy) (fun rEA=>(bif (!rEA.2) then some (Lp.rt ((Cnf.mk 0 []),false)) else bd (app s94.1 [rEA.1]) (fun xsEZ=>some (Lp.nx (xsEZ,s94.2.1,(wr (s94.2.2 + 1)))))))))))) else some (Lp.bk (s94.1,s94.2.1,s94.2.2)))) ([],r43.1,1)) (fun s94=>bd (PF.zcI (Cnf.mk s94.2.1 s94.1)) (fun rFt=>(bif (!(rFt.toList == a0.toList)) then some ((Cnf.mk 0 []),false) else some ((Cnf.mk s94.2.1 s94.1),true)))) (fun x94=>some x94)))))

noncomputable def zbT (a0:ByteArray):Option Cnf :=
  bd (PF.zcJ a0) (fun r25=>some r25.1)

noncomputable def zbJ (a0:Cnf):Option Bool :=
  (bif (bif (!(PF.zaZ a0.vars)) then true else (decide (60 < (len a0.clauses)))) then some false else bdR (iter (S:=Int) (X:=Bool) (fun s42=>(bif (decide (s42 < (len a0.clauses))) then bd (ix a0.clauses s42) (fun x83=>bd (PF.zbC a0.vars x83) (fun r87=>(bif (!r87) then some (Lp.rt false) else some (Lp.nx (wr (s42 + 1)))))) else some (Lp.bk s42))) 0) (fun s42=>some true) (fun x42=>some x42))

def zcK (a0:List Int) (a1:Int):Option Bool :=
  bdR (forL (S:=Unit) (X:=Bool) a0 (fun i22 y21 s22=>(bif (y21 == a1) then some (Lp.rt true) else some (Lp.nx ()))) ()) (fun s22=>some false) (fun x22=>some x22)

def zaX (a0:List Int) (a1:Int):Option Bool :=
  bd (PF.zcK a0 a1) (fun r21=>some r21)

def zbK (a0:List Int):Option (List Int) :=
  bd (app [] a0) (fun xs26=>some xs26)

noncomputable def zbu (a0:List Int) (a1:Int):Option (List Int) :=
  bdR (iter (S:=Int) (X:=Empty) (fun s21=>bd (bif (decide (s21 < (len a0))) then bd (ix a0 s21) (fun xA5=>some (decide ((PF.zaq xA5) < (PF.zaq a1)))) else some false) (fun t92=>(bif t92 then some (Lp.nx (wr (s21 + 1))) else some (Lp.bk s21)))) 0) (fun s21=>bd (cut a0 0 s21) (fun xs9127=>bd (PF.zbK xs9127) (fun r12127=>bd (app r12127 [a1]) (fun xs21127=>bd (cut a0 s21 (len a0)) (fun xs30127=>bd (app xs21127 xs30127) (fun xs33127=>some xs33127)))))) (fun x21=>nomatch x21)

noncomputable def zcL (a0:Cnf) (a1:List Int):Option (Cnf×Bool) :=
  bd (PF.zbJ a0) (fun r33=>(bif (bif (!r33) then true else (!((len a1) == a0.vars))) then some ((Cnf.mk 0 []),false) else bdR (forL (S:=Unit) (X:=(Cnf×Bool)) a1 (fun i54 y53 s54=>bd (bif (!(PF.zbf a0.vars y53)) then some true else bd (cut a1 0 ((i54:Nat):Int)) (fun xsBs=>bd (PF.zaX xsBs y53) (fun rBD=>some rBD))) (fun t183=>bd (bif t183 then some true else bd (cut a1 0 ((i54:Nat):Int)) (fun xsC4=>bd (PF.zaX xsC4 (wr (-y53))) (fun rCf=>some rCf))) (fun t221=>(bif t221 then some (Lp.rt ((Cnf.mk 0 []),false)) else some (Lp.nx ()))))) ()) (fun s54=>bdR (iter (S:=((List (List Int))×Int×Int)) (X:=Empty) (fun sCO=>(bif (decide (sCO.2.2 < (len a0.clauses))) then bdR (iter (S:=((List Int)×Int)) (X:=Empty) (fun sLa=>bd (ix a0.clauses sCO.2.2) (fun xOp=>(bif (decide (sLa.2 < (len xOp))) then bd (ix a0.clauses sCO.2.2) (fun xOA=>bd (ix xOA sLa.2) (fun xOK=>bd (ix a1 (wr ((PF.zaq xOK) - 1))) (fun xOV=>(bif (decide (xOK < 0)) then bd (PF.zbu sLa.1 (wr (-xOV))) (fun rP3=>some (Lp.nx (rP3,(wr (sLa.2 + 1))))) else bd (PF.zbu sLa.1 xOV) (fun rPk=>some (Lp.nx (rPk,(wr (sLa.2 + 1))))))))) else some (Lp.bk (sLa.1,sLa.2))))) ([],0)) (fun sLa=>bd (app sCO.1 [sLa.1]) (fun xsPT=>some (Lp.nx (xsPT,sCO.2.1,(wr (sCO.2.2 + 1)))))) (fun xLa=>nomatch xLa) else some (Lp.bk (sCO.1,sCO.2.1,sCO.2.2)))) ([],a0.vars,0)) (fun sCO=>some ((Cnf.mk sCO.2.1 sCO.1),true)) (fun xCO=>nomatch xCO)) (fun x54=>some x54)))

def zaV (a0:l1Cur) (a1:List Int):Option (Int×l1Cur) :=
  bd (PF.zaI a0 (len a1)) (fun r21=>bd (ix a1 r21.1) (fun x35=>some (x35,r21.2)))

def zbU (a0:List Int) (a1:Int):Option (List Int) :=
  bdR (forL (S:=(List Int)) (X:=Empty) a0 (fun i27 y26 s27=>(bif (!((PF.zaq y26) == a1)) then bd (app s27 [y26]) (fun xsA3=>some (Lp.nx xsA3)) else some (Lp.nx s27))) []) (fun s27=>some s27) (fun x27=>nomatch x27)

noncomputable def zbD (a0:l1Cur) (a1:Int):Option ((List Int)×l1Cur) :=
  bd (PF.zaV a0 [1,2,2,3,3,4,0,2]) (fun r36=>bdR (iter (S:=((List Int)×Int×Int×(List Int)×Int)) (X:=Empty) (fun s45=>(bif (bif (decide (0 < s45.2.2.2.2)) then (decide (0 < a1)) else false) then bd (PF.zaI (l1Cur.mk s45.1 s45.2.1 s45.2.2.1) a1) (fun rCA=>bd (PF.zbU s45.2.2.2.1 (wr (1 + rCA.1))) (fun rCN=>bd (PF.zaK rCA.2 2) (fun rCZ=>(bif rCZ.1 then bd (PF.zbu rCN (wr (-(wr (1 + rCA.1))))) (fun rDe=>some (Lp.nx (rCZ.2.code,rCZ.2.at_,rCZ.2.seed,rDe,(wr (s45.2.2.2.2 - 1))))) else bd (PF.zbu rCN (wr (1 + rCA.1))) (fun rDv=>some (Lp.nx (rCZ.2.code,rCZ.2.at_,rCZ.2.seed,rDv,(wr (s45.2.2.2.2 - 1))))))))) else some (Lp.bk (s45.1,s45.2.1,s45.2.2.1,s45.2.2.2.1,s45.2.2.2.2)))) (r36.2.code,r36.2.at_,r36.2.seed,[],r36.1)) (fun s45=>some (s45.2.2.2.1,(l1Cur.mk s45.1 s45.2.1 s45.2.2.1))) (fun x45=>nomatch x45))

noncomputable def zcf (a0:l1Cur):Option (Cnf×l1Cur) :=
  bd (PF.zcG a0 PF.zbB) (fun r38=>bd (PF.zbT r38.1) (fun r47=>bdR (iter (S:=((List Int)×(List Int)×Int×Int×Int)) (X:=Empty) (fun s71=>(bif (decide (s71.2.2.2.2≤r47.vars)) then bd (PF.zaK (l1Cur.mk s71.2.1 s71.2.2.1 s71.2.2.2.1) 4) (fun rBB=>(bif rBB.1 then bd (app s71.1 [(wr (-s71.2.2.2.2))]) (fun xsBQ=>some (Lp.nx (xsBQ,rBB.2.code,rBB.2.at_,rBB.2.seed,(wr (s71.2.2.2.2 + 1))))) else bd (app s71.1 [s71.2.2.2.2]) (fun xsC6=>some (Lp.nx (xsC6,rBB.2.code,rBB.2.at_,rBB.2.seed,(wr (s71.2.2.2.2 + 1))))))) else some (Lp.bk (s71.1,s71.2.1,s71.2.2.1,s71.2.2.2.1,s71.2.2.2.2)))) ([],r38.2.code,r38.2.at_,r38.2.seed,1)) (fun s71=>bd (PF.zcL r47 s71.1) (fun rCw=>bd (PF.zaI (l1Cur.mk s71.2.1 s71.2.2.1 s71.2.2.2.1) 3) (fun rCN=>bdR (iter (S:=((List (List Int))×(List Int)×Int×Int×Int×Int)) (X:=Empty) (fun sCW=>(bif (bif (decide (0 < sCW.2.2.2.2.2)) then (decide (0 < sCW.2.2.2.2.1)) else false) then bd (PF.zbD (l1Cur.mk sCW.2.1 sCW.2.2.1 sCW.2.2.2.1) sCW.2.2.2.2.1) (fun r90388=>bd (app sCW.1 [r90388.1]) (fun xs96388=>some (Lp.nx (xs96388,r90388.2.code,r90388.2.at_,r90388.2.seed,sCW.2.2.2.2.1,(wr (sCW.2.2.2.2.2 - 1)))))) else some (Lp.bk (sCW.1,sCW.2.1,sCW.2.2.1,sCW.2.2.2.1,sCW.2.2.2.2.1,sCW.2.2.2.2.2)))) (rCw.1.clauses,rCN.2.code,rCN.2.at_,rCN.2.seed,rCw.1.vars,rCN.1)) (fun sCW=>some ((Cnf.mk sCW.2.2.2.2.1 sCW.1),(l1Cur.mk sCW.2.1 sCW.2.2.1 sCW.2.2.2.1))) (fun xCW=>nomatch xCW)))) (fun x71=>nomatch x71)))

def zcM (a0:l1Cur) (a1:Int):Option (Int×l1Cur) :=
  bd (bif (decide (a1 < 1)) then some (a0.code,a0.at_,a0.seed,true) else bd (PF.zaK a0 40) (fun r33=>some (r33.2.code,r33.2.at_,r33.2.seed,r33.1))) (fun t29=>(bif t29.2.2.2 then bd (PF.zaV (l1Cur.mk t29.1 t29.2.1 t29.2.2.1) [0,(wr (a1 + 1)),(wr ((wr (-a1)) - 1))]) (fun r60=>some (r60.1,r60.2)) else bd (PF.zaI (l1Cur.mk t29.1 t29.2.1 t29.2.2.1) a1) (fun r68=>bd (PF.zaK r68.2 2) (fun r76=>(bif r76.1 then some ((wr (-(wr (1 + r68.1)))),r76.2) else some ((wr (1 + r68.1)),r76.2))))))

noncomputable def zbV (a0:l1Cur) (a1:Int):Option ((List Int)×l1Cur) :=
  bd (PF.zbD a0 a1) (fun r21=>bd (PF.zaI r21.2 32) (fun r33=>(bif (r33.1 == 0) then bd (PF.zcM r33.2 a1) (fun r43=>bd (app r21.1 [r43.1]) (fun xs56=>some (xs56,r43.2))) else (bif (r33.1 == 1) then (bif (decide (0 < (len r21.1))) then bd (PF.zaV r33.2 [0,(wr (a1 + 1)),(wr ((wr (-a1)) - 1)),(-9223372036854775808)]) (fun r79=>bd (ix r21.1 0) (fun x93=>bd (put r21.1 0 r79.1) (fun xs98=>some (xs98,r79.2)))) else some (r21.1,r33.2)) else (bif (r33.1 == 2) then (bif (decide (1 < (len r21.1))) then bd (ix r21.1 0) (fun xAb=>bd (ix r21.1 1) (fun xAj=>bd (ix r21.1 0) (fun xAr=>bd (put r21.1 0 xAj) (fun xsAw=>bd (ix xsAw 1) (fun xAH=>bd (put xsAw 1 xAb) (fun xsAM=>some (xsAM,r33.2))))))) else some (r21.1,r33.2)) else some (r21.1,r33.2))))))

noncomputable def zcN (a0:l1Cur):Option (Cnf×l1Cur) :=
  bd (PF.zaK a0 4) (fun r25=>(bif r25.1 then bd (PF.zcf r25.2) (fun r35=>some (r35.1,r35.2)) else bd (PF.zaV r25.2 [2,3,3,4,5]) (fun r58=>bd (PF.zaI r58.2 10) (fun r78=>bdR (iter (S:=((List (List Int))×(List Int)×Int×Int×Int×Int)) (X:=Empty) (fun s87=>(bif (decide (0 < s87.2.2.2.2.2)) then bd (PF.zbD (l1Cur.mk s87.2.1 s87.2.2.1 s87.2.2.2.1) s87.2.2.2.2.1) (fun r90157=>bd (app s87.1 [r90157.1]) (fun xs96157=>some (Lp.nx (xs96157,r90157.2.code,r90157.2.at_,r90157.2.seed,s87.2.2.2.2.1,(wr (s87.2.2.2.2.2 - 1)))))) else some (Lp.bk (s87.1,s87.2.1,s87.2.2.1,s87.2.2.2.1,s87.2.2.2.2.1,s87.2.2.2.2.2)))) ([],r78.2.code,r78.2.at_,r78.2.seed,r58.1,r78.1)) (fun s87=>bd (PF.zaI (l1Cur.mk s87.2.1 s87.2.2.1 s87.2.2.2.1) 40) (fun r108183=>(bif (r108183.1 == 0) then bd (PF.zaV r108183.2 [(-1),13,12,0,1]) (fun r108202=>some ((Cnf.mk r108202.1 s87.1),r108202.2)) else (bif (r108183.1 == 1) then bd (PF.zbV r108183.2 s87.2.2.2.2.1) (fun r126223=>bd (app s87.1 [r126223.1]) (fun xs132223=>some ((Cnf.mk s87.2.2.2.2.1 xs132223),r126223.2))) else (bif (r108183.1 == 2) then bdR (iter (S:=((List (List Int))×(List Int)×Int×Int×Int)) (X:=Empty) (fun s144248=>bd (PF.zaI (l1Cur.mk s144248.2.1 s144248.2.2.1 s144248.2.2.2.1) 2) (fun r213366=>(bif (decide ((len s144248.1) < (wr (60 + r213366.1)))) then bd (app s144248.1 [[1]]) (fun xs225395=>some (Lp.nx (xs225395,r213366.2.code,r213366.2.at_,r213366.2.seed,s144248.2.2.2.2))) else some (Lp.bk (s144248.1,r213366.2.code,r213366.2.at_,r213366.2.seed,s144248.2.2.2.2))))) (s87.1,r108183.2.code,r108183.2.at_,r108183.2.seed,s87.2.2.2.2.1)) (fun s144248=>some ((Cnf.mk s144248.2.2.2.2 s144248.1),(l1Cur.mk s144248.2.1 s144248.2.2.1 s144248.2.2.2.1))) (fun x144248=>nomatch x144248) else (bif (r108183.1 == 3) then bd (PF.zbD r108183.2 s87.2.2.2.2.1) (fun r243428=>bd (app s87.1 [r243428.1,[]]) (fun xs252428=>some ((Cnf.mk s87.2.2.2.2.1 xs252428),r243428.2))) else some ((Cnf.mk s87.2.2.2.2.1 s87.1),r108183.2))))))) (fun x87=>nomatch x87)))))

def zcg (a0:Cnf) (a1:Int):Option zaa :=
  bd (ix a0.clauses a1) (fun x39=>bd (PF.zbK x39) (fun r43=>some (zaa.mk r43 (-1) a1 0)))

noncomputable def zch (a0:List Int) (a1:List Int):Option ((List Int)×Bool) :=
  bd (PF.zbK a0) (fun r21=>bdR (forL (S:=(List Int)) (X:=((List Int)×Bool)) a1 (fun i32 y31 s32=>bd (PF.zaX s32 (wr (-y31))) (fun rBC=>(bif rBC then some (Lp.rt ([],false)) else bd (PF.zaX s32 y31) (fun rBY=>(bif (!rBY) then bd (PF.zbu s32 y31) (fun rCf=>some (Lp.nx rCf)) else some (Lp.nx s32)))))) r21) (fun s32=>some (s32,true)) (fun x32=>some x32))

noncomputable def zaM (a0:List Int) (a1:List Int) (a2:Int):Option ((List Int)×Bool) :=
  bd (PF.zaX a0 a2) (fun r21=>bd (bif (!r21) then some true else bd (PF.zaX a1 (wr (-a2))) (fun r38=>some (!r38))) (fun t31=>(bif t31 then some ([],false) else bd (PF.zbU a0 a2) (fun r53=>bd (PF.zbU a1 a2) (fun r63=>bd (PF.zch r53 r63) (fun r83=>some (r83.1,r83.2)))))))

noncomputable def zbW (a0:List zaa) (a1:Int) (a2:Int):Option (zaa×Bool) :=
  bdR (iter (S:=Int) (X:=(zaa×Bool)) (fun s25=>bd (ix a0 a1) (fun x60129=>(bif (decide (s25 < (len x60129.clause))) then bd (ix a0 a1) (fun x60140=>bd (ix x60140.clause s25) (fun x60150=>(bif (decide (x60150 < 0)) then bd (ix a0 a2) (fun x69159=>bd (ix a0 a1) (fun x84159=>bd (PF.zaM x69159.clause x84159.clause (PF.zaq x60150)) (fun r99153=>(bif r99153.2 then some (Lp.rt ((zaa.mk r99153.1 a2 a1 (PF.zaq x60150)),true)) else some (Lp.nx (wr (s25 + 1))))))) else bd (ix a0 a1) (fun x129191=>bd (ix a0 a2) (fun x144191=>bd (PF.zaM x129191.clause x144191.clause (PF.zaq x60150)) (fun r159185=>(bif r159185.2 then some (Lp.rt ((zaa.mk r159185.1 a1 a2 (PF.zaq x60150)),true)) else some (Lp.nx (wr (s25 + 1)))))))))) else some (Lp.bk s25)))) 0) (fun s25=>some ((zaa.mk [] 0 0 0),false)) (fun x25=>some x25)

noncomputable def zci (a0:l1Cur) (a1:Cnf):Option ((List zaa)×l1Cur) :=
  bd (PF.zbJ a1) (fun r34=>(bif (bif (!r34) then true else ((len a1.clauses) == 0)) then some ([],a0) else bd (PF.zaV a0 [3,5,8,12,1,0,20]) (fun r61=>bdR (iter (S:=((List zaa)×(List Int)×Int×Int×Int)) (X:=Empty) (fun s70=>(bif (decide (0 < s70.2.2.2.2)) then bd (bif (decide ((len s70.1) < 2)) then some (s70.2.1,s70.2.2.1,s70.2.2.2.1,true) else bd (PF.zaK (l1Cur.mk s70.2.1 s70.2.2.1 s70.2.2.2.1) 3) (fun r180524=>some (r180524.2.code,r180524.2.at_,r180524.2.seed,r180524.1))) (fun t180520=>(bif t180520.2.2.2 then bd (PF.zaI (l1Cur.mk t180520.1 t180520.2.1 t180520.2.2.1) (len a1.clauses)) (fun r201543=>bd (PF.zcg a1 r201543.1) (fun r204543=>bd (app s70.1 [r204543]) (fun xs210543=>some (Lp.nx (xs210543,r201543.2.code,r201543.2.at_,r201543.2.seed,(wr (s70.2.2.2.2 - 1))))))) else bd (PF.zaI (l1Cur.mk t180520.1 t180520.2.1 t180520.2.2.1) (len s70.1)) (fun r219560=>bd (PF.zaK r219560.2 6) (fun r219568=>(bif r219568.1 then bd (ix s70.1 r219560.1) (fun x228583=>bd (PF.zbD r219568.2 a1.vars) (fun r246577=>bd (PF.zch x228583.clause r246577.1) (fun r249582=>(bif r249582.2 then bd (app s70.1 [(zaa.mk r249582.1 r219560.1 (-1) 0)]) (fun xs270608=>some (Lp.nx (xs270608,r246577.2.code,r246577.2.at_,r246577.2.seed,(wr (s70.2.2.2.2 - 1))))) else some (Lp.nx (s70.1,r246577.2.code,r246577.2.at_,r246577.2.seed,(wr (s70.2.2.2.2 - 1)))))))) else bdR (iter (S:=((List zaa)×Int)) (X:=Empty) (fun s270620=>(bif (decide (0≤s270620.2)) then bd (PF.zbW s270620.1 r219560.1 s270620.2) (fun r270703=>(bif r270703.2 then bd (app s270620.1 [r270703.1]) (fun xs270732=>some (Lp.bk (xs270732,s270620.2))) else some (Lp.nx (s270620.1,(wr (s270620.2 - 1)))))) else some (Lp.bk (s270620.1,s270620.2)))) (s70.1,(wr ((len s70.1) - 1)))) (fun s270620=>some (Lp.nx (s270620.1,r219568.2.code,r219568.2.at_,r219568.2.seed,(wr (s70.2.2.2.2 - 1))))) (fun x270620=>nomatch x270620)))))) else some (Lp.bk (s70.1,s70.2.1,s70.2.2.1,s70.2.2.2.1,s70.2.2.2.2)))) ([],r61.2.code,r61.2.at_,r61.2.seed,r61.1)) (fun s70=>some (s70.1,(l1Cur.mk s70.2.1 s70.2.2.1 s70.2.2.2.1))) (fun x70=>nomatch x70))))

def za6 (a0:List Int) (a1:List Int):Option Bool :=
  bdR (forL (S:=Unit) (X:=Bool) a0 (fun i22 y21 s22=>bd (PF.zaX a1 y21) (fun r57=>(bif (!r57) then some (Lp.rt false) else some (Lp.nx ())))) ()) (fun s22=>some true) (fun x22=>some x22)

def za8 (a0:zaa):(List Int) :=
  (bif (a0.left == (-1)) then [] else (bif (a0.right == (-1)) then [a0.left] else [a0.left,a0.right]))

noncomputable def zcO (a0:List zaa):Option (List Bool) :=
  bd (mk2 (false:Bool) (len a0) (len a0)) (fun xs21=>bdR (iter (S:=((List Bool)×Int)) (X:=Empty) (fun s31=>(bif (decide (0≤s31.2)) then (bif (s31.2 == (wr ((len a0) - 1))) then bd (ix s31.1 s31.2) (fun xIu=>bd (put s31.1 s31.2 true) (fun xsIz=>bd (ix a0 s31.2) (fun xIK=>bdR (iter (S:=((List Bool)×Int)) (X:=Empty) (fun sIW=>bd (bif (decide (sIW.2 < (len (PF.za8 xIK)))) then bd (ix sIW.1 s31.2) (fun xLA=>some xLA) else some false) (fun t805=>(bif t805 then bd (ix (PF.za8 xIK) sIW.2) (fun xLP=>bd (ix sIW.1 xLP) (fun xLX=>bd (put sIW.1 xLP true) (fun xsM2=>some (Lp.nx (xsM2,(wr (sIW.2 + 1))))))) else some (Lp.bk (sIW.1,sIW.2))))) (xsIz,0)) (fun sIW=>some (Lp.nx (sIW.1,(wr (s31.2 - 1))))) (fun xIW=>nomatch xIW)))) else bd (ix a0 s31.2) (fun xMm=>bdR (iter (S:=((List Bool)×Int)) (X:=Empty) (fun sMy=>bd (bif (decide (sMy.2 < (len (PF.za8 xMm)))) then bd (ix sMy.1 s31.2) (fun xPc=>some xPc) else some false) (fun t1029=>(bif t1029 then bd (ix (PF.za8 xMm) sMy.2) (fun xPr=>bd (ix sMy.1 xPr) (fun xPz=>bd (put sMy.1 xPr true) (fun xsPE=>some (Lp.nx (xsPE,(wr (sMy.2 + 1))))))) else some (Lp.bk (sMy.1,sMy.2))))) (s31.1,0)) (fun sMy=>some (Lp.nx (sMy.1,(wr (s31.2 - 1))))) (fun xMy=>nomatch xMy))) else some (Lp.bk (s31.1,s31.2)))) (xs21,(wr ((len a0) - 1)))) (fun s31=>some s31.1) (fun x31=>nomatch x31))

def zbl (a0:zaa) (a1:List Int):Option zaa :=
  bd (PF.zbK a0.clause) (fun r9033=>(bif (decide (0≤a0.left)) then bd (ix a1 a0.left) (fun x42054=>(bif (decide (0≤a0.right)) then bd (ix a1 a0.right) (fun x42066=>some (zaa.mk r9033 x42054 x42066 a0.pivot)) else some (zaa.mk r9033 x42054 a0.right a0.pivot))) else some (zaa.mk r9033 a0.left a0.right a0.pivot)))

noncomputable def za7 (a0:List zaa):Option (List zaa) :=
  bd (PF.zcO a0) (fun r9021=>bd (mk2 (0:Int) (len a0) (len a0)) (fun xs18021=>bdR (forL (S:=((List zaa)×(List Int))) (X:=Empty) a0 (fun i33045 y33044 s33045=>bd (ix r9021 ((i33045:Nat):Int)) (fun x33230=>(bif x33230 then bd (ix s33045.2 ((i33045:Nat):Int)) (fun x33239=>bd (put s33045.2 ((i33045:Nat):Int) (len s33045.1)) (fun xs33244=>bd (PF.zbl y33044 xs33244) (fun r33262=>bd (app s33045.1 [r33262]) (fun xs33279=>some (Lp.nx (xs33279,xs33244)))))) else some (Lp.nx (s33045.1,s33045.2))))) ([],xs18021)) (fun s33045=>some s33045.1) (fun x33045=>nomatch x33045)))

noncomputable def zcP (a0:Cnf) (a1:Int):Option (List zaa) :=
  bdR (iter (S:=((List zaa)×Int)) (X:=Empty) (fun s34=>(bif (decide (s34.2 < (len a0.clauses))) then bd (PF.zcg a0 s34.2) (fun r87=>bd (app s34.1 [r87]) (fun xsA2=>some (Lp.nx (xsA2,(wr (s34.2 + 1)))))) else some (Lp.bk (s34.1,s34.2)))) ([],0)) (fun s34=>bdR (iter (S:=((List zaa)×Int)) (X:=(List zaa)) (fun sAn=>(bif (decide (sAn.2 < (len sAn.1))) then bdR (iter (S:=((List zaa)×Int)) (X:=(Lp ((List zaa)×Int) (List zaa))) (fun s57421=>(bif (bif (decide (s57421.2 < sAn.2)) then (decide ((len s57421.1) < a1)) else false) then bdR (iter (S:=((List zaa)×Int)) (X:=(Lp ((List zaa)×Int) (Lp ((List zaa)×Int) (List zaa)))) (fun s171834=>(bif (decide (s171834.2≤a0.vars)) then bd (ix s171834.1 sAn.2) (fun x286190=>bd (PF.zaX x286190.clause (wr (-s171834.2))) (fun r286194=>(bif r286194 then bd (ix s171834.1 s57421.2) (fun x295206=>bd (ix s171834.1 sAn.2) (fun x310206=>bd (PF.zaM x295206.clause x310206.clause s171834.2) (fun r322200=>bdR (iter (S:=(Bool×Int)) (X:=Empty) (fun s343220=>(bif (bif (decide (s343220.2 < (len s171834.1))) then s343220.1 else false) then bd (ix s171834.1 s343220.2) (fun x343319=>bd (PF.za6 x343319.clause r322200.1) (fun r343328=>some (Lp.nx ((!r343328),(wr (s343220.2 + 1)))))) else some (Lp.bk (s343220.1,s343220.2)))) (r322200.2,0)) (fun s343220=>(bif s343220.1 then bd (app s171834.1 [(zaa.mk r322200.1 s57421.2 sAn.2 s171834.2)]) (fun xs343361=>(bif ((len r322200.1) == 0) then bd (PF.za7 xs343361) (fun r343380=>some (Lp.rt (Lp.rt (Lp.rt r343380)))) else some (Lp.nx (xs343361,(wr (s171834.2 + 1)))))) else some (Lp.nx (s171834.1,(wr (s171834.2 + 1)))))) (fun x343220=>nomatch x343220)))) else bd (ix s171834.1 sAn.2) (fun x352400=>bd (ix s171834.1 s57421.2) (fun x367400=>bd (PF.zaM x352400.clause x367400.clause s171834.2) (fun r379394=>bdR (iter (S:=(Bool×Int)) (X:=Empty) (fun s400414=>(bif (bif (decide (s400414.2 < (len s171834.1))) then s400414.1 else false) then bd (ix s171834.1 s400414.2) (fun x400513=>bd (PF.za6 x400513.clause r379394.1) (fun r400522=>some (Lp.nx ((!r400522),(wr (s400414.2 + 1)))))) else some (Lp.bk (s400414.1,s400414.2)))) (r379394.2,0)) (fun s400414=>(bif s400414.1 then bd (app s171834.1 [(zaa.mk r379394.1 sAn.2 s57421.2 s171834.2)]) (fun xs400555=>(bif ((len r379394.1) == 0) then bd (PF.za7 xs400555) (fun r400574=>some (Lp.rt (Lp.rt (Lp.rt r400574)))) else some (Lp.nx (xs400555,(wr (s171834.2 + 1)))))) else some (Lp.nx (s171834.1,(wr (s171834.2 + 1)))))) (fun x400414=>nomatch x400414))))))) else some (Lp.bk (s171834.1,s171834.2)))) (s57421.1,1)) (fun s171834=>some (Lp.nx (s171834.1,(wr (s57421.2 + 1))))) (fun x171834=>some x171834) else some (Lp.bk (s57421.1,s57421.2)))) (sAn.1,0)) (fun s57421=>some (Lp.nx (s57421.1,(wr (sAn.2 + 1))))) (fun x57421=>some x57421) else some (Lp.bk (sAn.1,sAn.2)))) (s34.1,0)) (fun sAn=>some sAn.1) (fun xAn=>some xAn)) (fun x34=>nomatch x34)

noncomputable def zcQ (a0:l1Cur) (a1:Cnf):Option ((List zaa)×l1Cur) :=
  bd (PF.zbJ a1) (fun r29=>(bif (!r29) then some ([],a0) else bd (PF.zcP a1 120) (fun r40=>some (r40,a0))))

noncomputable def zcR (a0:l1Cur):Option (Cnf×(List zaa)×l1Cur) :=
  bd (PF.zcN a0) (fun r25=>bd (PF.zci r25.2 r25.1) (fun r43=>bd (PF.zaK r43.2 2) (fun r57=>bdR (S:=((List Int)×Int×Int×Int×(List (List Int))×(List zaa))) (X:=Empty) ((bif r57.1 then bd (PF.zcf r57.2) (fun rAg=>bd (PF.zcQ rAg.2 rAg.1) (fun rAx=>some (Rs.go (rAx.2.code,rAx.2.at_,rAx.2.seed,rAg.1.vars,rAg.1.clauses,rAx.1)))) else some (Rs.go (r57.2.code,r57.2.at_,r57.2.seed,r25.1.vars,r25.1.clauses,r43.1)))) (fun sA1=>bd (bif (decide (0 < (len sA1.2.2.2.2.2))) then bd (PF.zaK (l1Cur.mk sA1.1 sA1.2.1 sA1.2.2.1) 8) (fun rB9=>some (rB9.2.code,rB9.2.at_,rB9.2.seed,rB9.1)) else some (sA1.1,sA1.2.1,sA1.2.2.1,false)) (fun t167=>bdR (S:=((List zaa)×(List Int)×Int×Int)) (X:=Empty) ((bif t167.2.2.2 then bd (PF.zaI (l1Cur.mk t167.1 t167.2.1 t167.2.2.1) (len sA1.2.2.2.2.2)) (fun rEp=>bd (PF.zaI rEp.2 5) (fun rEx=>(bif (rEx.1 == 0) then bd (PF.zbV rEx.2 sA1.2.2.2.1) (fun rEG=>bd (ix sA1.2.2.2.2.2 rEp.1) (fun xEY=>bd (put sA1.2.2.2.2.2 rEp.1 (zaa.mk rEG.1 xEY.left xEY.right xEY.pivot)) (fun xsFa=>some (Rs.go (xsFa,rEG.2.code,rEG.2.at_,rEG.2.seed))))) else (bif (rEx.1 == 1) then bd (PF.zaV rEx.2 [(-1),0,(-2),(len sA1.2.2.2.2.2),1099511627776]) (fun rFr=>bd (ix sA1.2.2.2.2.2 rEp.1) (fun xFF=>bd (put sA1.2.2.2.2.2 rEp.1 (zaa.mk xFF.clause rFr.1 xFF.right xFF.pivot)) (fun xsFM=>some (Rs.go (xsFM,rFr.2.code,rFr.2.at_,rFr.2.seed))))) else (bif (rEx.1 == 2) then bd (PF.zaV rEx.2 [(-1),0,(-2),60,1099511627776]) (fun rG2=>bd (ix sA1.2.2.2.2.2 rEp.1) (fun xGg=>bd (put sA1.2.2.2.2.2 rEp.1 (zaa.mk xGg.clause xGg.left rG2.1 xGg.pivot)) (fun xsGn=>some (Rs.go (xsGn,rG2.2.code,rG2.2.at_,rG2.2.seed))))) else (bif (rEx.1 == 3) then bd (PF.zaV rEx.2 [0,1,2,(-1),13]) (fun rGD=>bd (ix sA1.2.2.2.2.2 rEp.1) (fun xGR=>bd (put sA1.2.2.2.2.2 rEp.1 (zaa.mk xGR.clause xGR.left xGR.right rGD.1)) (fun xsGY=>some (Rs.go (xsGY,rGD.2.code,rGD.2.at_,rGD.2.seed))))) else (bif (rEx.1 == 4) then bd (cut sA1.2.2.2.2.2 1 (len sA1.2.2.2.2.2)) (fun xsH4=>some (Rs.go (xsH4,rEx.2.code,rEx.2.at_,rEx.2.seed))) else some (Rs.go (sA1.2.2.2.2.2,rEx.2.code,rEx.2.at_,rEx.2.seed))))))))) else some (Rs.go (sA1.2.2.2.2.2,t167.1,t167.2.1,t167.2.2.1)))) (fun sEf=>bd (PF.zaK (l1Cur.mk sEf.2.1 sEf.2.2.1 sEf.2.2.2) 48) (fun rHl=>(bif (bif rHl.1 then (decide (0 < (len sEf.1))) else false) then bdR (iter (S:=((List zaa)×(List Int)×Int×Int)) (X:=Empty) (fun sHG=>bd (PF.zaI (l1Cur.mk sHG.2.1 sHG.2.2.1 sHG.2.2.2) 2) (fun rJq=>(bif (decide ((len sHG.1) < (wr (200 + rJq.1)))) then bd (ix sHG.1 0) (fun xJF=>bd (app sHG.1 [xJF]) (fun xsJO=>some (Lp.nx (xsJO,rJq.2.code,rJq.2.at_,rJq.2.seed)))) else some (Lp.bk (sHG.1,rJq.2.code,rJq.2.at_,rJq.2.seed))))) (sEf.1,rHl.2.code,rHl.2.at_,rHl.2.seed)) (fun sHG=>some ((Cnf.mk sA1.2.2.2.1 sA1.2.2.2.2.1),sHG.1,(l1Cur.mk sHG.2.1 sHG.2.2.1 sHG.2.2.2))) (fun xHG=>nomatch xHG) else some ((Cnf.mk sA1.2.2.2.1 sA1.2.2.2.2.1),sEf.1,rHl.2)))) (fun xEh=>nomatch xEh))) (fun xA3=>nomatch xA3))))

noncomputable def zdr (a0:Cnf) (a1:List zaa):Option Bool :=
  bd (bif (decide ((len a1)≤200)) then bd (PF.zbJ a0) (fun r41=>some r41) else some false) (fun t34=>some t34)

def zcS (a0:List Int) (a1:List Int):Option Bool :=
  (bif (!((len a0) == (len a1))) then some false else bdR (forL (S:=Unit) (X:=Bool) a0 (fun i23 y22 s23=>bd (ix a1 ((i23:Nat):Int)) (fun x72=>(bif (!(y22 == x72)) then some (Lp.rt false) else some (Lp.nx ())))) ()) (fun s23=>some true) (fun x23=>some x23))

def zcj (a0:Cnf) (a1:List zaa) (a2:Int) (a3:Int):Option Bool :=
  bd (bif (PF.zaU a3 0 (wr (a2 - 1))) then bd (ix a1 a3) (fun x55=>bd (PF.zbC a0.vars x55.clause) (fun r59=>some r59)) else some false) (fun t42=>some t42)

noncomputable def zcT (a0:Cnf) (a1:List zaa) (a2:Int):Option Bool :=
  bd (ix a1 a2) (fun x35=>bd (PF.zbC a0.vars x35.clause) (fun r50=>(bif (!r50) then some false else (bif (x35.left == (-1)) then bd (bif (bif (x35.pivot == 0) then (PF.zaU x35.right 0 (wr ((len a0.clauses) - 1))) else false) then bd (ix a0.clauses x35.right) (fun x93=>bd (PF.zcS x93 x35.clause) (fun r97=>some r97)) else some false) (fun t80=>some t80) else bd (PF.zcj a0 a1 a2 x35.left) (fun rA3=>(bif (!rA3) then some false else (bif (x35.right == (-1)) then bd (bif (x35.pivot == 0) then bd (ix a1 x35.left) (fun xAA=>bd (PF.za6 xAA.clause x35.clause) (fun rAE=>some rAE)) else some false) (fun t123=>some t123) else bd (PF.zcj a0 a1 a2 x35.right) (fun rAK=>(bif (bif (!rAK) then true else (!(PF.zaU x35.pivot 1 a0.vars))) then some false else bd (ix a1 x35.left) (fun x12174=>bd (ix a1 x35.right) (fun x30174=>bd (PF.zaM x12174.clause x30174.clause x35.pivot) (fun r45168=>bd (bif r45168.2 then bd (PF.zcS r45168.1 x35.clause) (fun r66203=>some r66203) else some false) (fun t66191=>some t66191)))))))))))))

noncomputable def zcU (a0:Cnf) (a1:List zaa):Option Int :=
  bdR (forL (S:=Unit) (X:=Int) a1 (fun i30 y29 s30=>bd (PF.zcT a0 a1 ((i30:Nat):Int)) (fun r53=>(bif (!r53) then some (Lp.rt ((i30:Nat):Int)) else some (Lp.nx ())))) ()) (fun s30=>some (-1)) (fun x30=>some x30)

noncomputable def zbX (a0:Cnf) (a1:List zaa):Option Bool :=
  bd (PF.zdr a0 a1) (fun r29=>bd (bif r29 then bd (PF.zcU a0 a1) (fun r46=>some (decide (r46 < 0))) else some false) (fun t39=>some t39))

noncomputable def zcV (a0:List Int):Option (Cnf×(List zaa)×(List zaa)×Int) :=
  bd (PF.zcR (l1Cur.mk a0 0 0)) (fun r29=>bd (PF.zci r29.2.2 r29.1) (fun r52=>bd (PF.zbX r29.1 r29.2.1) (fun r65=>(bif (bif (bif r65 then (decide (0 < (len r29.2.1))) else false) then (decide (0 < (len r52.1))) else false) then bdR (iter (S:=((List Int)×Int×Int×Int)) (X:=(Cnf×(List zaa)×(List zaa)×Int)) (fun s97=>(bif (decide (s97.2.2.2≤(len r29.2.1))) then bdR (iter (S:=((List Int)×Int×Int×Int)) (X:=(Lp ((List Int)×Int×Int×Int) (Cnf×(List zaa)×(List zaa)×Int))) (fun s841016=>(bif (decide (s841016.2.2.2≤(len r52.1))) then bdR (iter (S:=((List Int)×Int×Int×Int)) (X:=(Lp ((List Int)×Int×Int×Int) (Lp ((List Int)×Int×Int×Int) (Cnf×(List zaa)×(List zaa)×Int)))) (fun s1261446=>(bif (decide (s1261446.2.2.2≤r29.1.vars)) then bd (ix r29.2.1 (wr (s97.2.2.2 - 1))) (fun x1483635=>bd (ix r52.1 (wr (s841016.2.2.2 - 1))) (fun x1501635=>bd (PF.zaM x1483635.clause x1501635.clause s1261446.2.2.2) (fun r1513629=>bd (bif r1513629.2 then bd (PF.zaK (l1Cur.mk s1261446.1 s1261446.2.1 s1261446.2.2.1) 3) (fun r1534657=>some (r1534657.2.code,r1534657.2.at_,r1534657.2.seed,r1534657.1)) else some (s1261446.1,s1261446.2.1,s1261446.2.2.1,false)) (fun t1534653=>(bif t1534653.2.2.2 then bd (cut r29.2.1 0 s97.2.2.2) (fun xs1546681=>bd (cut r52.1 0 s841016.2.2.2) (fun xs1555681=>some (Lp.rt (Lp.rt (Lp.rt (r29.1,xs1546681,xs1555681,s1261446.2.2.2)))))) else some (Lp.nx (t1534653.1,t1534653.2.1,t1534653.2.2.1,(wr (s1261446.2.2.2 + 1))))))))) else some (Lp.bk (s1261446.1,s1261446.2.1,s1261446.2.2.1,s1261446.2.2.2)))) (s841016.1,s841016.2.1,s841016.2.2.1,1)) (fun s1261446=>some (Lp.nx (s1261446.1,s1261446.2.1,s1261446.2.2.1,(wr (s841016.2.2.2 + 1))))) (fun x1261446=>some x1261446) else some (Lp.bk (s841016.1,s841016.2.1,s841016.2.2.1,s841016.2.2.2)))) (s97.1,s97.2.1,s97.2.2.1,1)) (fun s841016=>some (Lp.nx (s841016.1,s841016.2.1,s841016.2.2.1,(wr (s97.2.2.2 + 1))))) (fun x841016=>some x841016) else some (Lp.bk (s97.1,s97.2.1,s97.2.2.1,s97.2.2.2)))) (r52.2.code,r52.2.at_,r52.2.seed,1)) (fun s97=>bd (PF.zaV (l1Cur.mk s97.1 s97.2.1 s97.2.2.1) [1,2,0,13]) (fun r1594741=>some (r29.1,r29.2.1,r52.1,r1594741.1))) (fun x97=>some x97) else bd (PF.zaV r52.2 [1,2,0,13]) (fun r1630755=>some (r29.1,r29.2.1,r52.1,r1630755.1))))))

def za3 (a0:Int) (a1:Int) (a2:Int):Bool :=
  (bif (decide (a1≤a0)) then (decide (a0≤a2)) else false)

def zbL (a0:Int) (a1:Int):Bool :=
  (bif (!(a1 == 0)) then (PF.za3 a1 (wr (-a0)) a0) else false)

def zax (a0:Int):Int :=
  (mx a0 (wr (-a0)))

def zbv (a0:Int):Bool :=
  (PF.za3 a0 0 12)

def zbE (a0:Int) (a1:List Int):Option Bool :=
  bdR (forL (S:=Unit) (X:=Bool) a1 (fun i22 y21 s22=>bd (bif (!(PF.zbL a0 y21)) then some true else bd (bif (decide (0 < ((i22:Nat):Int))) then bd (ix a1 (wr (((i22:Nat):Int) - 1))) (fun xBu=>some (decide ((PF.zax y21)≤(PF.zax xBu)))) else some false) (fun t179=>some t179)) (fun t164=>(bif t164 then some (Lp.rt false) else some (Lp.nx ())))) ()) (fun s22=>some (PF.zbv a0)) (fun x22=>some x22)

def zcW (a0:Cnf):Option Bool :=
  bdR (forL (S:=Unit) (X:=Bool) a0.clauses (fun i30 y29 s30=>bd (PF.zbE a0.vars y29) (fun r71=>(bif (!r71) then some (Lp.rt false) else some (Lp.nx ())))) ()) (fun s30=>some (bif (PF.zbv a0.vars) then (decide ((len a0.clauses)≤60)) else false)) (fun x30=>some x30)

def zcX (a0:List Int) (a1:List Int):Option Bool :=
  (bif (!((len a0) == (len a1))) then some false else bdR (forL (S:=Unit) (X:=Bool) a0 (fun i23 y22 s23=>bd (ix a1 ((i23:Nat):Int)) (fun x74=>(bif (!(y22 == x74)) then some (Lp.rt false) else some (Lp.nx ())))) ()) (fun s23=>some true) (fun x23=>some x23))

def zck (a0:Cnf) (a1:List zaa) (a2:Int) (a3:Int):Option ((List Int)×Bool) :=
  bd (bif (!(PF.za3 a3 0 (wr (a2 - 1)))) then some true else bd (ix a1 a3) (fun x55=>bd (PF.zbE a0.vars x55.clause) (fun r59=>some (!r59)))) (fun t42=>(bif t42 then some ([],false) else bd (ix a1 a3) (fun x74=>some (x74.clause,true))))

def zcl (a0:List Int) (a1:Int→Option Bool):Option Int :=
  bdR (forL (S:=Unit) (X:=Int) a0 (fun i22 y21 s22=>bd (a1 y21) (fun r64=>(bif r64 then some (Lp.rt ((i22:Nat):Int)) else some (Lp.nx ())))) ()) (fun s22=>some (-1)) (fun x22=>some x22)

def zcY (a0:List Int) (a1:Int→Option Bool):Option Bool :=
  bd (PF.zcl a0 a1) (fun r21=>some (decide (0≤r21)))

def zcZ (a0:List Int) (a1:Int):Option Int :=
  bdR (forL (S:=Unit) (X:=Int) a0 (fun i22 y21 s22=>(bif (a1 == y21) then some (Lp.rt ((i22:Nat):Int)) else some (Lp.nx ()))) ()) (fun s22=>some (-1)) (fun x22=>some x22)

def zbY (a0:List Int) (a1:Int):Option Bool :=
  bd (PF.zcZ a0 a1) (fun r21=>some (decide (0≤r21)))

def zc0 (a0:Int) (b0:List Int):Option Bool :=
  bd (PF.zbY b0 a0) (fun r21=>some (!r21))

def zc1 (a0:List Int) (a1:List Int):Option Bool :=
  bd (PF.zcY a0 (fun x0=>PF.zc0 x0 a1)) (fun r29=>some (!r29))

def zbg (a0:Int) (a1:Int):Bool :=
  (PF.za3 a1 1 a0)

def zbw (a0:List Int):Option (List Int) :=
  bd (app [] a0) (fun xs30=>some xs30)

noncomputable def zc2 (a0:List Int) (a1:Int→Option Bool):Option (List Int) :=
  bd (PF.zcl a0 a1) (fun r26=>(bif (r26 == (-1)) then some a0 else bdR (iter (S:=((List Int)×Int×Int)) (X:=Empty) (fun s32=>(bif (decide (s32.2.2 < (len s32.1))) then bd (ix s32.1 s32.2.2) (fun xAF=>bd (a1 xAF) (fun rAH=>(bif (!rAH) then bd (ix s32.1 s32.2.1) (fun xAY=>bd (put s32.1 s32.2.1 xAF) (fun xsB3=>some (Lp.nx (xsB3,(wr (s32.2.1 + 1)),(wr (s32.2.2 + 1)))))) else some (Lp.nx (s32.1,s32.2.1,(wr (s32.2.2 + 1))))))) else some (Lp.bk (s32.1,s32.2.1,s32.2.2)))) (a0,r26,(wr (r26 + 1)))) (fun s32=>bd (cut s32.1 s32.2.1 (len s32.1)) (fun xsBg=>bd (cut (clearL 0 s32.1 s32.2.1) 0 s32.2.1) (fun xsBq=>some xsBq))) (fun x32=>nomatch x32)))

def zcm (a0:Int) (b0:Int):Bool :=
  ((PF.zax a0) == b0)

noncomputable def zcn (a0:List Int) (a1:Int):Option (List Int) :=
  bd (PF.zbw a0) (fun r29=>bd (PF.zc2 r29 (fun x0=>some (PF.zcm x0 a1))) (fun r39=>some r39))

def zds (a1:Int):Option (List Int):=if 0≤a1∧a1≤lim then some [] else none

def zc3 (a0:List (List Int)):Option (List Int) :=
  bdR (forL (S:=Int) (X:=Empty) a0 (fun i22 y21 s22=>(bif (decide ((wr (s22 + (len y21))) < 0)) then none else some (Lp.nx (wr (s22 + (len y21)))))) 0) (fun s22=>bd (PF.zds s22) (fun r69=>bdR (forL (S:=(List Int)) (X:=Empty) a0 (fun i80 y79 s80=>bd (app s80 y79) (fun xsAt=>some (Lp.nx xsAt))) r69) (fun s80=>some s80) (fun x80=>nomatch x80))) (fun x22=>nomatch x22)

noncomputable def zdt (a0:List Int) (a1:Int→Int→Option Int):Option (List Int):=sortF a1 a0

def zbh (a0:Int):Bool :=
  (!(a0 == a0))

def zbm (a0:Int) (a1:Int):Int :=
  (bif (PF.zbh a0) then (bif (PF.zbh a1) then 0 else (-1)) else (bif (PF.zbh a1) then 1 else (bif (decide (a0 < a1)) then (-1) else (bif (decide (a1 < a0)) then 1 else 0))))

def zdu (a0:List Int):Option Int :=
  bdR (forL (S:=Unit) (X:=Int) a0 (fun i22 y21 s22=>(bif (!(y21 == 0)) then some (Lp.rt y21) else some (Lp.nx ()))) ()) (fun s22=>some 0) (fun x22=>some x22)

def za4 (a0:Int) (a1:Int):Option Int :=
  bd (PF.zdu [(PF.zbm (PF.zax a0) (PF.zax a1)),(PF.zbm a1 a0)]) (fun r43=>some r43)

def zdT (a0:List Int):Option (List Int):=some (zat a0)

noncomputable def zco (a0:List Int):Option ((List Int)×Bool) :=
  bd (PF.zbw a0) (fun r21=>bd (PF.zdt r21 (fun x0 x1=>PF.za4 x0 x1)) (fun r31=>bd (PF.zdT r31) (fun r39=>bdR (iter (S:=Int) (X:=((List Int)×Bool)) (fun s49=>(bif (decide (s49 < (len r39))) then bd (ix r39 s49) (fun x94=>bd (ix r39 (wr (s49 - 1))) (fun xA2=>(bif (x94 == (wr (-xA2))) then some (Lp.rt ([],false)) else some (Lp.nx (wr (s49 + 1)))))) else some (Lp.bk s49))) 1) (fun s49=>some (r39,true)) (fun x49=>some x49))))

noncomputable def zbZ (a0:List Int) (a1:List Int) (a2:Int):Option ((List Int)×Bool) :=
  bd (PF.zbY a0 a2) (fun r21=>bd (bif (!r21) then some true else bd (PF.zbY a1 (wr (-a2))) (fun r38=>some (!r38))) (fun t31=>(bif t31 then some ([],false) else bd (PF.zcn a0 a2) (fun r48=>bd (PF.zcn a1 a2) (fun r58=>bd (PF.zc3 [r48,r58]) (fun r88=>bd (PF.zco r88) (fun rA5=>some (rA5.1,rA5.2))))))))

noncomputable def zc4 (a0:Cnf) (a1:List zaa) (a2:Int):Option Bool :=
  bd (ix a1 a2) (fun x35=>bd (PF.zbE a0.vars x35.clause) (fun r50=>(bif (!r50) then some false else (bif (x35.left == (-1)) then bd (bif (bif (x35.pivot == 0) then (PF.za3 x35.right 0 (wr ((len a0.clauses) - 1))) else false) then bd (ix a0.clauses x35.right) (fun x93=>bd (PF.zcX x93 x35.clause) (fun r97=>some r97)) else some false) (fun t80=>some t80) else bd (PF.zck a0 a1 a2 x35.left) (fun rA3=>(bif (!rA3.2) then some false else (bif (x35.right == (-1)) then bd (bif (x35.pivot == 0) then bd (PF.zc1 rA3.1 x35.clause) (fun rAp=>some rAp) else some false) (fun t118=>some t118) else bd (PF.zck a0 a1 a2 x35.right) (fun rAv=>(bif (bif (!rAv.2) then true else (!(PF.zbg a0.vars x35.pivot))) then some false else bd (PF.zbZ rA3.1 rAv.1 x35.pivot) (fun rAV=>bd (bif rAV.2 then bd (PF.zcX rAV.1 x35.clause) (fun rBr=>some rBr) else some false) (fun t177=>some t177)))))))))))

noncomputable def zc5 (a0:Cnf) (a1:List zaa):Option Int :=
  bdR (forL (S:=Unit) (X:=Int) a1 (fun i30 y29 s30=>bd (PF.zc4 a0 a1 ((i30:Nat):Int)) (fun r55=>(bif (!r55) then some (Lp.rt ((i30:Nat):Int)) else some (Lp.nx ())))) ()) (fun s30=>some (-1)) (fun x30=>some x30)

noncomputable def zbM (a0:Cnf) (a1:List zaa):Option Bool :=
  bd (PF.zcW a0) (fun r29=>bd (bif (bif r29 then (decide ((len a1)≤200)) else false) then bd (PF.zc5 a0 a1) (fun r56=>some (decide (r56 < 0))) else some false) (fun t49=>some t49))

def zb0 (a0:List zaa):Option zaa :=
  bd (ix a0 (wr ((len a0) - 1))) (fun x31=>some x31)

def zc6 (a0:List zaa):Option (List zaa) :=
  bdR (forL (S:=(List zaa)) (X:=Empty) a0 (fun i22 y21 s22=>bd (PF.zbw y21.clause) (fun rAg=>bd (app s22 [(zaa.mk rAg y21.left y21.right y21.pivot)]) (fun xsAI=>some (Lp.nx xsAI)))) []) (fun s22=>some s22) (fun x22=>nomatch x22)

def zbN (a0:zaa):Bool :=
  (bif (decide (0≤a0.left)) then (decide (0≤a0.right)) else false)

def zbF (a0:zaa):Bool :=
  (decide (a0.left < 0))

def zcp (a0:zaa) (a1:Int→Option Int):Option zaa :=
  bd (PF.zbw a0.clause) (fun r29=>bdR (S:=(Int×Int×Int)) (X:=Empty) ((bif (PF.zbN (zaa.mk r29 a0.left a0.right a0.pivot)) then bd (a1 a0.right) (fun r68=>some (Rs.go (a0.left,r68,a0.pivot))) else some (Rs.go (a0.left,a0.right,a0.pivot)))) (fun s64=>(bif (!(PF.zbF (zaa.mk r29 s64.1 s64.2.1 s64.2.2))) then bd (a1 s64.1) (fun r98=>some (zaa.mk r29 r98 s64.2.1 s64.2.2)) else some (zaa.mk r29 s64.1 s64.2.1 s64.2.2))) (fun x66=>nomatch x66))

def zbO (a0:Int) (b0:Int):Int :=
  (wr (a0 + b0))

noncomputable def zc7 (a0:Cnf) (a1:List zaa) (a2:List zaa) (a3:Int):Option ((List zaa)×Bool) :=
  bd (PF.zbM a0 a1) (fun r40=>bd (bif (!r40) then some true else bd (PF.zbM a0 a2) (fun r57=>some (!r57))) (fun t50=>(bif (bif (bif (bif (bif t50 then true else ((len a1) == 0)) then true else ((len a2) == 0)) then true else (!(PF.zbg a0.vars a3))) then true else (decide (200 < (wr ((wr ((len a1) + (len a2))) + 1))))) then some ([],false) else bd (PF.zb0 a1) (fun rAp=>bd (PF.zb0 a2) (fun rAx=>bd (PF.zbZ rAp.clause rAx.clause a3) (fun rAF=>(bif (!rAF.2) then some ([],false) else bd (PF.zc6 a1) (fun rAQ=>bdR (forL (S:=(List zaa)) (X:=Empty) a2 (fun iB3 yB2 sB3=>bd (PF.zcp yB2 (fun x0=>some (PF.zbO x0 (len a1)))) (fun rCA=>bd (app sB3 [rCA]) (fun xsCP=>some (Lp.nx xsCP)))) rAQ) (fun sB3=>bd (app sB3 [(zaa.mk rAF.1 (wr ((len a1) - 1)) (wr ((len sB3) - 1)) a3)]) (fun xsDm=>some (xsDm,true))) (fun xB3=>nomatch xB3)))))))))

def zc8 (a0:List zaa):Option (List Int) :=
  bd (ix a0 (wr ((len a0) - 1))) (fun x27=>some x27.clause)

def zc9 (a0:List zaa) (a1:List zaa):Option (List zaa) :=
  bdR (forL (S:=((List Int)×(List zaa))) (X:=Empty) a0 (fun i37 y36 s37=>bd (app s37.1 [((i37:Nat):Int)]) (fun xsAw=>bd (PF.zbl y36 xsAw) (fun rAU=>bd (app s37.2 [rAU]) (fun xsBb=>some (Lp.nx (xsAw,xsBb)))))) ([],[])) (fun s37=>bdR (forL (S:=((List Int)×(List zaa))) (X:=Empty) a1 (fun iBy yBx sBy=>bd (app sBy.1 [(wr ((len a0) + ((iBy:Nat):Int)))]) (fun xsD3=>bd (PF.zbl yBx xsD3) (fun rDr=>bd (app sBy.2 [rDr]) (fun xsDI=>some (Lp.nx (xsD3,xsDI)))))) ([],s37.2)) (fun sBy=>some sBy.2) (fun xBy=>nomatch xBy)) (fun x37=>nomatch x37)

noncomputable def zda (a0:Cnf) (a1:List zaa) (a2:List zaa) (a3:Int):Option ((List zaa)×Bool) :=
  bd (PF.zbX a0 a1) (fun r29=>bd (bif (!r29) then some true else bd (PF.zbX a0 a2) (fun r46=>some (!r46))) (fun t39=>(bif (bif (bif (bif (bif t39 then true else ((len a1) == 0)) then true else ((len a2) == 0)) then true else (decide (200≤(wr ((len a1) + (len a2)))))) then true else (!(PF.zaU a3 1 a0.vars))) then some ([],false) else bd (PF.zc8 a1) (fun rAf=>bd (PF.zc8 a2) (fun rAn=>bd (PF.zaM rAf rAn a3) (fun rAv=>(bif (!rAv.2) then some ([],false) else bd (PF.zc9 a1 a2) (fun rAL=>bd (app rAL [(zaa.mk rAv.1 (wr ((len a1) - 1)) (wr ((wr ((len a1) + (len a2))) - 1)) a3)]) (fun xsB8=>some (xsB8,true))))))))))

def zcq (a0:List Int) (a1:List Int):Option Bool :=
  (bif (!((len a0) == (len a1))) then some false else bdR (forL (S:=Unit) (X:=Bool) a0 (fun i23 y22 s23=>bd (ix a1 ((i23:Nat):Int)) (fun x72=>(bif (!(y22 == x72)) then some (Lp.rt false) else some (Lp.nx ())))) ()) (fun s23=>some true) (fun x23=>some x23))

def zdb (a0:List zaa) (a1:List zaa):Option Bool :=
  (bif (!((len a0) == (len a1))) then some false else bdR (forL (S:=Unit) (X:=Bool) a0 (fun i23 y22 s23=>bd (ix a1 ((i23:Nat):Int)) (fun xBZ=>bd (bif (!(y22.left == xBZ.left)) then some true else bd (ix a1 ((i23:Nat):Int)) (fun xCG=>some (!(y22.right == xCG.right)))) (fun t245=>bd (bif t245 then some true else bd (ix a1 ((i23:Nat):Int)) (fun xDr=>some (!(y22.pivot == xDr.pivot)))) (fun t292=>bd (bif t292 then some true else bd (ix a1 ((i23:Nat):Int)) (fun xEe=>bd (PF.zcq y22.clause xEe.clause) (fun rEi=>some (!rEi)))) (fun t341=>(bif t341 then some (Lp.rt false) else some (Lp.nx ()))))))) ()) (fun s23=>some true) (fun x23=>some x23))

noncomputable def zbx (a0:Cnf) (a1:List zaa):Option ((List Int)×Bool) :=
  bd (PF.zbM a0 a1) (fun r29=>(bif (bif (!r29) then true else ((len a1) == 0)) then some ([],false) else bd (PF.zb0 a1) (fun r44=>bd (PF.zbw r44.clause) (fun r52=>some (r52,true)))))

noncomputable def zcr (a0:Int) (a1:List Int) (a2:List Int) (a3:Int):Option ((List Int)×Bool) :=
  bd (PF.zbE a0 a1) (fun r21=>bd (bif (!r21) then some true else bd (PF.zbE a0 a2) (fun r38=>some (!r38))) (fun t31=>(bif (bif t31 then true else (!(PF.zbg a0 a3))) then some ([],false) else bd (PF.zbZ a1 a2 a3) (fun r66=>some (r66.1,r66.2)))))

noncomputable def zdc (a0:Cnf) (a1:List zaa):Option Bool :=
  bd (PF.zbM a0 a1) (fun r29=>some (bif r29 then (decide (0 < (len a1))) else false))

def zb1 (a0:zaa):Bool :=
  (bif (decide (0≤a0.left)) then (decide (a0.right < 0)) else false)

def zaY (a0:zaa):(List Int) :=
  (bif (PF.zbF a0) then [] else (bif (PF.zb1 a0) then [a0.left] else [a0.left,a0.right]))

def zdd (a0:List zaa):Option (List Int) :=
  bd (mk2 (0:Int) (len a0) (len a0)) (fun xs21=>bdR (forL (S:=(List Int)) (X:=Empty) a0 (fun i32 y31 s32=>bd (chk (len (PF.zaY y31))) (fun m180423=>bdR (forR (S:=(List Int)) (X:=Empty) 0 m180423 (fun i180424 s180424=>bd (ix (PF.zaY y31) ((i180424:Nat):Int)) (fun x270529=>bd (ix s180424 ((i32:Nat):Int)) (fun x285537=>bd (ix s180424 x270529) (fun x297537=>bd (ix s180424 ((i32:Nat):Int)) (fun x306537=>bd (put s180424 ((i32:Nat):Int) (mx x285537 x297537)) (fun xs309534=>some (Lp.nx xs309534))))))) s32) (fun s180424=>(bif (PF.zbN y31) then bd (ix s180424 ((i32:Nat):Int)) (fun x315572=>bd (ix s180424 ((i32:Nat):Int)) (fun x315580=>bd (put s180424 ((i32:Nat):Int) (wr (x315572 + 1))) (fun xs315585=>some (Lp.nx xs315585)))) else some (Lp.nx s180424))) (fun x180424=>nomatch x180424))) xs21) (fun s32=>some s32) (fun x32=>nomatch x32))

noncomputable def zcs (a0:Cnf) (a1:List zaa):Option ((List Int)×Bool) :=
  bd (PF.zdc a0 a1) (fun r29=>(bif (!r29) then some ([],false) else bd (PF.zdd a1) (fun r35=>some (r35,true))))

noncomputable def zdv (a0:List Int):Option Bool :=
  (bif (PF.zcF a0) then some true else bd (PF.zcV a0) (fun r25=>bd (PF.zc7 r25.1 r25.2.1 r25.2.2.1 r25.2.2.2) (fun r60=>bd (PF.zda r25.1 r25.2.1 r25.2.2.1 r25.2.2.2) (fun r80=>bd (bif (!(r60.2 == r80.2)) then some true else bd (PF.zdb r60.1 r80.1) (fun rAu=>some (!rAu))) (fun t111=>(bif t111 then some false else (bif r60.2 then bd (PF.zbx r25.1 r25.2.1) (fun rAI=>bd (PF.zbx r25.1 r25.2.2.1) (fun rAY=>bd (PF.zbx r25.1 r60.1) (fun rBg=>bd (PF.zcr r25.1.vars rAI.1 rAY.1 r25.2.2.2) (fun rBC=>bd (bif (bif (bif (bif (!rAI.2) then true else (!rAY.2)) then true else (!rBg.2)) then true else (!rBC.2)) then some true else bd (PF.zcq rBg.1 rBC.1) (fun rD3=>some (!rD3))) (fun t272=>(bif (bif t272 then true else (!((len r60.1) == (wr ((wr ((len r25.2.1) + (len r25.2.2.1))) + 1))))) then some false else bd (PF.zcs r25.1 r60.1) (fun rDu=>(bif (bif (!rDu.2) then true else (!((len rDu.1) == (len r60.1)))) then some false else some true)))))))) else some true)))))))

end Go.PF
