/- Part of the walks and plain laws behind the claim: it proves helpers, under no condition beyond their own. -/
import Derived.Test.YtcnboephmehppaaGreatPcLB
set_option linter.unusedVariables false
namespace Go.PF
open Go.Pu

structure Cnf where
  vars:Int
  clauses:List (List Int)
def okCnf (s:Cnf):Prop:=okI s.vars∧(okL (okL okI)) s.clauses

structure Charged where
  vertices:Int
  edges:List (Int×Int)
  charges:List Int
structure l13Work where
  all:List (List Int)
  rounds:List Int
  counts:List Int
  left:List (List Int)
structure pebbles where
  f:Cnf
  w:Int
  all:List (List Int)
  is:List Bool
  rounds:List Int
structure l1Cur where
  code:List Int
  at_:Int
  seed:Int
structure family where
  vars:Int
  clauses:List (List Int)
structure zaH where
  list:List (List Int)
  rounds:List Int
  left:List Int
  right:List Int
  pivots:List Int
  sorted:List (List Int)
structure zbm where
  masks:List Int
  rounds:List (Int×Int)
  last:Int
structure reached where
  vertex:Int
  edge:Int
def zcz (a0:List Int):Bool :=
  (decide (65536 < (len a0)))

def zcb (a0:l1Cur):Option (Int×l1Cur) :=
  bdR (S:=Int) (X:=Empty) ((bif (decide (a0.at_ < (len a0.code))) then bd (ix a0.code a0.at_) (fun x49=>some (Rs.go (wrk true 64 x49))) else some (Rs.go 0))) (fun s38=>(bif (decide ((wr (a0.at_ + 1))≤(len a0.code))) then some (s38,(l1Cur.mk a0.code (wr (a0.at_ + 1)) (wrk false 64 ((wrk false 64 ((wrk false 64 (a0.seed * 6364136223846793005)) + (wrk false 64 s38))) + 337411)))) else some ((wrk true 64 (andK false 64 (shrK 64 (wrk false 64 ((wrk false 64 ((wrk false 64 (a0.seed * 6364136223846793005)) + (wrk false 64 s38))) + 337411)) 40) 255)),(l1Cur.mk a0.code (wr (a0.at_ + 1)) (wrk false 64 ((wrk false 64 ((wrk false 64 (a0.seed * 6364136223846793005)) + (wrk false 64 s38))) + 337411)))))) (fun x40=>nomatch x40)

def zaR (a0:l1Cur) (a1:Int):Option (Int×l1Cur) :=
  (bif (decide (a1≤1)) then some (0,a0) else bd (PF.zcb a0) (fun r22=>(bif (decide (200 < a1)) then bd (PF.zcb r22.2) (fun r31=>bd (nz a1) (fun u40=>some (((wr ((wr (r22.1 * 256)) + r31.1)).tmod a1),r31.2))) else bd (nz a1) (fun u42=>some ((r22.1.tmod a1),r22.2)))))

def zbf (a0:l1Cur) (a1:Int):Option (Bool×l1Cur) :=
  bd (PF.zaR a0 a1) (fun r21=>some ((r21.1 == 0),r21.2))

def zbn  : (List ByteArray) :=
  [(ByteArray.mk #[49,59,32,49,59,32,45,49]),(ByteArray.mk #[50,59,32,49,32,50,59,32,49,32,45,50,59,32,45,49,32,50,59,32,45,49,32,45,50]),(ByteArray.mk #[48,59,32,110,111,110,101]),(ByteArray.mk #[50,59,32,49,59,32,45,49,32,50,59,32,45,50]),(ByteArray.mk #[51,59,32,49,59,32,45,49,32,50,59,32,45,50,32,51,59,32,45,51]),(ByteArray.mk #[51,59,32,49,32,50,59,32,45,49,32,51,59,32,45,50,32,51,59,32,45,51]),(ByteArray.mk #[51,59,32,49,32,50,59,32,45,49,32,50,59,32,45,50,32,51,59,32,45,50,32,45,51]),(ByteArray.mk #[51,59,32,49,32,50,32,51,59,32,49,32,50,32,45,51,59,32,49,32,45,50,59,32,45,49,32,51,59,32,45,49,32,45,51]),(ByteArray.mk #[50,59,32,49,32,50,59,32,45,49,59,32,45,50,59,32,49,32,45,50]),(ByteArray.mk #[52,59,32,49,32,50,59,32,51,32,52,59,32,45,49,32,45,51,59,32,45,50,32,45,52,59,32,45,49,32,45,52,59,32,45,50,32,45,51]),(ByteArray.mk #[51,59,32,49,32,50,59,32,50,32,51,59,32,49,32,51,59,32,45,49,32,45,50,59,32,45,50,32,45,51,59,32,45,49,32,45,51]),(ByteArray.mk #[52,59,32,49,59,32,50,59,32,45,49,32,45,50,32,51,59,32,45,51,32,52,59,32,45,52]),(ByteArray.mk #[51,59,32,49,32,45,50,59,32,50,32,45,51,59,32,51,32,45,49,59,32,49,32,50,32,51,59,32,45,49,32,45,50,32,45,51]),(ByteArray.mk #[52,59,32,49,32,50,59,32,45,49,32,45,50,59,32,50,32,51,59,32,45,50,32,45,51,59,32,51,32,52,59,32,45,51,32,45,52,59,32,49,32,52,32,45,51,59,32,45,49,32,45,52,59,32,49,32,45,52,59,32,45,49,32,52]),(ByteArray.mk #[50,59,32,49,59,32,45,49,59,32,50])]

def zcA (a0:l1Cur) (a1:List ByteArray):Option (ByteArray×l1Cur) :=
  bd (PF.zaR a0 (len a1)) (fun r21=>bd (ix a1 r21.1) (fun x35=>some (x35,r21.2)))

def zcc (a0:ByteArray) (a1:Int):Option (List ByteArray) :=
  bd (chk (a0.size:Int)) (fun m26=>bdR (forR (S:=((List ByteArray)×Int)) (X:=Empty) 0 m26 (fun i27 s27=>bd (ixS a0 ((i27:Nat):Int)) (fun z73=>(bif (z73 == a1) then bd (cutS a0 s27.2 ((i27:Nat):Int)) (fun z76=>bd (app s27.1 [z76]) (fun xs83=>some (Lp.nx (xs83,(wr (((i27:Nat):Int) + 1)))))) else some (Lp.nx (s27.1,s27.2))))) ([],0)) (fun s27=>bd (cutS a0 s27.2 (a0.size:Int)) (fun zA3=>bd (app s27.1 [zA3]) (fun xsAa=>some xsAa))) (fun x27=>nomatch x27))

def zaU (a0:Int) (a1:Int) (a2:Int):Bool :=
  (bif (decide (a1≤a0)) then (decide (a0≤a2)) else false)

def zbL (a0:Int):Option ByteArray:=numT a0

def zcd (a0:ByteArray):Option (Int×Bool) :=
  bd (bif (decide (1 < (a0.size:Int))) then bd (ixS a0 0) (fun z30=>some (z30 == 45)) else some false) (fun t23=>bdR (S:=ByteArray) (X:=Empty) ((bif t23 then bd (cutS a0 1 (a0.size:Int)) (fun z42=>some (Rs.go z42)) else some (Rs.go a0))) (fun s38=>(bif (!(PF.zaU (s38.size:Int) 1 6)) then some (0,false) else bd (chk (s38.size:Int)) (fun m55=>bdR (forR (S:=Int) (X:=(Int×Bool)) 0 m55 (fun i56 s56=>bd (ixS s38 ((i56:Nat):Int)) (fun z96=>bd (bif (decide (z96 < 48)) then some true else bd (ixS s38 ((i56:Nat):Int)) (fun zA7=>some (decide (57 < zA7)))) (fun t100=>(bif t100 then some (Lp.rt (0,false)) else bd (ixS s38 ((i56:Nat):Int)) (fun zAf=>some (Lp.nx (wr ((wr (10 * s56)) + (wrk true 64 (wrk false 8 (zAf - 48))))))))))) 0) (fun s56=>bdR (S:=Int) (X:=Empty) ((bif (decide ((s38.size:Int) < (a0.size:Int))) then some (Rs.go (wr (-s56))) else some (Rs.go s56))) (fun sAr=>bd (PF.zbL sAr) (fun rAC=>(bif (!(rAC.toList == a0.toList)) then some (0,false) else some (sAr,true)))) (fun xAt=>nomatch xAt)) (fun x56=>some x56)))) (fun x40=>nomatch x40))

def zaJ (a0:Int):Bool :=
  (PF.zaU a0 0 12)

def za5 (a0:Int) (a1:Int):Bool :=
  (bif (PF.zaU a1 (wr (-a0)) a0) then (!(a1 == 0)) else false)

def zaN (a0:Int):Int :=
  (bif (decide (a0 < 0)) then (wr (-a0)) else a0)

def zbM (a0:Int) (a1:List Int):Option Bool :=
  (bif (!(PF.zaJ a0)) then some false else bdR (forL (S:=Unit) (X:=Bool) a1 (fun i26 y25 s26=>bd (bif (!(PF.za5 a0 y25)) then some true else bd (bif (decide (0 < ((i26:Nat):Int))) then bd (ix a1 (wr (((i26:Nat):Int) - 1))) (fun xC2=>some (decide ((PF.zaN y25)≤(PF.zaN xC2)))) else some false) (fun t213=>some t213)) (fun t192=>(bif t192 then some (Lp.rt false) else some (Lp.nx ())))) ()) (fun s26=>some true) (fun x26=>some x26))

def zce (a0:List Int):Option ByteArray :=
  (bif ((len a0) == 0) then some (ByteArray.mk #[110,111,110,101]) else bd (ix a0 0) (fun x28=>bd (PF.zbL x28) (fun r30=>bdR (forR (S:=ByteArray) (X:=Empty) 1 a0.length (fun i35 s35=>bd (catS s35 (ByteArray.mk #[32])) (fun z69=>bd (ix a0 ((i35:Nat):Int)) (fun x77=>bd (PF.zbL x77) (fun r79=>bd (catS z69 r79) (fun z84=>some (Lp.nx z84)))))) r30) (fun s35=>some s35) (fun x35=>nomatch x35))))

noncomputable def zcB (a0:Int) (a1:ByteArray):Option ((List Int)×Bool) :=
  (bif (a1.toList == (ByteArray.mk #[110,111,110,101]).toList) then some ([],(PF.zaJ a0)) else bd (PF.zcc a1 32) (fun r30=>bdR (iter (S:=((List Int)×Int)) (X:=((List Int)×Bool)) (fun s40=>(bif (bif (decide (s40.2 < (len r30))) then (decide (s40.2≤12)) else false) then bd (ix r30 s40.2) (fun xAy=>bd (PF.zcd xAy) (fun rAA=>(bif (!rAA.2) then some (Lp.rt ([],false)) else bd (app s40.1 [rAA.1]) (fun xsAQ=>some (Lp.nx (xsAQ,(wr (s40.2 + 1)))))))) else some (Lp.bk (s40.1,s40.2)))) ([],0)) (fun s40=>bd (bif (decide (12 < (len r30))) then some true else bd (PF.zbM a0 s40.1) (fun rBx=>some (!rBx))) (fun t183=>bd (bif t183 then some true else bd (PF.zce s40.1) (fun rC1=>some (!(rC1.toList == a1.toList)))) (fun t213=>(bif t213 then some ([],false) else some (s40.1,true))))) (fun x40=>some x40)))

noncomputable def zcC (a0:Cnf):Option ByteArray :=
  bd (PF.zbL a0.vars) (fun r29=>bdR (iter (S:=(ByteArray×Int)) (X:=Empty) (fun s34=>(bif (decide (s34.2 < (len a0.clauses))) then bd (catS s34.1 (ByteArray.mk #[59,32])) (fun z72=>bd (ix a0.clauses s34.2) (fun x80=>bd (PF.zce x80) (fun r84=>bd (catS z72 r84) (fun z89=>some (Lp.nx (z89,(wr (s34.2 + 1)))))))) else some (Lp.bk (s34.1,s34.2)))) (r29,0)) (fun s34=>some s34.1) (fun x34=>nomatch x34))

noncomputable def zcD (a0:ByteArray):Option (Cnf×Bool) :=
  bd (PF.zcc a0 59) (fun r25=>bd (ix r25 0) (fun x41=>bd (PF.zcd x41) (fun r43=>(bif (bif (bif (!r43.2) then true else (!(PF.zaJ r43.1))) then true else (decide (61 < (len r25)))) then some ((Cnf.mk 0 []),false) else bdR (iter (S:=((List (List Int))×Int)) (X:=(Cnf×Bool)) (fun s94=>(bif (decide (s94.2 < (len r25))) then bd (ix r25 s94.2) (fun xFB=>bd (bif (decide ((xFB.size:Int) < 2)) then some true else bd (ix r25 s94.2) (fun xG0=>bd (ixS xG0 0) (fun zG2=>some (!(zG2 == 32))))) (fun t459=>(bif t459 then some (Lp.rt ((Cnf.mk 0 []),false)) else bd (ix r25 s94.2) (fun xGl=>bd (cutS xGl 1 (xGl.size:Int)) (fun zGn=>bd (PF.zcB r43.1 zGn) (fun rGp=>(bif (!rGp.2) then some (Lp.rt ((Cnf.mk 0 []),false)) else bd (app s94.1 [rGp.1]) (fun xsGO=>some (Lp.nx (xsGO,(wr (s94.2 + 1)))))))))))) else some (Lp.bk (s94.1,s94.2)))) ([],1)) (fun s94=>bd (PF.zcC (Cnf.mk r43.1 s94.1)) (fun rHi=>(bif (!(rHi.toList == a0.toList)) then some ((Cnf.mk 0 []),false) else some ((Cnf.mk r43.1 s94.1),true)))) (fun x94=>some x94)))))

noncomputable def zbN (a0:ByteArray):Option Cnf :=
  bd (PF.zcD a0) (fun r25=>some r25.1)

noncomputable def zbO (a0:Cnf):Option Bool :=
  (bif (bif (!(PF.zaJ a0.vars)) then true else (decide (60 < (len a0.clauses)))) then some false else bdR (iter (S:=Int) (X:=Bool) (fun s42=>(bif (decide (s42 < (len a0.clauses))) then bd (ix a0.clauses s42) (fun x83=>bd (PF.zbM a0.vars x83) (fun r87=>(bif (!r87) then some (Lp.rt false) else some (Lp.nx (wr (s42 + 1)))))) else some (Lp.bk s42))) 0) (fun s42=>some true) (fun x42=>some x42))

def zcE (a0:List Int) (a1:Int):Option Bool :=
  bdR (forL (S:=Unit) (X:=Bool) a0 (fun i22 y21 s22=>(bif (y21 == a1) then some (Lp.rt true) else some (Lp.nx ()))) ()) (fun s22=>some false) (fun x22=>some x22)

def zaS (a0:List Int) (a1:Int):Option Bool :=
  bd (PF.zcE a0 a1) (fun r21=>some r21)

def za1 (a0:List Int):Option (List Int) :=
  bd (app [] a0) (fun xs26=>some xs26)

noncomputable def zaV (a0:List Int) (a1:Int):Option (List Int) :=
  bdR (iter (S:=Int) (X:=Empty) (fun s21=>bd (bif (decide (s21 < (len a0))) then bd (ix a0 s21) (fun xA5=>some (decide ((PF.zaN xA5) < (PF.zaN a1)))) else some false) (fun t92=>(bif t92 then some (Lp.nx (wr (s21 + 1))) else some (Lp.bk s21)))) 0) (fun s21=>bd (cut a0 0 s21) (fun xs9127=>bd (PF.za1 xs9127) (fun r12127=>bd (app r12127 [a1]) (fun xs21127=>bd (cut a0 s21 (len a0)) (fun xs30127=>bd (app xs21127 xs30127) (fun xs33127=>some xs33127)))))) (fun x21=>nomatch x21)

noncomputable def zcF (a0:Cnf) (a1:List Int):Option (Cnf×Bool) :=
  bd (PF.zbO a0) (fun r33=>(bif (bif (!r33) then true else (!((len a1) == a0.vars))) then some ((Cnf.mk 0 []),false) else bdR (forL (S:=Unit) (X:=(Cnf×Bool)) a1 (fun i54 y53 s54=>bd (bif (!(PF.za5 a0.vars y53)) then some true else bd (cut a1 0 ((i54:Nat):Int)) (fun xsBs=>bd (PF.zaS xsBs y53) (fun rBD=>some rBD))) (fun t183=>bd (bif t183 then some true else bd (cut a1 0 ((i54:Nat):Int)) (fun xsC4=>bd (PF.zaS xsC4 (wr (-y53))) (fun rCf=>some rCf))) (fun t221=>(bif t221 then some (Lp.rt ((Cnf.mk 0 []),false)) else some (Lp.nx ()))))) ()) (fun s54=>bdR (iter (S:=((List (List Int))×Int)) (X:=Empty) (fun sCO=>(bif (decide (sCO.2 < (len a0.clauses))) then bdR (iter (S:=((List Int)×Int)) (X:=Empty) (fun sPf=>bd (ix a0.clauses sCO.2) (fun xSu=>(bif (decide (sPf.2 < (len xSu))) then bd (ix a0.clauses sCO.2) (fun xSF=>bd (ix xSF sPf.2) (fun xSP=>bd (ix a1 (wr ((PF.zaN xSP) - 1))) (fun xT0=>(bif (decide (xSP < 0)) then bd (PF.zaV sPf.1 (wr (-xT0))) (fun rT8=>some (Lp.nx (rT8,(wr (sPf.2 + 1))))) else bd (PF.zaV sPf.1 xT0) (fun rTp=>some (Lp.nx (rTp,(wr (sPf.2 + 1))))))))) else some (Lp.bk (sPf.1,sPf.2))))) ([],0)) (fun sPf=>bd (app sCO.1 [sPf.1]) (fun xsTY=>some (Lp.nx (xsTY,(wr (sCO.2 + 1)))))) (fun xPf=>nomatch xPf) else some (Lp.bk (sCO.1,sCO.2)))) ([],0)) (fun sCO=>some ((Cnf.mk a0.vars sCO.1),true)) (fun xCO=>nomatch xCO)) (fun x54=>some x54)))

def zbg (a0:l1Cur) (a1:List Int):Option (Int×l1Cur) :=
  bd (PF.zaR a0 (len a1)) (fun r21=>bd (ix a1 r21.1) (fun x35=>some (x35,r21.2)))

def zbP (a0:List Int) (a1:Int):Option (List Int) :=
  bdR (forL (S:=(List Int)) (X:=Empty) a0 (fun i27 y26 s27=>(bif (!((PF.zaN y26) == a1)) then bd (app s27 [y26]) (fun xsA3=>some (Lp.nx xsA3)) else some (Lp.nx s27))) []) (fun s27=>some s27) (fun x27=>nomatch x27)

noncomputable def zbw (a0:l1Cur) (a1:Int):Option ((List Int)×l1Cur) :=
  bd (PF.zbg a0 [1,2,2,3,3,4,0,2]) (fun r36=>bdR (iter (S:=((List Int)×Int×Int×(List Int)×Int)) (X:=Empty) (fun s45=>(bif (bif (decide (0 < s45.2.2.2.2)) then (decide (0 < a1)) else false) then bd (PF.zaR (l1Cur.mk s45.1 s45.2.1 s45.2.2.1) a1) (fun rCA=>bd (PF.zbP s45.2.2.2.1 (wr (1 + rCA.1))) (fun rCN=>bd (PF.zbf rCA.2 2) (fun rCZ=>(bif rCZ.1 then bd (PF.zaV rCN (wr (-(wr (1 + rCA.1))))) (fun rDe=>some (Lp.nx (rCZ.2.code,rCZ.2.at_,rCZ.2.seed,rDe,(wr (s45.2.2.2.2 - 1))))) else bd (PF.zaV rCN (wr (1 + rCA.1))) (fun rDv=>some (Lp.nx (rCZ.2.code,rCZ.2.at_,rCZ.2.seed,rDv,(wr (s45.2.2.2.2 - 1))))))))) else some (Lp.bk (s45.1,s45.2.1,s45.2.2.1,s45.2.2.2.1,s45.2.2.2.2)))) (r36.2.code,r36.2.at_,r36.2.seed,[],r36.1)) (fun s45=>some (s45.2.2.2.1,(l1Cur.mk s45.1 s45.2.1 s45.2.2.1))) (fun x45=>nomatch x45))

noncomputable def zcG (a0:l1Cur):Option (Cnf×l1Cur) :=
  bd (PF.zcA a0 PF.zbn) (fun r38 => bd (PF.zbN r38.1) (fun r47 => bdR (iter (S := ((List Int) × (List Int) × Int × Int × Int)) (X := Empty) (fun s71 => (bif (decide (s71.2.2.2.2 ≤ r47.vars)) then bd (PF.zbf (l1Cur.mk s71.2.1 s71.2.2.1 s71.2.2.2.1) 4) (fun rBB => (bif rBB.1 then bd (app s71.1 [(wr (-s71.2.2.2.2))]) (fun xsBQ => some (Lp.nx (xsBQ, rBB.2.code, rBB.2.at_, rBB.2.seed, (wr (s71.2.2.2.2 + 1))))) else bd (app s71.1 [s71.2.2.2.2]) (fun xsC6 => some (Lp.nx (xsC6, rBB.2.code, rBB.2.at_, rBB.2.seed, (wr (s71.2.2.2.2 + 1))))))) else some (Lp.bk (s71.1, s71.2.1, s71.2.2.1, s71.2.2.2.1, s71.2.2.2.2)))) ([], r38.2.code, r38.2.at_, r38.2.seed, 1)) (fun s71 => bd (PF.zcF r47 s71.1) (fun rCw => bd (PF.zaR (l1Cur.mk s71.2.1 s71.2.2.1 s71.2.2.2.1) 3) (fun rCN => bdR (iter (S := ((List (List Int)) × (List Int) × Int × Int × Int)) (X := Empty) (fun sCW => (bif (bif (decide (0 < sCW.2.2.2.2)) then (decide (0 < rCw.1.vars)) else false) then bd (PF.zbw (l1Cur.mk sCW.2.1 sCW.2.2.1 sCW.2.2.2.1) rCw.1.vars) (fun r126433=>bd (app sCW.1 [r126433.1]) (fun xs132433=>some (Lp.nx (xs132433,r126433.2.code,r126433.2.at_,r126433.2.seed,(wr (sCW.2.2.2.2 - 1)))))) else some (Lp.bk (sCW.1,sCW.2.1,sCW.2.2.1,sCW.2.2.2.1,sCW.2.2.2.2)))) (rCw.1.clauses,rCN.2.code,rCN.2.at_,rCN.2.seed,rCN.1)) (fun sCW=>some ((Cnf.mk rCw.1.vars sCW.1),(l1Cur.mk sCW.2.1 sCW.2.2.1 sCW.2.2.2.1))) (fun xCW=>nomatch xCW)))) (fun x71=>nomatch x71)))

def zcH (a0:l1Cur) (a1:Int):Option (Int×l1Cur) :=
  bd (bif (decide (a1 < 1)) then some (a0.code,a0.at_,a0.seed,true) else bd (PF.zbf a0 40) (fun r33=>some (r33.2.code,r33.2.at_,r33.2.seed,r33.1))) (fun t29=>(bif t29.2.2.2 then bd (PF.zbg (l1Cur.mk t29.1 t29.2.1 t29.2.2.1) [0,(wr (a1 + 1)),(wr ((wr (-a1)) - 1))]) (fun r60=>some (r60.1,r60.2)) else bd (PF.zaR (l1Cur.mk t29.1 t29.2.1 t29.2.2.1) a1) (fun r68=>bd (PF.zbf r68.2 2) (fun r76=>(bif r76.1 then some ((wr (-(wr (1 + r68.1)))),r76.2) else some ((wr (1 + r68.1)),r76.2))))))

noncomputable def zcI (a0:l1Cur) (a1:Int):Option ((List Int)×l1Cur) :=
  bd (PF.zbw a0 a1) (fun r21=>bd (PF.zaR r21.2 32) (fun r33=>(bif (r33.1 == 0) then bd (PF.zcH r33.2 a1) (fun r43=>bd (app r21.1 [r43.1]) (fun xs56=>some (xs56,r43.2))) else (bif (r33.1 == 1) then (bif (decide (0 < (len r21.1))) then bd (PF.zbg r33.2 [0,(wr (a1 + 1)),(wr ((wr (-a1)) - 1)),(-9223372036854775808)]) (fun r79=>bd (ix r21.1 0) (fun x93=>bd (put r21.1 0 r79.1) (fun xs98=>some (xs98,r79.2)))) else some (r21.1,r33.2)) else (bif (r33.1 == 2) then (bif (decide (1 < (len r21.1))) then bd (ix r21.1 0) (fun xAb=>bd (ix r21.1 1) (fun xAj=>bd (ix r21.1 0) (fun xAr=>bd (put r21.1 0 xAj) (fun xsAw=>bd (ix xsAw 1) (fun xAH=>bd (put xsAw 1 xAb) (fun xsAM=>some (xsAM,r33.2))))))) else some (r21.1,r33.2)) else some (r21.1,r33.2))))))

noncomputable def zcJ (a0:l1Cur):Option (Cnf×l1Cur) :=
  bd (PF.zbf a0 4) (fun r25=>(bif r25.1 then bd (PF.zcG r25.2) (fun r35=>some (r35.1,r35.2)) else bd (PF.zbg r25.2 [2,3,3,4,5]) (fun r58=>bd (PF.zaR r58.2 10) (fun r78=>bdR (iter (S:=((List (List Int))×(List Int)×Int×Int×Int)) (X:=Empty) (fun s87=>(bif (decide (0 < s87.2.2.2.2)) then bd (PF.zbw (l1Cur.mk s87.2.1 s87.2.2.1 s87.2.2.2.1) r58.1) (fun r126190=>bd (app s87.1 [r126190.1]) (fun xs132190=>some (Lp.nx (xs132190,r126190.2.code,r126190.2.at_,r126190.2.seed,(wr (s87.2.2.2.2 - 1)))))) else some (Lp.bk (s87.1,s87.2.1,s87.2.2.1,s87.2.2.2.1,s87.2.2.2.2)))) ([],r78.2.code,r78.2.at_,r78.2.seed,r78.1)) (fun s87=>bd (PF.zaR (l1Cur.mk s87.2.1 s87.2.2.1 s87.2.2.2.1) 40) (fun r144216=>(bif (r144216.1 == 0) then bd (PF.zbg r144216.2 [(-1),13,12,0,1]) (fun r144235=>some ((Cnf.mk r144235.1 s87.1),r144235.2)) else (bif (r144216.1 == 1) then bd (PF.zcI r144216.2 r58.1) (fun r162256=>bd (app s87.1 [r162256.1]) (fun xs168256=>some ((Cnf.mk r58.1 xs168256),r162256.2))) else (bif (r144216.1 == 2) then bdR (iter (S:=((List (List Int))×(List Int)×Int×Int)) (X:=Empty) (fun s180281=>bd (PF.zaR (l1Cur.mk s180281.2.1 s180281.2.2.1 s180281.2.2.2) 2) (fun r276457=>(bif (decide ((len s180281.1) < (wr (60 + r276457.1)))) then bd (app s180281.1 [[1]]) (fun xs288486=>some (Lp.nx (xs288486,r276457.2.code,r276457.2.at_,r276457.2.seed))) else some (Lp.bk (s180281.1,r276457.2.code,r276457.2.at_,r276457.2.seed))))) (s87.1,r144216.2.code,r144216.2.at_,r144216.2.seed)) (fun s180281=>some ((Cnf.mk r58.1 s180281.1),(l1Cur.mk s180281.2.1 s180281.2.2.1 s180281.2.2.2))) (fun x180281=>nomatch x180281) else (bif (r144216.1 == 3) then bd (PF.zbw r144216.2 r58.1) (fun r306519=>bd (app s87.1 [r306519.1,[]]) (fun xs315519=>some ((Cnf.mk r58.1 xs315519),r306519.2))) else some ((Cnf.mk r58.1 s87.1),r144216.2))))))) (fun x87=>nomatch x87)))))

noncomputable def zds (a0:List Int):Option Cnf :=
  bd (PF.zcJ (l1Cur.mk a0 0 0)) (fun r29=>some r29.1)

noncomputable def zcK (a0:List Int):Option Cnf :=
  bd (PF.zds a0) (fun r25=>some r25)

def za6 (a0:Int) (a1:Int) (a2:Int):Bool :=
  (bif (decide (a1≤a0)) then (decide (a0≤a2)) else false)

def zbx (a0:Int) (a1:Int):Bool :=
  (bif (!(a1 == 0)) then (PF.za6 a1 (wr (-a0)) a0) else false)

def zaw (a0:Int):Int :=
  (mx a0 (wr (-a0)))

def zbh (a0:Int):Bool :=
  (PF.za6 a0 0 12)

def zbQ (a0:Int) (a1:List Int):Option Bool :=
  bdR (forL (S:=Unit) (X:=Bool) a1 (fun i22 y21 s22=>bd (bif (!(PF.zbx a0 y21)) then some true else bd (bif (decide (0 < ((i22:Nat):Int))) then bd (ix a1 (wr (((i22:Nat):Int) - 1))) (fun xBu=>some (decide ((PF.zaw y21)≤(PF.zaw xBu)))) else some false) (fun t179=>some t179)) (fun t164=>(bif t164 then some (Lp.rt false) else some (Lp.nx ())))) ()) (fun s22=>some (PF.zbh a0)) (fun x22=>some x22)

def zby (a0:Cnf):Option Bool :=
  bdR (forL (S:=Unit) (X:=Bool) a0.clauses (fun i30 y29 s30=>bd (PF.zbQ a0.vars y29) (fun r71=>(bif (!r71) then some (Lp.rt false) else some (Lp.nx ())))) ()) (fun s30=>some (bif (PF.zbh a0.vars) then (decide ((len a0.clauses)≤60)) else false)) (fun x30=>some x30)

def zcf (a0:List (List Int)):Option (List (List Int)) :=
  bd (app [] a0) (fun xs30=>some xs30)

def zbz (a0:List (List Int)) (a1:(List Int)→Option Bool):Option Int :=
  bdR (forL (S:=Unit) (X:=Int) a0 (fun i22 y21 s22=>bd (a1 y21) (fun r68=>(bif r68 then some (Lp.rt ((i22:Nat):Int)) else some (Lp.nx ())))) ()) (fun s22=>some (-1)) (fun x22=>some x22)

def zcg (a0:List (List Int)) (a1:(List Int)→Option Bool):Option Bool :=
  bd (PF.zbz a0 a1) (fun r21=>some (decide (0≤r21)))

def zcL (a0:List Int) (a1:Int→Option Bool):Option Int :=
  bdR (forL (S:=Unit) (X:=Int) a0 (fun i22 y21 s22=>bd (a1 y21) (fun r64=>(bif r64 then some (Lp.rt ((i22:Nat):Int)) else some (Lp.nx ())))) ()) (fun s22=>some (-1)) (fun x22=>some x22)

def zch (a0:List Int) (a1:Int→Option Bool):Option Bool :=
  bd (PF.zcL a0 a1) (fun r21=>some (decide (0≤r21)))

def zdt (a0:Int) (b0:Int):Option Bool :=
  bd (nn (wr ((PF.zaw a0) - 1))) (fun u23=>some (((andK true 64 (shrK 64 b0 (wr ((PF.zaw a0) - 1))) 1) == 1) == (decide (0 < a0))))

def zcM (a0:List Int) (a1:Int):Option Bool :=
  bd (PF.zch a0 (fun x0=>PF.zdt x0 a1)) (fun r29=>some r29)

def zcN (a0:List Int) (b0:Int):Option Bool :=
  bd (PF.zcM a0 b0) (fun r21=>some (!r21))

def zbi (a0:List (List Int)) (a1:Int):Option Bool :=
  bd (PF.zcg a0 (fun x0=>PF.zcN x0 a1)) (fun r29=>some (!r29))

def zcO (a0:Int) (a1:List (List Int)):Option Bool :=
  bd (β:=_) (bd (nn a0) (fun u154=>bd (chk (shlK true 64 1 a0)) (fun m155=>bdR (forR (S:=Bool) (X:=Bool) 0 m155 (fun iAU sAU=>bd (PF.zbi a1 ((iAU:Nat):Int)) (fun rCw=>bd (bif rCw then bd (β:=_) (some (true,false):Option (Bool×Bool)) (fun sCS=>some (sCS.1,(!sCS.2))) else some (sAU,false)) (fun t273=>(bif t273.2 then some (Lp.rt t273.1) else some (Lp.nx t273.1))))) false) (fun sAU=>some sAU) (fun xAU=>some xAU))):Option Bool) (fun sAI=>some sAI)

def zbR (a0:Int) (a1:List (List Int)) (a2:List Int):Option Bool :=
  bd (PF.zcf a1) (fun r21=>bdR (forL (S:=(List (List Int))) (X:=Empty) a2 (fun i32 y31 s32=>bd (app s32 [[(wr (-y31))]]) (fun xsAc=>some (Lp.nx xsAc))) r21) (fun s32=>bd (PF.zcO a0 s32) (fun rAA=>some (!rAA))) (fun x32=>nomatch x32))

def zci (a0:List Int):Option (List Int) :=
  bd (app [] a0) (fun xs30=>some xs30)

def zdR (a0:List Int) (a1:Int) (a2:Int):Option (List Int):=delL a0 a1 a2

def zcP (a0:List Int) (a1:Int):Option (List Int) :=
  bd (PF.zci a0) (fun r21=>bd (PF.zdR r21 a1 (wr (a1 + 1))) (fun r31=>some r31))

noncomputable def zcQ (a0:List (List Int)) (a1:(List Int)→(List Int)→Option Int):Option (List (List Int)):=sortF a1 a0

def za2 (a0:Int):Bool :=
  (!(a0 == a0))

def zaO (a0:Int) (a1:Int):Int :=
  (bif (PF.za2 a0) then (bif (PF.za2 a1) then 0 else (-1)) else (bif (PF.za2 a1) then 1 else (bif (decide (a0 < a1)) then (-1) else (bif (decide (a1 < a0)) then 1 else 0))))

def zcR (a0:List Int) (a1:List Int) (a2:Int→Int→Option Int):Option Int :=
  bdR (forL (S:=Unit) (X:=Int) a0 (fun i22 y21 s22=>(bif (decide ((len a1)≤((i22:Nat):Int))) then some (Lp.rt 1) else bd (ix a1 ((i22:Nat):Int)) (fun x84=>bd (a2 y21 x84) (fun r86=>(bif (!(r86 == 0)) then some (Lp.rt r86) else some (Lp.nx ())))))) ()) (fun s22=>(bif (decide ((len a0) < (len a1))) then some (-1) else some 0)) (fun x22=>some x22)

def zcj (a0:List Int):Option Int :=
  bdR (forL (S:=Unit) (X:=Int) a0 (fun i22 y21 s22=>(bif (!(y21 == 0)) then some (Lp.rt y21) else some (Lp.nx ()))) ()) (fun s22=>some 0) (fun x22=>some x22)

def zbA (a0:Int) (a1:Int):Option Int :=
  bd (PF.zcj [(PF.zaO (PF.zaw a0) (PF.zaw a1)),(PF.zaO a1 a0)]) (fun r43=>some r43)

def zaW (a0:List Int) (a1:List Int):Option Int :=
  bd (PF.zcR a0 a1 (fun x0 x1=>PF.zbA x0 x1)) (fun r24=>bd (PF.zcj [(PF.zaO (len a0) (len a1)),r24]) (fun r39=>some r39))

noncomputable def zbS (a0:Cnf) (c0:List Int) (s0:((List (List Int))×Int)):Option (((List (List Int))×Int)) :=
  bd (PF.zbR a0.vars a0.clauses c0) (fun r90359=>(bif (!r90359) then some (s0.1,s0.2) else bdR (forL (S:=Unit) (X:=((List (List Int))×Int)) c0 (fun i90366 y90365 s90366=>bd (PF.zcP c0 ((i90366:Nat):Int)) (fun r141399=>bd (PF.zbR a0.vars a0.clauses r141399) (fun r144404=>(bif r144404 then some (Lp.rt (s0.1,s0.2)) else some (Lp.nx ()))))) ()) (fun s90366=>bd (app s0.1 [c0]) (fun xs150425=>some (xs150425,s0.2))) (fun x90366=>some x90366)))

noncomputable def zbT (a0:Cnf):Option (Cnf×Bool) :=
  bd (PF.zby a0) (fun r35=>(bif (bif (!r35) then true else (decide (5 < a0.vars))) then some ((Cnf.mk 0 []),false) else (bif (bif (decide (a0.vars < 0)) then true else (decide (1000 < a0.vars))) then none else bd (foldO (PF.zbS a0) ([]::visL a0.vars.toNat 1 []) ([],a0.vars)) (fun s74=>bd (PF.zcQ s74.1 (fun x0 x1=>PF.zaW x0 x1)) (fun r150462=>(bif (decide (60 < (len r150462))) then some ((Cnf.mk 0 []),false) else some ((Cnf.mk s74.2 r150462),true)))))))

def zaK (a0:Int):Int :=
  (bif (decide (a0 < 0)) then (wr ((wr ((-2) * a0)) + 1)) else (wr (2 * a0)))

def zck (a0:List Int) (a1:List Int):Option Bool :=
  (bif (!((len a0) == (len a1))) then some (decide ((len a0) < (len a1))) else bdR (forL (S:=Unit) (X:=Bool) a0 (fun i23 y22 s23=>bd (ix a1 ((i23:Nat):Int)) (fun x90=>(bif (!(y22 == x90)) then bd (ix a1 ((i23:Nat):Int)) (fun xA9=>some (Lp.rt (decide ((PF.zaK y22) < (PF.zaK xA9))))) else some (Lp.nx ())))) ()) (fun s23=>some false) (fun x23=>some x23))

noncomputable def zbU (a0:List (List Int)) (a1:List Int):Option Int :=
  bdR (iter (S:=(Int×Int)) (X:=Empty) (fun s21=>(bif (decide (s21.1 < s21.2)) then bd (ix a0 (wr ((wr (s21.1 + s21.2)).tdiv 2))) (fun x64=>bd (PF.zck x64 a1) (fun r68=>(bif r68 then some (Lp.nx ((wr ((wr ((wr (s21.1 + s21.2)).tdiv 2)) + 1)),s21.2)) else some (Lp.nx (s21.1,(wr ((wr (s21.1 + s21.2)).tdiv 2))))))) else some (Lp.bk (s21.1,s21.2)))) (0,(len a0))) (fun s21=>some s21.1) (fun x21=>nomatch x21)

def zcl (a0:List Int) (a1:List Int):Option Bool :=
  (bif (!((len a0) == (len a1))) then some false else bdR (forL (S:=Unit) (X:=Bool) a0 (fun i23 y22 s23=>bd (ix a1 ((i23:Nat):Int)) (fun x72=>(bif (!(y22 == x72)) then some (Lp.rt false) else some (Lp.nx ())))) ()) (fun s23=>some true) (fun x23=>some x23))

noncomputable def zbB (a0:List (List Int)) (a1:List Int):Option (List (List Int)) :=
  bd (PF.zbU a0 a1) (fun r21=>bd (bif (decide (r21 < (len a0))) then bd (ix a0 r21) (fun x54=>bd (PF.zcl x54 a1) (fun r58=>some r58)) else some false) (fun t41=>(bif t41 then some a0 else bd (cut a0 0 r21) (fun xs12068=>bd (app [] xs12068) (fun xs15068=>bd (app xs15068 [a1]) (fun xs24068=>bd (cut a0 r21 (len a0)) (fun xs33068=>bd (app xs24068 xs33068) (fun xs36068=>some xs36068))))))))

noncomputable def zcS (a0:Int):Option (List (List Int)) :=
  bdR (iter (S:=((List (List Int))×Int)) (X:=Empty) (fun s38=>(bif (decide (s38.2≤a0)) then bdR (forL (S:=(List (List Int))) (X:=Empty) s38.1 (fun i114155 y114154 s114155=>bd (PF.zaV y114154 s38.2) (fun r249232=>bd (PF.zaV y114154 (wr (-s38.2))) (fun r270232=>bd (app s114155 [r249232,r270232]) (fun xs276232=>some (Lp.nx xs276232))))) s38.1) (fun s114155=>some (Lp.nx (s114155,(wr (s38.2 + 1))))) (fun x114155=>nomatch x114155) else some (Lp.bk (s38.1,s38.2)))) ([[]],1)) (fun s38=>bdR (iter (S:=((List (List Int))×Int)) (X:=Empty) (fun s285287=>(bif (decide (s285287.2 < (len s38.1))) then bd (ix s38.1 s285287.2) (fun x285332=>bd (PF.zbB s285287.1 x285332) (fun r285336=>some (Lp.nx (r285336,(wr (s285287.2 + 1)))))) else some (Lp.bk (s285287.1,s285287.2)))) ([],0)) (fun s285287=>some s285287.1) (fun x285287=>nomatch x285287)) (fun x38=>nomatch x38)

def zbV (a0:List Int) (a1:List Int):Option Bool :=
  bdR (forL (S:=Unit) (X:=Bool) a0 (fun i22 y21 s22=>bd (PF.zaS a1 y21) (fun r57=>(bif (!r57) then some (Lp.rt false) else some (Lp.nx ())))) ()) (fun s22=>some true) (fun x22=>some x22)

def zbW (a0:List Int) (a1:Int):Option Bool :=
  bdR (forL (S:=Unit) (X:=Bool) a0 (fun i22 y21 s22=>bd (nn (wr ((PF.zaN y21) - 1))) (fun u66=>(bif (((andK true 64 (shrK 64 a1 (wr ((PF.zaN y21) - 1))) 1) == 1) == (decide (0 < y21))) then some (Lp.rt true) else some (Lp.nx ())))) ()) (fun s22=>some false) (fun x22=>some x22)

def zcm (a0:List (List Int)) (a1:Int):Option Bool :=
  bdR (forL (S:=Unit) (X:=Bool) a0 (fun i22 y21 s22=>bd (PF.zbW y21 a1) (fun r61=>(bif (!r61) then some (Lp.rt false) else some (Lp.nx ())))) ()) (fun s22=>some true) (fun x22=>some x22)

noncomputable def zcT (a0:Cnf) (a1:List Int):Option Bool :=
  bdR (iter (S:=Int) (X:=Bool) (fun s29=>bd (nn a0.vars) (fun u77=>(bif (decide (s29 < (shlK true 64 1 a0.vars))) then bd (PF.zbW a1 s29) (fun r79=>bd (bif (!r79) then bd (PF.zcm a0.clauses s29) (fun r96=>some r96) else some false) (fun t89=>(bif t89 then some (Lp.rt false) else some (Lp.nx (wr (s29 + 1)))))) else some (Lp.bk s29)))) 0) (fun s29=>some true) (fun x29=>some x29)

noncomputable def zbX (a0:Cnf):Option (Cnf×Bool) :=
  bd (PF.zbO a0) (fun r35=>(bif (bif (!r35) then true else (decide (5 < a0.vars))) then some ((Cnf.mk 0 []),false) else bd (PF.zcS a0.vars) (fun r76=>bdR (forL (S:=(List (List Int))) (X:=Empty) r76 (fun i85 y84 s85=>bdR (iter (S:=(Bool×Int)) (X:=Empty) (fun s108518=>(bif (bif (decide (s108518.2 < (len s85))) then s108518.1 else false) then bd (ix s85 s108518.2) (fun x108606=>bd (PF.zbV x108606 y84) (fun r108618=>some (Lp.nx ((!r108618),(wr (s108518.2 + 1)))))) else some (Lp.bk (s108518.1,s108518.2)))) (true,0)) (fun s108518=>bd (bif s108518.1 then bd (PF.zcT a0 y84) (fun r108661=>some r108661) else some false) (fun t108646=>(bif t108646 then bd (app s85 [y84]) (fun xs132673=>some (Lp.nx xs132673)) else some (Lp.nx s85)))) (fun x108518=>nomatch x108518)) []) (fun s85=>(bif (decide (60 < (len s85))) then some ((Cnf.mk 0 []),false) else some ((Cnf.mk a0.vars s85),true))) (fun x85=>nomatch x85))))

def zcU (a0:List Int) (a1:List Int):Option Bool :=
  (bif (!((len a0) == (len a1))) then some false else bdR (forL (S:=Unit) (X:=Bool) a0 (fun i23 y22 s23=>bd (ix a1 ((i23:Nat):Int)) (fun x72=>(bif (!(y22 == x72)) then some (Lp.rt false) else some (Lp.nx ())))) ()) (fun s23=>some true) (fun x23=>some x23))

def zbY (a0:List (List Int)) (a1:List (List Int)):Option Bool :=
  (bif (!((len a0) == (len a1))) then some false else bdR (forL (S:=Unit) (X:=Bool) a0 (fun i23 y22 s23=>bd (ix a1 ((i23:Nat):Int)) (fun x80=>bd (PF.zcU y22 x80) (fun r84=>(bif (!r84) then some (Lp.rt false) else some (Lp.nx ()))))) ()) (fun s23=>some true) (fun x23=>some x23))

def zcV (a0:Cnf) (a1:Cnf):Option Bool :=
  bd (bif (a0.vars == a1.vars) then bd (PF.zbY a0.clauses a1.clauses) (fun r49=>some r49) else some false) (fun t42=>some t42)

def zcW (a0:Cnf) (a1:Cnf):Option (Bool×Bool) :=
  bd (PF.zby a0) (fun r37=>bd (bif (!r37) then some true else bd (PF.zby a1) (fun r54=>some (!r54))) (fun t47=>(bif (bif t47 then true else (!(a0.vars == a1.vars))) then some (false,false) else bd (nn a0.vars) (fun u74=>bd (chk (shlK true 64 1 a0.vars)) (fun m75=>bdR (forR (S:=Unit) (X:=(Bool×Bool)) 0 m75 (fun i76 s76=>bd (PF.zbi a0.clauses ((i76:Nat):Int)) (fun rA5=>bd (PF.zbi a1.clauses ((i76:Nat):Int)) (fun rA7=>(bif (!(rA5 == rA7)) then some (Lp.rt (false,true)) else some (Lp.nx ()))))) ()) (fun s76=>some (true,true)) (fun x76=>some x76))))))

def zcX (a0:List Int) (a1:Int):Option Int :=
  bdR (forL (S:=Unit) (X:=Int) a0 (fun i22 y21 s22=>(bif (a1 == y21) then some (Lp.rt ((i22:Nat):Int)) else some (Lp.nx ()))) ()) (fun s22=>some (-1)) (fun x22=>some x22)

def zcY (a0:List Int) (a1:Int):Option Bool :=
  bd (PF.zcX a0 a1) (fun r21=>some (decide (0≤r21)))

def zcZ (a0:Int) (b0:List Int):Option Bool :=
  bd (PF.zcY b0 a0) (fun r21=>some (!r21))

def zcn (a0:List Int) (a1:List Int):Option Bool :=
  bd (PF.zch a0 (fun x0=>PF.zcZ x0 a1)) (fun r29=>some (!r29))

def zco (a0:Int) (a1:List Int) (a2:List Int):Option (Bool×Bool) :=
  bd (PF.zbQ a0 a1) (fun r21=>bd (bif (!r21) then some true else bd (PF.zbQ a0 a2) (fun r38=>some (!r38))) (fun t31=>(bif t31 then some (false,false) else bd (PF.zcn a1 a2) (fun r47=>some (r47,true)))))

def zdu (a0:Cnf) (a1:Int):Option Bool :=
  bd (PF.zby a0) (fun r29=>some (bif (bif r29 then (decide (a0.vars≤6)) else false) then (PF.za6 a1 0 6) else false))

def zcp (a0:List Int):Option Int :=
  bdR (forL (S:=Int) (X:=Empty) a0 (fun i22 y21 s22=>(bif (decide (0 < y21)) then bd (nn (wr (y21 - 1))) (fun u60=>some (Lp.nx (orK false 16 s22 (shlK false 16 1 (wr (y21 - 1)))))) else bd (nn (wr ((wr (6 - y21)) - 1))) (fun u62=>some (Lp.nx (orK false 16 s22 (shlK false 16 1 (wr ((wr (6 - y21)) - 1)))))))) 0) (fun s22=>some s22) (fun x22=>nomatch x22)

def za7 (a0:Int):Int :=
  (orK false 16 (shlK false 16 (andK false 16 a0 63) 6) (shrK 16 a0 6))

def zai (a0:Int) (a1:Int):Int :=
  (andK false 16 (orK false 16 (andK false 16 a0 (PF.za7 a1)) (shrK 16 (andK false 16 a0 (PF.za7 a1)) 6)) 63)

def zbZ (a0:Int):Bool :=
  (bif (!(a0 == 0)) then ((andK false 16 a0 (wrk false 16 (a0 - 1))) == 0) else false)

noncomputable def zbC (a0:Int):Option Int :=
  bdR (iter (S:=(Int×Int)) (X:=Empty) (fun s21=>(bif (!(s21.1 == 0)) then some (Lp.nx ((andK false 16 s21.1 (wrk false 16 (s21.1 - 1))),(wr (s21.2 + 1)))) else some (Lp.bk (s21.1,s21.2)))) (a0,0)) (fun s21=>some s21.2) (fun x21=>nomatch x21)

noncomputable def zc0 (a0:Cnf) (a1:Int):Option (Option zbm) :=
  bdR (forL (S:=((List Int)×Int×(List (Int×Int)))) (X:=Empty) a0.clauses (fun i42 y41 s42=>(bif (decide ((len y41)≤a1)) then bd (PF.zcp y41) (fun rBy=>bd (β:=_) ((bif (!((mget s42.2.2 rBy).isSome)) then bd (app s42.1 [rBy]) (fun xsCn=>some (xsCn,0,(mput s42.2.2 rBy 0))) else some (s42.1,s42.2.1,s42.2.2)):Option ((List Int)×Int×(List (Int×Int)))) (fun sC5=>some (Lp.nx (sC5.1,sC5.2.1,sC5.2.2)))) else some (Lp.nx (s42.1,s42.2.1,s42.2.2)))) ([],0,([]:List (Int×Int)))) (fun s42=>bdR (iter (S:=((List Int)×Int×(List (Int×Int))×Int×Int)) (X:=Empty) (fun sCR=>(bif (decide (sCR.2.2.2.1 < (len sCR.1))) then bdR (iter (S:=((List Int)×Int×(List (Int×Int))×Int)) (X:=Empty) (fun sSy=>(bif (decide (sSy.2.2.2 < (len sCR.1))) then bd (cut sSy.1 0 sSy.2.2.2) (fun xsZY=>bdR (forL (S:=((List Int)×Int×(List (Int×Int)))) (X:=Empty) xsZY (fun i1720 y1719 s1720=>bd (ix s1720.1 sSy.2.2.2) (fun x1922=>(bif (!(PF.zbZ (PF.zai x1922 y1719))) then some (Lp.nx (s1720.1,s1720.2.1,s1720.2.2)) else bd (PF.zbC (anK false 16 (orK false 16 x1922 y1719) (orK false 16 (PF.zai x1922 y1719) (shlK false 16 (PF.zai x1922 y1719) 6)))) (fun r1931=>(bif (decide (r1931≤a1)) then bd (β:=_) ((bif (!((mget s1720.2.2 (anK false 16 (orK false 16 x1922 y1719) (orK false 16 (PF.zai x1922 y1719) (shlK false 16 (PF.zai x1922 y1719) 6)))).isSome)) then bd (app s1720.1 [(anK false 16 (orK false 16 x1922 y1719) (orK false 16 (PF.zai x1922 y1719) (shlK false 16 (PF.zai x1922 y1719) 6)))]) (fun xs1987=>some (xs1987,sCR.2.2.2.2,(mput s1720.2.2 (anK false 16 (orK false 16 x1922 y1719) (orK false 16 (PF.zai x1922 y1719) (shlK false 16 (PF.zai x1922 y1719) 6))) sCR.2.2.2.2))) else some (s1720.1,s1720.2.1,s1720.2.2)):Option ((List Int)×Int×(List (Int×Int)))) (fun s1967=>some (Lp.nx (s1967.1,s1967.2.1,s1967.2.2))) else some (Lp.nx (s1720.1,s1720.2.1,s1720.2.2))))))) (sSy.1,sSy.2.1,sSy.2.2.1)) (fun s1720=>some (Lp.nx (s1720.1,s1720.2.1,s1720.2.2,(wr (sSy.2.2.2 + 1))))) (fun x1720=>nomatch x1720)) else some (Lp.bk (sSy.1,sSy.2.1,sSy.2.2.1,sSy.2.2.2)))) (sCR.1,sCR.2.1,sCR.2.2.1,sCR.2.2.2.1)) (fun sSy=>some (Lp.nx (sSy.1,sSy.2.1,sSy.2.2.1,(len sCR.1),(wr (sCR.2.2.2.2 + 1))))) (fun xSy=>nomatch xSy) else some (Lp.bk (sCR.1,sCR.2.1,sCR.2.2.1,sCR.2.2.2.1,sCR.2.2.2.2)))) (s42.1,s42.2.1,s42.2.2,0,1)) (fun sCR=>some (some (zbm.mk sCR.1 sCR.2.2.1 sCR.2.1))) (fun xCR=>nomatch xCR)) (fun x42=>nomatch x42)

noncomputable def zb0 (a0:Int):Option (List Int) :=
  bdR (iter (S:=((List Int)×Int)) (X:=Empty) (fun s21=>(bif (decide (s21.2≤6)) then bd (nn (wr (s21.2 - 1))) (fun u98=>(bif ((andK false 16 (shrK 16 a0 (wr (s21.2 - 1))) 1) == 1) then bd (app s21.1 [s21.2]) (fun xsA5=>bd (nn (wr ((wr (6 + s21.2)) - 1))) (fun u117=>(bif ((andK false 16 (shrK 16 a0 (wr ((wr (6 + s21.2)) - 1))) 1) == 1) then bd (app xsA5 [(wr (-s21.2))]) (fun xsAo=>some (Lp.nx (xsAo,(wr (s21.2 + 1))))) else some (Lp.nx (xsA5,(wr (s21.2 + 1))))))) else bd (nn (wr ((wr (6 + s21.2)) - 1))) (fun u136=>(bif ((andK false 16 (shrK 16 a0 (wr ((wr (6 + s21.2)) - 1))) 1) == 1) then bd (app s21.1 [(wr (-s21.2))]) (fun xsAH=>some (Lp.nx (xsAH,(wr (s21.2 + 1))))) else some (Lp.nx (s21.1,(wr (s21.2 + 1)))))))) else some (Lp.bk (s21.1,s21.2)))) ([],1)) (fun s21=>some s21.1) (fun x21=>nomatch x21)

noncomputable def zc1 (a0:zbm):Option (List (List Int)) :=
  bdR (forL (S:=(List (List Int))) (X:=Empty) a0.masks (fun i22 y21 s22=>bd (PF.zb0 y21) (fun r91=>bd (app s22 [r91]) (fun xsAc=>some (Lp.nx xsAc)))) []) (fun s22=>bd (PF.zcQ s22 (fun x0 x1=>PF.zaW x0 x1)) (fun rAv=>some rAv)) (fun x22=>nomatch x22)

noncomputable def zc2 (a0:Cnf) (a1:Int):Option ((List (List Int))×Bool) :=
  bd (PF.zdu a0 a1) (fun r29=>(bif (!r29) then some ([],false) else bd (PF.zc0 a0 a1) (fun r35=>bd r35 (fun y43=>bd (PF.zc1 y43) (fun r52=>some (r52,true))))))

noncomputable def zc3 (a0:List (List Int)) (a1:(List Int)→Option Bool):Option (List (List Int)) :=
  bd (PF.zbz a0 a1) (fun r26=>(bif (r26 == (-1)) then some a0 else bdR (iter (S:=((List (List Int))×Int×Int)) (X:=Empty) (fun s32=>(bif (decide (s32.2.2 < (len s32.1))) then bd (ix s32.1 s32.2.2) (fun xAN=>bd (a1 xAN) (fun rAR=>(bif (!rAR) then bd (ix s32.1 s32.2.1) (fun xB8=>bd (put s32.1 s32.2.1 xAN) (fun xsBf=>some (Lp.nx (xsBf,(wr (s32.2.1 + 1)),(wr (s32.2.2 + 1)))))) else some (Lp.nx (s32.1,s32.2.1,(wr (s32.2.2 + 1))))))) else some (Lp.bk (s32.1,s32.2.1,s32.2.2)))) (a0,r26,(wr (r26 + 1)))) (fun s32=>bd (cut s32.1 s32.2.1 (len s32.1)) (fun xsBs=>bd (cut (clearL [] s32.1 s32.2.1) 0 s32.2.1) (fun xsBC=>some xsBC))) (fun x32=>nomatch x32)))

def zc4 (a0:List Int) (b0:List Int):Option Bool :=
  bd (bif (decide ((len a0) < (len b0))) then bd (PF.zcn a0 b0) (fun r33=>some r33) else some false) (fun t26=>some t26)

def zcq (a0:List Int) (b0:List (List Int)):Option Bool :=
  bd (PF.zcg b0 (fun x0=>PF.zc4 x0 a0)) (fun r29=>some r29)

noncomputable def zdv (a0:Cnf) (a1:Int):Option ((List (List Int))×Bool) :=
  bd (PF.zc2 a0 a1) (fun r29=>(bif (!r29.2) then some ([],false) else bd (PF.zcf r29.1) (fun r56=>bd (PF.zc3 r56 (fun x0=>PF.zcq x0 r29.1)) (fun r66=>some (r66,true)))))

noncomputable def zc5 (a0:Cnf):Option ((List (List Int))×Bool) :=
  bd (PF.zdv a0 6) (fun r29=>some (r29.1,r29.2))

noncomputable def zdw (a0:Cnf):Option Bool :=
  bd (bif (decide (a0.vars≤6)) then bd (PF.zbO a0) (fun r41=>some r41) else some false) (fun t34=>some t34)

def zcr (a0:Int):Bool :=
  (PF.zaU a0 0 6)

noncomputable def zc6 (a0:zaH):Option (List Int) :=
  bdR (iter (S:=((List Int)×Int)) (X:=Empty) (fun s34=>(bif (decide (s34.2 < (len a0.list))) then bdR (iter (S:=(Int×Int)) (X:=Empty) (fun s84226=>(bif (decide (s84226.1 < s84226.2)) then bd (ix s34.1 (wr ((wr (s84226.1 + s84226.2)).tdiv 2))) (fun x84291=>bd (ix a0.list x84291) (fun x84299=>bd (ix a0.list s34.2) (fun x84309=>bd (PF.zck x84299 x84309) (fun r84313=>(bif r84313 then some (Lp.nx ((wr ((wr ((wr (s84226.1 + s84226.2)).tdiv 2)) + 1)),s84226.2)) else some (Lp.nx (s84226.1,(wr ((wr (s84226.1 + s84226.2)).tdiv 2))))))))) else some (Lp.bk (s84226.1,s84226.2)))) (0,(len s34.1))) (fun s84226=>bd (cut s34.1 0 s84226.1) (fun xs93329=>bd (PF.za1 xs93329) (fun r96329=>bd (app r96329 [s34.2]) (fun xs105329=>bd (cut s34.1 s84226.1 (len s34.1)) (fun xs114329=>bd (app xs105329 xs114329) (fun xs117329=>some (Lp.nx (xs117329,(wr (s34.2 + 1)))))))))) (fun x84226=>nomatch x84226) else some (Lp.bk (s34.1,s34.2)))) ([],0)) (fun s34=>some s34.1) (fun x34=>nomatch x34)

noncomputable def zc7 (a0:List Int) (a1:List Int):Option ((List Int)×Bool) :=
  bd (PF.za1 a0) (fun r21=>bdR (forL (S:=(List Int)) (X:=((List Int)×Bool)) a1 (fun i32 y31 s32=>bd (PF.zaS s32 (wr (-y31))) (fun rBC=>(bif rBC then some (Lp.rt ([],false)) else bd (PF.zaS s32 y31) (fun rBY=>(bif (!rBY) then bd (PF.zaV s32 y31) (fun rCf=>some (Lp.nx rCf)) else some (Lp.nx s32)))))) r21) (fun s32=>some (s32,true)) (fun x32=>some x32))

noncomputable def zc8 (a0:List Int) (a1:List Int) (a2:Int):Option ((List Int)×Bool) :=
  bd (PF.zaS a0 a2) (fun r21=>bd (bif (!r21) then some true else bd (PF.zaS a1 (wr (-a2))) (fun r38=>some (!r38))) (fun t31=>(bif t31 then some ([],false) else bd (PF.zbP a0 a2) (fun r53=>bd (PF.zbP a1 a2) (fun r63=>bd (PF.zc7 r53 r63) (fun r83=>some (r83.1,r83.2)))))))

noncomputable def zcs (a0:List (List Int)) (a1:List Int):Option Int :=
  bd (PF.zbU a0 a1) (fun r21=>bd (bif (decide (r21 < (len a0))) then bd (ix a0 r21) (fun x54=>bd (PF.zcl x54 a1) (fun r58=>some r58)) else some false) (fun t41=>(bif t41 then some r21 else some (-1))))

noncomputable def zc9 (a0:Int) (a1:zaH) (a2:Int) (a3:Int):Option (zaH×Bool) :=
  bd (PF.zc6 a1) (fun r64=>bdR (iter (S:=((List Int)×(List Int)×(List Int)×(List (List Int))×Int)) (X:=Empty) (fun sAi=>(bif (decide (sAi.2.2.2.2 < (len r64))) then bdR (iter (S:=((List Int)×(List Int)×(List Int)×(List (List Int))×Int)) (X:=Empty) (fun s1970620=>(bif (decide (s1970620.2.2.2.2 < (len r64))) then bd (ix r64 sAi.2.2.2.2) (fun x2955839=>bd (ix a1.rounds x2955839) (fun x2955847=>bd (bif (decide (x2955847 < (wr (a3 - 1)))) then bd (ix r64 s1970620.2.2.2.2) (fun x2955878=>bd (ix a1.rounds x2955878) (fun x2955886=>some (decide (x2955886 < (wr (a3 - 1)))))) else some false) (fun t2955865=>(bif t2955865 then some (Lp.nx (s1970620.1,s1970620.2.1,s1970620.2.2.1,s1970620.2.2.2.1,(wr (s1970620.2.2.2.2 + 1)))) else bdR (iter (S:=((List Int)×(List Int)×(List Int)×(List (List Int))×Int)) (X:=Empty) (fun s2955903=>(bif (decide (s2955903.2.2.2.2≤a0)) then bd (ix r64 sAi.2.2.2.2) (fun x3463404=>bd (ix a1.list x3463404) (fun x3469404=>bd (ix r64 s1970620.2.2.2.2) (fun x3487404=>bd (ix a1.list x3487404) (fun x3493404=>bd (PF.zc8 x3469404 x3493404 s2955903.2.2.2.2) (fun r3502398=>bd (bif (bif (!r3502398.2) then true else (decide (a2 < (len r3502398.1)))) then some true else bd (PF.zcs a1.sorted r3502398.1) (fun r3523461=>some (decide (0≤r3523461)))) (fun t3523449=>bd (bif t3523449 then some true else bd (PF.zcs s2955903.2.2.2.1 r3502398.1) (fun r3523500=>some (decide (0≤r3523500)))) (fun t3523488=>(bif t3523488 then some (Lp.nx (s2955903.1,s2955903.2.1,s2955903.2.2.1,s2955903.2.2.2.1,(wr (s2955903.2.2.2.2 + 1)))) else bd (PF.zbU s2955903.2.2.2.1 r3502398.1) (fun r3523523=>bd (PF.zbB s2955903.2.2.2.1 r3502398.1) (fun r3523533=>bd (cut s2955903.1 0 r3523523) (fun xs3535544=>bd (PF.za1 xs3535544) (fun r3538544=>bd (ix r64 sAi.2.2.2.2) (fun x3547550=>bd (app r3538544 [x3547550]) (fun xs3556544=>bd (cut s2955903.1 r3523523 (len s2955903.1)) (fun xs3568544=>bd (app xs3556544 xs3568544) (fun xs3571544=>bd (cut s2955903.2.1 0 r3523523) (fun xs3595570=>bd (PF.za1 xs3595570) (fun r3598570=>bd (ix r64 s1970620.2.2.2.2) (fun x3607576=>bd (app r3598570 [x3607576]) (fun xs3616570=>bd (cut s2955903.2.1 r3523523 (len s2955903.2.1)) (fun xs3628570=>bd (app xs3616570 xs3628570) (fun xs3631570=>bd (cut s2955903.2.2.1 0 r3523523) (fun xs3655596=>bd (PF.za1 xs3655596) (fun r3658596=>bd (app r3658596 [s2955903.2.2.2.2]) (fun xs3667596=>bd (cut s2955903.2.2.1 r3523523 (len s2955903.2.2.1)) (fun xs3679596=>bd (app xs3667596 xs3679596) (fun xs3682596=>some (Lp.nx (xs3571544,xs3631570,xs3682596,r3523533,(wr (s2955903.2.2.2.2 + 1))))))))))))))))))))))))))))))) else some (Lp.bk (s2955903.1,s2955903.2.1,s2955903.2.2.1,s2955903.2.2.2.1,s2955903.2.2.2.2)))) (s1970620.1,s1970620.2.1,s1970620.2.2.1,s1970620.2.2.2.1,1)) (fun s2955903=>some (Lp.nx (s2955903.1,s2955903.2.1,s2955903.2.2.1,s2955903.2.2.2.1,(wr (s1970620.2.2.2.2 + 1))))) (fun x2955903=>nomatch x2955903))))) else some (Lp.bk (s1970620.1,s1970620.2.1,s1970620.2.2.1,s1970620.2.2.2.1,s1970620.2.2.2.2)))) (sAi.1,sAi.2.1,sAi.2.2.1,sAi.2.2.2.1,0)) (fun s1970620=>some (Lp.nx (s1970620.1,s1970620.2.1,s1970620.2.2.1,s1970620.2.2.2.1,(wr (sAi.2.2.2.2 + 1))))) (fun x1970620=>nomatch x1970620) else some (Lp.bk (sAi.1,sAi.2.1,sAi.2.2.1,sAi.2.2.2.1,sAi.2.2.2.2)))) ([],[],[],[],0)) (fun sAi=>bdR (iter (S:=((List (List Int))×(List Int)×(List (List Int))×Int)) (X:=Empty) (fun s3694660=>(bif (decide (s3694660.2.2.2 < (len sAi.2.2.2.1))) then bd (ix sAi.2.2.2.1 s3694660.2.2.2) (fun x3862804=>bd (app s3694660.1 [x3862804]) (fun xs3871798=>bd (app s3694660.2.1 [a3]) (fun xs3883820=>bd (ix sAi.2.2.2.1 s3694660.2.2.2) (fun x3901840=>bd (PF.zbB s3694660.2.2.1 x3901840) (fun r3907834=>some (Lp.nx (xs3871798,xs3883820,r3907834,(wr (s3694660.2.2.2 + 1))))))))) else some (Lp.bk (s3694660.1,s3694660.2.1,s3694660.2.2.1,s3694660.2.2.2)))) (a1.list,a1.rounds,a1.sorted,0)) (fun s3694660=>bd (app a1.left sAi.1) (fun xs3919856=>bd (app a1.right sAi.2.1) (fun xs3919869=>bd (app a1.pivots sAi.2.2.1) (fun xs3919882=>some ((zaH.mk s3694660.1 s3694660.2.1 xs3919856 xs3919869 xs3919882 s3694660.2.2.1),(decide (0 < (len sAi.2.2.2.1)))))))) (fun x3694660=>nomatch x3694660)) (fun xAi=>nomatch xAi))

noncomputable def zda (a0:Cnf) (a1:Int):Option zaH :=
  bdR (iter (S:=((List (List Int))×Int)) (X:=Empty) (fun s81=>(bif (decide (s81.2 < (len a0.clauses))) then bd (ix a0.clauses s81.2) (fun xAW=>(bif (decide ((len xAW)≤a1)) then bd (ix a0.clauses s81.2) (fun xB7=>bd (PF.za1 xB7) (fun rBb=>bd (PF.zbB s81.1 rBb) (fun rBq=>some (Lp.nx (rBq,(wr (s81.2 + 1))))))) else some (Lp.nx (s81.1,(wr (s81.2 + 1)))))) else some (Lp.bk (s81.1,s81.2)))) ([],0)) (fun s81=>bdR (forL (S:=((List Int)×(List Int)×(List Int)×(List Int)×(List (List Int))×(List (List Int)))) (X:=Empty) s81.1 (fun iBK yBJ sBK=>bd (app sBK.2.2.2.2.1 [yBJ]) (fun xs96450=>bd (app sBK.2.2.2.1 [0]) (fun xs108473=>bd (app sBK.2.2.1 [(-1)]) (fun xs108492=>bd (app sBK.2.1 [(-1)]) (fun xs108511=>bd (app sBK.1 [0]) (fun xs108530=>some (Lp.nx (xs108530,xs108511,xs108492,xs108473,xs96450,sBK.2.2.2.2.2)))))))) ([],[],[],[],[],[])) (fun sBK=>bdR (iter (S:=((List Int)×(List Int)×(List Int)×(List Int)×(List (List Int))×(List (List Int))×Int×Bool)) (X:=Empty) (fun s108558=>(bif s108558.2.2.2.2.2.2.2 then bd (PF.zc9 a0.vars (zaH.mk s108558.2.2.2.2.1 s108558.2.2.2.1 s108558.2.2.1 s108558.2.1 s108558.1 s108558.2.2.2.2.2.1) a1 s108558.2.2.2.2.2.2.1) (fun r108687=>some (Lp.nx (r108687.1.pivots,r108687.1.right,r108687.1.left,r108687.1.rounds,r108687.1.list,r108687.1.sorted,(wr (s108558.2.2.2.2.2.2.1 + 1)),r108687.2))) else some (Lp.bk (s108558.1,s108558.2.1,s108558.2.2.1,s108558.2.2.2.1,s108558.2.2.2.2.1,s108558.2.2.2.2.2.1,s108558.2.2.2.2.2.2.1,s108558.2.2.2.2.2.2.2)))) (sBK.1,sBK.2.1,sBK.2.2.1,sBK.2.2.2.1,sBK.2.2.2.2.1,s81.1,1,true)) (fun s108558=>some (zaH.mk s108558.2.2.2.2.1 s108558.2.2.2.1 s108558.2.2.1 s108558.2.1 s108558.1 s108558.2.2.2.2.2.1)) (fun x108558=>nomatch x108558)) (fun xBK=>nomatch xBK)) (fun x81=>nomatch x81)

noncomputable def zdb (a0:List (List Int)):Option (List (List Int)) :=
  bdR (forL (S:=(List (List Int))) (X:=Empty) a0 (fun i27 y26 s27=>bdR (iter (S:=(Bool×Int)) (X:=Empty) (fun sAX=>(bif (bif (decide (sAX.2 < (len s27))) then sAX.1 else false) then bd (ix s27 sAX.2) (fun xCf=>bd (PF.zbV xCf y26) (fun rCr=>some (Lp.nx ((!rCr),(wr (sAX.2 + 1)))))) else some (Lp.bk (sAX.1,sAX.2)))) (true,0)) (fun sAX=>(bif sAX.1 then bd (PF.za1 y26) (fun rCP=>bd (app s27 [rCP]) (fun xsDa=>some (Lp.nx xsDa))) else some (Lp.nx s27))) (fun xAX=>nomatch xAX)) []) (fun s27=>some s27) (fun x27=>nomatch x27)

noncomputable def zdx (a0:Cnf) (a1:Int):Option ((List (List Int))×Bool) :=
  bd (PF.zdw a0) (fun r29=>(bif (bif (!r29) then true else (!(PF.zcr a1))) then some ([],false) else bd (PF.zda a0 a1) (fun r56=>bd (PF.zdb r56.sorted) (fun r78=>some (r78,true)))))

noncomputable def zdc (a0:Cnf):Option ((List (List Int))×Bool) :=
  bd (PF.zdx a0 6) (fun r29=>some (r29.1,r29.2))

noncomputable def zdy (a0:List Int):Option Bool :=
  (bif (PF.zcz a0) then some true else bd (PF.zcK a0) (fun r25=>bd (PF.zbT r25) (fun r45=>bd (PF.zbX r25) (fun r66=>bd (bif (!(r45.2 == r66.2)) then some true else bd (PF.zcV r45.1 r66.1) (fun r99=>some (!r99))) (fun t92=>(bif t92 then some false else (bif (!r45.2) then some true else bd (PF.zcW r25 r45.1) (fun rAa=>(bif (bif (!rAa.2) then true else (!rAa.1)) then some false else bdR (iter (S:=Int) (X:=Bool) (fun sAq=>(bif (decide (sAq < (len r45.1.clauses))) then bdR (iter (S:=Int) (X:=(Lp Int Bool)) (fun sCe=>(bif (decide (sCe < (len r45.1.clauses))) then bd (ix r45.1.clauses sAq) (fun xDJ=>bd (ix r45.1.clauses sCe) (fun xDT=>bd (PF.zco r25.vars xDJ xDT) (fun rDX=>(bif (bif (!rDX.2) then true else (bif rDX.1 then (!(sAq == sCe)) else false)) then some (Lp.rt (Lp.rt false)) else some (Lp.nx (wr (sCe + 1))))))) else some (Lp.bk sCe))) 0) (fun sCe=>some (Lp.nx (wr (sAq + 1)))) (fun xCe=>some xCe) else some (Lp.bk sAq))) 0) (fun sAq=>bd (PF.zc5 r25) (fun rEW=>bd (PF.zdc r25) (fun rF6=>bd (bif (!(rEW.2 == rF6.2)) then some true else bd (PF.zbY rEW.1 rF6.1) (fun rFQ=>some (!rFQ))) (fun t444=>(bif t444 then some false else bd (bif (!rEW.2) then some true else bd (PF.zbY rEW.1 r45.1.clauses) (fun rGm=>some rGm)) (fun t482=>some t482)))))) (fun xAq=>some xAq))))))))))

end Go.PF
