/- Part of the walks and plain laws behind the claim: it proves helpers, under no condition beyond their own. -/
import Derived.Test.YtfgonpeogehopaaGreatPcLB
set_option linter.unusedVariables false
namespace Go.PF
open Go.Pu

structure zae where
  vertices:Int
  edges:List (Int×Int)
  charges:List Int
structure Cnf where
  vars:Int
  clauses:List (List Int)
def okCnf (s:Cnf):Prop:=okI s.vars∧(okL (okL okI)) s.clauses

structure l1Cur where
  code:List Int
  at_:Int
  seed:Int
structure family where
  vars:Int
  clauses:List (List Int)
structure zan where
  vertex:Int
  edge:Int
structure zaD where
  list:List (List Int)
  rounds:List Int
  left:List Int
  right:List Int
  pivots:List Int
  sorted:List (List Int)
structure zbo where
  masks:List Int
  rounds:List (Int×Int)
  last:Int
def zaZ (a0:List Int):Option (List Int) :=
  bd (app [] a0) (fun xs30=>some xs30)

def zcr (a0:List Int):Bool :=
  (decide (65536 < (len a0)))

def zb2 (a0:l1Cur):Option (Int×l1Cur) :=
  bdR (S:=Int) (X:=Empty) ((bif (decide (a0.at_ < (len a0.code))) then bd (ix a0.code a0.at_) (fun x49=>some (Rs.go (wrk true 64 x49))) else some (Rs.go 0))) (fun s38=>(bif (decide ((wr (a0.at_ + 1))≤(len a0.code))) then some (s38,(l1Cur.mk a0.code (wr (a0.at_ + 1)) (wrk false 64 ((wrk false 64 ((wrk false 64 (a0.seed * 6364136223846793005)) + (wrk false 64 s38))) + 337411)))) else some ((wrk true 64 (andK false 64 (shrK 64 (wrk false 64 ((wrk false 64 ((wrk false 64 (a0.seed * 6364136223846793005)) + (wrk false 64 s38))) + 337411)) 40) 255)),(l1Cur.mk a0.code (wr (a0.at_ + 1)) (wrk false 64 ((wrk false 64 ((wrk false 64 (a0.seed * 6364136223846793005)) + (wrk false 64 s38))) + 337411)))))) (fun x40=>nomatch x40)

def zaH (a0:l1Cur) (a1:Int):Option (Int×l1Cur) :=
  (bif (decide (a1≤1)) then some (0,a0) else bd (PF.zb2 a0) (fun r22=>(bif (decide (200 < a1)) then bd (PF.zb2 r22.2) (fun r31=>bd (nz a1) (fun u40=>some (((wr ((wr (r22.1 * 256)) + r31.1)).tmod a1),r31.2))) else bd (nz a1) (fun u42=>some ((r22.1.tmod a1),r22.2)))))

def za9 (a0:l1Cur) (a1:Int):Option (Bool×l1Cur) :=
  bd (PF.zaH a0 a1) (fun r21=>some ((r21.1 == 0),r21.2))

def zau (a0:Int) (a1:Int) (a2:Int):Bool :=
  (bif (decide (a1≤a0)) then (decide (a0≤a2)) else false)

noncomputable def zcs (a0:Int) (a1:Bool):Option (zae×Bool) :=
  (bif (!(PF.zau a0 3 8)) then some ((zae.mk 0 [] []),false) else bdR (iter (S:=((List (Int×Int))×Int)) (X:=Empty) (fun s37=>(bif (decide ((wr (s37.2 + 1)) < a0)) then bd (app s37.1 [(s37.2,(wr (s37.2 + 1)))]) (fun xs85=>some (Lp.nx (xs85,(wr (s37.2 + 1))))) else some (Lp.bk (s37.1,s37.2)))) ([],0)) (fun s37=>bd (app s37.1 [(0,(wr (a0 - 1)))]) (fun xsAb=>bd (β:=_) (bd (mk2 (0:Int) a0 a0) (fun xsBd=>(bif a1 then bd (ix xsBd 0) (fun xBB=>bd (put xsBd 0 1) (fun xsBG=>some (xsBG,a0))) else some (xsBd,a0))):Option ((List Int)×Int)) (fun sB4=>some ((zae.mk sB4.2 xsAb sB4.1),true)))) (fun x37=>nomatch x37))

noncomputable def zb3 (a0:Int) (a1:Bool):Option (zae×Bool) :=
  (bif (!(PF.zau a0 2 4)) then some ((zae.mk 0 [] []),false) else bd (chk a0) (fun m37=>bdR (forR (S:=(List (Int×Int))) (X:=Empty) 0 m37 (fun i38 s38=>bd (app s38 [((wr (2 * ((i38:Nat):Int))),(wr ((wr (2 * ((i38:Nat):Int))) + 1)))]) (fun xs84=>some (Lp.nx xs84))) []) (fun s38=>bdR (iter (S:=((List (Int×Int))×Int)) (X:=Empty) (fun sA5=>(bif (decide ((wr (sA5.2 + 1)) < a0)) then bd (app sA5.1 [((wr (2 * sA5.2)),(wr ((wr (2 * sA5.2)) + 2))),((wr ((wr (2 * sA5.2)) + 1)),(wr ((wr (2 * sA5.2)) + 3)))]) (fun xsAR=>some (Lp.nx (xsAR,(wr (sA5.2 + 1))))) else some (Lp.bk (sA5.1,sA5.2)))) (s38,0)) (fun sA5=>bd (β:=_) (bd (mk2 (0:Int) (wr (2 * a0)) (wr (2 * a0))) (fun xsC3=>(bif a1 then bd (ix xsC3 0) (fun xCr=>bd (put xsC3 0 1) (fun xsCw=>some (xsCw,(wr (2 * a0))))) else some (xsC3,(wr (2 * a0))))):Option ((List Int)×Int)) (fun sBU=>some ((zae.mk sBU.2 sA5.1 sBU.1),true))) (fun xA5=>nomatch xA5)) (fun x38=>nomatch x38)))

def za1 (a0:l1Cur) (a1:List Int):Option (Int×l1Cur) :=
  bd (PF.zaH a0 (len a1)) (fun r21=>bd (ix a1 r21.1) (fun x35=>some (x35,r21.2)))

noncomputable def zbJ (a0:zae) (a1:Int):Option (List Int) :=
  bdR (iter (S:=((List Int)×Int)) (X:=Empty) (fun s34=>(bif (decide (s34.2 < (len a0.edges))) then bd (ix a0.edges s34.2) (fun xAi=>bd (bif (xAi.1 == a1) then some true else bd (ix a0.edges s34.2) (fun xAF=>some (xAF.2 == a1))) (fun t128=>(bif t128 then bd (app s34.1 [s34.2]) (fun xsAS=>some (Lp.nx (xsAS,(wr (s34.2 + 1))))) else some (Lp.nx (s34.1,(wr (s34.2 + 1))))))) else some (Lp.bk (s34.1,s34.2)))) ([],0)) (fun s34=>some s34.1) (fun x34=>nomatch x34)

def zaw (a0:Int) (a1:Int):Int :=
  (bif (decide (a0 < a1)) then a0 else a1)

def zaB (a0:Int) (a1:Int):Int :=
  (bif (decide (a1 < a0)) then a0 else a1)

noncomputable def zct (a0:l1Cur):Option (zae×l1Cur) :=
  bd (PF.zaH a0 4) (fun r44=>bdR (S:=((List Int)×Int×Int×Int×(List (Int×Int))×(List Int))) (X:=Empty) ((bif (r44.1 == 0) then bd (PF.zaH r44.2 4) (fun r333794=>bd (PF.za9 r333794.2 2) (fun r333802=>bd (PF.zcs (wr (3 + r333794.1)) r333802.1) (fun r333810=>some (Rs.go (r333802.2.code,r333802.2.at_,r333802.2.seed,r333810.1.vertices,r333810.1.edges,r333810.1.charges))))) else (bif (r44.1 == 1) then bd (PF.zaH r44.2 3) (fun r333828=>bd (PF.za9 r333828.2 2) (fun r333836=>bd (PF.zb3 (wr (2 + r333828.1)) r333836.1) (fun r333844=>some (Rs.go (r333836.2.code,r333836.2.at_,r333836.2.seed,r333844.1.vertices,r333844.1.edges,r333844.1.charges))))) else bd (PF.za1 r44.2 [1,2,3,4,4,5,6,8]) (fun r333871=>bd (PF.zaH r333871.2 8) (fun r333882=>bdR (iter (S:=((List (Int×Int))×(List Int)×Int×Int×Int)) (X:=Empty) (fun s333890=>(bif (bif (decide (0 < s333890.2.2.2.2)) then (decide (1 < r333871.1)) else false) then bd (PF.zaH (l1Cur.mk s333890.2.1 s333890.2.2.1 s333890.2.2.2.1) r333871.1) (fun r589420=>bd (PF.zaH r589420.2 r333871.1) (fun r601420=>bd (bif (!(r589420.1 == r601420.1)) then bd (PF.zbJ (zae.mk r333871.1 s333890.1 []) r589420.1) (fun r613473=>some (decide ((len r613473) < 4))) else some false) (fun t613456=>bd (bif t613456 then bd (PF.zbJ (zae.mk r333871.1 s333890.1 []) r601420.1) (fun r613531=>some (decide ((len r613531) < 4))) else some false) (fun t613514=>(bif t613514 then bd (app s333890.1 [((PF.zaw r589420.1 r601420.1),(PF.zaB r589420.1 r601420.1))]) (fun xs646551=>some (Lp.nx (xs646551,r601420.2.code,r601420.2.at_,r601420.2.seed,(wr (s333890.2.2.2.2 - 1))))) else some (Lp.nx (s333890.1,r601420.2.code,r601420.2.at_,r601420.2.seed,(wr (s333890.2.2.2.2 - 1))))))))) else some (Lp.bk (s333890.1,s333890.2.1,s333890.2.2.1,s333890.2.2.2.1,s333890.2.2.2.2)))) ([],r333882.2.code,r333882.2.at_,r333882.2.seed,r333882.1)) (fun s333890=>bdR (iter (S:=((List Int)×(List Int)×Int×Int×Int)) (X:=Empty) (fun s658574=>(bif (decide (s658574.2.2.2.2 < r333871.1)) then bd (PF.zaH (l1Cur.mk s658574.2.1 s658574.2.2.1 s658574.2.2.2.1) 2) (fun r760672=>bd (app s658574.1 [r760672.1]) (fun xs766672=>some (Lp.nx (xs766672,r760672.2.code,r760672.2.at_,r760672.2.seed,(wr (s658574.2.2.2.2 + 1)))))) else some (Lp.bk (s658574.1,s658574.2.1,s658574.2.2.1,s658574.2.2.2.1,s658574.2.2.2.2)))) ([],s333890.2.1,s333890.2.2.1,s333890.2.2.2.1,0)) (fun s658574=>some (Rs.go (s658574.2.1,s658574.2.2.1,s658574.2.2.2.1,r333871.1,s333890.1,s658574.1))) (fun x658574=>nomatch x658574)) (fun x333890=>nomatch x333890)))))) (fun s333780=>bd (PF.zaH (l1Cur.mk s333780.1 s333780.2.1 s333780.2.2.1) 24) (fun r778705=>(bif (r778705.1 == 0) then bd (PF.za1 r778705.2 [0,9,(wr (s333780.2.2.2.1 + 1)),(-1)]) (fun r778724=>some ((zae.mk r778724.1 s333780.2.2.2.2.1 s333780.2.2.2.2.2),r778724.2)) else (bif (r778705.1 == 1) then bd (PF.zaH r778705.2 (len s333780.2.2.2.2.2)) (fun r799739=>bd (PF.za1 r799739.2 [(-1),2]) (fun r808744=>bd (ix s333780.2.2.2.2.2 r799739.1) (fun x811745=>bd (put s333780.2.2.2.2.2 r799739.1 r808744.1) (fun xs814742=>some ((zae.mk s333780.2.2.2.1 s333780.2.2.2.2.1 xs814742),r808744.2))))) else (bif (r778705.1 == 2) then (bif (decide (0 < (len s333780.2.2.2.2.1))) then bd (PF.zaH r778705.2 (len s333780.2.2.2.2.1)) (fun r841758=>bd (PF.za1 r841758.2 [(-1),0,1,4611686018427387904]) (fun r850763=>bd (PF.za1 r850763.2 [0,1,9]) (fun r859763=>bd (ix s333780.2.2.2.2.1 r841758.1) (fun x865764=>bd (put s333780.2.2.2.2.1 r841758.1 (r850763.1,r859763.1)) (fun xs868761=>some ((zae.mk s333780.2.2.2.1 xs868761 s333780.2.2.2.2.2),r859763.2)))))) else some ((zae.mk s333780.2.2.2.1 s333780.2.2.2.2.1 s333780.2.2.2.2.2),r778705.2)) else (bif (r778705.1 == 3) then bd (PF.zaH r778705.2 9) (fun r874779=>bdR (iter (S:=((List (Int×Int))×Int)) (X:=Empty) (fun s874787=>(bif (bif (decide (0 < (len s874787.1))) then (decide (0 < s874787.2)) else false) then bd (ix s874787.1 0) (fun x997918=>bd (app s874787.1 [x997918]) (fun xs1006912=>some (Lp.nx (xs1006912,(wr (s874787.2 - 1)))))) else some (Lp.bk (s874787.1,s874787.2)))) (s333780.2.2.2.2.1,(wr (5 + r874779.1)))) (fun s874787=>some ((zae.mk s333780.2.2.2.1 s874787.1 s333780.2.2.2.2.2),r874779.2)) (fun x874787=>nomatch x874787)) else (bif (r778705.1 == 4) then bd (PF.za9 r778705.2 2) (fun r1018937=>bd (PF.zb3 4 r1018937.1) (fun r1018945=>bd (app r1018945.1.edges [(0,3),(4,7)]) (fun xs1018967=>bd (PF.za9 r1018937.2 2) (fun r1018981=>(bif r1018981.1 then bd (app xs1018967 [(1,6)]) (fun xs1018996=>some ((zae.mk r1018945.1.vertices xs1018996 r1018945.1.charges),r1018981.2)) else some ((zae.mk r1018945.1.vertices xs1018967 r1018945.1.charges),r1018981.2)))))) else some ((zae.mk s333780.2.2.2.1 s333780.2.2.2.2.1 s333780.2.2.2.2.2),r778705.2)))))))) (fun x333782=>nomatch x333782))

noncomputable def zcu (a0:l1Cur) (a1:zae):Option ((List Int)×l1Cur) :=
  bdR (iter (S:=((List Int)×(List Int)×Int×Int×Int)) (X:=Empty) (fun s34=>(bif (bif (decide (s34.2.2.2.2 < a1.vertices)) then (decide (s34.2.2.2.2 < 9)) else false) then bd (PF.za9 (l1Cur.mk s34.2.1 s34.2.2.1 s34.2.2.2.1) 2) (fun rB1=>(bif rB1.1 then bd (app s34.1 [s34.2.2.2.2]) (fun xsBg=>some (Lp.nx (xsBg,rB1.2.code,rB1.2.at_,rB1.2.seed,(wr (s34.2.2.2.2 + 1))))) else some (Lp.nx (s34.1,rB1.2.code,rB1.2.at_,rB1.2.seed,(wr (s34.2.2.2.2 + 1)))))) else some (Lp.bk (s34.1,s34.2.1,s34.2.2.1,s34.2.2.2.1,s34.2.2.2.2)))) ([],a0.code,a0.at_,a0.seed,0)) (fun s34=>bd (PF.za9 (l1Cur.mk s34.2.1 s34.2.2.1 s34.2.2.2.1) 20) (fun rBA=>(bif rBA.1 then bd (PF.za1 rBA.2 [(-1),0,a1.vertices]) (fun rBU=>bd (app s34.1 [rBU.1]) (fun xsC7=>some (xsC7,rBU.2))) else some (s34.1,rBA.2)))) (fun x34=>nomatch x34)

def za2 (a0:Int):Bool :=
  (PF.zau a0 0 12)

def zcv (a0:l1Cur) (a1:Int):Option (Int×l1Cur) :=
  bd (bif (!(PF.za2 a1)) then some (a0.code,a0.at_,a0.seed,true) else bd (PF.za9 a0 20) (fun r36=>some (r36.2.code,r36.2.at_,r36.2.seed,r36.1))) (fun t32=>(bif t32.2.2.2 then bd (nn (PF.zaw (PF.zaB a1 0) 13)) (fun u60=>bd (PF.za1 (l1Cur.mk t32.1 t32.2.1 t32.2.2.1) [(-1),0,4096,(shlK true 64 1 (PF.zaw (PF.zaB a1 0) 13))]) (fun r71=>some (r71.1,r71.2))) else bd (nn (PF.zaw a1 7)) (fun u83=>bd (PF.zaH (l1Cur.mk t32.1 t32.2.1 t32.2.2.1) (shlK true 64 1 (PF.zaw a1 7))) (fun r84=>some (r84.1,r84.2)))))

noncomputable def zcw (a0:List Int):Option (zae×(List Int)×Int) :=
  bd (PF.zct (l1Cur.mk a0 0 0)) (fun r33=>bd (PF.zcu r33.2 r33.1) (fun r12084=>bd (PF.zcv r12084.2 (len r33.1.edges)) (fun r27084=>some (r33.1,r12084.1,r27084.1))))

def zay (a0:Int) (a1:Int) (a2:Int):Bool :=
  (bif (decide (a1≤a0)) then (decide (a0≤a2)) else false)

def zbp (a0:zae) (a1:Int):Option (List Int) :=
  bdR (forL (S:=(List Int)) (X:=Empty) a0.edges (fun i30 y29 s30=>(bif (bif (y29.1 == a1) then true else (y29.2 == a1)) then bd (app s30 [((i30:Nat):Int)]) (fun xsAE=>some (Lp.nx xsAE)) else some (Lp.nx s30))) []) (fun s30=>some s30) (fun x30=>nomatch x30)

def za3 (a0:zae):Option Bool :=
  (bif (bif (bif (!(PF.zay a0.vertices 1 8)) then true else (decide (12 < (len a0.edges)))) then true else (!((len a0.charges) == a0.vertices))) then some false else bdR (forL (S:=Unit) (X:=Bool) a0.edges (fun i52 y51 s52=>(bif (bif (bif (decide (y51.1 < 0)) then true else (decide (y51.2≤y51.1))) then true else (decide (a0.vertices≤y51.2))) then some (Lp.rt false) else some (Lp.nx ()))) ()) (fun s52=>bdR (forL (S:=Unit) (X:=Bool) a0.charges (fun iB3 yB2 sB3=>bd (bif (!(PF.zay yB2 0 1)) then some true else bd (PF.zbp a0 ((iB3:Nat):Int)) (fun rCs=>some (decide (4 < (len rCs))))) (fun t245=>(bif t245 then some (Lp.rt false) else some (Lp.nx ())))) ()) (fun sB3=>some true) (fun xB3=>some xB3)) (fun x52=>some x52))

def zbK (a0:zae) (a1:Int):Bool :=
  (PF.zay a1 0 (wr (a0.vertices - 1)))

def zb4 (a0:zae) (a1:List Int):Option Bool :=
  bdR (forL (S:=Unit) (X:=Bool) a1 (fun i30 y29 s30=>bd (bif (!(PF.zbK a0 y29)) then some true else bd (bif (decide (0 < ((i30:Nat):Int))) then bd (ix a1 (wr (((i30:Nat):Int) - 1))) (fun xBD=>some (decide (y29≤xBD))) else some false) (fun t188=>some t188)) (fun t173=>(bif t173 then some (Lp.rt false) else some (Lp.nx ())))) ()) (fun s30=>some true) (fun x30=>some x30)

def zcx (a0:Int) (a1:Int):Option Bool :=
  bd (nn a0) (fun u22=>some (PF.zay a1 0 (wr ((shlK true 64 1 a0) - 1))))

def zbv (a0:zae) (a1:Int):Option Bool :=
  bd (PF.zcx (len a0.edges) a1) (fun r29=>some r29)

def zcy (a0:List Int) (a1:Int):Option Int :=
  bdR (forL (S:=Unit) (X:=Int) a0 (fun i22 y21 s22=>(bif (a1 == y21) then some (Lp.rt ((i22:Nat):Int)) else some (Lp.nx ()))) ()) (fun s22=>some (-1)) (fun x22=>some x22)

def zb5 (a0:List Int) (a1:Int):Option Bool :=
  bd (PF.zcy a0 a1) (fun r21=>some (decide (0≤r21)))

def zbL (a0:zae) (a1:List Int):Option (List Int) :=
  bdR (forL (S:=(List Int)) (X:=Empty) a0.edges (fun i30 y29 s30=>bd (PF.zb5 a1 y29.1) (fun rAf=>bd (PF.zb5 a1 y29.2) (fun rAh=>(bif (!(rAf == rAh)) then bd (app s30 [((i30:Nat):Int)]) (fun xsAs=>some (Lp.nx xsAs)) else some (Lp.nx s30))))) []) (fun s30=>some s30) (fun x30=>nomatch x30)

def zcz (a0:zae) (a1:List Int) (a2:Int):Option (Int×Bool) :=
  bd (PF.za3 a0) (fun r29=>bd (bif (!r29) then some true else bd (PF.zb4 a0 a1) (fun r46=>some (!r46))) (fun t39=>bd (bif t39 then some true else bd (PF.zbv a0 a2) (fun r67=>some (!r67))) (fun t60=>(bif t60 then some (0,false) else bdR (forL (S:=Int) (X:=Empty) a1 (fun i78 y77 s78=>bd (ix a0.charges y77) (fun xAt=>some (Lp.nx (wr (s78 + xAt))))) 0) (fun s78=>bd (PF.zbL a0 a1) (fun rAF=>bd (chk (len rAF)) (fun m151=>bdR (forR (S:=Int) (X:=Empty) 0 m151 (fun iAQ sAQ=>bd (ix rAF ((iAQ:Nat):Int)) (fun xBr=>bd (nn xBr) (fun u192=>some (Lp.nx (wr (sAQ + (andK true 64 (shrK 64 a2 xBr) 1))))))) s78) (fun sAQ=>some ((sAQ.tmod 2),true)) (fun xAQ=>nomatch xAQ)))) (fun x78=>nomatch x78)))))

noncomputable def zbM (a0:zae):Option Bool :=
  (bif (bif (bif (!(PF.zau a0.vertices 1 8)) then true else (decide (12 < (len a0.edges)))) then true else (!((len a0.charges) == a0.vertices))) then some false else bdR (iter (S:=Int) (X:=Bool) (fun s51=>(bif (decide (s51 < (len a0.edges))) then bd (ix a0.edges s51) (fun xAU=>bd (bif (!(PF.zau xAU.1 0 (wr (a0.vertices - 1)))) then some true else bd (ix a0.edges s51) (fun xBh=>some (!(PF.zau xBh.2 0 (wr (a0.vertices - 1)))))) (fun t166=>bd (bif t166 then some true else bd (ix a0.edges s51) (fun xBP=>bd (ix a0.edges s51) (fun xBX=>some (decide (xBX.2≤xBP.1))))) (fun t200=>(bif t200 then some (Lp.rt false) else some (Lp.nx (wr (s51 + 1))))))) else some (Lp.bk s51))) 0) (fun s51=>bdR (iter (S:=Int) (X:=Bool) (fun sCd=>(bif (decide (sCd < a0.vertices)) then bd (ix a0.charges sCd) (fun xDg=>bd (bif (!(PF.zau xDg 0 1)) then some true else bd (PF.zbJ a0 sCd) (fun rDC=>some (decide (4 < (len rDC))))) (fun t317=>(bif t317 then some (Lp.rt false) else some (Lp.nx (wr (sCd + 1)))))) else some (Lp.bk sCd))) 0) (fun sCd=>some true) (fun xCd=>some xCd)) (fun x51=>some x51))

def zbN (a0:List Int) (a1:Int) (a2:Int):Option Bool :=
  bdR (forL (S:=Unit) (X:=Bool) a0 (fun i22 y21 s22=>bd (bif (!(PF.zau y21 a1 a2)) then some true else bd (bif (decide (0 < ((i22:Nat):Int))) then bd (ix a0 (wr (((i22:Nat):Int) - 1))) (fun xC4=>some (decide (y21≤xC4))) else some false) (fun t215=>some t215)) (fun t194=>(bif t194 then some (Lp.rt false) else some (Lp.nx ())))) ()) (fun s22=>some true) (fun x22=>some x22)

noncomputable def zb6 (a0:zae) (a1:List Int):Option Bool :=
  bd (PF.zbM a0) (fun r29=>bd (bif r29 then bd (PF.zbN a1 0 (wr (a0.vertices - 1))) (fun r46=>some r46) else some false) (fun t39=>some t39))

def zcA (a0:Int) (a1:Int):Option Bool :=
  bd (nn a0) (fun u22=>some (PF.zau a1 0 (wr ((shlK true 64 1 a0) - 1))))

def zdb (a0:zae) (a1:List Int):Option Int :=
  bdR (forL (S:=Int) (X:=Empty) a1 (fun i30 y29 s30=>bd (ix a0.charges y29) (fun x80=>some (Lp.nx (wr (s30 + x80))))) 0) (fun s30=>some s30) (fun x30=>nomatch x30)

def zbO (a0:List Int) (a1:Int):Option Bool :=
  bdR (forL (S:=Unit) (X:=Bool) a0 (fun i22 y21 s22=>(bif (y21 == a1) then some (Lp.rt true) else some (Lp.nx ()))) ()) (fun s22=>some false) (fun x22=>some x22)

noncomputable def zbP (a0:zae) (a1:List Int):Option (List Int) :=
  bdR (iter (S:=((List Int)×Int)) (X:=Empty) (fun s34=>(bif (decide (s34.2 < (len a0.edges))) then bd (ix a0.edges s34.2) (fun xA7=>bd (PF.zbO a1 xA7.1) (fun rA9=>bd (ix a0.edges s34.2) (fun xAh=>bd (PF.zbO a1 xAh.2) (fun rAj=>(bif (!(rA9 == rAj)) then bd (app s34.1 [s34.2]) (fun xsAu=>some (Lp.nx (xsAu,(wr (s34.2 + 1))))) else some (Lp.nx (s34.1,(wr (s34.2 + 1))))))))) else some (Lp.bk (s34.1,s34.2)))) ([],0)) (fun s34=>some s34.1) (fun x34=>nomatch x34)

noncomputable def zcB (a0:zae) (a1:List Int) (a2:Int):Option (Int×Bool) :=
  bd (PF.zb6 a0 a1) (fun r29=>bd (bif (!r29) then some true else bd (PF.zcA (len a0.edges) a2) (fun r46=>some (!r46))) (fun t39=>(bif t39 then some (0,false) else bd (PF.zdb a0 a1) (fun r9056=>bd (PF.zbP a0 a1) (fun r18056=>bdR (iter (S:=(Int×Int)) (X:=Empty) (fun s30069=>(bif (decide (s30069.2 < (len r18056))) then bd (ix r18056 s30069.2) (fun x30106=>bd (nn x30106) (fun u30109=>some (Lp.nx ((wr (s30069.1 + (andK true 64 (shrK 64 a2 x30106) 1))),(wr (s30069.2 + 1)))))) else some (Lp.bk (s30069.1,s30069.2)))) (r9056,0)) (fun s30069=>some ((s30069.1.tmod 2),true)) (fun x30069=>nomatch x30069))))))

def zb7 (a0:zae) (a1:List Int):Option (Int×Bool) :=
  bd (PF.za3 a0) (fun r29=>bd (bif (!r29) then some true else bd (PF.zb4 a0 a1) (fun r46=>some (!r46))) (fun t39=>(bif t39 then some (0,false) else bd (PF.zbL a0 a1) (fun r55=>some ((len r55),true)))))

noncomputable def zcC (a0:zae) (a1:List Int):Option (Int×Bool) :=
  bd (PF.zb6 a0 a1) (fun r29=>(bif (!r29) then some (0,false) else bd (PF.zbP a0 a1) (fun r35=>some ((len r35),true))))

def zcD (a0:Int) (a1:Int) (a2:Int):Option (List (List Int)):=chO a0 a1 a2

def zbw (a0:zae):Option (Int×(List Int)×Bool) :=
  bd (PF.za3 a0) (fun r25=>(bif (!r25) then some (0,[],false) else bd (chk (wr (a0.vertices + 1))) (fun m31=>bdR (forR (S:=(Int×(List Int))) (X:=Empty) 0 m31 (fun i32 s32=>(bif (bif (decide ((wr (3 * ((i32:Nat):Int))) < a0.vertices)) then true else (decide ((wr (2 * a0.vertices)) < (wr (3 * ((i32:Nat):Int)))))) then some (Lp.nx (s32.1,s32.2)) else bd (PF.zcD a0.vertices ((i32:Nat):Int) 256) (fun rGq=>bdR (forL (S:=(Int×(List Int))) (X:=Empty) rGq (fun iGD yGC sGD=>bd (PF.zaZ yGC) (fun rN1=>bd (chk (len rN1)) (fun m917=>bdR (forR (S:=(List Int)) (X:=Empty) 0 m917 (fun iNc sNc=>bd (ix sNc ((iNc:Nat):Int)) (fun xOV=>bd (ix sNc ((iNc:Nat):Int)) (fun xP3=>bd (put sNc ((iNc:Nat):Int) (wr (xOV - 1))) (fun xsP8=>some (Lp.nx xsP8))))) rN1) (fun sNc=>bd (PF.zbL a0 sNc) (fun rPx=>(bif (bif (decide (sGD.1 < 0)) then true else (decide ((len rPx) < sGD.1))) then some (Lp.nx ((len rPx),sNc)) else some (Lp.nx (sGD.1,sGD.2))))) (fun xNc=>nomatch xNc)))) (s32.1,s32.2)) (fun sGD=>some (Lp.nx (sGD.1,sGD.2))) (fun xGD=>nomatch xGD)))) ((-1),[])) (fun s32=>(bif (decide (s32.1 < 0)) then some (0,[],false) else some (s32.1,s32.2,true))) (fun x32=>nomatch x32))))

def zb8 (a0:List Int) (a1:List Int):Option Bool :=
  (bif (!((len a0) == (len a1))) then some (decide ((len a0) < (len a1))) else bdR (forL (S:=Unit) (X:=Bool) a0 (fun i23 y22 s23=>bd (ix a1 ((i23:Nat):Int)) (fun x90=>(bif (!(y22 == x90)) then bd (ix a1 ((i23:Nat):Int)) (fun xA9=>some (Lp.rt (decide (y22 < xA9)))) else some (Lp.nx ())))) ()) (fun s23=>some false) (fun x23=>some x23))

noncomputable def zbx (a0:zae):Option (Int×(List Int)×Bool) :=
  bd (PF.zbM a0) (fun r29=>(bif (!r29) then some (0,[],false) else bdR (iter (S:=((List Int)×Int×Bool×Int)) (X:=Empty) (fun s45=>bd (nn a0.vertices) (fun u531=>(bif (decide (s45.2.2.2 < (shlK true 64 1 a0.vertices))) then bdR (iter (S:=((List Int)×Int)) (X:=Empty) (fun sH4=>(bif (decide (sH4.2 < a0.vertices)) then bd (nn sH4.2) (fun u589=>(bif ((andK true 64 (shrK 64 s45.2.2.2 sH4.2) 1) == 1) then bd (app sH4.1 [sH4.2]) (fun xsI0=>some (Lp.nx (xsI0,(wr (sH4.2 + 1))))) else some (Lp.nx (sH4.1,(wr (sH4.2 + 1)))))) else some (Lp.bk (sH4.1,sH4.2)))) ([],0)) (fun sH4=>(bif (bif (decide ((wr (3 * (len sH4.1))) < a0.vertices)) then true else (decide ((wr (2 * a0.vertices)) < (wr (3 * (len sH4.1)))))) then some (Lp.nx (s45.1,s45.2.1,s45.2.2.1,(wr (s45.2.2.2 + 1)))) else bd (PF.zbP a0 sH4.1) (fun rIH=>bd (bif (bif (!s45.2.2.1) then true else (decide ((len rIH) < s45.2.1))) then some true else bd (bif ((len rIH) == s45.2.1) then bd (PF.zb8 sH4.1 s45.1) (fun rKv=>some rKv) else some false) (fun t734=>some t734)) (fun t712=>(bif t712 then some (Lp.nx (sH4.1,(len rIH),true,(wr (s45.2.2.2 + 1)))) else some (Lp.nx (s45.1,s45.2.1,s45.2.2.1,(wr (s45.2.2.2 + 1))))))))) (fun xH4=>nomatch xH4) else some (Lp.bk (s45.1,s45.2.1,s45.2.2.1,s45.2.2.2))))) ([],0,false,0)) (fun s45=>some (s45.2.1,s45.1,s45.2.2.1)) (fun x45=>nomatch x45)))

def zcE (a0:List Int) (a1:List Int):Option Bool :=
  (bif (!((len a0) == (len a1))) then some false else bdR (forL (S:=Unit) (X:=Bool) a0 (fun i23 y22 s23=>bd (ix a1 ((i23:Nat):Int)) (fun x72=>(bif (!(y22 == x72)) then some (Lp.rt false) else some (Lp.nx ())))) ()) (fun s23=>some true) (fun x23=>some x23))

def zb9 (a0:zae) (a1:Int) (a2:Int):Option Bool :=
  bd (ix a0.charges a1) (fun x35=>bd (PF.zbp a0 a1) (fun r37=>bd (chk (len r37)) (fun m47=>bdR (forR (S:=Int) (X:=Empty) 0 m47 (fun i48 s48=>bd (ix r37 ((i48:Nat):Int)) (fun x85=>bd (nn x85) (fun u88=>some (Lp.nx (wr (s48 + (andK true 64 (shrK 64 a2 x85) 1))))))) x35) (fun s48=>some ((s48.tmod 2) == 1)) (fun x48=>nomatch x48))))

def zcF (a0:zae) (a1:Int):Option ((List Int)×Bool) :=
  bd (PF.za3 a0) (fun r29=>bd (bif (!r29) then some true else bd (PF.zbv a0 a1) (fun r46=>some (!r46))) (fun t39=>(bif t39 then some ([],false) else bd (chk a0.vertices) (fun m55=>bdR (forR (S:=(List Int)) (X:=Empty) 0 m55 (fun i56 s56=>bd (PF.zb9 a0 ((i56:Nat):Int) a1) (fun rA3=>(bif rA3 then bd (app s56 [((i56:Nat):Int)]) (fun xsAe=>some (Lp.nx xsAe)) else some (Lp.nx s56)))) []) (fun s56=>some (s56,true)) (fun x56=>nomatch x56)))))

def zcG (a0:List Int) (a1:Int):Option Bool :=
  bdR (forL (S:=Unit) (X:=Bool) a0 (fun i22 y21 s22=>(bif (y21 == a1) then some (Lp.rt true) else some (Lp.nx ()))) ()) (fun s22=>some false) (fun x22=>some x22)

def zdc (a0:List zan) (a1:zan→Option Bool):Option Int :=
  bdR (forL (S:=Unit) (X:=Int) a0 (fun i22 y21 s22=>bd (a1 y21) (fun r64=>(bif r64 then some (Lp.rt ((i22:Nat):Int)) else some (Lp.nx ())))) ()) (fun s22=>some (-1)) (fun x22=>some x22)

def zcH (a0:List zan) (a1:zan→Option Bool):Option Bool :=
  bd (PF.zdc a0 a1) (fun r21=>some (decide (0≤r21)))

def zbq (a0:zan) (b0:Int):Bool :=
  (a0.vertex == b0)

noncomputable def zcI (a0:zae) (a1:Int):Option (List zan) :=
  bdR (iter (S:=((List zan)×Int)) (X:=Empty) (fun s34=>(bif (decide (s34.2 < (len s34.1))) then bd (ix s34.1 s34.2) (fun x57170=>bd (PF.zbp a0 x57170.vertex) (fun r57172=>bd (chk (len r57172)) (fun m57182=>bdR (forR (S:=(List zan)) (X:=Empty) 0 m57182 (fun i57183 s57183=>bd (ix r57172 ((i57183:Nat):Int)) (fun x114269=>bd (ix a0.edges x114269) (fun x126277=>bd (ix a0.edges x114269) (fun x144277=>bd (PF.zcH s57183 (fun x0=>some (PF.zbq x0 (wr ((wr (x126277.1 + x144277.2)) - x57170.vertex))))) (fun r171293=>(bif (!r171293) then bd (app s57183 [(zan.mk (wr ((wr (x126277.1 + x144277.2)) - x57170.vertex)) x114269)]) (fun xs171304=>some (Lp.nx xs171304)) else some (Lp.nx s57183))))))) s34.1) (fun s57183=>some (Lp.nx (s57183,(wr (s34.2 + 1))))) (fun x57183=>nomatch x57183)))) else some (Lp.bk (s34.1,s34.2)))) ([(zan.mk a1 (-1))],0)) (fun s34=>some s34.1) (fun x34=>nomatch x34)

noncomputable def zcJ (a0:zae):Option (List (List zan)) :=
  bd (chk a0.vertices) (fun m35=>bdR (forR (S:=((List Bool)×(List (List zan)))) (X:=Empty) 0 m35 (fun i36 s36=>bd (ix s36.1 ((i36:Nat):Int)) (fun xFd=>(bif xFd then some (Lp.nx (s36.1,s36.2)) else bd (PF.zcI a0 ((i36:Nat):Int)) (fun rFg=>bd (chk (len rFg)) (fun m436=>bdR (forR (S:=(List Bool)) (X:=Empty) 0 m436 (fun iFr sFr=>bd (ix rFg ((iFr:Nat):Int)) (fun xHo=>bd (ix sFr xHo.vertex) (fun xHH=>bd (put sFr xHo.vertex true) (fun xsHM=>some (Lp.nx xsHM))))) s36.1) (fun sFr=>bd (app s36.2 [rFg]) (fun xsIe=>some (Lp.nx (sFr,xsIe)))) (fun xFr=>nomatch xFr)))))) ([false,false,false,false,false,false,false,false],[])) (fun s36=>some s36.2) (fun x36=>nomatch x36))

def zdd (a0:List Int):Option (List Int):=sortI a0

noncomputable def zca (a0:zae):Option (List (List Int)) :=
  bd (PF.zcJ a0) (fun r29=>bd (chk (len r29)) (fun m41=>bdR (forR (S:=(List (List Int))) (X:=Empty) 0 m41 (fun i42 s42=>bd (ix r29 ((i42:Nat):Int)) (fun xBr=>bdR (forL (S:=(List Int)) (X:=Empty) xBr (fun iBw yBv sBw=>bd (app sBw [yBv.vertex]) (fun xsCU=>some (Lp.nx xsCU))) []) (fun sBw=>bd (PF.zdd sBw) (fun rDg=>bd (app s42 [rDg]) (fun xsDA=>some (Lp.nx xsDA)))) (fun xBw=>nomatch xBw))) []) (fun s42=>some s42) (fun x42=>nomatch x42)))

noncomputable def zcK (a0:zae):Option ((List (List Int))×Bool) :=
  bd (PF.za3 a0) (fun r29=>(bif (!r29) then some ([],false) else bd (PF.zca a0) (fun r35=>some (r35,true))))

noncomputable def zcL (a0:zae):Option (List Int) :=
  bd (PF.zca a0) (fun r29=>bd (chk (len r29)) (fun m41=>bdR (forR (S:=(List Int)) (X:=Empty) 0 m41 (fun i42 s42=>bd (ix r29 ((i42:Nat):Int)) (fun xAW=>bdR (forL (S:=Int) (X:=Empty) xAW (fun iB1 yB0 sB1=>bd (ix a0.charges yB0) (fun xBW=>some (Lp.nx (wr (sB1 + xBW))))) 0) (fun sB1=>(bif ((sB1.tmod 2) == 1) then bd (app s42 [((i42:Nat):Int)]) (fun xsCh=>some (Lp.nx xsCh)) else some (Lp.nx s42))) (fun xB1=>nomatch xB1))) []) (fun s42=>some s42) (fun x42=>nomatch x42)))

noncomputable def zcM (a0:zae):Option ((List Int)×Bool) :=
  bd (PF.za3 a0) (fun r29=>(bif (!r29) then some ([],false) else bd (PF.zcL a0) (fun r35=>some (r35,true))))

def zcN (a0:List Int):Option (List (List Int)) :=
  bdR (forL (S:=(List (List Int))) (X:=Empty) a0 (fun i27 y26 s27=>bd (chk (len s27)) (fun m347=>bdR (forR (S:=(List (List Int))) (X:=Empty) 0 m347 (fun iE0 sE0=>bd (ix s27 ((iE0:Nat):Int)) (fun xG5=>bd (PF.zaZ xG5) (fun rG9=>bd (app rG9 [y26]) (fun xsGo=>bd (PF.zaZ xG5) (fun rGz=>bd (app rGz [(wr (-y26))]) (fun xsGO=>bd (app sE0 [xsGo,xsGO]) (fun xsHg=>some (Lp.nx xsHg)))))))) []) (fun sE0=>some (Lp.nx sE0)) (fun xE0=>nomatch xE0))) [[]]) (fun s27=>some s27) (fun x27=>nomatch x27)

def zcb (a0:List Int) (a1:Bool):Option (List (List Int)) :=
  bd (PF.zcN a0) (fun r21=>bd (chk (len r21)) (fun m32=>bdR (forR (S:=(List (List Int))) (X:=Empty) 0 m32 (fun i33 s33=>bd (ix r21 ((i33:Nat):Int)) (fun xAG=>bdR (forL (S:=Int) (X:=Empty) xAG (fun iAL yAK sAL=>(bif (decide (yAK < 0)) then some (Lp.nx (wr (sAL + 1))) else some (Lp.nx sAL))) 0) (fun sAL=>(bif (((sAL.tmod 2) == 0) == a1) then bd (app s33 [xAG]) (fun xsBN=>some (Lp.nx xsBN)) else some (Lp.nx s33))) (fun xAL=>nomatch xAL))) []) (fun s33=>some s33) (fun x33=>nomatch x33)))

def zby (a0:Int) (a1:Int):Bool :=
  (bif (!(a1 == 0)) then (PF.zay a1 (wr (-a0)) a0) else false)

def zaP (a0:Int):Int :=
  (mx a0 (wr (-a0)))

def zbh (a0:Int):Bool :=
  (PF.zay a0 0 12)

def zcO (a0:Int) (a1:List Int):Option Bool :=
  bdR (forL (S:=Unit) (X:=Bool) a1 (fun i22 y21 s22=>bd (bif (!(PF.zby a0 y21)) then some true else bd (bif (decide (0 < ((i22:Nat):Int))) then bd (ix a1 (wr (((i22:Nat):Int) - 1))) (fun xBu=>some (decide ((PF.zaP y21)≤(PF.zaP xBu)))) else some false) (fun t179=>some t179)) (fun t164=>(bif t164 then some (Lp.rt false) else some (Lp.nx ())))) ()) (fun s22=>some (PF.zbh a0)) (fun x22=>some x22)

def zcc (a0:Cnf):Option Bool :=
  bdR (forL (S:=Unit) (X:=Bool) a0.clauses (fun i30 y29 s30=>bd (PF.zcO a0.vars y29) (fun r71=>(bif (!r71) then some (Lp.rt false) else some (Lp.nx ())))) ()) (fun s30=>some (bif (PF.zbh a0.vars) then (decide ((len a0.clauses)≤60)) else false)) (fun x30=>some x30)

def zcP (a0:family):Option (Cnf×Bool×family) :=
  bd (PF.zcc (Cnf.mk a0.vars a0.clauses)) (fun r39037=>(bif (!r39037) then some ((Cnf.mk 0 []),false,a0) else some ((Cnf.mk a0.vars a0.clauses),true,a0)))

def zcQ (a0:zae):Option (Cnf×Bool) :=
  bd (PF.za3 a0) (fun r33=>(bif (!r33) then some ((Cnf.mk 0 []),false) else bdR (forL (S:=(List (List Int))) (X:=Empty) a0.charges (fun i49 y48 s49=>bd (PF.zbp a0 ((i49:Nat):Int)) (fun r135426=>bd (chk (len r135426)) (fun m135436=>bdR (forR (S:=(List Int)) (X:=Empty) 0 m135436 (fun i135437 s135437=>bd (ix r135426 ((i135437:Nat):Int)) (fun x135504=>bd (app s135437 [(wr (x135504 + 1))]) (fun xs135511=>some (Lp.nx xs135511)))) []) (fun s135437=>bd (PF.zcb s135437 (y48 == 1)) (fun r162541=>bd (app s49 r162541) (fun xs165536=>some (Lp.nx xs165536)))) (fun x135437=>nomatch x135437)))) []) (fun s49=>bd (PF.zcP (family.mk (len a0.edges) s49)) (fun r180581=>some (r180581.1,r180581.2.1))) (fun x49=>nomatch x49)))

def zcR (a0:Cnf) (a1:Int):Option Bool :=
  bd (PF.zcc a0) (fun r29=>some (bif (bif r29 then (decide (a0.vars≤6)) else false) then (PF.zay a1 0 6) else false))

def zbQ (a0:List Int):Option Int :=
  bdR (forL (S:=Int) (X:=Empty) a0 (fun i22 y21 s22=>(bif (decide (0 < y21)) then bd (nn (wr (y21 - 1))) (fun u60=>some (Lp.nx (orK false 16 s22 (shlK false 16 1 (wr (y21 - 1)))))) else bd (nn (wr ((wr (6 - y21)) - 1))) (fun u62=>some (Lp.nx (orK false 16 s22 (shlK false 16 1 (wr ((wr (6 - y21)) - 1)))))))) 0) (fun s22=>some s22) (fun x22=>nomatch x22)

def za4 (a0:Int):Int :=
  (orK false 16 (shlK false 16 (andK false 16 a0 63) 6) (shrK 16 a0 6))

def zaj (a0:Int) (a1:Int):Int :=
  (andK false 16 (orK false 16 (andK false 16 a0 (PF.za4 a1)) (shrK 16 (andK false 16 a0 (PF.za4 a1)) 6)) 63)

def zbR (a0:Int):Bool :=
  (bif (!(a0 == 0)) then ((andK false 16 a0 (wrk false 16 (a0 - 1))) == 0) else false)

noncomputable def zbz (a0:Int):Option Int :=
  bdR (iter (S:=(Int×Int)) (X:=Empty) (fun s21=>(bif (!(s21.1 == 0)) then some (Lp.nx ((andK false 16 s21.1 (wrk false 16 (s21.1 - 1))),(wr (s21.2 + 1)))) else some (Lp.bk (s21.1,s21.2)))) (a0,0)) (fun s21=>some s21.2) (fun x21=>nomatch x21)

noncomputable def zcS (a0:Cnf) (a1:Int):Option (Option zbo) :=
  bdR (forL (S:=((List Int)×Int×(List (Int×Int)))) (X:=Empty) a0.clauses (fun i42 y41 s42=>(bif (decide ((len y41)≤a1)) then bd (PF.zbQ y41) (fun rBy=>bd (β:=_) ((bif (!((mget s42.2.2 rBy).isSome)) then bd (app s42.1 [rBy]) (fun xsCn=>some (xsCn,0,(mput s42.2.2 rBy 0))) else some (s42.1,s42.2.1,s42.2.2)):Option ((List Int)×Int×(List (Int×Int)))) (fun sC5=>some (Lp.nx (sC5.1,sC5.2.1,sC5.2.2)))) else some (Lp.nx (s42.1,s42.2.1,s42.2.2)))) ([],0,([]:List (Int×Int)))) (fun s42=>bdR (iter (S:=((List Int)×Int×(List (Int×Int))×Int×Int)) (X:=Empty) (fun sCR=>(bif (decide (sCR.2.2.2.1 < (len sCR.1))) then bdR (iter (S:=((List Int)×Int×(List (Int×Int))×Int)) (X:=Empty) (fun sSy=>(bif (decide (sSy.2.2.2 < (len sCR.1))) then bd (cut sSy.1 0 sSy.2.2.2) (fun xsZY=>bdR (forL (S:=((List Int)×Int×(List (Int×Int)))) (X:=Empty) xsZY (fun i1720 y1719 s1720=>bd (ix s1720.1 sSy.2.2.2) (fun x1922=>(bif (!(PF.zbR (PF.zaj x1922 y1719))) then some (Lp.nx (s1720.1,s1720.2.1,s1720.2.2)) else bd (PF.zbz (anK false 16 (orK false 16 x1922 y1719) (orK false 16 (PF.zaj x1922 y1719) (shlK false 16 (PF.zaj x1922 y1719) 6)))) (fun r1931=>(bif (decide (r1931≤a1)) then bd (β:=_) ((bif (!((mget s1720.2.2 (anK false 16 (orK false 16 x1922 y1719) (orK false 16 (PF.zaj x1922 y1719) (shlK false 16 (PF.zaj x1922 y1719) 6)))).isSome)) then bd (app s1720.1 [(anK false 16 (orK false 16 x1922 y1719) (orK false 16 (PF.zaj x1922 y1719) (shlK false 16 (PF.zaj x1922 y1719) 6)))]) (fun xs1987=>some (xs1987,sCR.2.2.2.2,(mput s1720.2.2 (anK false 16 (orK false 16 x1922 y1719) (orK false 16 (PF.zaj x1922 y1719) (shlK false 16 (PF.zaj x1922 y1719) 6))) sCR.2.2.2.2))) else some (s1720.1,s1720.2.1,s1720.2.2)):Option ((List Int)×Int×(List (Int×Int)))) (fun s1967=>some (Lp.nx (s1967.1,s1967.2.1,s1967.2.2))) else some (Lp.nx (s1720.1,s1720.2.1,s1720.2.2))))))) (sSy.1,sSy.2.1,sSy.2.2.1)) (fun s1720=>some (Lp.nx (s1720.1,s1720.2.1,s1720.2.2,(wr (sSy.2.2.2 + 1))))) (fun x1720=>nomatch x1720)) else some (Lp.bk (sSy.1,sSy.2.1,sSy.2.2.1,sSy.2.2.2)))) (sCR.1,sCR.2.1,sCR.2.2.1,sCR.2.2.2.1)) (fun sSy=>some (Lp.nx (sSy.1,sSy.2.1,sSy.2.2.1,(len sCR.1),(wr (sCR.2.2.2.2 + 1))))) (fun xSy=>nomatch xSy) else some (Lp.bk (sCR.1,sCR.2.1,sCR.2.2.1,sCR.2.2.2.1,sCR.2.2.2.2)))) (s42.1,s42.2.1,s42.2.2,0,1)) (fun sCR=>some (some (zbo.mk sCR.1 sCR.2.2.1 sCR.2.1))) (fun xCR=>nomatch xCR)) (fun x42=>nomatch x42)

def zcT (a0:zbo) (a1:List Int):Option Int :=
  bd (PF.zbQ a1) (fun r22=>(bif (mget a0.rounds r22).isSome then some ((mget a0.rounds r22).getD 0) else some (-1)))

noncomputable def zcd (a0:Cnf) (a1:Int):Option Bool :=
  bd (PF.zcS a0 a1) (fun r29=>bd r29 (fun y37=>bd (PF.zcT y37 []) (fun r46=>some (decide (0≤r46)))))

noncomputable def zbA (a0:Cnf):Option (Int×Bool) :=
  bd (PF.zcR a0 0) (fun r29=>(bif (!r29) then some (0,false) else bdR (iter (S:=Int) (X:=(Int×Bool)) (fun s35=>(bif (decide (s35≤6)) then bd (PF.zcd a0 s35) (fun r58=>(bif r58 then some (Lp.rt (s35,true)) else some (Lp.nx (wr (s35 + 1))))) else some (Lp.bk s35))) 0) (fun s35=>some (0,false)) (fun x35=>some x35)))

def zbB (a0:Int) (a1:Int):Bool :=
  (bif (PF.zau a1 (wr (-a0)) a0) then (!(a1 == 0)) else false)

def zbr (a0:Int):Int :=
  (bif (decide (a0 < 0)) then (wr (-a0)) else a0)

def zcU (a0:Int) (a1:List Int):Option Bool :=
  (bif (!(PF.za2 a0)) then some false else bdR (forL (S:=Unit) (X:=Bool) a1 (fun i26 y25 s26=>bd (bif (!(PF.zbB a0 y25)) then some true else bd (bif (decide (0 < ((i26:Nat):Int))) then bd (ix a1 (wr (((i26:Nat):Int) - 1))) (fun xC2=>some (decide ((PF.zbr y25)≤(PF.zbr xC2)))) else some false) (fun t213=>some t213)) (fun t192=>(bif t192 then some (Lp.rt false) else some (Lp.nx ())))) ()) (fun s26=>some true) (fun x26=>some x26))

noncomputable def zcV (a0:Cnf):Option Bool :=
  (bif (bif (!(PF.za2 a0.vars)) then true else (decide (60 < (len a0.clauses)))) then some false else bdR (iter (S:=Int) (X:=Bool) (fun s42=>(bif (decide (s42 < (len a0.clauses))) then bd (ix a0.clauses s42) (fun x83=>bd (PF.zcU a0.vars x83) (fun r87=>(bif (!r87) then some (Lp.rt false) else some (Lp.nx (wr (s42 + 1)))))) else some (Lp.bk s42))) 0) (fun s42=>some true) (fun x42=>some x42))

noncomputable def zcW (a0:Cnf):Option Bool :=
  bd (bif (decide (a0.vars≤6)) then bd (PF.zcV a0) (fun r41=>some r41) else some false) (fun t34=>some t34)

def za5 (a0:List Int):Option (List Int) :=
  bd (app [] a0) (fun xs26=>some xs26)

def zaK (a0:Int):Int :=
  (bif (decide (a0 < 0)) then (wr ((wr ((-2) * a0)) + 1)) else (wr (2 * a0)))

def zce (a0:List Int) (a1:List Int):Option Bool :=
  (bif (!((len a0) == (len a1))) then some (decide ((len a0) < (len a1))) else bdR (forL (S:=Unit) (X:=Bool) a0 (fun i23 y22 s23=>bd (ix a1 ((i23:Nat):Int)) (fun x90=>(bif (!(y22 == x90)) then bd (ix a1 ((i23:Nat):Int)) (fun xA9=>some (Lp.rt (decide ((PF.zaK y22) < (PF.zaK xA9))))) else some (Lp.nx ())))) ()) (fun s23=>some false) (fun x23=>some x23))

noncomputable def zbS (a0:List (List Int)) (a1:List Int):Option Int :=
  bdR (iter (S:=(Int×Int)) (X:=Empty) (fun s21=>(bif (decide (s21.1 < s21.2)) then bd (ix a0 (wr ((wr (s21.1 + s21.2)).tdiv 2))) (fun x64=>bd (PF.zce x64 a1) (fun r68=>(bif r68 then some (Lp.nx ((wr ((wr ((wr (s21.1 + s21.2)).tdiv 2)) + 1)),s21.2)) else some (Lp.nx (s21.1,(wr ((wr (s21.1 + s21.2)).tdiv 2))))))) else some (Lp.bk (s21.1,s21.2)))) (0,(len a0))) (fun s21=>some s21.1) (fun x21=>nomatch x21)

def zcf (a0:List Int) (a1:List Int):Option Bool :=
  (bif (!((len a0) == (len a1))) then some false else bdR (forL (S:=Unit) (X:=Bool) a0 (fun i23 y22 s23=>bd (ix a1 ((i23:Nat):Int)) (fun x72=>(bif (!(y22 == x72)) then some (Lp.rt false) else some (Lp.nx ())))) ()) (fun s23=>some true) (fun x23=>some x23))

noncomputable def zbT (a0:List (List Int)) (a1:List Int):Option (List (List Int)) :=
  bd (PF.zbS a0 a1) (fun r21=>bd (bif (decide (r21 < (len a0))) then bd (ix a0 r21) (fun x54=>bd (PF.zcf x54 a1) (fun r58=>some r58)) else some false) (fun t41=>(bif t41 then some a0 else bd (cut a0 0 r21) (fun xs12068=>bd (app [] xs12068) (fun xs15068=>bd (app xs15068 [a1]) (fun xs24068=>bd (cut a0 r21 (len a0)) (fun xs33068=>bd (app xs24068 xs33068) (fun xs36068=>some xs36068))))))))

noncomputable def zcX (a0:zaD):Option (List Int) :=
  bdR (iter (S:=((List Int)×Int)) (X:=Empty) (fun s34=>(bif (decide (s34.2 < (len a0.list))) then bdR (iter (S:=(Int×Int)) (X:=Empty) (fun s84226=>(bif (decide (s84226.1 < s84226.2)) then bd (ix s34.1 (wr ((wr (s84226.1 + s84226.2)).tdiv 2))) (fun x84291=>bd (ix a0.list x84291) (fun x84299=>bd (ix a0.list s34.2) (fun x84309=>bd (PF.zce x84299 x84309) (fun r84313=>(bif r84313 then some (Lp.nx ((wr ((wr ((wr (s84226.1 + s84226.2)).tdiv 2)) + 1)),s84226.2)) else some (Lp.nx (s84226.1,(wr ((wr (s84226.1 + s84226.2)).tdiv 2))))))))) else some (Lp.bk (s84226.1,s84226.2)))) (0,(len s34.1))) (fun s84226=>bd (cut s34.1 0 s84226.1) (fun xs93329=>bd (PF.za5 xs93329) (fun r96329=>bd (app r96329 [s34.2]) (fun xs105329=>bd (cut s34.1 s84226.1 (len s34.1)) (fun xs114329=>bd (app xs105329 xs114329) (fun xs117329=>some (Lp.nx (xs117329,(wr (s34.2 + 1)))))))))) (fun x84226=>nomatch x84226) else some (Lp.bk (s34.1,s34.2)))) ([],0)) (fun s34=>some s34.1) (fun x34=>nomatch x34)

def zbi (a0:List Int) (a1:Int):Option Bool :=
  bd (PF.zbO a0 a1) (fun r21=>some r21)

def zcg (a0:List Int) (a1:Int):Option (List Int) :=
  bdR (forL (S:=(List Int)) (X:=Empty) a0 (fun i27 y26 s27=>(bif (!((PF.zbr y26) == a1)) then bd (app s27 [y26]) (fun xsA3=>some (Lp.nx xsA3)) else some (Lp.nx s27))) []) (fun s27=>some s27) (fun x27=>nomatch x27)

noncomputable def zch (a0:List Int) (a1:Int):Option (List Int) :=
  bdR (iter (S:=Int) (X:=Empty) (fun s21=>bd (bif (decide (s21 < (len a0))) then bd (ix a0 s21) (fun xA5=>some (decide ((PF.zbr xA5) < (PF.zbr a1)))) else some false) (fun t92=>(bif t92 then some (Lp.nx (wr (s21 + 1))) else some (Lp.bk s21)))) 0) (fun s21=>bd (cut a0 0 s21) (fun xs9127=>bd (PF.za5 xs9127) (fun r12127=>bd (app r12127 [a1]) (fun xs21127=>bd (cut a0 s21 (len a0)) (fun xs30127=>bd (app xs21127 xs30127) (fun xs33127=>some xs33127)))))) (fun x21=>nomatch x21)

noncomputable def zcY (a0:List Int) (a1:List Int):Option ((List Int)×Bool) :=
  bd (PF.za5 a0) (fun r21=>bdR (forL (S:=(List Int)) (X:=((List Int)×Bool)) a1 (fun i32 y31 s32=>bd (PF.zbi s32 (wr (-y31))) (fun rBC=>(bif rBC then some (Lp.rt ([],false)) else bd (PF.zbi s32 y31) (fun rBY=>(bif (!rBY) then bd (PF.zch s32 y31) (fun rCf=>some (Lp.nx rCf)) else some (Lp.nx s32)))))) r21) (fun s32=>some (s32,true)) (fun x32=>some x32))

noncomputable def zcZ (a0:List Int) (a1:List Int) (a2:Int):Option ((List Int)×Bool) :=
  bd (PF.zbi a0 a2) (fun r21=>bd (bif (!r21) then some true else bd (PF.zbi a1 (wr (-a2))) (fun r38=>some (!r38))) (fun t31=>(bif t31 then some ([],false) else bd (PF.zcg a0 a2) (fun r53=>bd (PF.zcg a1 a2) (fun r63=>bd (PF.zcY r53 r63) (fun r83=>some (r83.1,r83.2)))))))

noncomputable def zci (a0:List (List Int)) (a1:List Int):Option Int :=
  bd (PF.zbS a0 a1) (fun r21=>bd (bif (decide (r21 < (len a0))) then bd (ix a0 r21) (fun x54=>bd (PF.zcf x54 a1) (fun r58=>some r58)) else some false) (fun t41=>(bif t41 then some r21 else some (-1))))

noncomputable def zc0 (a0:Int) (a1:zaD) (a2:Int) (a3:Int):Option (zaD×Bool) :=
  bd (PF.zcX a1) (fun r64=>bdR (iter (S:=((List Int)×(List Int)×(List Int)×(List (List Int))×Int)) (X:=Empty) (fun sAi=>(bif (decide (sAi.2.2.2.2 < (len r64))) then bdR (iter (S:=((List Int)×(List Int)×(List Int)×(List (List Int))×Int)) (X:=Empty) (fun s1970620=>(bif (decide (s1970620.2.2.2.2 < (len r64))) then bd (ix r64 sAi.2.2.2.2) (fun x2955839=>bd (ix a1.rounds x2955839) (fun x2955847=>bd (bif (decide (x2955847 < (wr (a3 - 1)))) then bd (ix r64 s1970620.2.2.2.2) (fun x2955878=>bd (ix a1.rounds x2955878) (fun x2955886=>some (decide (x2955886 < (wr (a3 - 1)))))) else some false) (fun t2955865=>(bif t2955865 then some (Lp.nx (s1970620.1,s1970620.2.1,s1970620.2.2.1,s1970620.2.2.2.1,(wr (s1970620.2.2.2.2 + 1)))) else bdR (iter (S:=((List Int)×(List Int)×(List Int)×(List (List Int))×Int)) (X:=Empty) (fun s2955903=>(bif (decide (s2955903.2.2.2.2≤a0)) then bd (ix r64 sAi.2.2.2.2) (fun x3463404=>bd (ix a1.list x3463404) (fun x3469404=>bd (ix r64 s1970620.2.2.2.2) (fun x3487404=>bd (ix a1.list x3487404) (fun x3493404=>bd (PF.zcZ x3469404 x3493404 s2955903.2.2.2.2) (fun r3502398=>bd (bif (bif (!r3502398.2) then true else (decide (a2 < (len r3502398.1)))) then some true else bd (PF.zci a1.sorted r3502398.1) (fun r3523461=>some (decide (0≤r3523461)))) (fun t3523449=>bd (bif t3523449 then some true else bd (PF.zci s2955903.2.2.2.1 r3502398.1) (fun r3523500=>some (decide (0≤r3523500)))) (fun t3523488=>(bif t3523488 then some (Lp.nx (s2955903.1,s2955903.2.1,s2955903.2.2.1,s2955903.2.2.2.1,(wr (s2955903.2.2.2.2 + 1)))) else bd (PF.zbS s2955903.2.2.2.1 r3502398.1) (fun r3523523=>bd (PF.zbT s2955903.2.2.2.1 r3502398.1) (fun r3523533=>bd (cut s2955903.1 0 r3523523) (fun xs3535544=>bd (PF.za5 xs3535544) (fun r3538544=>bd (ix r64 sAi.2.2.2.2) (fun x3547550=>bd (app r3538544 [x3547550]) (fun xs3556544=>bd (cut s2955903.1 r3523523 (len s2955903.1)) (fun xs3568544=>bd (app xs3556544 xs3568544) (fun xs3571544=>bd (cut s2955903.2.1 0 r3523523) (fun xs3595570=>bd (PF.za5 xs3595570) (fun r3598570=>bd (ix r64 s1970620.2.2.2.2) (fun x3607576=>bd (app r3598570 [x3607576]) (fun xs3616570=>bd (cut s2955903.2.1 r3523523 (len s2955903.2.1)) (fun xs3628570=>bd (app xs3616570 xs3628570) (fun xs3631570=>bd (cut s2955903.2.2.1 0 r3523523) (fun xs3655596=>bd (PF.za5 xs3655596) (fun r3658596=>bd (app r3658596 [s2955903.2.2.2.2]) (fun xs3667596=>bd (cut s2955903.2.2.1 r3523523 (len s2955903.2.2.1)) (fun xs3679596=>bd (app xs3667596 xs3679596) (fun xs3682596=>some (Lp.nx (xs3571544,xs3631570,xs3682596,r3523533,(wr (s2955903.2.2.2.2 + 1))))))))))))))))))))))))))))))) else some (Lp.bk (s2955903.1,s2955903.2.1,s2955903.2.2.1,s2955903.2.2.2.1,s2955903.2.2.2.2)))) (s1970620.1,s1970620.2.1,s1970620.2.2.1,s1970620.2.2.2.1,1)) (fun s2955903=>some (Lp.nx (s2955903.1,s2955903.2.1,s2955903.2.2.1,s2955903.2.2.2.1,(wr (s1970620.2.2.2.2 + 1))))) (fun x2955903=>nomatch x2955903))))) else some (Lp.bk (s1970620.1,s1970620.2.1,s1970620.2.2.1,s1970620.2.2.2.1,s1970620.2.2.2.2)))) (sAi.1,sAi.2.1,sAi.2.2.1,sAi.2.2.2.1,0)) (fun s1970620=>some (Lp.nx (s1970620.1,s1970620.2.1,s1970620.2.2.1,s1970620.2.2.2.1,(wr (sAi.2.2.2.2 + 1))))) (fun x1970620=>nomatch x1970620) else some (Lp.bk (sAi.1,sAi.2.1,sAi.2.2.1,sAi.2.2.2.1,sAi.2.2.2.2)))) ([],[],[],[],0)) (fun sAi=>bdR (iter (S:=((List (List Int))×(List Int)×(List (List Int))×Int)) (X:=Empty) (fun s3694660=>(bif (decide (s3694660.2.2.2 < (len sAi.2.2.2.1))) then bd (ix sAi.2.2.2.1 s3694660.2.2.2) (fun x3862804=>bd (app s3694660.1 [x3862804]) (fun xs3871798=>bd (app s3694660.2.1 [a3]) (fun xs3883820=>bd (ix sAi.2.2.2.1 s3694660.2.2.2) (fun x3901840=>bd (PF.zbT s3694660.2.2.1 x3901840) (fun r3907834=>some (Lp.nx (xs3871798,xs3883820,r3907834,(wr (s3694660.2.2.2 + 1))))))))) else some (Lp.bk (s3694660.1,s3694660.2.1,s3694660.2.2.1,s3694660.2.2.2)))) (a1.list,a1.rounds,a1.sorted,0)) (fun s3694660=>bd (app a1.left sAi.1) (fun xs3919856=>bd (app a1.right sAi.2.1) (fun xs3919869=>bd (app a1.pivots sAi.2.2.1) (fun xs3919882=>some ((zaD.mk s3694660.1 s3694660.2.1 xs3919856 xs3919869 xs3919882 s3694660.2.2.1),(decide (0 < (len sAi.2.2.2.1)))))))) (fun x3694660=>nomatch x3694660)) (fun xAi=>nomatch xAi))

noncomputable def zcj (a0:Cnf) (a1:Int):Option zaD :=
  bdR (iter (S:=((List (List Int))×Int)) (X:=Empty) (fun s81=>(bif (decide (s81.2 < (len a0.clauses))) then bd (ix a0.clauses s81.2) (fun xAW=>(bif (decide ((len xAW)≤a1)) then bd (ix a0.clauses s81.2) (fun xB7=>bd (PF.za5 xB7) (fun rBb=>bd (PF.zbT s81.1 rBb) (fun rBq=>some (Lp.nx (rBq,(wr (s81.2 + 1))))))) else some (Lp.nx (s81.1,(wr (s81.2 + 1)))))) else some (Lp.bk (s81.1,s81.2)))) ([],0)) (fun s81=>bdR (forL (S:=((List Int)×(List Int)×(List Int)×(List Int)×(List (List Int))×(List (List Int)))) (X:=Empty) s81.1 (fun iBK yBJ sBK=>bd (app sBK.2.2.2.2.1 [yBJ]) (fun xs96450=>bd (app sBK.2.2.2.1 [0]) (fun xs108473=>bd (app sBK.2.2.1 [(-1)]) (fun xs108492=>bd (app sBK.2.1 [(-1)]) (fun xs108511=>bd (app sBK.1 [0]) (fun xs108530=>some (Lp.nx (xs108530,xs108511,xs108492,xs108473,xs96450,sBK.2.2.2.2.2)))))))) ([],[],[],[],[],[])) (fun sBK=>bdR (iter (S:=((List Int)×(List Int)×(List Int)×(List Int)×(List (List Int))×(List (List Int))×Int×Bool)) (X:=Empty) (fun s108558=>(bif s108558.2.2.2.2.2.2.2 then bd (PF.zc0 a0.vars (zaD.mk s108558.2.2.2.2.1 s108558.2.2.2.1 s108558.2.2.1 s108558.2.1 s108558.1 s108558.2.2.2.2.2.1) a1 s108558.2.2.2.2.2.2.1) (fun r108687=>some (Lp.nx (r108687.1.pivots,r108687.1.right,r108687.1.left,r108687.1.rounds,r108687.1.list,r108687.1.sorted,(wr (s108558.2.2.2.2.2.2.1 + 1)),r108687.2))) else some (Lp.bk (s108558.1,s108558.2.1,s108558.2.2.1,s108558.2.2.2.1,s108558.2.2.2.2.1,s108558.2.2.2.2.2.1,s108558.2.2.2.2.2.2.1,s108558.2.2.2.2.2.2.2)))) (sBK.1,sBK.2.1,sBK.2.2.1,sBK.2.2.2.1,sBK.2.2.2.2.1,s81.1,1,true)) (fun s108558=>some (zaD.mk s108558.2.2.2.2.1 s108558.2.2.2.1 s108558.2.2.1 s108558.2.1 s108558.1 s108558.2.2.2.2.2.1)) (fun x108558=>nomatch x108558)) (fun xBK=>nomatch xBK)) (fun x81=>nomatch x81)

def zc1 (a0:List (List Int)):Option Bool :=
  bd (bif (decide (0 < (len a0))) then bd (ix a0 0) (fun x44=>some ((len x44) == 0)) else some false) (fun t31=>some t31)

noncomputable def zc2 (a0:Cnf):Option Int :=
  bdR (iter (S:=Int) (X:=Int) (fun s29=>(bif (decide (s29≤6)) then bd (PF.zcj a0 s29) (fun r74=>bd (PF.zc1 r74.sorted) (fun r96=>(bif r96 then some (Lp.rt s29) else some (Lp.nx (wr (s29 + 1)))))) else some (Lp.bk s29))) 0) (fun s29=>some (-1)) (fun x29=>some x29)

noncomputable def zck (a0:Cnf):Option (Int×Bool) :=
  bd (PF.zcW a0) (fun r29=>(bif (!r29) then some (0,false) else bd (PF.zc2 a0) (fun r35=>(bif (decide (r35 < 0)) then some (0,false) else some (r35,true)))))

noncomputable def zde (a0:List Int):Option Bool :=
  (bif (PF.zcr a0) then some true else bd (PF.zcw a0) (fun r25=>bd (PF.zcz r25.1 r25.2.1 r25.2.2) (fun r68=>bd (PF.zcB r25.1 r25.2.1 r25.2.2) (fun r78=>(bif (bif (!(r68.1 == r78.1)) then true else (!(r68.2 == r78.2))) then some false else bd (PF.zb7 r25.1 r25.2.1) (fun rA2=>bd (PF.zcC r25.1 r25.2.1) (fun rAc=>(bif (bif (!(rA2.1 == rAc.1)) then true else (!(rA2.2 == rAc.2))) then some false else bd (PF.zbw r25.1) (fun rAx=>bd (PF.zbx r25.1) (fun rAH=>bd (bif (bif (!(rAx.1 == rAH.1)) then true else (!(rAx.2.2 == rAH.2.2))) then some true else bd (PF.zcE rAx.2.1 rAH.2.1) (fun rBG=>some (!rBG))) (fun t187=>(bif t187 then some false else bdR (S:=Unit) (X:=Bool) ((bif r68.2 then bd (PF.zcF r25.1 r25.2.2) (fun rDA=>bdR (iter (S:=(Int×Int)) (X:=Empty) (fun sDK=>(bif (decide (sDK.2 < (len rDA.1))) then bd (ix rDA.1 sDK.2) (fun xEK=>bd (PF.zcG r25.2.1 xEK) (fun rER=>(bif rER then some (Lp.nx ((wr (sDK.1 + 1)),(wr (sDK.2 + 1)))) else some (Lp.nx (sDK.1,(wr (sDK.2 + 1))))))) else some (Lp.bk (sDK.1,sDK.2)))) (0,0)) (fun sDK=>(bif (bif (!rDA.2) then true else (!((sDK.1.tmod 2) == r68.1))) then some (Rs.rt false) else some (Rs.go ()))) (fun xDK=>nomatch xDK)) else some (Rs.go ()))) (fun sDw=>(bif (bif (bif (bif (bif rA2.2 then rAx.2.2 else false) then (decide (r25.1.vertices≤(wr (3 * (len r25.2.1))))) else false) then (decide ((wr (3 * (len r25.2.1)))≤(wr (2 * r25.1.vertices)))) else false) then (decide (rA2.1 < rAx.1)) else false) then some false else (bif (!rAx.2.2) then some true else bd (PF.zb7 r25.1 rAx.2.1) (fun rGD=>bd (PF.zcK r25.1) (fun rGI=>bd (PF.zcM r25.1) (fun rGU=>(bif (bif (bif (bif (!rGD.2) then true else (!rGI.2)) then true else (!rGU.2)) then true else (!(rGD.1 == rAx.1))) then some false else (bif (bif ((len rGI.1) == 1) then ((len rGU.1) == 1) else false) then bd (PF.zcQ r25.1) (fun rHT=>(bif (!rHT.2) then some false else bd (PF.zbA rHT.1) (fun rId=>bd (PF.zck rHT.1) (fun rIi=>(bif (bif (bif (!(rId.1 == rIi.1)) then true else (!(rId.2 == rIi.2))) then true else (bif rId.2 then (decide (rId.1 < rAx.1)) else false)) then some false else some true))))) else some true)))))))) (fun xDy=>some xDy)))))))))))))

end Go.PF
