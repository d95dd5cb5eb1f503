/- Part of the walks and plain laws behind the claim: it proves helpers, under no condition beyond their own. -/
import Derived.Test.YtjfiedidpiopbaaGreatSrLB
set_option linter.unusedVariables false
namespace Go.PF
open Go.Pu

structure Cnf where
  vars:Int
  clauses:List (List Int)
def okCnf (s:Cnf):Prop:=okI s.vars∧(okL (okL okI)) s.clauses

structure zab where
  kind:Int
  a:Int
  b:Int
  pivot:Int
def zd9 (s:zab):Prop:=okI s.kind∧okI s.a∧okI s.b∧okI s.pivot

structure zaD where
  list:List (List Int)
  rounds:List Int
  left:List Int
  right:List Int
  pivots:List Int
  sorted:List (List Int)
structure zb7 where
  axiomS:List Bool
  pairs:List (List Int)
structure zbt where
  f:Cnf
  all:List (List Int)
  parents:List (List Int)
structure zbE where
  masks:List Int
  rounds:List (Int×Int)
  last:Int
def zbr (a0:List Int) (a1:Int):Int :=
  (bif (decide ((wr (a1 - (len a0))) < 0)) then (-1) else (wr (a1 - (len a0))))

def zdG (a0:List (List Int)) (a1:Int):Option Int :=
  (bif (decide ((wr (a1 - (len a0))) < 0)) then some (-1) else bdR (forL (S:=Int) (X:=Int) a0 (fun i23 y22 s23=>(bif (decide ((PF.zbr y22 s23) < 0)) then some (Lp.rt (-1)) else some (Lp.nx (PF.zbr y22 s23)))) (wr (a1 - (len a0)))) (fun s23=>some s23) (fun x23=>some x23))

def zcZ (a0:Cnf) (a1:Int):Option Int :=
  bd (PF.zdG a0.clauses a1) (fun r29=>(bif (decide (r29 < 0)) then some (-1) else some r29))

def zc0 (a0:List Int):Option (List Int) :=
  bd (mk2 (0:Int) (len a0) (len a0)) (fun xs21=>bdR (forL (S:=(List Int)) (X:=Empty) a0 (fun i32 y31 s32=>bd (ix s32 ((i32:Nat):Int)) (fun xAh=>bd (put s32 ((i32:Nat):Int) y31) (fun xsAm=>some (Lp.nx xsAm)))) xs21) (fun s32=>some s32) (fun x32=>nomatch x32))

def zdH (a0:List (List Int)):Option (List (List Int)) :=
  bd (mk2 ([]:List Int) (len a0) (len a0)) (fun xs21=>bdR (forL (S:=(List (List Int))) (X:=Empty) a0 (fun i33 y32 s33=>bd (PF.zc0 y32) (fun rAT=>bd (ix s33 ((i33:Nat):Int)) (fun xB9=>bd (put s33 ((i33:Nat):Int) rAT) (fun xsBl=>some (Lp.nx xsBl))))) xs21) (fun s33=>some s33) (fun x33=>nomatch x33))

def zbT (a0:Cnf):Option Cnf :=
  bd (PF.zdH a0.clauses) (fun r40=>some (Cnf.mk a0.vars r40))

def zay (a0:Int) (a1:Int) (a2:Int):Bool :=
  (bif (decide (a1≤a0)) then (decide (a0≤a2)) else false)

def zbF (a0:Int):Bool :=
  (PF.zay a0 0 12)

def zbU (a0:Int) (a1:Int):Bool :=
  (bif (PF.zay a1 (wr (-a0)) a0) then (!(a1 == 0)) else false)

def zbG (a0:Int):Int :=
  (bif (decide (a0 < 0)) then (wr (-a0)) else a0)

def zc1 (a0:Int) (a1:List Int):Option Bool :=
  (bif (!(PF.zbF a0)) then some false else bdR (forL (S:=Unit) (X:=Bool) a1 (fun i26 y25 s26=>bd (bif (!(PF.zbU a0 y25)) then some true else bd (bif (decide (0 < ((i26:Nat):Int))) then bd (ix a1 (wr (((i26:Nat):Int) - 1))) (fun xC2=>some (decide ((PF.zbG y25)≤(PF.zbG xC2)))) else some false) (fun t213=>some t213)) (fun t192=>(bif t192 then some (Lp.rt false) else some (Lp.nx ())))) ()) (fun s26=>some true) (fun x26=>some x26))

noncomputable def zc2 (a0:Cnf):Option Bool :=
  (bif (bif (!(PF.zbF a0.vars)) then true else (decide (60 < (len a0.clauses)))) then some false else bdR (iter (S:=Int) (X:=Bool) (fun s42=>(bif (decide (s42 < (len a0.clauses))) then bd (ix a0.clauses s42) (fun x83=>bd (PF.zc1 a0.vars x83) (fun r87=>(bif (!r87) then some (Lp.rt false) else some (Lp.nx (wr (s42 + 1)))))) else some (Lp.bk s42))) 0) (fun s42=>some true) (fun x42=>some x42))

noncomputable def zc3 (a0:Cnf):Option Bool :=
  bd (bif (decide (a0.vars≤6)) then bd (PF.zc2 a0) (fun r41=>some r41) else some false) (fun t34=>some t34)

def zbl (a0:List Int):Option (List Int) :=
  bd (app [] a0) (fun xs26=>some xs26)

def zaM (a0:Int):Int :=
  (bif (decide (a0 < 0)) then (wr ((wr ((-2) * a0)) + 1)) else (wr (2 * a0)))

def zcu (a0:List Int) (a1:List Int):Option Bool :=
  (bif (!((len a0) == (len a1))) then some (decide ((len a0) < (len a1))) else bdR (forL (S:=Unit) (X:=Bool) a0 (fun i23 y22 s23=>bd (ix a1 ((i23:Nat):Int)) (fun x90=>(bif (!(y22 == x90)) then bd (ix a1 ((i23:Nat):Int)) (fun xA9=>some (Lp.rt (decide ((PF.zaM y22) < (PF.zaM xA9))))) else some (Lp.nx ())))) ()) (fun s23=>some false) (fun x23=>some x23))

noncomputable def zb8 (a0:List (List Int)) (a1:List Int):Option Int :=
  bdR (iter (S:=(Int×Int)) (X:=Empty) (fun s21=>(bif (decide (s21.1 < s21.2)) then bd (ix a0 (wr ((wr (s21.1 + s21.2)).tdiv 2))) (fun x64=>bd (PF.zcu x64 a1) (fun r68=>(bif r68 then some (Lp.nx ((wr ((wr ((wr (s21.1 + s21.2)).tdiv 2)) + 1)),s21.2)) else some (Lp.nx (s21.1,(wr ((wr (s21.1 + s21.2)).tdiv 2))))))) else some (Lp.bk (s21.1,s21.2)))) (0,(len a0))) (fun s21=>some s21.1) (fun x21=>nomatch x21)

def zcv (a0:List Int) (a1:List Int):Option Bool :=
  (bif (!((len a0) == (len a1))) then some false else bdR (forL (S:=Unit) (X:=Bool) a0 (fun i23 y22 s23=>bd (ix a1 ((i23:Nat):Int)) (fun x72=>(bif (!(y22 == x72)) then some (Lp.rt false) else some (Lp.nx ())))) ()) (fun s23=>some true) (fun x23=>some x23))

noncomputable def zbH (a0:List (List Int)) (a1:List Int):Option (List (List Int)) :=
  bd (PF.zb8 a0 a1) (fun r21=>bd (bif (decide (r21 < (len a0))) then bd (ix a0 r21) (fun x54=>bd (PF.zcv x54 a1) (fun r58=>some r58)) else some false) (fun t41=>(bif t41 then some a0 else bd (cut a0 0 r21) (fun xs12068=>bd (app [] xs12068) (fun xs15068=>bd (app xs15068 [a1]) (fun xs24068=>bd (cut a0 r21 (len a0)) (fun xs33068=>bd (app xs24068 xs33068) (fun xs36068=>some xs36068))))))))

noncomputable def zc4 (a0:zaD):Option (List Int) :=
  bdR (iter (S:=((List Int)×Int)) (X:=Empty) (fun s34=>(bif (decide (s34.2 < (len a0.list))) then bdR (iter (S:=(Int×Int)) (X:=Empty) (fun s84226=>(bif (decide (s84226.1 < s84226.2)) then bd (ix s34.1 (wr ((wr (s84226.1 + s84226.2)).tdiv 2))) (fun x84291=>bd (ix a0.list x84291) (fun x84299=>bd (ix a0.list s34.2) (fun x84309=>bd (PF.zcu x84299 x84309) (fun r84313=>(bif r84313 then some (Lp.nx ((wr ((wr ((wr (s84226.1 + s84226.2)).tdiv 2)) + 1)),s84226.2)) else some (Lp.nx (s84226.1,(wr ((wr (s84226.1 + s84226.2)).tdiv 2))))))))) else some (Lp.bk (s84226.1,s84226.2)))) (0,(len s34.1))) (fun s84226=>bd (cut s34.1 0 s84226.1) (fun xs93329=>bd (PF.zbl xs93329) (fun r96329=>bd (app r96329 [s34.2]) (fun xs105329=>bd (cut s34.1 s84226.1 (len s34.1)) (fun xs114329=>bd (app xs105329 xs114329) (fun xs117329=>some (Lp.nx (xs117329,(wr (s34.2 + 1)))))))))) (fun x84226=>nomatch x84226) else some (Lp.bk (s34.1,s34.2)))) ([],0)) (fun s34=>some s34.1) (fun x34=>nomatch x34)

def zc5 (a0:List Int) (a1:Int):Option Bool :=
  bdR (forL (S:=Unit) (X:=Bool) a0 (fun i22 y21 s22=>(bif (y21 == a1) then some (Lp.rt true) else some (Lp.nx ()))) ()) (fun s22=>some false) (fun x22=>some x22)

def zbu (a0:List Int) (a1:Int):Option Bool :=
  bd (PF.zc5 a0 a1) (fun r21=>some r21)

def zcw (a0:List Int) (a1:Int):Option (List Int) :=
  bdR (forL (S:=(List Int)) (X:=Empty) a0 (fun i27 y26 s27=>(bif (!((PF.zbG y26) == a1)) then bd (app s27 [y26]) (fun xsA3=>some (Lp.nx xsA3)) else some (Lp.nx s27))) []) (fun s27=>some s27) (fun x27=>nomatch x27)

noncomputable def zcx (a0:List Int) (a1:Int):Option (List Int) :=
  bdR (iter (S:=Int) (X:=Empty) (fun s21=>bd (bif (decide (s21 < (len a0))) then bd (ix a0 s21) (fun xA5=>some (decide ((PF.zbG xA5) < (PF.zbG a1)))) else some false) (fun t92=>(bif t92 then some (Lp.nx (wr (s21 + 1))) else some (Lp.bk s21)))) 0) (fun s21=>bd (cut a0 0 s21) (fun xs9127=>bd (PF.zbl xs9127) (fun r12127=>bd (app r12127 [a1]) (fun xs21127=>bd (cut a0 s21 (len a0)) (fun xs30127=>bd (app xs21127 xs30127) (fun xs33127=>some xs33127)))))) (fun x21=>nomatch x21)

noncomputable def zc6 (a0:List Int) (a1:List Int):Option ((List Int)×Bool) :=
  bd (PF.zbl a0) (fun r21=>bdR (forL (S:=(List Int)) (X:=((List Int)×Bool)) a1 (fun i32 y31 s32=>bd (PF.zbu s32 (wr (-y31))) (fun rBC=>(bif rBC then some (Lp.rt ([],false)) else bd (PF.zbu s32 y31) (fun rBY=>(bif (!rBY) then bd (PF.zcx s32 y31) (fun rCf=>some (Lp.nx rCf)) else some (Lp.nx s32)))))) r21) (fun s32=>some (s32,true)) (fun x32=>some x32))

noncomputable def zbI (a0:List Int) (a1:List Int) (a2:Int):Option ((List Int)×Bool) :=
  bd (PF.zbu a0 a2) (fun r21=>bd (bif (!r21) then some true else bd (PF.zbu a1 (wr (-a2))) (fun r38=>some (!r38))) (fun t31=>(bif t31 then some ([],false) else bd (PF.zcw a0 a2) (fun r53=>bd (PF.zcw a1 a2) (fun r63=>bd (PF.zc6 r53 r63) (fun r83=>some (r83.1,r83.2)))))))

noncomputable def za8 (a0:List (List Int)) (a1:List Int):Option Int :=
  bd (PF.zb8 a0 a1) (fun r21=>bd (bif (decide (r21 < (len a0))) then bd (ix a0 r21) (fun x54=>bd (PF.zcv x54 a1) (fun r58=>some r58)) else some false) (fun t41=>(bif t41 then some r21 else some (-1))))

noncomputable def zc7 (a0:Int) (a1:zaD) (a2:Int) (a3:Int):Option (zaD×Bool) :=
  bd (PF.zc4 a1) (fun r64=>bdR (iter (S:=((List Int)×(List Int)×(List Int)×(List (List Int))×Int)) (X:=Empty) (fun sAi=>(bif (decide (sAi.2.2.2.2 < (len r64))) then bdR (iter (S:=((List Int)×(List Int)×(List Int)×(List (List Int))×Int)) (X:=Empty) (fun s1970620=>(bif (decide (s1970620.2.2.2.2 < (len r64))) then bd (ix r64 sAi.2.2.2.2) (fun x2955839=>bd (ix a1.rounds x2955839) (fun x2955847=>bd (bif (decide (x2955847 < (wr (a3 - 1)))) then bd (ix r64 s1970620.2.2.2.2) (fun x2955878=>bd (ix a1.rounds x2955878) (fun x2955886=>some (decide (x2955886 < (wr (a3 - 1)))))) else some false) (fun t2955865=>(bif t2955865 then some (Lp.nx (s1970620.1,s1970620.2.1,s1970620.2.2.1,s1970620.2.2.2.1,(wr (s1970620.2.2.2.2 + 1)))) else bdR (iter (S:=((List Int)×(List Int)×(List Int)×(List (List Int))×Int)) (X:=Empty) (fun s2955903=>(bif (decide (s2955903.2.2.2.2≤a0)) then bd (ix r64 sAi.2.2.2.2) (fun x3463404=>bd (ix a1.list x3463404) (fun x3469404=>bd (ix r64 s1970620.2.2.2.2) (fun x3487404=>bd (ix a1.list x3487404) (fun x3493404=>bd (PF.zbI x3469404 x3493404 s2955903.2.2.2.2) (fun r3502398=>bd (bif (bif (!r3502398.2) then true else (decide (a2 < (len r3502398.1)))) then some true else bd (PF.za8 a1.sorted r3502398.1) (fun r3523461=>some (decide (0≤r3523461)))) (fun t3523449=>bd (bif t3523449 then some true else bd (PF.za8 s2955903.2.2.2.1 r3502398.1) (fun r3523500=>some (decide (0≤r3523500)))) (fun t3523488=>(bif t3523488 then some (Lp.nx (s2955903.1,s2955903.2.1,s2955903.2.2.1,s2955903.2.2.2.1,(wr (s2955903.2.2.2.2 + 1)))) else bd (PF.zb8 s2955903.2.2.2.1 r3502398.1) (fun r3523523=>bd (PF.zbH s2955903.2.2.2.1 r3502398.1) (fun r3523533=>bd (cut s2955903.1 0 r3523523) (fun xs3535544=>bd (PF.zbl xs3535544) (fun r3538544=>bd (ix r64 sAi.2.2.2.2) (fun x3547550=>bd (app r3538544 [x3547550]) (fun xs3556544=>bd (cut s2955903.1 r3523523 (len s2955903.1)) (fun xs3568544=>bd (app xs3556544 xs3568544) (fun xs3571544=>bd (cut s2955903.2.1 0 r3523523) (fun xs3595570=>bd (PF.zbl xs3595570) (fun r3598570=>bd (ix r64 s1970620.2.2.2.2) (fun x3607576=>bd (app r3598570 [x3607576]) (fun xs3616570=>bd (cut s2955903.2.1 r3523523 (len s2955903.2.1)) (fun xs3628570=>bd (app xs3616570 xs3628570) (fun xs3631570=>bd (cut s2955903.2.2.1 0 r3523523) (fun xs3655596=>bd (PF.zbl xs3655596) (fun r3658596=>bd (app r3658596 [s2955903.2.2.2.2]) (fun xs3667596=>bd (cut s2955903.2.2.1 r3523523 (len s2955903.2.2.1)) (fun xs3679596=>bd (app xs3667596 xs3679596) (fun xs3682596=>some (Lp.nx (xs3571544,xs3631570,xs3682596,r3523533,(wr (s2955903.2.2.2.2 + 1))))))))))))))))))))))))))))))) else some (Lp.bk (s2955903.1,s2955903.2.1,s2955903.2.2.1,s2955903.2.2.2.1,s2955903.2.2.2.2)))) (s1970620.1,s1970620.2.1,s1970620.2.2.1,s1970620.2.2.2.1,1)) (fun s2955903=>some (Lp.nx (s2955903.1,s2955903.2.1,s2955903.2.2.1,s2955903.2.2.2.1,(wr (s1970620.2.2.2.2 + 1))))) (fun x2955903=>nomatch x2955903))))) else some (Lp.bk (s1970620.1,s1970620.2.1,s1970620.2.2.1,s1970620.2.2.2.1,s1970620.2.2.2.2)))) (sAi.1,sAi.2.1,sAi.2.2.1,sAi.2.2.2.1,0)) (fun s1970620=>some (Lp.nx (s1970620.1,s1970620.2.1,s1970620.2.2.1,s1970620.2.2.2.1,(wr (sAi.2.2.2.2 + 1))))) (fun x1970620=>nomatch x1970620) else some (Lp.bk (sAi.1,sAi.2.1,sAi.2.2.1,sAi.2.2.2.1,sAi.2.2.2.2)))) ([],[],[],[],0)) (fun sAi=>bdR (iter (S:=((List (List Int))×(List Int)×(List (List Int))×Int)) (X:=Empty) (fun s3694660=>(bif (decide (s3694660.2.2.2 < (len sAi.2.2.2.1))) then bd (ix sAi.2.2.2.1 s3694660.2.2.2) (fun x3862804=>bd (app s3694660.1 [x3862804]) (fun xs3871798=>bd (app s3694660.2.1 [a3]) (fun xs3883820=>bd (ix sAi.2.2.2.1 s3694660.2.2.2) (fun x3901840=>bd (PF.zbH s3694660.2.2.1 x3901840) (fun r3907834=>some (Lp.nx (xs3871798,xs3883820,r3907834,(wr (s3694660.2.2.2 + 1))))))))) else some (Lp.bk (s3694660.1,s3694660.2.1,s3694660.2.2.1,s3694660.2.2.2)))) (a1.list,a1.rounds,a1.sorted,0)) (fun s3694660=>bd (app a1.left sAi.1) (fun xs3919856=>bd (app a1.right sAi.2.1) (fun xs3919869=>bd (app a1.pivots sAi.2.2.1) (fun xs3919882=>some ((zaD.mk s3694660.1 s3694660.2.1 xs3919856 xs3919869 xs3919882 s3694660.2.2.1),(decide (0 < (len sAi.2.2.2.1)))))))) (fun x3694660=>nomatch x3694660)) (fun xAi=>nomatch xAi))

noncomputable def zc8 (a0:Cnf) (a1:Int):Option zaD :=
  bdR (iter (S:=((List (List Int))×Int)) (X:=Empty) (fun s81=>(bif (decide (s81.2 < (len a0.clauses))) then bd (ix a0.clauses s81.2) (fun xAW=>(bif (decide ((len xAW)≤a1)) then bd (ix a0.clauses s81.2) (fun xB7=>bd (PF.zbl xB7) (fun rBb=>bd (PF.zbH s81.1 rBb) (fun rBq=>some (Lp.nx (rBq,(wr (s81.2 + 1))))))) else some (Lp.nx (s81.1,(wr (s81.2 + 1)))))) else some (Lp.bk (s81.1,s81.2)))) ([],0)) (fun s81=>bdR (forL (S:=((List Int)×(List Int)×(List Int)×(List Int)×(List (List Int))×(List (List Int)))) (X:=Empty) s81.1 (fun iBK yBJ sBK=>bd (app sBK.2.2.2.2.1 [yBJ]) (fun xs96450=>bd (app sBK.2.2.2.1 [0]) (fun xs108473=>bd (app sBK.2.2.1 [(-1)]) (fun xs108492=>bd (app sBK.2.1 [(-1)]) (fun xs108511=>bd (app sBK.1 [0]) (fun xs108530=>some (Lp.nx (xs108530,xs108511,xs108492,xs108473,xs96450,sBK.2.2.2.2.2)))))))) ([],[],[],[],[],[])) (fun sBK=>bdR (iter (S:=((List Int)×(List Int)×(List Int)×(List Int)×(List (List Int))×(List (List Int))×Int×Bool)) (X:=Empty) (fun s108558=>(bif s108558.2.2.2.2.2.2.2 then bd (PF.zc7 a0.vars (zaD.mk s108558.2.2.2.2.1 s108558.2.2.2.1 s108558.2.2.1 s108558.2.1 s108558.1 s108558.2.2.2.2.2.1) a1 s108558.2.2.2.2.2.2.1) (fun r108687=>some (Lp.nx (r108687.1.pivots,r108687.1.right,r108687.1.left,r108687.1.rounds,r108687.1.list,r108687.1.sorted,(wr (s108558.2.2.2.2.2.2.1 + 1)),r108687.2))) else some (Lp.bk (s108558.1,s108558.2.1,s108558.2.2.1,s108558.2.2.2.1,s108558.2.2.2.2.1,s108558.2.2.2.2.2.1,s108558.2.2.2.2.2.2.1,s108558.2.2.2.2.2.2.2)))) (sBK.1,sBK.2.1,sBK.2.2.1,sBK.2.2.2.1,sBK.2.2.2.2.1,s81.1,1,true)) (fun s108558=>some (zaD.mk s108558.2.2.2.2.1 s108558.2.2.2.1 s108558.2.2.1 s108558.2.1 s108558.1 s108558.2.2.2.2.2.1)) (fun x108558=>nomatch x108558)) (fun xBK=>nomatch xBK)) (fun x81=>nomatch x81)

noncomputable def zbJ (a0:Cnf):Option ((List (List Int))×Bool) :=
  bd (PF.zc3 a0) (fun r29=>(bif (!r29) then some ([],false) else bd (PF.zc8 a0 6) (fun r46=>some (r46.sorted,(decide ((len r46.sorted)≤14))))))

def zc9 (a0:List (List Int)):Option Bool :=
  bd (bif (decide (0 < (len a0))) then bd (ix a0 0) (fun x44=>some ((len x44) == 0)) else some false) (fun t31=>some t31)

noncomputable def zda (a0:Cnf) (a1:List (List Int)):Option zb7 :=
  bd (mk2 (false:Bool) (len a1) (len a1)) (fun xs9033=>bd (mk2 ([]:List Int) (len a1) (len a1)) (fun xs18033=>bdR (iter (S:=((List Bool)×Int)) (X:=Empty) (fun s33053=>(bif (decide (s33053.2 < (len a0.clauses))) then bd (ix a0.clauses s33053.2) (fun x132125=>bd (PF.za8 a1 x132125) (fun r138119=>bd (ix s33053.1 r138119) (fun x141125=>bd (put s33053.1 r138119 true) (fun xs144122=>some (Lp.nx (xs144122,(wr (s33053.2 + 1)))))))) else some (Lp.bk (s33053.1,s33053.2)))) (xs9033,0)) (fun s33053=>bdR (forL (S:=(List (List Int))) (X:=Empty) a1 (fun i150145 y150144 s150145=>bdR (forL (S:=(List (List Int))) (X:=Empty) a1 (fun i1014870 y1014869 s1014870=>bdR (iter (S:=((List (List Int))×Int)) (X:=Empty) (fun s1447203=>(bif (decide (s1447203.2≤a0.vars)) then bd (PF.zbI y150144 y1014869 s1447203.2) (fun r1693340=>(bif r1693340.2 then bd (PF.za8 a1 r1693340.1) (fun r1714365=>bd (ix s1447203.1 r1714365) (fun x1735376=>bd (nn ((i150145:Nat):Int)) (fun u1744371=>bd (nn ((i1014870:Nat):Int)) (fun u1750371=>bd (app x1735376 [(orK true 64 (shlK true 64 1 ((i150145:Nat):Int)) (shlK true 64 1 ((i1014870:Nat):Int)))]) (fun xs1759370=>bd (ix s1447203.1 r1714365) (fun x1762376=>bd (put s1447203.1 r1714365 xs1759370) (fun xs1765370=>some (Lp.nx (xs1765370,(wr (s1447203.2 + 1))))))))))) else some (Lp.nx (s1447203.1,(wr (s1447203.2 + 1)))))) else some (Lp.bk (s1447203.1,s1447203.2)))) (s1014870,1)) (fun s1447203=>some (Lp.nx s1447203.1)) (fun x1447203=>nomatch x1447203)) s150145) (fun s1014870=>some (Lp.nx s1014870)) (fun x1014870=>nomatch x1014870)) xs18033) (fun s150145=>some (zb7.mk s33053.1 s150145)) (fun x150145=>nomatch x150145)) (fun x33053=>nomatch x33053)))

noncomputable def zb9 (a0:Int):Option Int :=
  bdR (iter (S:=(Int×Int)) (X:=Empty) (fun s21=>(bif (decide (0 < s21.1)) then some (Lp.nx ((wr (s21.1.tdiv 2)),(wr (s21.2 + (s21.1.tmod 2))))) else some (Lp.bk (s21.1,s21.2)))) (a0,0)) (fun s21=>some s21.2) (fun x21=>nomatch x21)

noncomputable def zdb (a0:zb7) (a1:Int) (a2:Int):Option Bool :=
  bd (ix a0.axiomS a2) (fun x35=>bdR (iter (S:=(Bool×Int)) (X:=Empty) (fun s37=>bd (ix a0.pairs a2) (fun xAs=>(bif (bif (decide (s37.2 < (len xAs))) then (!s37.1) else false) then bd (ix a0.pairs a2) (fun xAR=>bd (ix xAR s37.2) (fun xB1=>bd (ix a0.pairs a2) (fun xB9=>bd (ix xB9 s37.2) (fun xBj=>some (Lp.nx (((andK true 64 a1 xB1) == xBj),(wr (s37.2 + 1)))))))) else some (Lp.bk (s37.1,s37.2))))) (x35,0)) (fun s37=>some s37.1) (fun x37=>nomatch x37))

noncomputable def zdc (a0:Cnf) (a1:List (List Int)) (a2:Int):Option (List Int) :=
  bd (nn (len a1)) (fun u9030=>bd (mk2 (0:Int) (shlK true 64 1 (len a1)) (shlK true 64 1 (len a1))) (fun xs12029=>bd (PF.zda a0 a1) (fun r21029=>bdR (iter (S:=((List Int)×(List Int)×Int)) (X:=Empty) (fun s36056=>(bif (decide (s36056.2.2 < (len s36056.2.1))) then bd (ix s36056.2.1 s36056.2.2) (fun x36257=>bd (put s36056.2.1 s36056.2.2 (-1)) (fun xs36262=>bd (bif ((andK true 64 s36056.2.2 1) == 1) then bd (PF.zb9 s36056.2.2) (fun r36279=>some (decide (r36279≤a2))) else some false) (fun t36272=>(bif t36272 then bd (ix xs36262 s36056.2.2) (fun x36298=>bd (put xs36262 s36056.2.2 0) (fun xs36303=>bd (app s36056.1 [s36056.2.2]) (fun xs36313=>some (Lp.nx (xs36313,xs36303,(wr (s36056.2.2 + 1))))))) else some (Lp.nx (s36056.1,xs36262,(wr (s36056.2.2 + 1)))))))) else some (Lp.bk (s36056.1,s36056.2.1,s36056.2.2)))) ([],xs12029,0)) (fun s36056=>bdR (iter (S:=((List Int)×(List Int)×Int)) (X:=Empty) (fun s36335=>(bif (decide (s36335.2.2 < (len s36335.1))) then bdR (forL (S:=((List Int)×(List Int))) (X:=Empty) a1 (fun i37191 y37190 s37191=>bd (ix s37191.1 s36335.2.2) (fun x37589=>bd (nn ((i37191:Nat):Int)) (fun u37592=>bd (ix s37191.2 (xorK true 64 x37589 (shlK true 64 1 ((i37191:Nat):Int)))) (fun x37602=>bd (bif (decide (0≤x37602)) then some true else bd (PF.zb9 (xorK true 64 x37589 (shlK true 64 1 ((i37191:Nat):Int)))) (fun r37616=>some (decide (a2 < r37616)))) (fun t37609=>bd (bif t37609 then some true else bd (nn ((i37191:Nat):Int)) (fun u37667=>bd (bif ((andK true 64 (shrK 64 (xorK true 64 x37589 (shlK true 64 1 ((i37191:Nat):Int))) ((i37191:Nat):Int)) 1) == 0) then bd (PF.zdb r21029 (xorK true 64 x37589 (shlK true 64 1 ((i37191:Nat):Int))) ((i37191:Nat):Int)) (fun r37680=>some (!r37680)) else some false) (fun t37673=>some t37673))) (fun t37659=>(bif t37659 then some (Lp.nx (s37191.1,s37191.2)) else bd (ix s37191.1 s36335.2.2) (fun x37711=>bd (ix s37191.2 x37711) (fun x37719=>bd (ix s37191.2 (xorK true 64 x37589 (shlK true 64 1 ((i37191:Nat):Int)))) (fun x37727=>bd (put s37191.2 (xorK true 64 x37589 (shlK true 64 1 ((i37191:Nat):Int))) (wr (x37719 + 1))) (fun xs37732=>bd (app s37191.1 [(xorK true 64 x37589 (shlK true 64 1 ((i37191:Nat):Int)))]) (fun xs37742=>some (Lp.nx (xs37742,xs37732)))))))))))))) (s36335.1,s36335.2.1)) (fun s37191=>some (Lp.nx (s37191.1,s37191.2,(wr (s36335.2.2 + 1))))) (fun x37191=>nomatch x37191) else some (Lp.bk (s36335.1,s36335.2.1,s36335.2.2)))) (s36056.1,s36056.2.1,0)) (fun s36335=>some s36335.2.1) (fun x36335=>nomatch x36335)) (fun x36056=>nomatch x36056))))

noncomputable def zca (a0:Cnf) (a1:List (List Int)):Option (List zab) :=
  bdR (iter (S := ((List zab) × Int)) (X := Empty) (fun s34 => (bif (decide (s34.2 < (len a0.clauses))) then bd (app s34.1 [(zab.mk 1 s34.2 0 0)]) (fun xs80 => some (Lp.nx (xs80, (wr (s34.2 + 1))))) else some (Lp.bk (s34.1, s34.2)))) ([], 0)) (fun s34 => bdR (forL (S := (List zab)) (X := Empty) a1 (fun iA1 yA0 sA1 => bdR (forL (S := (List zab)) (X := Empty) a1 (fun iBQ yBP sBQ => bdR (iter (S := ((List zab) × Int)) (X := Empty) (fun sD7 => (bif (decide (sD7.2 ≤ a0.vars)) then bd (app sD7.1 [(zab.mk 2 ((iA1 : Nat) : Int) ((iBQ : Nat) : Int) sD7.2)]) (fun xsDV => some (Lp.nx (xsDV, (wr (sD7.2 + 1))))) else some (Lp.bk (sD7.1, sD7.2)))) (sBQ, 1)) (fun sD7 => some (Lp.nx sD7.1)) (fun xD7 => nomatch xD7)) sA1) (fun sBQ => some (Lp.nx sBQ)) (fun xBQ => nomatch xBQ)) s34.1) (fun sA1 => bdR (forL (S := (List zab)) (X := Empty) a1 (fun iEK yEJ sEK => bd (app sEK [(zab.mk 3 ((iEK : Nat) : Int) 0 0)]) (fun xsFq => some (Lp.nx xsFq))) sA1) (fun sEK => some sEK) (fun xEK => nomatch xEK)) (fun xA1 => nomatch xA1)) (fun x34=>nomatch x34)

noncomputable def zcy (a0:Cnf) (a1:List (List Int)) (a2:zab):Option ((List (List Int))×(List Int)×Bool) :=
  (bif (a2.kind == 1) then bd (bif (bif (bif (!(PF.zay a2.a 0 (wr ((len a0.clauses) - 1)))) then true else (!(a2.b == 0))) then true else (!(a2.pivot == 0))) then some true else bd (ix a0.clauses a2.a) (fun x91=>bd (PF.za8 a1 x91) (fun r95=>some (decide (0≤r95))))) (fun t78=>(bif t78 then some ([],[],false) else bd (ix a0.clauses a2.a) (fun x18132=>bd (PF.zbH a1 x18132) (fun r24126=>bd (ix a0.clauses a2.a) (fun x39132=>some (r24126,x39132,true)))))) else (bif (!(PF.zay a2.a 0 (wr ((len a1) - 1)))) then some ([],[],false) else (bif (a2.kind == 3) then bd (cut a1 0 a2.a) (fun xs72165=>bd (app [] xs72165) (fun xs75165=>bd (cut a1 (wr (a2.a + 1)) (len a1)) (fun xs90165=>bd (app xs75165 xs90165) (fun xs93165=>some (xs93165,[],(bif (a2.b == 0) then (a2.pivot == 0) else false)))))) else (bif (bif (bif (!(a2.kind == 2)) then true else (!(PF.zay a2.b 0 (wr ((len a1) - 1))))) then true else (!(PF.zay a2.pivot 1 a0.vars))) then some ([],[],false) else bd (ix a1 a2.a) (fun x159261=>bd (ix a1 a2.b) (fun x174261=>bd (PF.zbI x159261 x174261 a2.pivot) (fun r186255=>bd (bif (!r186255.2) then some true else bd (PF.za8 a1 r186255.1) (fun r207290=>some (decide (0≤r207290)))) (fun t207278=>(bif t207278 then some ([],[],false) else bd (PF.zbH a1 r186255.1) (fun r207325=>some (r207325,r186255.1,true)))))))))))

noncomputable def zbV (a0:List (List Int)) (a1:List (List Int)):Option Int :=
  bdR (forL (S:=Int) (X:=Empty) a1 (fun i22 y21 s22=>bd (PF.za8 a0 y21) (fun r64=>bd (nn r64) (fun u70=>some (Lp.nx (orK true 64 s22 (shlK true 64 1 r64)))))) 0) (fun s22=>some s22) (fun x22=>nomatch x22)

noncomputable def zdd (a0:Cnf) (a1:Int):Option ((List zab)×Bool) :=
  bd (PF.zbJ a0) (fun r34=>bd (bif (bif (!r34.2) then true else (!(PF.zay a1 1 14))) then some true else bd (PF.zc9 r34.1) (fun r72=>some (!r72))) (fun t65=>(bif t65 then some ([],false) else bd (PF.zdc a0 r34.1 a1) (fun r83=>bd (ix r83 0) (fun x99=>(bif (decide (x99 < 0)) then some ([],false) else bd (ix r83 0) (fun xAd=>bdR (iter (S:=((List zab)×(List (List Int))×Int)) (X:=Empty) (fun sAl=>(bif (decide (0 < sAl.2.2)) then bd (PF.zca a0 sAl.2.1) (fun r48292=>bdR (iter (S:=((List zab)×(List (List Int))×Int)) (X:=Empty) (fun s48302=>(bif (decide (s48302.2.2 < (len r48292))) then bd (ix r48292 s48302.2.2) (fun x111428=>bd (PF.zcy a0 s48302.2.1 x111428) (fun r117422=>bd (bif r117422.2.2 then bd (PF.zbV r34.1 r117422.1) (fun r144460=>bd (ix r83 r144460) (fun x144471=>some (x144471 == (wr (sAl.2.2 - 1))))) else some false) (fun t144453=>(bif t144453 then bd (ix r48292 s48302.2.2) (fun x144490=>bd (app s48302.1 [x144490]) (fun xs144497=>some (Lp.bk (xs144497,r117422.1,s48302.2.2)))) else some (Lp.nx (s48302.1,s48302.2.1,(wr (s48302.2.2 + 1)))))))) else some (Lp.bk (s48302.1,s48302.2.1,s48302.2.2)))) (sAl.1,sAl.2.1,0)) (fun s48302=>some (Lp.nx (s48302.1,s48302.2.1,(wr (sAl.2.2 - 1))))) (fun x48302=>nomatch x48302)) else some (Lp.bk (sAl.1,sAl.2.1,sAl.2.2)))) ([],[],xAd)) (fun sAl=>some (sAl.1,true)) (fun xAl=>nomatch xAl))))))))

def zat (a0:Int) (a1:Int) (a2:Int):Bool :=
  (bif (decide (a1≤a0)) then (decide (a0≤a2)) else false)

def zbW (a0:Int) (a1:Int):Bool :=
  (bif (!(a1 == 0)) then (PF.zat a1 (wr (-a0)) a0) else false)

def zau (a0:Int):Int :=
  (mx a0 (wr (-a0)))

def zbv (a0:Int):Bool :=
  (PF.zat a0 0 12)

def zde (a0:Int) (a1:List Int):Option Bool :=
  bdR (forL (S:=Unit) (X:=Bool) a1 (fun i22 y21 s22=>bd (bif (!(PF.zbW a0 y21)) then some true else bd (bif (decide (0 < ((i22:Nat):Int))) then bd (ix a1 (wr (((i22:Nat):Int) - 1))) (fun xBu=>some (decide ((PF.zau y21)≤(PF.zau xBu)))) else some false) (fun t179=>some t179)) (fun t164=>(bif t164 then some (Lp.rt false) else some (Lp.nx ())))) ()) (fun s22=>some (PF.zbv a0)) (fun x22=>some x22)

def zdf (a0:Cnf):Option Bool :=
  bdR (forL (S:=Unit) (X:=Bool) a0.clauses (fun i30 y29 s30=>bd (PF.zde a0.vars y29) (fun r71=>(bif (!r71) then some (Lp.rt false) else some (Lp.nx ())))) ()) (fun s30=>some (bif (PF.zbv a0.vars) then (decide ((len a0.clauses)≤60)) else false)) (fun x30=>some x30)

def zdg (a0:Cnf) (a1:Int):Option Bool :=
  bd (PF.zdf a0) (fun r29=>some (bif (bif r29 then (decide (a0.vars≤6)) else false) then (PF.zat a1 0 6) else false))

def zcz (a0:List Int):Option Int :=
  bdR (forL (S:=Int) (X:=Empty) a0 (fun i22 y21 s22=>(bif (decide (0 < y21)) then bd (nn (wr (y21 - 1))) (fun u60=>some (Lp.nx (orK false 16 s22 (shlK false 16 1 (wr (y21 - 1)))))) else bd (nn (wr ((wr (6 - y21)) - 1))) (fun u62=>some (Lp.nx (orK false 16 s22 (shlK false 16 1 (wr ((wr (6 - y21)) - 1)))))))) 0) (fun s22=>some s22) (fun x22=>nomatch x22)

def zbm (a0:Int):Int :=
  (orK false 16 (shlK false 16 (andK false 16 a0 63) 6) (shrK 16 a0 6))

def zaj (a0:Int) (a1:Int):Int :=
  (andK false 16 (orK false 16 (andK false 16 a0 (PF.zbm a1)) (shrK 16 (andK false 16 a0 (PF.zbm a1)) 6)) 63)

def zcb (a0:Int):Bool :=
  (bif (!(a0 == 0)) then ((andK false 16 a0 (wrk false 16 (a0 - 1))) == 0) else false)

noncomputable def zbX (a0:Int):Option Int :=
  bdR (iter (S:=(Int×Int)) (X:=Empty) (fun s21=>(bif (!(s21.1 == 0)) then some (Lp.nx ((andK false 16 s21.1 (wrk false 16 (s21.1 - 1))),(wr (s21.2 + 1)))) else some (Lp.bk (s21.1,s21.2)))) (a0,0)) (fun s21=>some s21.2) (fun x21=>nomatch x21)

noncomputable def zdh (a0:Cnf) (a1:Int):Option (Option zbE) :=
  bdR (forL (S:=((List Int)×Int×(List (Int×Int)))) (X:=Empty) a0.clauses (fun i42 y41 s42=>(bif (decide ((len y41)≤a1)) then bd (PF.zcz y41) (fun rBy=>bd (β:=_) ((bif (!((mget s42.2.2 rBy).isSome)) then bd (app s42.1 [rBy]) (fun xsCn=>some (xsCn,0,(mput s42.2.2 rBy 0))) else some (s42.1,s42.2.1,s42.2.2)):Option ((List Int)×Int×(List (Int×Int)))) (fun sC5=>some (Lp.nx (sC5.1,sC5.2.1,sC5.2.2)))) else some (Lp.nx (s42.1,s42.2.1,s42.2.2)))) ([],0,([]:List (Int×Int)))) (fun s42=>bdR (iter (S:=((List Int)×Int×(List (Int×Int))×Int×Int)) (X:=Empty) (fun sCR=>(bif (decide (sCR.2.2.2.1 < (len sCR.1))) then bdR (iter (S:=((List Int)×Int×(List (Int×Int))×Int)) (X:=Empty) (fun sSy=>(bif (decide (sSy.2.2.2 < (len sCR.1))) then bd (cut sSy.1 0 sSy.2.2.2) (fun xsZY=>bdR (forL (S:=((List Int)×Int×(List (Int×Int)))) (X:=Empty) xsZY (fun i1720 y1719 s1720=>bd (ix s1720.1 sSy.2.2.2) (fun x1922=>(bif (!(PF.zcb (PF.zaj x1922 y1719))) then some (Lp.nx (s1720.1,s1720.2.1,s1720.2.2)) else bd (PF.zbX (anK false 16 (orK false 16 x1922 y1719) (orK false 16 (PF.zaj x1922 y1719) (shlK false 16 (PF.zaj x1922 y1719) 6)))) (fun r1931=>(bif (decide (r1931≤a1)) then bd (β:=_) ((bif (!((mget s1720.2.2 (anK false 16 (orK false 16 x1922 y1719) (orK false 16 (PF.zaj x1922 y1719) (shlK false 16 (PF.zaj x1922 y1719) 6)))).isSome)) then bd (app s1720.1 [(anK false 16 (orK false 16 x1922 y1719) (orK false 16 (PF.zaj x1922 y1719) (shlK false 16 (PF.zaj x1922 y1719) 6)))]) (fun xs1987=>some (xs1987,sCR.2.2.2.2,(mput s1720.2.2 (anK false 16 (orK false 16 x1922 y1719) (orK false 16 (PF.zaj x1922 y1719) (shlK false 16 (PF.zaj x1922 y1719) 6))) sCR.2.2.2.2))) else some (s1720.1,s1720.2.1,s1720.2.2)):Option ((List Int)×Int×(List (Int×Int)))) (fun s1967=>some (Lp.nx (s1967.1,s1967.2.1,s1967.2.2))) else some (Lp.nx (s1720.1,s1720.2.1,s1720.2.2))))))) (sSy.1,sSy.2.1,sSy.2.2.1)) (fun s1720=>some (Lp.nx (s1720.1,s1720.2.1,s1720.2.2,(wr (sSy.2.2.2 + 1))))) (fun x1720=>nomatch x1720)) else some (Lp.bk (sSy.1,sSy.2.1,sSy.2.2.1,sSy.2.2.2)))) (sCR.1,sCR.2.1,sCR.2.2.1,sCR.2.2.2.1)) (fun sSy=>some (Lp.nx (sSy.1,sSy.2.1,sSy.2.2.1,(len sCR.1),(wr (sCR.2.2.2.2 + 1))))) (fun xSy=>nomatch xSy) else some (Lp.bk (sCR.1,sCR.2.1,sCR.2.2.1,sCR.2.2.2.1,sCR.2.2.2.2)))) (s42.1,s42.2.1,s42.2.2,0,1)) (fun sCR=>some (some (zbE.mk sCR.1 sCR.2.2.1 sCR.2.1))) (fun xCR=>nomatch xCR)) (fun x42=>nomatch x42)

noncomputable def zcc (a0:Int):Option (List Int) :=
  bdR (iter (S:=((List Int)×Int)) (X:=Empty) (fun s21=>(bif (decide (s21.2≤6)) then bd (nn (wr (s21.2 - 1))) (fun u98=>(bif ((andK false 16 (shrK 16 a0 (wr (s21.2 - 1))) 1) == 1) then bd (app s21.1 [s21.2]) (fun xsA5=>bd (nn (wr ((wr (6 + s21.2)) - 1))) (fun u117=>(bif ((andK false 16 (shrK 16 a0 (wr ((wr (6 + s21.2)) - 1))) 1) == 1) then bd (app xsA5 [(wr (-s21.2))]) (fun xsAo=>some (Lp.nx (xsAo,(wr (s21.2 + 1))))) else some (Lp.nx (xsA5,(wr (s21.2 + 1))))))) else bd (nn (wr ((wr (6 + s21.2)) - 1))) (fun u136=>(bif ((andK false 16 (shrK 16 a0 (wr ((wr (6 + s21.2)) - 1))) 1) == 1) then bd (app s21.1 [(wr (-s21.2))]) (fun xsAH=>some (Lp.nx (xsAH,(wr (s21.2 + 1))))) else some (Lp.nx (s21.1,(wr (s21.2 + 1)))))))) else some (Lp.bk (s21.1,s21.2)))) ([],1)) (fun s21=>some s21.1) (fun x21=>nomatch x21)

noncomputable def zdI (a0:List (List Int)) (a1:(List Int)→(List Int)→Option Int):Option (List (List Int)):=sortF a1 a0

def zbc (a0:Int):Bool :=
  (!(a0 == a0))

def zaU (a0:Int) (a1:Int):Int :=
  (bif (PF.zbc a0) then (bif (PF.zbc a1) then 0 else (-1)) else (bif (PF.zbc a1) then 1 else (bif (decide (a0 < a1)) then (-1) else (bif (decide (a1 < a0)) then 1 else 0))))

def zdi (a0:List Int) (a1:List Int) (a2:Int→Int→Option Int):Option Int :=
  bdR (forL (S:=Unit) (X:=Int) a0 (fun i22 y21 s22=>(bif (decide ((len a1)≤((i22:Nat):Int))) then some (Lp.rt 1) else bd (ix a1 ((i22:Nat):Int)) (fun x84=>bd (a2 y21 x84) (fun r86=>(bif (!(r86 == 0)) then some (Lp.rt r86) else some (Lp.nx ())))))) ()) (fun s22=>(bif (decide ((len a0) < (len a1))) then some (-1) else some 0)) (fun x22=>some x22)

def zcA (a0:List Int):Option Int :=
  bdR (forL (S:=Unit) (X:=Int) a0 (fun i22 y21 s22=>(bif (!(y21 == 0)) then some (Lp.rt y21) else some (Lp.nx ()))) ()) (fun s22=>some 0) (fun x22=>some x22)

def zaH (a0:Int) (a1:Int):Option Int :=
  bd (PF.zcA [(PF.zaU (PF.zau a0) (PF.zau a1)),(PF.zaU a1 a0)]) (fun r43=>some r43)

def zaJ (a0:List Int) (a1:List Int):Option Int :=
  bd (PF.zdi a0 a1 (fun x0 x1=>PF.zaH x0 x1)) (fun r24=>bd (PF.zcA [(PF.zaU (len a0) (len a1)),r24]) (fun r39=>some r39))

noncomputable def zdj (a0:zbE):Option (List (List Int)) :=
  bdR (forL (S:=(List (List Int))) (X:=Empty) a0.masks (fun i22 y21 s22=>bd (PF.zcc y21) (fun r91=>bd (app s22 [r91]) (fun xsAc=>some (Lp.nx xsAc)))) []) (fun s22=>bd (PF.zdI s22 (fun x0 x1=>PF.zaJ x0 x1)) (fun rAv=>some rAv)) (fun x22=>nomatch x22)

noncomputable def zbY (a0:Cnf):Option ((List (List Int))×Bool) :=
  bd (PF.zdg a0 0) (fun r29=>(bif (!r29) then some ([],false) else bd (PF.zdh a0 6) (fun r35=>bd r35 (fun y43=>bd (PF.zdj y43) (fun r52=>some (r52,(decide ((len r52)≤14))))))))

def zcd (a0:List (List Int)) (a1:(List Int)→Option Bool):Option Int :=
  bdR (forL (S:=Unit) (X:=Int) a0 (fun i22 y21 s22=>bd (a1 y21) (fun r68=>(bif r68 then some (Lp.rt ((i22:Nat):Int)) else some (Lp.nx ())))) ()) (fun s22=>some (-1)) (fun x22=>some x22)

def zdJ (a0:List Int) (a1:List Int):Option Bool :=
  (bif (!((len a0) == (len a1))) then some false else bdR (forL (S:=Unit) (X:=Bool) a0 (fun i23 y22 s23=>bd (ix a1 ((i23:Nat):Int)) (fun x74=>(bif (!(y22 == x74)) then some (Lp.rt false) else some (Lp.nx ())))) ()) (fun s23=>some true) (fun x23=>some x23))

def zce (a0:List Int) (b0:List Int):Option Bool :=
  bd (PF.zdJ b0 a0) (fun r21=>some r21)

def zbd (a0:List (List Int)) (a1:List Int):Option Int :=
  bd (PF.zcd a0 (fun x0=>PF.zce x0 a1)) (fun r29=>some r29)

def zcB (a0:List (List Int)) (a1:List Int):Option Bool :=
  bd (PF.zbd a0 a1) (fun r21=>some (decide (0≤r21)))

def zdk (a0:List Int) (a1:Int):Option Int :=
  bdR (forL (S:=Unit) (X:=Int) a0 (fun i22 y21 s22=>(bif (a1 == y21) then some (Lp.rt ((i22:Nat):Int)) else some (Lp.nx ()))) ()) (fun s22=>some (-1)) (fun x22=>some x22)

def zcC (a0:List Int) (a1:Int):Option Bool :=
  bd (PF.zdk a0 a1) (fun r21=>some (decide (0≤r21)))

def zcD (a0:List Int):Option (List Int) :=
  bd (app [] a0) (fun xs30=>some xs30)

def zdl (a0:List Int) (a1:Int→Option Bool):Option Int :=
  bdR (forL (S:=Unit) (X:=Int) a0 (fun i22 y21 s22=>bd (a1 y21) (fun r64=>(bif r64 then some (Lp.rt ((i22:Nat):Int)) else some (Lp.nx ())))) ()) (fun s22=>some (-1)) (fun x22=>some x22)

noncomputable def zdm (a0:List Int) (a1:Int→Option Bool):Option (List Int) :=
  bd (PF.zdl a0 a1) (fun r26=>(bif (r26 == (-1)) then some a0 else bdR (iter (S:=((List Int)×Int×Int)) (X:=Empty) (fun s32=>(bif (decide (s32.2.2 < (len s32.1))) then bd (ix s32.1 s32.2.2) (fun xAF=>bd (a1 xAF) (fun rAH=>(bif (!rAH) then bd (ix s32.1 s32.2.1) (fun xAY=>bd (put s32.1 s32.2.1 xAF) (fun xsB3=>some (Lp.nx (xsB3,(wr (s32.2.1 + 1)),(wr (s32.2.2 + 1)))))) else some (Lp.nx (s32.1,s32.2.1,(wr (s32.2.2 + 1))))))) else some (Lp.bk (s32.1,s32.2.1,s32.2.2)))) (a0,r26,(wr (r26 + 1)))) (fun s32=>bd (cut s32.1 s32.2.1 (len s32.1)) (fun xsBg=>bd (cut (clearL 0 s32.1 s32.2.1) 0 s32.2.1) (fun xsBq=>some xsBq))) (fun x32=>nomatch x32)))

def zcE (a0:Int) (b0:Int):Bool :=
  ((PF.zau a0) == b0)

noncomputable def zcF (a0:List Int) (a1:Int):Option (List Int) :=
  bd (PF.zcD a0) (fun r29=>bd (PF.zdm r29 (fun x0=>some (PF.zcE x0 a1))) (fun r39=>some r39))

def zdK (a1:Int):Option (List Int):=if 0≤a1∧a1≤lim then some [] else none

def zdn (a0:List (List Int)):Option (List Int) :=
  bdR (forL (S:=Int) (X:=Empty) a0 (fun i22 y21 s22=>(bif (decide ((wr (s22 + (len y21))) < 0)) then none else some (Lp.nx (wr (s22 + (len y21)))))) 0) (fun s22=>bd (PF.zdK s22) (fun r69=>bdR (forL (S:=(List Int)) (X:=Empty) a0 (fun i80 y79 s80=>bd (app s80 y79) (fun xsAt=>some (Lp.nx xsAt))) r69) (fun s80=>some s80) (fun x80=>nomatch x80))) (fun x22=>nomatch x22)

noncomputable def zdL (a0:List Int) (a1:Int→Int→Option Int):Option (List Int):=sortF a1 a0

def zea (a0:List Int):Option (List Int):=some (zar a0)

noncomputable def zcG (a0:List Int):Option ((List Int)×Bool) :=
  bd (PF.zcD a0) (fun r21=>bd (PF.zdL r21 (fun x0 x1=>PF.zaH x0 x1)) (fun r31=>bd (PF.zea r31) (fun r39=>bdR (iter (S:=Int) (X:=((List Int)×Bool)) (fun s49=>(bif (decide (s49 < (len r39))) then bd (ix r39 s49) (fun x94=>bd (ix r39 (wr (s49 - 1))) (fun xA2=>(bif (x94 == (wr (-xA2))) then some (Lp.rt ([],false)) else some (Lp.nx (wr (s49 + 1)))))) else some (Lp.bk s49))) 1) (fun s49=>some (r39,true)) (fun x49=>some x49))))

noncomputable def zbw (a0:List Int) (a1:List Int) (a2:Int):Option ((List Int)×Bool) :=
  bd (PF.zcC a0 a2) (fun r21=>bd (bif (!r21) then some true else bd (PF.zcC a1 (wr (-a2))) (fun r38=>some (!r38))) (fun t31=>(bif t31 then some ([],false) else bd (PF.zcF a0 a2) (fun r48=>bd (PF.zcF a1 a2) (fun r58=>bd (PF.zdn [r48,r58]) (fun r91=>bd (PF.zcG r91) (fun rA8=>some (rA8.1,rA8.2))))))))

noncomputable def zcH (a0:Cnf) (a1:List (List Int)):Option (Option zbt) :=
  bd (mk2 ([]:List Int) (len a1) (len a1)) (fun xs15029=>bdR (forL (S:=((List (List Int))×(List (List Int))×(List (List Int)))) (X:=Empty) a1 (fun i30049 y30048 s30049=>bd (PF.zcB a0.clauses y30048) (fun r3301763=>(bif r3301763 then bd (ix s30049.1 ((i30049:Nat):Int)) (fun x3334775=>bd (app x3334775 [0]) (fun xs3343769=>bd (ix s30049.1 ((i30049:Nat):Int)) (fun x3346775=>bd (put s30049.1 ((i30049:Nat):Int) xs3343769) (fun xs3349769=>bdR (forL (S:=((List (List Int))×(List (List Int))×(List (List Int)))) (X:=Empty) a1 (fun i3355793 y3355792 s3355793=>bdR (iter (S:=((List (List Int))×(List (List Int))×(List (List Int))×Int)) (X:=Empty) (fun s3977691=>(bif (decide (s3977691.2.2.2≤a0.vars)) then bd (PF.zbw y30048 y3355792 s3977691.2.2.2) (fun r4184937=>(bif r4184937.2 then bd (PF.zbd a1 r4184937.1) (fun r4184953=>bd (ix s3977691.1 r4184953) (fun x4217964=>bd (nn ((i30049:Nat):Int)) (fun u4226959=>bd (nn ((i3355793:Nat):Int)) (fun u4232959=>bd (app x4217964 [(orK false 64 (shlK false 64 1 ((i30049:Nat):Int)) (shlK false 64 1 ((i3355793:Nat):Int)))]) (fun xs4241958=>bd (ix s3977691.1 r4184953) (fun x4244964=>bd (put s3977691.1 r4184953 xs4241958) (fun xs4247958=>some (Lp.nx (xs4247958,s3977691.2.1,s3977691.2.2.1,(wr (s3977691.2.2.2 + 1))))))))))) else some (Lp.nx (s3977691.1,s3977691.2.1,s3977691.2.2.1,(wr (s3977691.2.2.2 + 1)))))) else some (Lp.bk (s3977691.1,s3977691.2.1,s3977691.2.2.1,s3977691.2.2.2)))) (s3355793.1,s3355793.2.1,s3355793.2.2,1)) (fun s3977691=>some (Lp.nx (s3977691.1,s3977691.2.1,s3977691.2.2.1))) (fun x3977691=>nomatch x3977691)) (xs3349769,s30049.2.1,s30049.2.2)) (fun s3355793=>some (Lp.nx (s3355793.1,s3355793.2.1,s3355793.2.2))) (fun x3355793=>nomatch x3355793))))) else bdR (forL (S:=((List (List Int))×(List (List Int))×(List (List Int)))) (X:=Empty) a1 (fun i4254033 y4254032 s4254033=>bdR (iter (S:=((List (List Int))×(List (List Int))×(List (List Int))×Int)) (X:=Empty) (fun s4875931=>(bif (decide (s4875931.2.2.2≤a0.vars)) then bd (PF.zbw y30048 y4254032 s4875931.2.2.2) (fun r5083177=>(bif r5083177.2 then bd (PF.zbd a1 r5083177.1) (fun r5083193=>bd (ix s4875931.1 r5083193) (fun x5116204=>bd (nn ((i30049:Nat):Int)) (fun u5125199=>bd (nn ((i4254033:Nat):Int)) (fun u5131199=>bd (app x5116204 [(orK false 64 (shlK false 64 1 ((i30049:Nat):Int)) (shlK false 64 1 ((i4254033:Nat):Int)))]) (fun xs5140198=>bd (ix s4875931.1 r5083193) (fun x5143204=>bd (put s4875931.1 r5083193 xs5140198) (fun xs5146198=>some (Lp.nx (xs5146198,s4875931.2.1,s4875931.2.2.1,(wr (s4875931.2.2.2 + 1))))))))))) else some (Lp.nx (s4875931.1,s4875931.2.1,s4875931.2.2.1,(wr (s4875931.2.2.2 + 1)))))) else some (Lp.bk (s4875931.1,s4875931.2.1,s4875931.2.2.1,s4875931.2.2.2)))) (s4254033.1,s4254033.2.1,s4254033.2.2,1)) (fun s4875931=>some (Lp.nx (s4875931.1,s4875931.2.1,s4875931.2.2.1))) (fun x4875931=>nomatch x4875931)) (s30049.1,s30049.2.1,s30049.2.2)) (fun s4254033=>some (Lp.nx (s4254033.1,s4254033.2.1,s4254033.2.2))) (fun x4254033=>nomatch x4254033)))) (xs15029,a0.clauses,a1)) (fun s30049=>some (some (zbt.mk (Cnf.mk a0.vars s30049.2.1) s30049.2.2 s30049.1))) (fun x30049=>nomatch x30049))

def oc0 (a0:Int):Int:=(wrk false 64 ((andK false 64 (shrK 64 a0 1) 6148914691236517205) + (andK false 64 a0 6148914691236517205)))
def oc1 (a0:Int):Int:=(wrk false 64 ((andK false 64 (shrK 64 (PF.oc0 a0) 2) 3689348814741910323) + (andK false 64 (PF.oc0 a0) 3689348814741910323)))
def oc2 (a0:Int):Int:=(andK false 64 (wrk false 64 ((shrK 64 (PF.oc1 a0) 4) + (PF.oc1 a0))) 1085102592571150095)
def oc3 (a0:Int):Int:=(wrk false 64 ((PF.oc2 a0) + (shrK 64 (PF.oc2 a0) 8)))
def oc4 (a0:Int):Int:=(wrk false 64 ((PF.oc3 a0) + (shrK 64 (PF.oc3 a0) 16)))
def oc5 (a0:Int):Int:=(wrk false 64 ((PF.oc4 a0) + (shrK 64 (PF.oc4 a0) 32)))
def zcI (a0:Int):Int :=
  (andK true 64 (wrk true 64 (PF.oc5 a0)) 127)

def zbK (a0:Int):Int :=
  (PF.zcI a0)

def zdM (a0:List Int) (a1:Int→Option Bool):Option Int :=
  bdR (forL (S:=Unit) (X:=Int) a0 (fun i22 y21 s22=>bd (a1 y21) (fun r64=>(bif r64 then some (Lp.rt ((i22:Nat):Int)) else some (Lp.nx ())))) ()) (fun s22=>some (-1)) (fun x22=>some x22)

def zcJ (a0:List Int) (a1:Int→Option Bool):Option Bool :=
  bd (PF.zdM a0 a1) (fun r21=>some (decide (0≤r21)))

def zbL (a0:Int) (b0:Int):Bool :=
  ((andK false 64 b0 a0) == a0)

noncomputable def zcf (a0:zbt) (a1:Int):Option (List Int) :=
  bd (nn (len a0.all)) (fun u22=>bd (mk2 (0:Int) (shlK true 64 1 (len a0.all)) (shlK true 64 1 (len a0.all))) (fun xs23=>bd (mk2 ([]:List Int) (shlK true 64 1 (len a0.all)) (shlK true 64 1 (len a0.all))) (fun xs33=>bdR (iter (S:=((List (List Int))×(List Int)×(List Int)×Int)) (X:=Empty) (fun s52=>(bif (decide (s52.2.2.2 < (wrk false 64 (shlK true 64 1 (len a0.all))))) then bd (ix s52.2.1 s52.2.2.2) (fun x312862=>bd (put s52.2.1 s52.2.2.2 (-1)) (fun xs312867=>(bif (decide (a1 < (PF.zbK s52.2.2.2))) then some (Lp.nx (s52.1,xs312867,s52.2.2.1,(wrk false 64 (s52.2.2.2 + 1)))) else bd (β:=_) (bdR (forL (S:=(List (List Int))) (X:=Empty) a0.all (fun i469132 y469131 s469132=>bd (nn ((i469132:Nat):Int)) (fun u625360=>(bif (!((andK false 64 s52.2.2.2 (shlK false 64 1 ((i469132:Nat):Int))) == 0)) then bd (β:=_) (bd (ix s469132 (anK false 64 s52.2.2.2 (shlK false 64 1 ((i469132:Nat):Int)))) (fun x679384=>bd (app x679384 [s52.2.2.2]) (fun xs691378=>bd (ix s469132 (anK false 64 s52.2.2.2 (shlK false 64 1 ((i469132:Nat):Int)))) (fun x694384=>bd (put s469132 (anK false 64 s52.2.2.2 (shlK false 64 1 ((i469132:Nat):Int))) xs691378) (fun xs697378=>some xs697378)))):Option (List (List Int))) (fun s664372=>some (Lp.nx s664372)) else bd (bif (decide ((PF.zbK s52.2.2.2) < a1)) then bd (ix a0.parents ((i469132:Nat):Int)) (fun x703425=>bd (PF.zcJ x703425 (fun x0=>some (PF.zbL x0 s52.2.2.2))) (fun r703429=>some r703429)) else some false) (fun t703412=>(bif t703412 then bd (β:=_) (bd (ix s469132 (orK false 64 s52.2.2.2 (shlK false 64 1 ((i469132:Nat):Int)))) (fun x757465=>bd (app x757465 [s52.2.2.2]) (fun xs769459=>bd (ix s469132 (orK false 64 s52.2.2.2 (shlK false 64 1 ((i469132:Nat):Int)))) (fun x772465=>bd (put s469132 (orK false 64 s52.2.2.2 (shlK false 64 1 ((i469132:Nat):Int))) xs769459) (fun xs775459=>some xs775459)))):Option (List (List Int))) (fun s742453=>some (Lp.nx s742453)) else some (Lp.nx s469132)))))) s52.1) (fun s469132=>some s469132) (fun x469132=>nomatch x469132):Option (List (List Int))) (fun s469117=>bd (bif (decide (0 < (len a0.all))) then bd (ix a0.all 0) (fun x781520=>some ((len x781520) == 0)) else some false) (fun t781507=>(bif (bif t781507 then ((andK false 64 s52.2.2.2 1) == 1) else false) then bd (ix xs312867 s52.2.2.2) (fun x781556=>bd (put xs312867 s52.2.2.2 0) (fun xs781561=>bd (app s52.2.2.1 [s52.2.2.2]) (fun xs781571=>some (Lp.nx (s469117,xs781561,xs781571,(wrk false 64 (s52.2.2.2 + 1))))))) else some (Lp.nx (s469117,xs312867,s52.2.2.1,(wrk false 64 (s52.2.2.2 + 1)))))))))) else some (Lp.bk (s52.1,s52.2.1,s52.2.2.1,s52.2.2.2)))) (xs33,xs23,[],0)) (fun s52=>bdR (iter (S:=((List Int)×(List Int))) (X:=Empty) (fun s781595=>(bif (decide (0 < (len s781595.2))) then bd (ix s781595.2 0) (fun x782029=>bd (cut s781595.2 1 (len s781595.2)) (fun xs782031=>bd (ix s52.1 x782029) (fun x782045=>bdR (forL (S:=((List Int)×(List Int))) (X:=Empty) x782045 (fun i782050 y782049 s782050=>bd (ix s782050.1 y782049) (fun x782221=>(bif (decide (x782221 < 0)) then bd (ix s782050.1 x782029) (fun x782230=>bd (ix s782050.1 y782049) (fun x782238=>bd (put s782050.1 y782049 (wr (x782230 + 1))) (fun xs782243=>bd (app s782050.2 [y782049]) (fun xs782253=>some (Lp.nx (xs782243,xs782253)))))) else some (Lp.nx (s782050.1,s782050.2))))) (s781595.1,xs782031)) (fun s782050=>some (Lp.nx (s782050.1,s782050.2))) (fun x782050=>nomatch x782050)))) else some (Lp.bk (s781595.1,s781595.2)))) (s52.2.1,s52.2.2.1)) (fun s781595=>some s781595.1) (fun x781595=>nomatch x781595)) (fun x52=>nomatch x52))))

noncomputable def zcg (a0:Cnf) (a1:Int):Option (Int×Bool) :=
  bd (PF.zbY a0) (fun r29=>(bif (bif (!r29.2) then true else (!(PF.zat a1 1 14))) then some (0,false) else bd (PF.zcH a0 r29.1) (fun r65=>bd r65 (fun y73=>bd (PF.zcf y73 a1) (fun r84=>bd (ix r84 0) (fun xA0=>(bif (!(PF.zat xA0 0 300)) then some (0,false) else some (xA0,true))))))))

def zdN (a0:List (List Int)):Option (List (List Int)) :=
  bd (app [] a0) (fun xs30=>some xs30)

def zeb (a0:List (List Int)) (a1:Int) (a2:Int):Option (List (List Int)):=delL a0 a1 a2

def zdO (a0:List (List Int)) (a1:Int):Option (List (List Int)) :=
  bd (PF.zdN a0) (fun r21=>bd (PF.zeb r21 a1 (wr (a1 + 1))) (fun r31=>some r31))

def zcK (a0:Int) (a1:Int):Bool :=
  (PF.zat a1 1 a0)

noncomputable def zdo (a0:List (List Int)) (a1:Cnf) (a2:zab):Option ((List Int)×Bool) :=
  (bif (bif (bif (bif (a2.kind == 1) then (PF.zat a2.a 0 (wr ((len a1.clauses) - 1))) else false) then (a2.b == 0) else false) then (a2.pivot == 0) else false) then bd (ix a1.clauses a2.a) (fun x86=>some (x86,true)) else (bif (bif (bif (bif (a2.kind == 2) then (PF.zat a2.a 0 (wr ((len a0) - 1))) else false) then (PF.zat a2.b 0 (wr ((len a0) - 1))) else false) then (PF.zcK a1.vars a2.pivot) else false) then bd (ix a0 a2.a) (fun x12148=>bd (ix a0 a2.b) (fun x27148=>bd (PF.zbw x12148 x27148 a2.pivot) (fun r39142=>some (r39142.1,r39142.2)))) else some ([],false)))

def zdP (a0:List (List Int)):Option (List (List Int)) :=
  bd (app [] a0) (fun xs30=>some xs30)

noncomputable def zdQ (a0:List (List Int)) (a1:(List Int)→(List Int)→Option Int):Option (List (List Int)):=sortF a1 a0

noncomputable def zdp (a0:List (List Int)) (a1:List Int):Option ((List (List Int))×Bool) :=
  bd (PF.zcB a0 a1) (fun r21=>(bif r21 then some ([],false) else bd (PF.zdP a0) (fun r27=>bd (app r27 [a1]) (fun xs42=>bd (PF.zdQ xs42 (fun x0 x1=>PF.zaJ x0 x1)) (fun r53=>some (r53,true))))))

noncomputable def zaV (a0:List (List Int)) (a1:Cnf) (a2:zab):Option ((List (List Int))×Bool) :=
  (bif (a2.kind == 3) then (bif (bif (bif (!(PF.zat a2.a 0 (wr ((len a0) - 1)))) then true else (!(a2.b == 0))) then true else (!(a2.pivot == 0))) then some ([],false) else bd (PF.zdO a0 a2.a) (fun r62=>some (r62,true))) else bd (PF.zdo a0 a1 a2) (fun r72=>(bif (!r72.2) then some ([],false) else bd (PF.zdp a0 r72.1) (fun r81=>some (r81.1,r81.2)))))

def zaN (a0:zbt) (a1:List (List Int)):Option Int :=
  bdR (forL (S:=Int) (X:=Empty) a1 (fun i22 y21 s22=>bd (PF.zbd a0.all y21) (fun r66=>bd (nn r66) (fun u72=>some (Lp.nx (orK false 64 s22 (shlK false 64 1 r66)))))) 0) (fun s22=>some s22) (fun x22=>nomatch x22)

noncomputable def zcL (a0:Cnf) (a1:Int):Option ((List zab)×Bool) :=
  bd (PF.zcg a0 a1) (fun r29=>(bif (!r29.2) then some ([],false) else bd (PF.zbY a0) (fun r42=>bd (PF.zcH a0 r42.1) (fun r60=>bd r60 (fun y79=>bd (PF.zcf y79 a1) (fun r90=>bdR (iter (S:=((List zab)×Int×(List (List Int)))) (X:=Empty) (fun sAt=>(bif (decide (0 < sAt.2.1)) then bd (β:=_) (bdR (forL (S:=((List zab)×(List (List Int)))) (X:=((List zab)×(List (List Int)))) a0.clauses (fun i1624267 y1624266 s1624267=>bd (β:=_) (bd (PF.zaV s1624267.2 a0 (zab.mk 1 ((i1624267:Nat):Int) 0 0)) (fun r1759513=>bd (bif (!r1759513.2) then some true else bd (PF.zaN y79 r1759513.1) (fun r1780528=>bd (ix r90 r1780528) (fun x1783529=>some (!(x1783529 == (wr (sAt.2.1 - 1))))))) (fun t1759522_12=>(bif t1759522_12 then some (s1624267.1,s1624267.2,true) else bd (app s1624267.1 [(zab.mk 1 ((i1624267:Nat):Int) 0 0)]) (fun xs1804540=>some (xs1804540,r1759513.1,false))))):Option ((List zab)×(List (List Int))×Bool)) (fun s1759498=>(bif (!s1759498.2.2) then some (Lp.rt (s1759498.1,s1759498.2.1)) else some (Lp.nx (s1759498.1,s1759498.2.1))))) (sAt.1,sAt.2.2)) (fun s1624267=>bdR (forL (S:=((List zab)×(List (List Int)))) (X:=((List zab)×(List (List Int)))) sAt.2.2 (fun i1804578 y1804577 s1804578=>bdR (forL (S:=((List zab)×(List (List Int)))) (X:=(Lp ((List zab)×(List (List Int))) ((List zab)×(List (List Int))))) sAt.2.2 (fun i2165550 y2165549 s2165550=>bdR (iter (S:=((List zab)×(List (List Int))×Int)) (X:=(Lp ((List zab)×(List (List Int))) (Lp ((List zab)×(List (List Int))) ((List zab)×(List (List Int)))))) (fun s2346006=>(bif (decide (s2346006.2.2≤a0.vars)) then bd (β:=_) (bd (PF.zaV s2346006.2.1 a0 (zab.mk 2 ((i1804578:Nat):Int) ((i2165550:Nat):Int) s2346006.2.2)) (fun r2481270=>bd (bif (!r2481270.2) then some true else bd (PF.zaN y79 r2481270.1) (fun r2502285=>bd (ix r90 r2502285) (fun x2505286=>some (!(x2505286 == (wr (sAt.2.1 - 1))))))) (fun t2481279_12=>(bif t2481279_12 then some (s2346006.1,s2346006.2.1,true) else bd (app s2346006.1 [(zab.mk 2 ((i1804578:Nat):Int) ((i2165550:Nat):Int) s2346006.2.2)]) (fun xs2526297=>some (xs2526297,r2481270.1,false))))):Option ((List zab)×(List (List Int))×Bool)) (fun s2481255=>(bif (!s2481255.2.2) then some (Lp.rt (Lp.rt (Lp.rt (s2481255.1,s2481255.2.1)))) else some (Lp.nx (s2481255.1,s2481255.2.1,(wr (s2346006.2.2 + 1)))))) else some (Lp.bk (s2346006.1,s2346006.2.1,s2346006.2.2)))) (s2165550.1,s2165550.2,1)) (fun s2346006=>some (Lp.nx (s2346006.1,s2346006.2.1))) (fun x2346006=>some x2346006)) (s1804578.1,s1804578.2)) (fun s2165550=>some (Lp.nx (s2165550.1,s2165550.2))) (fun x2165550=>some x2165550)) (s1624267.1,s1624267.2)) (fun s1804578=>bdR (forL (S:=((List zab)×(List (List Int)))) (X:=((List zab)×(List (List Int)))) sAt.2.2 (fun i2526372 y2526371 s2526372=>bd (β:=_) (bd (PF.zaV s2526372.2 a0 (zab.mk 3 ((i2526372:Nat):Int) 0 0)) (fun r2661612=>bd (bif (!r2661612.2) then some true else bd (PF.zaN y79 r2661612.1) (fun r2682627=>bd (ix r90 r2682627) (fun x2685628=>some (!(x2685628 == (wr (sAt.2.1 - 1))))))) (fun t2661621_12=>(bif t2661621_12 then some (s2526372.1,s2526372.2,true) else bd (app s2526372.1 [(zab.mk 3 ((i2526372:Nat):Int) 0 0)]) (fun xs2706639=>some (xs2706639,r2661612.1,false))))):Option ((List zab)×(List (List Int))×Bool)) (fun s2661597=>(bif (!s2661597.2.2) then some (Lp.rt (s2661597.1,s2661597.2.1)) else some (Lp.nx (s2661597.1,s2661597.2.1))))) (s1804578.1,s1804578.2)) (fun s2526372=>some (s2526372.1,s2526372.2)) (fun x2526372=>some x2526372)) (fun x1804578=>some x1804578)) (fun x1624267=>some x1624267):Option ((List zab)×(List (List Int)))) (fun s1624251=>some (Lp.nx (s1624251.1,(wr (sAt.2.1 - 1)),s1624251.2))) else some (Lp.bk (sAt.1,sAt.2.1,sAt.2.2)))) ([],r29.1,[])) (fun sAt=>some (sAt.1,true)) (fun xAt=>nomatch xAt)))))))

def zch (a0:zab) (a1:zab):Bool :=
  (bif (!(a0.kind == a1.kind)) then false else (bif (!(a0.a == a1.a)) then false else (bif (!(a0.b == a1.b)) then false else (bif (!(a0.pivot == a1.pivot)) then false else true))))

def zcM (a0:List zab) (a1:List zab):Option Bool :=
  (bif (!((len a0) == (len a1))) then some false else bdR (forL (S:=Unit) (X:=Bool) a0 (fun i23 y22 s23=>bd (ix a1 ((i23:Nat):Int)) (fun x72=>(bif (!(PF.zch y22 x72)) then some (Lp.rt false) else some (Lp.nx ())))) ()) (fun s23=>some true) (fun x23=>some x23))

def zdq (a0:List Int) (a1:List Int):Option Bool :=
  (bif (!((len a0) == (len a1))) then some false else bdR (forL (S:=Unit) (X:=Bool) a0 (fun i23 y22 s23=>bd (ix a1 ((i23:Nat):Int)) (fun x72=>(bif (!(y22 == x72)) then some (Lp.rt false) else some (Lp.nx ())))) ()) (fun s23=>some true) (fun x23=>some x23))

def zdR (a0:List (List Int)) (a1:List (List Int)):Option Bool :=
  (bif (!((len a0) == (len a1))) then some false else bdR (forL (S:=Unit) (X:=Bool) a0 (fun i23 y22 s23=>bd (ix a1 ((i23:Nat):Int)) (fun x80=>bd (PF.zdq y22 x80) (fun r84=>(bif (!r84) then some (Lp.rt false) else some (Lp.nx ()))))) ()) (fun s23=>some true) (fun x23=>some x23))

def zdr (a0:Cnf) (a1:Cnf):Option Bool :=
  (bif (!(a0.vars == a1.vars)) then some false else bd (PF.zdR a0.clauses a1.clauses) (fun r38=>(bif (!r38) then some false else some true)))

def za9 (a0:List Int) (a1:Int):List Int×Int :=
  zav (fun y m=>(m,(wr (m + 1)))) a0 a1

def zcN (a0:List (List Int)) (a1:Int):List (List Int)×Int :=
  zav (fun y m=>((PF.za9 y m).1,(PF.za9 y m).2)) a0 a1

def zci (a0:Cnf) (a1:Int):Cnf×Int :=
  let r:=PF.zcN a0.clauses a1
  ((Cnf.mk a0.vars r.1),r.2)

def zaW (a0:List zab) (a1:Int):List zab×Int :=
  zav (fun y m=>((zab.mk m (wr (m + 1)) (wr ((wr (m + 1)) + 1)) (wr ((wr ((wr (m + 1)) + 1)) + 1))),(wr ((wr ((wr ((wr (m + 1)) + 1)) + 1)) + 1)))) a0 a1

def zcO (a0:List zab) (a1:Int):Option Int :=
  bdR (forL (S:=Int) (X:=Int) a0 (fun i22 y21 s22=>(bif (!(y21.kind == s22)) then some (Lp.rt (-1)) else (bif (!(y21.a == (wr (s22 + 1)))) then some (Lp.rt (-1)) else (bif (!(y21.b == (wr ((wr (s22 + 1)) + 1)))) then some (Lp.rt (-1)) else (bif (!(y21.pivot == (wr ((wr ((wr (s22 + 1)) + 1)) + 1)))) then some (Lp.rt (-1)) else some (Lp.nx (wr ((wr ((wr ((wr (s22 + 1)) + 1)) + 1)) + 1)))))))) a1) (fun s22=>some s22) (fun x22=>some x22)

noncomputable def zdS (a0:Cnf) (a1:Int):Option Bool :=
  bd (PF.zcZ a0 1048576) (fun r29=>(bif (decide (r29 < 0)) then some true else bd (PF.zbT a0) (fun r36=>bd (PF.zdd r36 a1) (fun r49=>bd (PF.zbT a0) (fun r65=>bd (PF.zcL r65 a1) (fun r90=>bd (PF.zcM r90.1 r49.1) (fun rA6=>(bif (bif (!rA6) then true else (!(r90.2 == r49.2))) then some false else bd (PF.zbT a0) (fun r9128=>bd (PF.zdr r65 r9128) (fun r12128=>(bif (!r12128) then some false else bd (bif (decide ((PF.zci r65 1).2 < 0)) then some true else bd (PF.zcM r90.1 r49.1) (fun r21169=>some (!r21169))) (fun t21162=>(bif (bif t21162 then true else (!(r90.2 == r49.2))) then some false else bd (PF.zcO ((PF.zaW r90.1 1).1) 1) (fun r21204=>(bif (decide (r21204 < 0)) then some false else (bif (!(r21204 == (PF.zaW r90.1 1).2)) then some false else bd (PF.zbT a0) (fun r21212=>bd (PF.zcL r21212 a1) (fun r21225=>bd (PF.zcM r21225.1 r49.1) (fun r21241=>(bif (bif (!r21241) then true else (!(r21225.2 == r49.2))) then some false else bd (PF.zcO ((PF.zaW r90.1 1).1) 1) (fun r21258=>(bif (decide (r21258 < 0)) then some false else (bif (!(r21258 == (PF.zaW r90.1 1).2)) then some false else some true)))))))))))))))))))))))

end Go.PF
