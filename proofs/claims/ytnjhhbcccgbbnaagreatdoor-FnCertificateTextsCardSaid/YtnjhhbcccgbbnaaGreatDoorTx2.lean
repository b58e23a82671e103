/-
  Rules of walks, plain functions and their laws, part 2.
  Conditions: none.
-/
import GoSem.Core.Utf8
import Derived.Test.YtnjhhbcccgbbnaaGreatDoorTx1
set_option linter.unusedSimpArgs false
set_option linter.unusedVariables false
namespace Go.Proofs.YtnjhhbcccgbbnaaGreatDoor
def zE2(code1:List Int)(more2:List Int):Option Bool:=
 (some (bif (ltI 1048576 ((code1.length:Int))) then true else (ltI (w64 (1048576 - ((code1.length:Int)))) ((more2.length:Int))))).bind fun t4=>
 some t4
def zCm(cc1:((List Int)×Int×Int)):Option (Int×((List Int)×Int×Int)):=
 (
  bif (ltI cc1.2.1 ((cc1.1.length:Int))) then
   (
    (getI cc1.1 cc1.2.1).bind fun e4=>
    sI (IntKind.i64.wrap e4) fun b5=>
    some b5
   )
  else
   (
    some 0
   )
 ).bind fun j2=>
 sI (w64 (cc1.2.1+1)) fun f6=>
 sI (IntKind.u64.wrap ((IntKind.u64.wrap ((IntKind.u64.wrap (cc1.2.2*6364136223846793005))+(IntKind.u64.wrap j2)))+1442695040888963407)) fun f7=>
 bif (leI f6 ((cc1.1.length:Int))) then
  (
   some ((j2,(cc1.1,f6,f7)))
  )
 else
  (
   sI (IntKind.i64.wrap (andI .u64 (shrI .u64 f7 40) 255)) fun t9=>
   some ((t9,(cc1.1,f6,f7)))
  )
def zA(cc1:((List Int)×Int×Int))(vn2:Int):Option (Int×((List Int)×Int×Int)):=
 bif (leI vn2 1) then
  (
   some ((0,cc1))
  )
 else
  (
   (zCm cc1).bind fun y4=>
   bif (ltI 200 vn2) then
    (
     (zCm y4.2).bind fun y6=>
     sI (w64 ((w64 (y4.1*256))+y6.1)) fun x7=>
     (nz vn2).bind fun z8=>
     sI (Int.tmod x7 vn2) fun t9=>
     some ((t9,y6.2))
    )
   else
    (
     (nz vn2).bind fun z10=>
     sI (Int.tmod y4.1 vn2) fun t11=>
     some ((t11,y4.2))
    )
  )
def qT(cc1:((List Int)×Int×Int))(list2:List Int):Option (Int×((List Int)×Int×Int)):=
 (zA cc1 ((list2.length:Int))).bind fun y3=>
 (getI list2 y3.1).bind fun e4=>
 some ((e4,y3.2))
def zBM(cc1:((List Int)×Int×Int)):Option (Int×((List Int)×Int×Int)):=
 (zA cc1 12).bind fun y2=>
 bif (eqI y2.1 0) then
  (
   (qT y2.2 ([0,1,-1,1000000,-1000000,1000001,-1000001,-9223372036854775808,9223372036854775807,999983,999999,1000])).bind fun y4=>
   some ((y4.1,y4.2))
  )
 else
  (
   (
    bif (eqI y2.1 1) then
     (
      some (eqI y2.1 1)
     )
    else
     (
      some (eqI y2.1 2)
     )
   ).bind fun j5=>
   bif j5 then
    (
     (zA y2.2 50000).bind fun y8=>
     (zA y8.2 20).bind fun y9=>
     (zA y9.2 2).bind fun y10=>
     sI (w64 ((w64 (y8.1*(w64 (1+y9.1))))*(w64 (1 - (w64 (2*y10.1)))))) fun t11=>
     some ((t11,y10.2))
    )
   else
    (
     (
      bif (eqI y2.1 3) then
       (
        some (eqI y2.1 3)
       )
      else
       (
        some (eqI y2.1 4)
       )
     ).bind fun j12=>
     bif j12 then
      (
       (zA y2.2 2000).bind fun y15=>
       some ((y15.1,y15.2))
      )
     else
      (
       (zA y2.2 121).bind fun y16=>
       sI (w64 (y16.1 - 40)) fun t17=>
       some ((t17,y16.2))
      )
    )
  )
def zDq(cc1:((List Int)×Int×Int)):Option ((Int×Int×Int)×((List Int)×Int×Int)):=
 (zA cc1 14).bind fun y2=>
 bif (eqI y2.1 0) then
  (
   (zBM y2.2).bind fun y4=>
   (zBM y4.2).bind fun y5=>
   (zBM y5.2).bind fun y6=>
   some (((y4.1,y5.1,y6.1),y6.2))
  )
 else
  (
   bif (eqI y2.1 1) then
    (
     (qT y2.2 ([2,3,-1,0,1000])).bind fun y8=>
     (zA y8.2 20).bind fun y9=>
     (zA y9.2 21).bind fun y10=>
     (zA y10.2 20).bind fun y11=>
     sI (w64 (y8.1*y9.1)) fun f12=>
     sI (w64 (y8.1*(w64 (y10.1 - 10)))) fun f13=>
     sI (w64 (y8.1*y11.1)) fun f14=>
     some (((f12,f13,f14),y11.2))
    )
   else
    (
     bif (eqI y2.1 2) then
      (
       (zA y2.2 2000).bind fun y16=>
       (zA y16.2 3000).bind fun y17=>
       (zA y17.2 2000).bind fun y18=>
       sI (w64 (y17.1 - 1500)) fun f19=>
       some (((y16.1,f19,y18.1),y18.2))
      )
     else
      (
       bif (eqI y2.1 3) then
        (
         (zA y2.2 21).bind fun y21=>
         (zA y21.2 21).bind fun y22=>
         (zA y22.2 21).bind fun y23=>
         sI (w64 (y21.1 - 10)) fun f24=>
         sI (w64 (y22.1 - 10)) fun f25=>
         sI (w64 (y23.1 - 10)) fun f26=>
         some (((f24,f25,f26),y23.2))
        )
       else
        (
         (zA y2.2 25).bind fun y27=>
         (zA y27.2 40).bind fun y28=>
         sI (w64 (1+y27.1)) fun a29=>
         (zA y28.2 (w64 (2*a29))).bind fun y30=>
         sI (w64 ((w64 (y30.1 - a29))+1)) fun b31=>
         (nz (w64 (4*a29))).bind fun z32=>
         sI (w64 ((w64 (Int.tdiv (w64 ((w64 (b31*b31))+(w64 (4*a29)))) (w64 (4*a29))))+y28.1)) fun f33=>
         some (((a29,b31,f33),y30.2))
        )
      )
    )
  )
def jF(a1:Int)(vm2:Int):Option Int:=
 (nz vm2).bind fun z3=>
 sI (Int.tmod a1 vm2) fun vr4=>
 bif (ltI vr4 0) then
  (
   sI (w64 (vr4+vm2)) fun vr6=>
   some vr6
  )
 else
  (
   some vr4
  )
def zCY(a1:Int)(b2:Int):Option Int:=
 bif (ltI b2 a1) then
  (
   some a1
  )
 else
  (
   some b2
  )
def zDr(cc1:((List Int)×Int×Int)):Option (Int×((List Int)×Int×Int)):=
 (zA cc1 16).bind fun y2=>
 bif (eqI y2.1 0) then
  (
   (qT y2.2 ([-3,-4,-2000,-1999,-1996,-1995,-163,-2001,-2003,-2004,0,1,5,-1,-2,-5,-9223372036854775808])).bind fun y4=>
   some ((y4.1,y4.2))
  )
 else
  (
   (
    bif (eqI y2.1 1) then
     (
      some (eqI y2.1 1)
     )
    else
     (
      some (eqI y2.1 2)
     )
   ).bind fun j5=>
   bif j5 then
    (
     (zA y2.2 1998).bind fun y8=>
     sI (w64 ((-3) - y8.1)) fun d9=>
     (jF d9 4).bind fun y10=>
     bif (ltI 1 y10) then
      (
       (zCY (-2000) (w64 (d9 - 2))).bind fun y12=>
       some ((y12,y8.2))
      )
     else
      (
       some ((d9,y8.2))
      )
    )
   else
    (
     (
      bif (eqI y2.1 3) then
       (
        some (eqI y2.1 3)
       )
      else
       (
        bif (eqI y2.1 4) then
         (
          some (eqI y2.1 4)
         )
        else
         (
          some (eqI y2.1 5)
         )
       )
     ).bind fun j13=>
     bif j13 then
      (
       (qT y2.2 ([-84,-420,-231,-260,-455,-520,-660,-1155,-1320,-1380,-1428,-1540,-399,-1092,-1560,-1785])).bind fun y17=>
       some ((y17.1,y17.2))
      )
     else
      (
       (
        bif (eqI y2.1 6) then
         (
          some (eqI y2.1 6)
         )
        else
         (
          some (eqI y2.1 7)
         )
       ).bind fun j18=>
       bif j18 then
        (
         (zA y2.2 60).bind fun y21=>
         sI (w64 ((-4)*(w64 (1+y21.1)))) fun t22=>
         some ((t22,y21.2))
        )
       else
        (
         (zA y2.2 50).bind fun y23=>
         sI (w64 ((-3) - (w64 (4*y23.1)))) fun t24=>
         some ((t24,y23.2))
        )
      )
    )
  )
def qP(vn1:Int)(lo2:Int)(hi3:Int):Option Bool:=
 some (bif (leI lo2 vn1) then (leI vn1 hi3) else false)
def zBD(d1:Int):Option Bool:=
 (qP d1 (-2000) (-3)).bind fun y2=>
 (bif y2 then ((jF d1 4).bind fun y4=>some (ltI y4 2)) else some false).bind fun b5=>
 some b5
def jM(cc1:((List Int)×Int×Int)):Option (Int×((List Int)×Int×Int)):=
 (zDr cc1).bind fun y2=>
 (zBD y2.1).bind fun y3=>
 bif (!y3) then
  (
   some ((-23,y2.2))
  )
 else
  (
   some ((y2.1,y2.2))
  )
def qO(f1:(Int×Int×Int)):Option Int:=
 sI (w64 ((w64 (f1.2.1*f1.2.1)) - (w64 ((w64 (4*f1.1))*f1.2.2)))) fun t2=>
 some t2
def zBc(f1:(Int×Int×Int)):Option Bool:=
 (some (bif (bif (ltI (w64 (0 - f1.1)) f1.2.1) then (leI f1.2.1 f1.1) else false) then (bif (ltI f1.1 f1.2.2) then true else (bif (eqI f1.1 f1.2.2) then (leI 0 f1.2.1) else false)) else false)).bind fun t6=>
 some t6
def zCO(a2:Int)(d1:Int):Nat→Int→List (Int×Int×Int)→Option (List (Int×Int×Int))
 |0,_,_=>none
 |n+1,b8,l9=>
  bif (leI b8 a2) then
   (
    (nz (w64 (4*a2))).bind fun z13=>
    sI (w64 (Int.tdiv (w64 ((w64 (b8*b8)) - d1)) (w64 (4*a2)))) fun f14=>
    (qO ((a2,b8,f14))).bind fun y15=>
    (bif (eqI y15 d1) then ((zBc ((a2,b8,f14))).bind fun y17=>some y17) else some false).bind fun b18=>
    bif b18 then
     (
      (room (l9.length+([(a2,b8,f14)]).length)).bind fun u20=>
      sI (w64 (b8+1)) fun b21=>
      zCO a2 d1 n b21 (l9++([(a2,b8,f14)]))
     )
    else
     (
      sI (w64 (b8+1)) fun b22=>
      zCO a2 d1 n b22 l9
     )
   )
  else
   (
    some l9
   )
def zE6(d1:Int):Nat→Int→List (Int×Int×Int)→Option (List (Int×Int×Int))
 |0,_,_=>none
 |n+1,a2,l3=>
  bif (leI (w64 ((w64 (3*a2))*a2)) (w64 (0 - d1))) then
   (
    sI (w64 (1 - a2)) fun b7=>
    (zCO a2 d1 FU b7 l3).bind fun o11=>
    sI (w64 (a2+1)) fun a23=>
    zE6 d1 n a23 o11
   )
  else
   (
    some l3
   )
def zHX(d1:Int):Option (List (Int×Int×Int)):=
 (zE6 d1 FU 1 (([]:List (Int×Int×Int)))).bind fun o5=>
 some o5
def zAS(vn1:Int):Option Int:=
 (zCY vn1 (w64 (0 - vn1))).bind fun y2=>
 some y2
def jO:Nat→Int→Int→Option Int
 |0,_,_=>none
 |n+1,a5,b6=>
  bif (!eqI b6 0) then
   (
    (nz b6).bind fun z10=>
    sI (Int.tmod a5 b6) fun b11=>
    jO n b6 b11
   )
  else
   (
    some a5
   )
def zAR(a1:Int)(b2:Int):Option Int:=
 (zAS a1).bind fun y3=>
 (zAS b2).bind fun y4=>
 (jO FU y3 y4).bind fun o8=>
 some o8
def zAH(f1:(Int×Int×Int)):Option Int:=
 (zAR f1.1 f1.2.1).bind fun y2=>
 (zAR y2 f1.2.2).bind fun y3=>
 some y3
def zDR(y2:List (Int×Int×Int)):Nat→Int→List (Int×Int×Int)→Option (List (Int×Int×Int))
 |0,_,_=>none
 |n+1,t3,l4=>
  bif (ltI t3 ((y2.length:Int))) then
   (
    (getI y2 t3).bind fun e8=>
    (getI y2 t3).bind fun e9=>
    (zAH e9).bind fun y10=>
    bif (eqI y10 1) then
     (
      (room (l4.length+([e9]).length)).bind fun u12=>
      sI (w64 (t3+1)) fun t13=>
      zDR y2 n t13 (l4++([e9]))
     )
    else
     (
      sI (w64 (t3+1)) fun t14=>
      zDR y2 n t14 l4
     )
   )
  else
   (
    some l4
   )
def zFR(d1:Int):Option (List (Int×Int×Int)):=
 (zHX d1).bind fun y2=>
 (zDR y2 FU 0 (([]:List (Int×Int×Int)))).bind fun o6=>
 some o6
def zAK(cc1:((List Int)×Int×Int))(d2:Int):Option ((Int×Int×Int)×((List Int)×Int×Int)):=
 (zFR d2).bind fun y3=>
 (zA cc1 ((y3.length:Int))).bind fun y4=>
 (getI y3 y4.1).bind fun e5=>
 (getI y3 y4.1).bind fun e6=>
 some ((e6,y4.2))
def zV(vm1:(Int×Int×Int×Int))(vn2:(Int×Int×Int×Int)):Option (Int×Int×Int×Int):=
 sI (w64 ((w64 (vm1.1*vn2.1))+(w64 (vm1.2.1*vn2.2.2.1)))) fun f3=>
 sI (w64 ((w64 (vm1.1*vn2.2.1))+(w64 (vm1.2.1*vn2.2.2.2)))) fun f4=>
 sI (w64 ((w64 (vm1.2.2.1*vn2.1))+(w64 (vm1.2.2.2*vn2.2.2.1)))) fun f5=>
 sI (w64 ((w64 (vm1.2.2.1*vn2.2.1))+(w64 (vm1.2.2.2*vn2.2.2.2)))) fun f6=>
 some ((f3,f4,f5,f6))
def jZ:Nat→Int→Int→Int→Int→Int→List Int→Int→Int→Option (Int×Int×Int×Int×(List Int)×Int×Int)
 |0,_,_,_,_,_,_,_,_=>none
 |n+1,k3,f4,f5,f6,f7,f8,f9,f10=>
  bif (ltI 0 k3) then
   (
    (zA ((f8,f9,f10)) 9).bind fun y14=>
    sI (w64 (y14.1 - 4)) fun t15=>
    (zA y14.2 3).bind fun y16=>
    bif (eqI y16.1 0) then
     (
      (zV ((f4,f5,f6,f7)) ((1,t15,0,1))).bind fun y18=>
      sI (w64 (k3 - 1)) fun k19=>
      jZ n k19 y18.1 y18.2.1 y18.2.2.1 y18.2.2.2 y16.2.1 y16.2.2.1 y16.2.2.2
     )
    else
     (
      bif (eqI y16.1 1) then
       (
        (zV ((f4,f5,f6,f7)) ((1,0,t15,1))).bind fun y21=>
        sI (w64 (k3 - 1)) fun k22=>
        jZ n k22 y21.1 y21.2.1 y21.2.2.1 y21.2.2.2 y16.2.1 y16.2.2.1 y16.2.2.2
       )
      else
       (
        (zV ((f4,f5,f6,f7)) ((0,-1,1,0))).bind fun y23=>
        sI (w64 (k3 - 1)) fun k24=>
        jZ n k24 y23.1 y23.2.1 y23.2.2.1 y23.2.2.2 y16.2.1 y16.2.2.1 y16.2.2.2
       )
     )
   )
  else
   (
    some (f4,f5,f6,f7,f8,f9,f10)
   )
def zDC(cc1:((List Int)×Int×Int)):Option ((Int×Int×Int×Int)×((List Int)×Int×Int)):=
 (zA cc1 6).bind fun y2=>
 (jZ FU y2.1 1 0 0 1 y2.2.1 y2.2.2.1 y2.2.2.2).bind fun o12=>
 some (((o12.1,o12.2.1,o12.2.2.1,o12.2.2.2.1),o12.2.2.2.2))
def zAb(f1:(Int×Int×Int))(x2:Int)(y3:Int):Option Int:=
 sI (w64 ((w64 ((w64 ((w64 (f1.1*x2))*x2))+(w64 ((w64 (f1.2.1*x2))*y3))))+(w64 ((w64 (f1.2.2*y3))*y3)))) fun t4=>
 some t4
def zEN(f1:(Int×Int×Int))(x2:Int)(y3:Int)(u4:Int)(v5:Int):Option Int:=
 sI (w64 ((w64 ((w64 ((w64 ((w64 (2*f1.1))*x2))*u4))+(w64 (f1.2.1*(w64 ((w64 (x2*v5))+(w64 (y3*u4))))))))+(w64 ((w64 ((w64 (2*f1.2.2))*y3))*v5)))) fun t6=>
 some t6
def zCZ(f1:(Int×Int×Int))(vm2:(Int×Int×Int×Int)):Option (Int×Int×Int):=
 (zAb f1 vm2.1 vm2.2.2.1).bind fun y3=>
 (zEN f1 vm2.1 vm2.2.2.1 vm2.2.1 vm2.2.2.2).bind fun y4=>
 (zAb f1 vm2.2.1 vm2.2.2.2).bind fun y5=>
 some ((y3,y4,y5))
def zAA(vn1:Int):Option Bool:=
 (qP vn1 (-1000000) 1000000).bind fun y2=>
 some y2
def zDP(f1:(Int×Int×Int)):Option Bool:=
 (zAA f1.1).bind fun y2=>
 (bif y2 then ((zAA f1.2.1).bind fun y4=>some y4) else some false).bind fun b5=>
 (bif b5 then ((zAA f1.2.2).bind fun y7=>some y7) else some false).bind fun b8=>
 some b8
def jV(cc1:((List Int)×Int×Int))(f2:(Int×Int×Int)):Option ((Int×Int×Int)×((List Int)×Int×Int)):=
 (zDC cc1).bind fun y3=>
 (zCZ f2 y3.1).bind fun y4=>
 (zDP y4).bind fun y5=>
 bif (!y5) then
  (
   some ((f2,y3.2))
  )
 else
  (
   some ((y4,y3.2))
  )
def jW(cc1:((List Int)×Int×Int)):Option ((Int×Int×Int)×((List Int)×Int×Int)):=
 (zA cc1 12).bind fun y2=>
 bif (eqI y2.1 0) then
  (
   (zDq y2.2).bind fun y4=>
   some ((y4.1,y4.2))
  )
 else
  (
   bif (eqI y2.1 1) then
    (
     (jM y2.2).bind fun y6=>
     (zAK y6.2 y6.1).bind fun y7=>
     (zA y7.2 5).bind fun y8=>
     sI (w64 (1+y8.1)) fun k9=>
     (jV y8.2 ((w64 (k9*y7.1.1),w64 (k9*y7.1.2.1),w64 (k9*y7.1.2.2)))).bind fun y10=>
     some ((y10.1,y10.2))
    )
   else
    (
     bif (eqI y2.1 2) then
      (
       (zA y2.2 1000000).bind fun y12=>
       (zA y12.2 1000001).bind fun y13=>
       (zA y13.2 750001).bind fun y14=>
       sI (w64 (1+y12.1)) fun f15=>
       sI (w64 (250000+y14.1)) fun f16=>
       some (((f15,y13.1,f16),y14.2))
      )
     else
      (
       (jM y2.2).bind fun y17=>
       (zAK y17.2 y17.1).bind fun y18=>
       (jV y18.2 y18.1).bind fun y19=>
       some ((y19.1,y19.2))
      )
    )
  )
def jU(f1:(Int×Int×Int)):Option Bool:=
 (zDP f1).bind fun y2=>
 (bif y2 then ((qO f1).bind fun y4=>some (ltI y4 0)) else some false).bind fun b5=>
 some (bif b5 then (ltI 0 f1.1) else false)
def zFZ(f1:(Int×Int×Int)):Option Int:=
 (jF (w64 (f1.1 - f1.2.1)) (w64 (2*f1.1))).bind fun y2=>
 (nz (w64 (2*f1.1))).bind fun z3=>
 sI (w64 (Int.tdiv (w64 ((w64 (f1.1 - f1.2.1)) - y2)) (w64 (2*f1.1)))) fun t4=>
 some t4
def zEf(f1:(Int×Int×Int)):Option (Int×Int×Int×Int):=
 (zFZ f1).bind fun y2=>
 bif (!eqI y2 0) then
  (
   some ((1,y2,0,1))
  )
 else
  (
   (zBc f1).bind fun y4=>
   bif y4 then
    (
     some ((1,0,0,1))
    )
   else
    (
     some ((0,-1,1,0))
    )
  )
def zDZ:Nat→Int→Int→Int→Int→Int→Int→Int→Option (Int×Int×Int×Int×Int×Int×Int)
 |0,_,_,_,_,_,_,_=>none
 |n+1,f2,f3,f4,f5,f6,f7,f8=>
  (zBc ((f6,f7,f8))).bind fun y11=>
  bif (!y11) then
   (
    (zEf ((f6,f7,f8))).bind fun y13=>
    (zCZ ((f6,f7,f8)) y13).bind fun y14=>
    (zV ((f2,f3,f4,f5)) y13).bind fun y15=>
    zDZ n y15.1 y15.2.1 y15.2.2.1 y15.2.2.2 y14.1 y14.2.1 y14.2.2
   )
  else
   (
    some (f2,f3,f4,f5,f6,f7,f8)
   )
def qH(f1:(Int×Int×Int)):Option ((Int×Int×Int)×(Int×Int×Int×Int)):=
 (zDZ FU 1 0 0 1 f1.1 f1.2.1 f1.2.2).bind fun o10=>
 some ((o10.2.2.2.2,(o10.1,o10.2.1,o10.2.2.1,o10.2.2.2.1)))
def zGC(vm1:(Int×Int×Int×Int)):Option Int:=
 sI (w64 ((w64 (vm1.1*vm1.2.2.2)) - (w64 (vm1.2.1*vm1.2.2.1)))) fun t2=>
 some t2
def zCS(vm1:(Int×Int×Int×Int)):Option (Int×Int×Int×Int):=
 (zGC vm1).bind fun y2=>
 sI (w64 (y2*vm1.2.2.2)) fun f3=>
 sI (w64 ((w64 (0 - y2))*vm1.2.1)) fun f4=>
 sI (w64 ((w64 (0 - y2))*vm1.2.2.1)) fun f5=>
 sI (w64 (y2*vm1.1)) fun f6=>
 some ((f3,f4,f5,f6))
def zCv(vm1:(Int×Int×Int×Int)):Option Bool:=
 (zAA vm1.1).bind fun y2=>
 (bif y2 then ((zAA vm1.2.1).bind fun y4=>some y4) else some false).bind fun b5=>
 (bif b5 then ((zAA vm1.2.2.1).bind fun y7=>some y7) else some false).bind fun b8=>
 (bif b8 then ((zAA vm1.2.2.2).bind fun y10=>some y10) else some false).bind fun b11=>
 some b11
def zBW(f1:(Int×Int×Int))(g2:(Int×Int×Int)):Option ((Int×Int×Int×Int)×Bool):=
 (jU f1).bind fun y3=>
 (bif (!y3) then some true else ((jU g2).bind fun y5=>some (!y5))).bind fun b6=>
 bif b6 then
  (
   some (((0,0,0,0),false))
  )
 else
  (
   (qH f1).bind fun y8=>
   (qH g2).bind fun y9=>
   (zCS y9.2).bind fun y10=>
   (zV y8.2 y10).bind fun y11=>
   (bif (!((y8.1.1==y9.1.1)&&((y8.1.2.1==y9.1.2.1)&&(y8.1.2.2==y9.1.2.2)))) then some true else ((zCv y11).bind fun y13=>some (!y13))).bind fun b14=>
   bif b14 then
    (
     some (((0,0,0,0),false))
    )
   else
    (
     some ((y11,true))
    )
  )
def zB3:Nat→Int→Option qe
 |0,_=>none
 |n+1,vn1=>
  bif (ltI vn1 10) then
   (
    some (zCj ([IntKind.u8.wrap (w64 (48+vn1))]))
   )
  else
   (
    (zB3 n (w64 (Int.tdiv vn1 10))).bind fun y3=>
    (catR y3 (zCj ([IntKind.u8.wrap (w64 (48+(Int.tmod vn1 10)))]))).bind fun u4=>
    some (y3++(zCj ([IntKind.u8.wrap (w64 (48+(Int.tmod vn1 10)))])))
   )
def zU(vn1:Int):Option qe:=
 bif (ltI vn1 0) then
  (
   (zB3 FU (w64 (0 - vn1))).bind fun y3=>
   (catR ((⟨#[45]⟩:qe)) y3).bind fun u4=>
   some (((⟨#[45]⟩:qe))++y3)
  )
 else
  (
   (zB3 FU vn1).bind fun y5=>
   some y5
  )
def jS(f1:(Int×Int×Int)):Option qe:=
 (zU f1.1).bind fun y2=>
 (catR ((⟨#[40]⟩:qe)) y2).bind fun u3=>
 (catR (((⟨#[40]⟩:qe))++y2) ((⟨#[44]⟩:qe))).bind fun u4=>
 (zU f1.2.1).bind fun y5=>
 (catR ((((⟨#[40]⟩:qe))++y2)++((⟨#[44]⟩:qe))) y5).bind fun u6=>
 (catR (((((⟨#[40]⟩:qe))++y2)++((⟨#[44]⟩:qe)))++y5) ((⟨#[44]⟩:qe))).bind fun u7=>
 (zU f1.2.2).bind fun y8=>
 (catR ((((((⟨#[40]⟩:qe))++y2)++((⟨#[44]⟩:qe)))++y5)++((⟨#[44]⟩:qe))) y8).bind fun u9=>
 (catR (((((((⟨#[40]⟩:qe))++y2)++((⟨#[44]⟩:qe)))++y5)++((⟨#[44]⟩:qe)))++y8) ((⟨#[41]⟩:qe))).bind fun u10=>
 some ((((((((⟨#[40]⟩:qe))++y2)++((⟨#[44]⟩:qe)))++y5)++((⟨#[44]⟩:qe)))++y8)++((⟨#[41]⟩:qe)))
def zAT(vm1:(Int×Int×Int×Int)):Option qe:=
 (zU vm1.1).bind fun y2=>
 (catR ((⟨#[91]⟩:qe)) y2).bind fun u3=>
 (catR (((⟨#[91]⟩:qe))++y2) ((⟨#[44]⟩:qe))).bind fun u4=>
 (zU vm1.2.1).bind fun y5=>
 (catR ((((⟨#[91]⟩:qe))++y2)++((⟨#[44]⟩:qe))) y5).bind fun u6=>
 (catR (((((⟨#[91]⟩:qe))++y2)++((⟨#[44]⟩:qe)))++y5) ((⟨#[59]⟩:qe))).bind fun u7=>
 (zU vm1.2.2.1).bind fun y8=>
 (catR ((((((⟨#[91]⟩:qe))++y2)++((⟨#[44]⟩:qe)))++y5)++((⟨#[59]⟩:qe))) y8).bind fun u9=>
 (catR (((((((⟨#[91]⟩:qe))++y2)++((⟨#[44]⟩:qe)))++y5)++((⟨#[59]⟩:qe)))++y8) ((⟨#[44]⟩:qe))).bind fun u10=>
 (zU vm1.2.2.2).bind fun y11=>
 (catR ((((((((⟨#[91]⟩:qe))++y2)++((⟨#[44]⟩:qe)))++y5)++((⟨#[59]⟩:qe)))++y8)++((⟨#[44]⟩:qe))) y11).bind fun u12=>
 (catR (((((((((⟨#[91]⟩:qe))++y2)++((⟨#[44]⟩:qe)))++y5)++((⟨#[59]⟩:qe)))++y8)++((⟨#[44]⟩:qe)))++y11) ((⟨#[93]⟩:qe))).bind fun u13=>
 some ((((((((((⟨#[91]⟩:qe))++y2)++((⟨#[44]⟩:qe)))++y5)++((⟨#[59]⟩:qe)))++y8)++((⟨#[44]⟩:qe)))++y11)++((⟨#[93]⟩:qe)))
def zBd(l1:List qe):Nat→qe→Int→Option qe
 |0,_,_=>none
 |n+1,out2,t3=>
  bif (ltI t3 ((l1.length:Int))) then
   (
    (getI l1 t3).bind fun e7=>
    bif (ltI 0 t3) then
     (
      (catR out2 ((⟨#[32]⟩:qe))).bind fun u9=>
      (catR (out2++((⟨#[32]⟩:qe))) e7).bind fun u10=>
      sI (w64 (t3+1)) fun t11=>
      zBd l1 n ((out2++((⟨#[32]⟩:qe)))++e7) t11
     )
    else
     (
      (catR out2 e7).bind fun u12=>
      sI (w64 (t3+1)) fun t13=>
      zBd l1 n (out2++e7) t13
     )
   )
  else
   (
    some out2
   )
def j0(l1:List qe):Option qe:=
 (zBd l1 FU ((⟨#[]⟩:qe)) 0).bind fun o5=>
 some o5
def zA2(f1:(Int×Int×Int))(g2:(Int×Int×Int)):Option (qe×Bool):=
 (zBW f1 g2).bind fun y3=>
 bif (!y3.2) then
  (
   some (((⟨#[]⟩:qe),false))
  )
 else
  (
   (jS f1).bind fun y5=>
   (jS g2).bind fun y6=>
   (zAT y3.1).bind fun y7=>
   (j0 ([(⟨#[101,113,117,105,118,97,108,101,110,116]⟩:qe),y5,y6,y7])).bind fun y8=>
   some ((y8,true))
  )
def q9(cc1:((List Int)×Int×Int))(vn2:Int):Option (Bool×((List Int)×Int×Int)):=
 (zA cc1 vn2).bind fun y3=>
 some ((eqI y3.1 0,y3.2))
def zAL(cc1:((List Int)×Int×Int)):Option ((Int×Int×Int)×((List Int)×Int×Int)):=
 (q9 cc1 12).bind fun y2=>
 bif y2.1 then
  (
   (jW y2.2).bind fun y4=>
   some ((y4.1,y4.2))
  )
 else
  (
   (jM y2.2).bind fun y5=>
   (zAK y5.2 y5.1).bind fun y6=>
   (q9 y6.2 2).bind fun y7=>
   bif y7.1 then
    (
     (jV y7.2 y6.1).bind fun y9=>
     some ((y9.1,y9.2))
    )
   else
    (
     some ((y6.1,y7.2))
    )
  )
def zEC(f1:(Int×Int×Int)):Option Bool:=
 (jU f1).bind fun y2=>
 (bif y2 then ((qO f1).bind fun y4=>some (leI (-2000) y4)) else some false).bind fun b5=>
 some b5
def zC0(f1:(Int×Int×Int)):Option Bool:=
 (zEC f1).bind fun y2=>
 (bif y2 then ((zAH f1).bind fun y4=>some (eqI y4 1)) else some false).bind fun b5=>
 some b5
def zAV(cc1:((List Int)×Int×Int)):Option ((Int×Int×Int)×(Int×Int×Int)×((List Int)×Int×Int)):=
 (zAL cc1).bind fun y2=>
 (zC0 y2.1).bind fun y3=>
 (bif (!y3) then some ((true,y2.2)) else ((q9 y2.2 16).bind fun y5=>some ((y5.1,y5.2)))).bind fun b6=>
 bif b6.1 then
  (
   (zAL b6.2).bind fun y8=>
   some ((y2.1,y8.1,y8.2))
  )
 else
  (
   (qO y2.1).bind fun y9=>
   (zAK b6.2 y9).bind fun y10=>
   (q9 y10.2 2).bind fun y11=>
   bif y11.1 then
    (
     (jV y11.2 y10.1).bind fun y13=>
     some ((y2.1,y13.1,y13.2))
    )
   else
    (
     some ((y2.1,y10.1,y11.2))
    )
  )
def zAd(f1:(Int×Int×Int))(g2:(Int×Int×Int)):Option (qe×Bool):=
 (jU f1).bind fun y3=>
 (bif (!y3) then some true else ((jU g2).bind fun y5=>some (!y5))).bind fun b6=>
 bif b6 then
  (
   some (((⟨#[]⟩:qe),false))
  )
 else
  (
   (qH f1).bind fun y8=>
   (qH g2).bind fun y9=>
   (some (((y8.1.1==y9.1.1)&&((y8.1.2.1==y9.1.2.1)&&(y8.1.2.2==y9.1.2.2))))).bind fun t10=>
   bif t10 then
    (
     some (((⟨#[]⟩:qe),false))
    )
   else
    (
     (jS f1).bind fun y12=>
     (zAT y8.2).bind fun y13=>
     (jS y8.1).bind fun y14=>
     (jS g2).bind fun y15=>
     (zAT y9.2).bind fun y16=>
     (jS y9.1).bind fun y17=>
     (j0 ([(⟨#[100,105,102,102,101,114,101,110,116]⟩:qe),y12,y13,y14,y15,y16,y17])).bind fun y18=>
     some ((y18,true))
    )
  )
def zAU(f1:(Int×Int×Int)):Option (Int×Int×Int):=
 (qH f1).bind fun y2=>
 some y2.1
def zCR(cc1:((List Int)×Int×Int))(f2:(Int×Int×Int)):Option (Int×((List Int)×Int×Int)):=
 (zA cc1 8).bind fun y3=>
 bif (eqI y3.1 0) then
  (
   (qT y3.2 ([0,1,-1,10000,10001,4611686018427387904])).bind fun y5=>
   some ((y5.1,y5.2))
  )
 else
  (
   (
    bif (eqI y3.1 1) then
     (
      some (eqI y3.1 1)
     )
    else
     (
      some (eqI y3.1 2)
     )
   ).bind fun j6=>
   bif j6 then
    (
     (zA y3.2 200).bind fun y9=>
     sI (w64 (1+y9.1)) fun t10=>
     some ((t10,y9.2))
    )
   else
    (
     bif (eqI y3.1 3) then
      (
       (zA y3.2 10000).bind fun y12=>
       sI (w64 (1+y12.1)) fun t13=>
       some ((t13,y12.2))
      )
     else
      (
       (zEC f2).bind fun y14=>
       bif (!y14) then
        (
         (zA y3.2 50).bind fun y16=>
         sI (w64 (1+y16.1)) fun t17=>
         some ((t17,y16.2))
        )
       else
        (
         (zAU f2).bind fun y18=>
         (zA y3.2 13).bind fun y19=>
         (zA y19.2 13).bind fun y20=>
         (zAb y18 (w64 (y19.1 - 6)) (w64 (y20.1 - 6))).bind fun y21=>
         (q9 y20.2 4).bind fun y22=>
         bif y22.1 then
          (
           (qT y22.2 ([4,9,25,2,3])).bind fun y24=>
           sI (w64 (y21*y24.1)) fun vn25=>
           some ((vn25,y24.2))
          )
         else
          (
           some ((y21,y22.2))
          )
        )
      )
    )
  )
def zCE(cc1:((List Int)×Int×Int)):Option ((Int×Int×Int)×Int×((List Int)×Int×Int)):=
 (jM cc1).bind fun y2=>
 (zAK y2.2 y2.1).bind fun y3=>
 (jV y3.2 y3.1).bind fun y4=>
 (
  (zA y4.2 12).bind fun y6=>
  bif (eqI y6.1 0) then
   (
    (jW y6.2).bind fun y8=>
    some (y8.1.1,y8.1.2.1,y8.1.2.2,y8.2.1,y8.2.2.1,y8.2.2.2)
   )
  else
   (
    bif (eqI y6.1 1) then
     (
      (zA y6.2 4).bind fun y10=>
      some (3,y10.1,3,y10.2.1,y10.2.2.1,y10.2.2.2)
     )
    else
     (
      bif (eqI y6.1 2) then
       (
        (zA y6.2 2).bind fun y12=>
        (zA y12.2 2).bind fun y13=>
        sI (w64 (1+y12.1)) fun f14=>
        sI (w64 (1+y13.1)) fun f15=>
        some (f14,0,f15,y13.2.1,y13.2.2.1,y13.2.2.2)
       )
      else
       (
        some (y4.1.1,y4.1.2.1,y4.1.2.2,y6.2.1,y6.2.2.1,y6.2.2.2)
       )
     )
   )
 ).bind fun j5=>
 (zCR j5.2.2.2 ((j5.1,j5.2.1,j5.2.2.1))).bind fun y16=>
 some (((j5.1,j5.2.1,j5.2.2.1),y16.1,y16.2))
def zC5(vn1:Int):Option Bool:=
 (qP vn1 1 10000).bind fun y2=>
 some y2
def zDS(vn1:Int):Nat→Int→Int→Option Int
 |0,_,_=>none
 |n+1,lo2,hi3=>
  bif (ltI lo2 hi3) then
   (
    sI (w64 (Int.tdiv (w64 ((w64 (lo2+hi3))+1)) 2)) fun mid7=>
    bif (leI (w64 (mid7*mid7)) vn1) then
     (
      zDS vn1 n mid7 hi3
     )
    else
     (
      sI (w64 (mid7 - 1)) fun hi9=>
      zDS vn1 n lo2 hi9
     )
   )
  else
   (
    some lo2
   )
def zDN(vn1:Int):Option Int:=
 (zDS vn1 FU 0 1000000000).bind fun o5=>
 some o5
def zDi(l1:List (Int×Int))(p2:(Int×Int)):Nat→Int→Option (Unit ⊕ Bool)
 |0,_=>none
 |n+1,t3=>
  bif (ltI t3 ((l1.length:Int))) then
   (
    (getI l1 t3).bind fun e7=>
    bif (((e7.1==p2.1)&&(e7.2==p2.2))) then
     (
      some (.inr true)
     )
    else
     (
      sI (w64 (t3+1)) fun t9=>
      zDi l1 p2 n t9
     )
   )
  else
   (
    some (.inl ())
   )
def zE1(l1:List (Int×Int))(p2:(Int×Int)):Option Bool:=
 (zDi l1 p2 FU 0).bind fun qo5=>
 match qo5 with
 | .inr r=>some r
 | .inl o5=>some false
def zDh(l1:List (Int×Int))(p2:(Int×Int)):Nat→Int→Option Int
 |0,_=>none
 |n+1,k3=>
  (bif (ltI k3 ((l1.length:Int))) then ((getI l1 k3).bind fun e7=>(bif (ltI e7.1 p2.1) then some true else ((getI l1 k3).bind fun e9=>(bif (eqI e9.1 p2.1) then ((getI l1 k3).bind fun e11=>some (ltI e11.2 p2.2)) else some false).bind fun b12=>some b12)).bind fun b13=>some b13) else some false).bind fun b14=>
  bif b14 then
   (
    sI (w64 (k3+1)) fun k16=>
    zDh l1 p2 n k16
   )
  else
   (
    some k3
   )
def zFD(l1:List (Int×Int))(p2:(Int×Int)):Option (List (Int×Int)):=
 (zDh l1 p2 FU 0).bind fun o5=>
 (slc l1.length 0 o5).bind fun u17=>
 (room ((([]:List (Int×Int))).length+(subl l1 0 o5).length)).bind fun u18=>
 (room (((([]:List (Int×Int)))++(subl l1 0 o5)).length+([p2]).length)).bind fun u19=>
 (slc l1.length o5 ((l1.length:Int))).bind fun u20=>
 (room ((((([]:List (Int×Int)))++(subl l1 0 o5))++([p2])).length+(subl l1 o5 ((l1.length:Int))).length)).bind fun u21=>
 (some ((((([]:List (Int×Int)))++(subl l1 0 o5))++([p2]))++(subl l1 o5 ((l1.length:Int))))).bind fun l22=>
 some l22
def zAa(e21:Int)(f1:(Int×Int×Int))(t14:Int)(t16:Int)(t22:Int)(vn2:Int)(y10:Int)(y3:Int)(y4:Int):Nat→List (Int×Int)→Int→Option (List (Int×Int))
 |0,_,_=>none
 |n+1,out23,t24=>
  bif (ltI t24 t22) then
   (
    (getI ([y10,w64 (0 - y10)]:List Int) t24).bind fun e28=>
    (getI ([y10,w64 (0 - y10)]:List Int) t24).bind fun e29=>
    (nz (w64 (2*f1.1))).bind fun z30=>
    (some (eqI (Int.tmod (w64 (e29 - (w64 (f1.2.1*e21)))) (w64 (2*f1.1))) 0)).bind fun t31=>
    bif t31 then
     (
      (nz (w64 (2*f1.1))).bind fun z33=>
      sI (w64 (Int.tdiv (w64 (e29 - (w64 (f1.2.1*e21)))) (w64 (2*f1.1)))) fun f34=>
      (zE1 out23 ((f34,e21))).bind fun y35=>
      bif (!y35) then
       (
        (zFD out23 ((f34,e21))).bind fun y37=>
        sI (w64 (t24+1)) fun t38=>
        zAa e21 f1 t14 t16 t22 vn2 y10 y3 y4 n y37 t38
       )
      else
       (
        sI (w64 (t24+1)) fun t39=>
        zAa e21 f1 t14 t16 t22 vn2 y10 y3 y4 n out23 t39
       )
     )
    else
     (
      sI (w64 (t24+1)) fun t40=>
      zAa e21 f1 t14 t16 t22 vn2 y10 y3 y4 n out23 t40
     )
   )
  else
   (
    some out23
   )
def zCG(f1:(Int×Int×Int))(t14:Int)(vn2:Int)(y10:Int)(y3:Int)(y4:Int):Nat→List (Int×Int)→Int→Option (List (Int×Int))
 |0,_,_=>none
 |n+1,out15,t16=>
  bif (ltI t16 t14) then
   (
    (getI ([y4,w64 (0 - y4)]:List Int) t16).bind fun e20=>
    (getI ([y4,w64 (0 - y4)]:List Int) t16).bind fun e21=>
    sI ((([y10,w64 (0 - y10)]).length:Int)) fun t22=>
    (zAa e21 f1 t14 t16 t22 vn2 y10 y3 y4 FU out15 0).bind fun o26=>
    sI (w64 (t16+1)) fun t41=>
    zCG f1 t14 vn2 y10 y3 y4 n o26 t41
   )
  else
   (
    some out15
   )
def zEJ(f1:(Int×Int×Int))(vn2:Int)(y3:Int):Nat→Int→List (Int×Int)→Option (List (Int×Int))
 |0,_,_=>none
 |n+1,y4,out5=>
  (some (leI (w64 ((w64 ((w64 (0 - y3))*y4))*y4)) (w64 ((w64 (4*f1.1))*vn2)))).bind fun t8=>
  bif t8 then
   (
    (zDN (w64 ((w64 ((w64 (y3*y4))*y4))+(w64 ((w64 (4*f1.1))*vn2))))).bind fun y10=>
    (some (!eqI (w64 (y10*y10)) (w64 ((w64 ((w64 (y3*y4))*y4))+(w64 ((w64 (4*f1.1))*vn2)))))).bind fun t11=>
    bif t11 then
     (
      sI (w64 (y4+1)) fun y13=>
      zEJ f1 vn2 y3 n y13 out5
     )
    else
     (
      sI ((([y4,w64 (0 - y4)]).length:Int)) fun t14=>
      (zCG f1 t14 vn2 y10 y3 y4 FU out5 0).bind fun o18=>
      sI (w64 (y4+1)) fun y42=>
      zEJ f1 vn2 y3 n y42 o18
     )
   )
  else
   (
    some out5
   )
def zGt(f1:(Int×Int×Int))(vn2:Int):Option (List (Int×Int)):=
 (qO f1).bind fun y3=>
 (zEJ f1 vn2 y3 FU 0 (([]:List (Int×Int)))).bind fun o7=>
 some o7
def zAj(l1:List (Int×Int)):Nat→Int→List (Int×Int)→Option (List (Int×Int))
 |0,_,_=>none
 |n+1,t2,l3=>
  bif (ltI t2 ((l1.length:Int))) then
   (
    (getI l1 t2).bind fun e7=>
    (zAR e7.1 e7.2).bind fun y8=>
    bif (eqI y8 1) then
     (
      (room (l3.length+([e7]).length)).bind fun u10=>
      sI (w64 (t2+1)) fun t11=>
      zAj l1 n t11 (l3++([e7]))
     )
    else
     (
      sI (w64 (t2+1)) fun t12=>
      zAj l1 n t12 l3
     )
   )
  else
   (
    some l3
   )
def zE0(l1:List (Int×Int)):Option (List (Int×Int)):=
 (zAj l1 FU 0 (([]:List (Int×Int)))).bind fun o5=>
 some o5
def zA6(f1:(Int×Int×Int))(vn2:Int):Option ((List (Int×Int))×Bool):=
 (zEC f1).bind fun y3=>
 (bif (!y3) then some true else ((zC5 vn2).bind fun y5=>some (!y5))).bind fun b6=>
 bif b6 then
  (
   some ((([]:List (Int×Int)),false))
  )
 else
  (
   (zGt f1 vn2).bind fun y8=>
   (zE0 y8).bind fun y9=>
   some ((y9,true))
  )
def zBe(f1:(Int×Int×Int))(vn2:Int):Option (qe×Bool):=
 (zA6 f1 vn2).bind fun y3=>
 bif (bif (!y3.2) then true else (eqI ((y3.1.length:Int)) 0)) then
  (
   some (((⟨#[]⟩:qe),false))
  )
 else
  (
   (jS f1).bind fun y6=>
   (zU vn2).bind fun y7=>
   (getI y3.1 0).bind fun e8=>
   (getI y3.1 0).bind fun e9=>
   (zU e9.1).bind fun y10=>
   (getI y3.1 0).bind fun e11=>
   (getI y3.1 0).bind fun e12=>
   (zU e12.2).bind fun y13=>
   (j0 ([(⟨#[118,97,108,117,101]⟩:qe),y6,y7,y10,y13])).bind fun y14=>
   some ((y14,true))
  )
def zC7(d3:Int):Nat→Int→List Int→Option (Int×(List Int))
 |0,_,_=>none
 |n+1,vn8,l9=>
  (nz d3).bind fun z12=>
  bif (eqI (Int.tmod vn8 d3) 0) then
   (
    (room (l9.length+([d3]).length)).bind fun u14=>
    (nz d3).bind fun z15=>
    sI (w64 (Int.tdiv vn8 d3)) fun vn16=>
    zC7 d3 n vn16 (l9++([d3]))
   )
  else
   (
    some (vn8,l9)
   )
def zCD:Nat→Int→Int→List Int→Option (Int×(List Int))
 |0,_,_,_=>none
 |n+1,vn2,d3,l4=>
  bif (leI (w64 (d3*d3)) vn2) then
   (
    (zC7 d3 FU vn2 l4).bind fun o11=>
    sI (w64 (d3+1)) fun d17=>
    zCD n o11.1 d17 o11.2
   )
  else
   (
    some (vn2,l4)
   )
def zEM(vn1:Int):Option (List Int):=
 (zCD FU vn1 2 (([]:List Int))).bind fun o6=>
 bif (ltI 1 o6.1) then
  (
   (room (o6.2.length+([o6.1]).length)).bind fun u19=>
   some (o6.2++([o6.1]))
  )
 else
  (
   some o6.2
  )
def zDk(l1:List Int)(vn2:Int):Nat→Int→Option Int
 |0,_=>none
 |n+1,k3=>
  (bif (ltI k3 ((l1.length:Int))) then ((getI l1 k3).bind fun e7=>some (ltI e7 vn2)) else some false).bind fun b8=>
  bif b8 then
   (
    sI (w64 (k3+1)) fun k10=>
    zDk l1 vn2 n k10
   )
  else
   (
    some k3
   )
def zGA(l1:List Int)(vn2:Int):Option (List Int):=
 (zDk l1 vn2 FU 0).bind fun o5=>
 (bif (ltI o5 ((l1.length:Int))) then ((getI l1 o5).bind fun e12=>some (eqI e12 vn2)) else some false).bind fun b13=>
 bif b13 then
  (
   some l1
  )
 else
  (
   (slc l1.length 0 o5).bind fun u15=>
   (room ((([]:List Int)).length+(subl l1 0 o5).length)).bind fun u16=>
   (room (((([]:List Int))++(subl l1 0 o5)).length+([vn2]).length)).bind fun u17=>
   (slc l1.length o5 ((l1.length:Int))).bind fun u18=>
   (room ((((([]:List Int))++(subl l1 0 o5))++([vn2])).length+(subl l1 o5 ((l1.length:Int))).length)).bind fun u19=>
   (some ((((([]:List Int))++(subl l1 0 o5))++([vn2]))++(subl l1 o5 ((l1.length:Int))))).bind fun l20=>
   some l20
  )
def zCQ(y2:List Int):Nat→List Int→Int→Option (List Int)
 |0,_,_=>none
 |n+1,out3,t4=>
  bif (ltI t4 ((y2.length:Int))) then
   (
    (getI y2 t4).bind fun e8=>
    (getI y2 t4).bind fun e9=>
    (zGA out3 e9).bind fun y10=>
    sI (w64 (t4+1)) fun t11=>
    zCQ y2 n y10 t11
   )
  else
   (
    some out3
   )
def zB2(vn1:Int):Option (List Int):=
 (zEM vn1).bind fun y2=>
 (zCQ y2 FU (([]:List Int)) 0).bind fun o6=>
 some o6
def zC8(p2:Int):Nat→Int→Int→Option Int
 |0,_,_=>none
 |n+1,vn3,k4=>
  (nz p2).bind fun z7=>
  bif (eqI (Int.tmod vn3 p2) 0) then
   (
    (nz p2).bind fun z9=>
    sI (w64 (Int.tdiv vn3 p2)) fun vn10=>
    sI (w64 (k4+1)) fun k11=>
    zC8 p2 n vn10 k11
   )
  else
   (
    some k4
   )
def jT(vn1:Int)(p2:Int):Option Int:=
 (zC8 p2 FU vn1 0).bind fun o6=>
 some o6
def zBK(d1:Int)(vn2:Int):Nat→Int→Option (Unit ⊕ Bool)
 |0,_=>none
 |n+1,b3=>
  bif (ltI b3 (w64 (2*vn2))) then
   (
    (nz (w64 (4*vn2))).bind fun z7=>
    (some (eqI (Int.tmod (w64 ((w64 (b3*b3)) - d1)) (w64 (4*vn2))) 0)).bind fun t8=>
    bif t8 then
     (
      some (.inr true)
     )
    else
     (
      sI (w64 (b3+1)) fun b10=>
      zBK d1 vn2 n b10
     )
   )
  else
   (
    some (.inl ())
   )
def zEI(d1:Int)(vn2:Int):Option Bool:=
 (zBK d1 vn2 FU 0).bind fun qo5=>
 match qo5 with
 | .inr r=>some r
 | .inl o5=>some false
def zAW(d1:Int)(vn2:Int)(y8:List Int):Nat→Int→Option (Unit ⊕ (Int×Bool))
 |0,_=>none
 |n+1,t9=>
  bif (ltI t9 ((y8.length:Int))) then
   (
    (getI y8 t9).bind fun e13=>
    (jT vn2 e13).bind fun y14=>
    (bif (eqI (Int.tmod y14 2) 1) then ((zEI d1 e13).bind fun y16=>some (!y16)) else some false).bind fun b17=>
    bif b17 then
     (
      some (.inr (((e13,true))))
     )
    else
     (
      sI (w64 (t9+1)) fun t19=>
      zAW d1 vn2 y8 n t19
     )
   )
  else
   (
    some (.inl ())
   )
def zBs(d1:Int)(vn2:Int):Option (Int×Bool):=
 (zBD d1).bind fun y3=>
 (bif (!y3) then some true else ((zC5 vn2).bind fun y5=>some (!y5))).bind fun b6=>
 bif b6 then
  (
   some ((0,false))
  )
 else
  (
   (zB2 vn2).bind fun y8=>
   (zAW d1 vn2 y8 FU 0).bind fun qo11=>
   match qo11 with
   | .inr r=>some r
   | .inl o11=>some ((0,false))
  )
def zA1(d1:Int)(vn2:Int):Option (qe×Bool):=
 (zBs d1 vn2).bind fun y3=>
 bif (bif (!y3.2) then true else (ltI 2500 y3.1)) then
  (
   some (((⟨#[]⟩:qe),false))
  )
 else
  (
   (zU d1).bind fun y6=>
   (zU vn2).bind fun y7=>
   (zU y3.1).bind fun y8=>
   (j0 ([(⟨#[111,98,115,116,114,117,99,116,105,111,110]⟩:qe),y6,y7,y8])).bind fun y9=>
   some ((y9,true))
  )
def zDE(f1:(Int×Int×Int))(g2:(Int×Int×Int)):Option Bool:=
 (zC0 f1).bind fun y3=>
 (bif y3 then ((zC0 g2).bind fun y5=>some y5) else some false).bind fun b6=>
 (bif b6 then ((qO f1).bind fun y8=>(qO g2).bind fun y9=>some (eqI y8 y9)) else some false).bind fun b10=>
 some b10
def zD2(a2:Int)(g1:(Int×Int×Int))(k3:Int)(x7:Int):Nat→Int→Option (Unit ⊕ (Int×Int))
 |0,_=>none
 |n+1,y11=>
  bif (leI y11 k3) then
   (
    (zCY x7 y11).bind fun y15=>
    (bif (eqI y15 k3) then ((zAR x7 y11).bind fun y17=>some (eqI y17 1)) else some false).bind fun b18=>
    (bif b18 then ((zAb g1 x7 y11).bind fun y20=>(zAR y20 a2).bind fun y21=>some (eqI y21 1)) else some false).bind fun b22=>
    bif b22 then
     (
      some (.inr (((x7,y11))))
     )
    else
     (
      sI (w64 (y11+1)) fun y24=>
      zD2 a2 g1 k3 x7 n y24
     )
   )
  else
   (
    some (.inl ())
   )
def zDs(a2:Int)(g1:(Int×Int×Int))(k3:Int):Nat→Int→Option (Unit ⊕ (Int×Int))
 |0,_=>none
 |n+1,x7=>
  bif (leI x7 k3) then
   (
    (zD2 a2 g1 k3 x7 FU 0).bind fun qo13=>
    match qo13 with
    | .inr r=>some (.inr r)
    | .inl o13=>
     sI (w64 (x7+1)) fun x25=>
     zDs a2 g1 k3 n x25
   )
  else
   (
    some (.inl ())
   )
def zDt(a2:Int)(g1:(Int×Int×Int)):Nat→Int→Option (Unit ⊕ (Int×Int))
 |0,_=>none
 |n+1,k3=>
  bif (leI k3 100) then
   (
    (zDs a2 g1 k3 FU 0).bind fun qo9=>
    match qo9 with
    | .inr r=>some (.inr r)
    | .inl o9=>
     sI (w64 (k3+1)) fun k26=>
     zDt a2 g1 n k26
   )
  else
   (
    some (.inl ())
   )
def zD3(g1:(Int×Int×Int))(a2:Int):Option (Int×Int):=
 (zDt a2 g1 FU 1).bind fun qo5=>
 match qo5 with
 | .inr r=>some r
 | .inl o5=>some ((1,0))
def zI3(vn1:Int):Option Int:=
 bif (ltI 0 vn1) then
  (
   some 1
  )
 else
  (
   bif (ltI vn1 0) then
    (
     some (-1)
    )
   else
    (
     some 0
    )
  )
def zDA(vm2:Int):Nat→Int→Int→Int→Int→Option (Int×Int)
 |0,_,_,_,_=>none
 |n+1,vr4,next5,x6,y7=>
  bif (!eqI next5 0) then
   (
    (nz next5).bind fun z11=>
    sI (w64 (Int.tdiv vr4 next5)) fun q12=>
    sI (w64 (vr4 - (w64 (q12*next5)))) fun next13=>
    sI (w64 (x6 - (w64 (q12*y7)))) fun y14=>
    zDA vm2 n next5 next13 y7 y14
   )
  else
   (
    some (vr4,x6)
   )
def zDT(a1:Int)(vm2:Int):Option Int:=
 (jF a1 vm2).bind fun y3=>
 (zDA vm2 FU vm2 y3 0 1).bind fun o9=>
 bif (!eqI o9.1 1) then
  (
   some (-1)
  )
 else
  (
   (jF o9.2 vm2).bind fun y16=>
   some y16
  )
def zE8(a1:Int)(b2:Int):Option (Int×Int×Int):=
 (zAR a1 b2).bind fun y3=>
 bif (eqI b2 0) then
  (
   (zI3 a1).bind fun y5=>
   some ((y3,y5,0))
  )
 else
  (
   (nz y3).bind fun z6=>
   (zAS b2).bind fun y7=>
   (nz y3).bind fun z8=>
   (zDT (w64 (Int.tdiv a1 y3)) (w64 (Int.tdiv y7 y3))).bind fun y9=>
   (nz b2).bind fun z10=>
   sI (w64 (Int.tdiv (w64 (y3 - (w64 (a1*y9)))) b2)) fun t11=>
   some ((y3,y9,t11))
  )
def zBO(f1:(Int×Int×Int))(x2:Int)(y3:Int):Option ((Int×Int×Int)×(Int×Int×Int×Int)):=
 (zE8 x2 y3).bind fun y4=>
 (zAb f1 x2 y3).bind fun y5=>
 sI (w64 (0 - y4.2.2)) fun q6=>
 (zEN f1 x2 y3 q6 y4.2.1).bind fun y7=>
 (jF y7 (w64 (2*y5))).bind fun y8=>
 (nz (w64 (2*y5))).bind fun z9=>
 sI (w64 (Int.tdiv (w64 (y8 - y7)) (w64 (2*y5)))) fun t10=>
 sI (w64 (q6+(w64 (x2*t10)))) fun f11=>
 sI (w64 (y4.2.1+(w64 (y3*t10)))) fun f12=>
 sI (w64 (y7+(w64 ((w64 (2*y5))*t10)))) fun b13=>
 (qO f1).bind fun y14=>
 (nz (w64 (4*y5))).bind fun z15=>
 sI (w64 (Int.tdiv (w64 ((w64 (b13*b13)) - y14)) (w64 (4*y5)))) fun f16=>
 some (((y5,b13,f16),(x2,f11,y3,f12)))
def zDj(a1:Int)(vm2:Int)(b3:Int)(vn4:Int):Option (Int×Int×Bool):=
 (zAR vm2 vn4).bind fun y5=>
 (nz y5).bind fun z6=>
 bif (!eqI (Int.tmod (w64 (b3 - a1)) y5) 0) then
  (
   some ((0,0,false))
  )
 else
  (
   (nz y5).bind fun z8=>
   (nz y5).bind fun z9=>
   (nz y5).bind fun z10=>
   (zDT (w64 (Int.tdiv vm2 y5)) (w64 (Int.tdiv vn4 y5))).bind fun y11=>
   (nz y5).bind fun z12=>
   (jF (w64 ((w64 (Int.tdiv (w64 (b3 - a1)) y5))*y11)) (w64 (Int.tdiv vn4 y5))).bind fun y13=>
   (nz y5).bind fun z14=>
   sI (w64 ((w64 (Int.tdiv vm2 y5))*vn4)) fun all15=>
   (jF (w64 (a1+(w64 (vm2*y13)))) all15).bind fun y16=>
   some ((y16,all15,true))
  )
def zEn(t1:Int):Option (Int×Int×Int×Int):=
 some ((1,t1,0,1))
def zC9(f1:(Int×Int×Int))(g2:(Int×Int×Int)):Option ((Int×Int×Int)×(Int×Int×Int)×(Int×Int×Int×Int)×(Int×Int×Int×Int)):=
 (qH f1).bind fun y3=>
 (qH g2).bind fun y4=>
 (zD3 y4.1 y3.1.1).bind fun y5=>
 (zBO y4.1 y5.1 y5.2).bind fun y6=>
 (zV y4.2 y6.2).bind fun y7=>
 (jF y3.1.2.1 (w64 (2*y3.1.1))).bind fun y8=>
 (zDj y8 (w64 (2*y3.1.1)) y6.1.2.1 (w64 (2*y6.1.1))).bind fun y9=>
 (nz (w64 (2*y3.1.1))).bind fun z10=>
 (zEn (w64 (Int.tdiv (w64 (y9.1 - y3.1.2.1)) (w64 (2*y3.1.1))))).bind fun y11=>
 (zV y3.2 y11).bind fun y12=>
 (nz (w64 (2*y6.1.1))).bind fun z13=>
 (zEn (w64 (Int.tdiv (w64 (y9.1 - y6.1.2.1)) (w64 (2*y6.1.1))))).bind fun y14=>
 (zV y7 y14).bind fun y15=>
 (qO y3.1).bind fun y16=>
 (nz (w64 ((w64 (4*y3.1.1))*y6.1.1))).bind fun z17=>
 sI (w64 (Int.tdiv (w64 ((w64 (y9.1*y9.1)) - y16)) (w64 ((w64 (4*y3.1.1))*y6.1.1)))) fun cc18=>
 sI (w64 (y3.1.1*cc18)) fun f19=>
 sI (w64 (y6.1.1*cc18)) fun f20=>
 some (((y3.1.1,y9.1,f20),(y6.1.1,y9.1,f19),y12,y15))
def zCw(a1:(Int×Int×Int))(e2:(Int×Int×Int)):Option (Int×Int×Int):=
 (nz e2.1).bind fun z3=>
 sI (w64 (a1.1*e2.1)) fun f4=>
 sI (w64 (Int.tdiv a1.2.2 e2.1)) fun f5=>
 some ((f4,a1.2.1,f5))
def zCT(y3:((Int×Int×Int)×(Int×Int×Int)×(Int×Int×Int×Int)×(Int×Int×Int×Int)))(y4:(Int×Int×Int))(y5:((Int×Int×Int)×(Int×Int×Int×Int)))(y6:(Int×Int×Int×Int))(y7:(Int×Int×Int×Int))(y8:(Int×Int×Int×Int)):Nat→Int→List Int→Option (List Int)
 |0,_,_=>none
 |n+1,i10,l11=>
  bif (ltI i10 4) then
   (
    (
     bif (leI 2 i10) then
      (
       some (y6.2.1,y6.2.2.2)
      )
     else
      (
       some (y6.1,y6.2.2.1)
      )
    ).bind fun j15=>
    (
     bif (eqI (Int.tmod i10 2) 1) then
      (
       some (y7.2.1,y7.2.2.2)
      )
     else
      (
       some (y7.1,y7.2.2.1)
      )
    ).bind fun j17=>
    sI (w64 ((w64 (j15.1*j17.1)) - (w64 ((w64 (y4.2.2*j15.2))*j17.2)))) fun p19=>
    sI (w64 ((w64 ((w64 ((w64 (y3.1.1*j15.1))*j17.2))+(w64 ((w64 (y3.2.1.1*j15.2))*j17.1))))+(w64 ((w64 (y4.2.1*j15.2))*j17.2)))) fun q20=>
    (getI l11 i10).bind fun e21=>
    (getI l11 i10).bind fun e22=>
    (some (l11.set (Int.toNat (i10)) (w64 ((w64 (y8.1*p19))+(w64 (y8.2.1*q20)))))).bind fun l23=>
    (getI l23 (w64 (4+i10))).bind fun e24=>
    (getI l23 (w64 (4+i10))).bind fun e25=>
    (some (l23.set (Int.toNat (w64 (4+i10))) (w64 ((w64 (y8.2.2.1*p19))+(w64 (y8.2.2.2*q20)))))).bind fun l26=>
    sI (w64 (i10+1)) fun i27=>
    zCT y3 y4 y5 y6 y7 y8 n i27 l26
   )
  else
   (
    some l11
   )
def zEO(f1:(Int×Int×Int))(g2:(Int×Int×Int)):Option ((Int×Int×Int)×(List Int)):=
 (zC9 f1 g2).bind fun y3=>
 (zCw y3.1 y3.2.1).bind fun y4=>
 (qH y4).bind fun y5=>
 (zCS y3.2.2.1).bind fun y6=>
 (zCS y3.2.2.2).bind fun y7=>
 (zCS y5.2).bind fun y8=>
 (mk 8 8).bind fun u9=>
 (zCT y3 y4 y5 y6 y7 y8 FU 0 (List.replicate (Int.toNat (8)) ((0:Int)))).bind fun o13=>
 some ((y5.1,o13))
def zCu(hi3:Int)(l1:List Int)(lo2:Int):Nat→Int→Option (Unit ⊕ Bool)
 |0,_=>none
 |n+1,t4=>
  bif (ltI t4 ((l1.length:Int))) then
   (
    (getI l1 t4).bind fun e8=>
    (qP e8 lo2 hi3).bind fun y9=>
    bif (!y9) then
     (
      some (.inr false)
     )
    else
     (
      sI (w64 (t4+1)) fun t11=>
      zCu hi3 l1 lo2 n t11
     )
   )
  else
   (
    some (.inl ())
   )
def zBq(l1:List Int)(lo2:Int)(hi3:Int):Option Bool:=
 (zCu hi3 l1 lo2 FU 0).bind fun qo6=>
 match qo6 with
 | .inr r=>some r
 | .inl o6=>some true
def zAr(f1:(Int×Int×Int))(g2:(Int×Int×Int)):Option ((Int×Int×Int)×(List Int)×Bool):=
 (zDE f1 g2).bind fun y3=>
 bif (!y3) then
  (
   some (((0,0,0),([]:List Int),false))
  )
 else
  (
   (zEO f1 g2).bind fun y5=>
   (zBq y5.2 (-1000000) 1000000).bind fun y6=>
   bif (!y6) then
    (
     some (((0,0,0),([]:List Int),false))
    )
   else
    (
     some ((y5.1,y5.2,true))
    )
  )
def zAQ(y3:((Int×Int×Int)×(List Int)×Bool)):Nat→Int→List qe→Option (List qe)
 |0,_,_=>none
 |n+1,t9,l10=>
  bif (ltI t9 ((y3.2.1.length:Int))) then
   (
    (getI y3.2.1 t9).bind fun e14=>
    (getI y3.2.1 t9).bind fun e15=>
    (zU e15).bind fun y16=>
    (room (l10.length+([y16]).length)).bind fun u17=>
    sI (w64 (t9+1)) fun t18=>
    zAQ y3 n t18 (l10++([y16]))
   )
  else
   (
    some l10
   )
def jQ(f1:(Int×Int×Int))(g2:(Int×Int×Int)):Option (qe×Bool):=
 (zAr f1 g2).bind fun y3=>
 bif (!y3.2.2) then
  (
   some (((⟨#[]⟩:qe),false))
  )
 else
  (
   (jS f1).bind fun y5=>
   (jS g2).bind fun y6=>
   (jS y3.1).bind fun y7=>
   (some ([(⟨#[99,111,109,112,111,115,105,116,101]⟩:qe),y5,y6,y7])).bind fun l8=>
   (zAQ y3 FU 0 l8).bind fun o12=>
   (j0 o12).bind fun y19=>
   some ((y19,true))
  )
def zDF(d1:Int):Option (Int×Int×Int):=
 (jF d1 2).bind fun y2=>
 sI (w64 (Int.tdiv (w64 (y2 - d1)) 4)) fun f3=>
 some ((1,y2,f3))
def zB4(f1:(Int×Int×Int))(g2:(Int×Int×Int)):Option (Int×Int×Int):=
 (zC9 f1 g2).bind fun y3=>
 (zCw y3.1 y3.2.1).bind fun y4=>
 (zAU y4).bind fun y5=>
 some y5
def zCn(y2:(Int×Int×Int)):Nat→Int→Int→Int→Int→Option Int
 |0,_,_,_,_=>none
 |n+1,k3,f4,f5,f6=>
  (qO y2).bind fun y9=>
  (zDF y9).bind fun y10=>
  bif (!((f4==y10.1)&&((f5==y10.2.1)&&(f6==y10.2.2)))) then
   (
    (zB4 ((f4,f5,f6)) y2).bind fun y12=>
    sI (w64 (k3+1)) fun k13=>
    zCn y2 n k13 y12.1 y12.2.1 y12.2.2
   )
  else
   (
    some k3
   )
def zEo(f1:(Int×Int×Int)):Option Int:=
 (zAU f1).bind fun y2=>
 (zCn y2 FU 1 y2.1 y2.2.1 y2.2.2).bind fun o8=>
 some o8
def zAq(f1:(Int×Int×Int)):Option (qe×Bool):=
 (zC0 f1).bind fun y2=>
 bif (!y2) then
  (
   some (((⟨#[]⟩:qe),false))
  )
 else
  (
   (jS f1).bind fun y4=>
   (zEo f1).bind fun y5=>
   (zB3 FU y5).bind fun y6=>
   (j0 ([(⟨#[111,114,100,101,114]⟩:qe),y4,y6])).bind fun y7=>
   some ((y7,true))
  )
def zGd(vm1:(Int×Int×Int×Int))(vn2:(Int×Int×Int×Int)):Option Bool:=
 bif (!eqI vm1.1 vn2.1) then
  (
   some (ltI vm1.1 vn2.1)
  )
 else
  (
   bif (!eqI vm1.2.1 vn2.2.1) then
    (
     some (ltI vm1.2.1 vn2.2.1)
    )
   else
    (
     bif (!eqI vm1.2.2.1 vn2.2.2.1) then
      (
       some (ltI vm1.2.2.1 vn2.2.2.1)
      )
     else
      (
       some (ltI vm1.2.2.2 vn2.2.2.2)
      )
    )
  )
def zAp(f23:Int)(f24:Int)(f25:Int)(f26:Int)(f6:Int)(f7:Int)(f8:Int)(t10:Int)(u15:Int)(y9:Int):Nat→Int→List (Int×Int×Int×Int)→Option (Int×(List (Int×Int×Int×Int)))
 |0,_,_=>none
 |n+1,vat28,l29=>
  (bif (ltI 0 vat28) then ((getI l29 (w64 (vat28 - 1))).bind fun e33=>(getI l29 (w64 (vat28 - 1))).bind fun e34=>(zGd ((f23,f24,f25,f26)) e34).bind fun y35=>some y35) else some false).bind fun b36=>
  bif b36 then
   (
    (getI l29 (w64 (vat28 - 1))).bind fun e38=>
    (getI l29 (w64 (vat28 - 1))).bind fun e39=>
    (getI l29 vat28).bind fun e40=>
    (getI l29 vat28).bind fun e41=>
    sI (w64 (vat28 - 1)) fun vat42=>
    zAp f23 f24 f25 f26 f6 f7 f8 t10 u15 y9 n vat42 (l29.set (Int.toNat (vat28)) e39)
   )
  else
   (
    some (vat28,l29)
   )
def jJ(f6:Int)(f7:Int)(f8:Int)(t10:Int)(y9:Int):Nat→Int→List (Int×Int×Int×Int)→Option (List (Int×Int×Int×Int))
 |0,_,_=>none
 |n+1,u15,l16=>
  bif (leI u15 1) then
   (
    (some (!eqI (w64 ((w64 (t10*t10)) - (w64 ((w64 (y9*u15))*u15)))) 4)).bind fun t20=>
    bif t20 then
     (
      sI (w64 (u15+1)) fun u22=>
      jJ f6 f7 f8 t10 y9 n u22 l16
     )
    else
     (
      sI (w64 (Int.tdiv (w64 (t10 - (w64 (f7*u15)))) 2)) fun f23=>
      sI (w64 ((w64 (0 - f8))*u15)) fun f24=>
      sI (w64 (f6*u15)) fun f25=>
      sI (w64 (Int.tdiv (w64 (t10+(w64 (f7*u15)))) 2)) fun f26=>
      (room (l16.length+([(f23,f24,f25,f26)]).length)).bind fun u27=>
      (zAp f23 f24 f25 f26 f6 f7 f8 t10 u15 y9 FU ((l16.length:Int)) (l16++([(f23,f24,f25,f26)]))).bind fun o31=>
      (getI o31.2 o31.1).bind fun e43=>
      (getI o31.2 o31.1).bind fun e44=>
      sI (w64 (u15+1)) fun u45=>
      jJ f6 f7 f8 t10 y9 n u45 (o31.2.set (Int.toNat (o31.1)) ((f23,f24,f25,f26)))
     )
   )
  else
   (
    some l16
   )
def jX(f6:Int)(f7:Int)(f8:Int)(y9:Int):Nat→Int→List (Int×Int×Int×Int)→Option (List (Int×Int×Int×Int))
 |0,_,_=>none
 |n+1,t10,l11=>
  bif (leI t10 2) then
   (
    (jJ f6 f7 f8 t10 y9 FU (-1) l11).bind fun o18=>
    sI (w64 (t10+1)) fun t46=>
    jX f6 f7 f8 y9 n t46 o18
   )
  else
   (
    some l11
   )
def zBL(f1:(Int×Int×Int)):Option (List (Int×Int×Int×Int)):=
 (zAH f1).bind fun y2=>
 (nz y2).bind fun z3=>
 (nz y2).bind fun z4=>
 (nz y2).bind fun z5=>
 sI (w64 (Int.tdiv f1.1 y2)) fun f6=>
 sI (w64 (Int.tdiv f1.2.1 y2)) fun f7=>
 sI (w64 (Int.tdiv f1.2.2 y2)) fun f8=>
 (qO ((f6,f7,f8))).bind fun y9=>
 (jX f6 f7 f8 y9 FU (-2) (([]:List (Int×Int×Int×Int)))).bind fun o13=>
 some o13
def zCK(cc1:((List Int)×Int×Int)):Option (Int×((List Int)×Int×Int)):=
 (zA cc1 10).bind fun y2=>
 bif (eqI y2.1 0) then
  (
   (qT y2.2 ([4,9,1000,1001,0,-3,5,997,1004,996,2,1099511627776])).bind fun y4=>
   some ((y4.1,y4.2))
  )
 else
  (
   (
    bif (eqI y2.1 1) then
     (
      some (eqI y2.1 1)
     )
    else
     (
      some (eqI y2.1 2)
     )
   ).bind fun j5=>
   bif j5 then
    (
     (qT y2.2 ([5,8,12,13,60,136,221,229,257,316,401,520,780,840,924])).bind fun y8=>
     some ((y8.1,y8.2))
    )
   else
    (
     (zA y2.2 240).bind fun y9=>
     sI (w64 (5+(w64 (4*y9.1)))) fun d10=>
     (q9 y9.2 2).bind fun y11=>
     bif y11.1 then
      (
       sI (w64 (d10 - 1)) fun d13=>
       some ((d13,y11.2))
      )
     else
      (
       some ((d10,y11.2))
      )
    )
  )
def zE7(vn1:Int):Option Bool:=
 bif (ltI vn1 0) then
  (
   some false
  )
 else
  (
   (zDN vn1).bind fun y3=>
   some (eqI (w64 (y3*y3)) vn1)
  )
def zBl(d1:Int):Option Bool:=
 (qP d1 5 1000).bind fun y2=>
 (bif y2 then ((jF d1 4).bind fun y4=>some (ltI y4 2)) else some false).bind fun b5=>
 (bif b5 then ((zE7 d1).bind fun y7=>some (!y7)) else some false).bind fun b8=>
 some b8
def zBJ(cc1:((List Int)×Int×Int)):Option (Int×((List Int)×Int×Int)):=
 (zCK cc1).bind fun y2=>
 (zBl y2.1).bind fun y3=>
 bif (!y3) then
  (
   some ((136,y2.2))
  )
 else
  (
   some ((y2.1,y2.2))
  )
def zLQ(d1:Int):Option Bool:=
 (zAA d1).bind fun y2=>
 (bif y2 then ((jF d1 4).bind fun y4=>some (ltI y4 2)) else some false).bind fun b5=>
 (bif b5 then ((zE7 d1).bind fun y7=>some (!y7)) else some false).bind fun b8=>
 some b8
def zEp(d1:Int):Option ((Int×Int×Int)×Bool):=
 (zLQ d1).bind fun y2=>
 bif (!y2) then
  (
   some (((0,0,0),false))
  )
 else
  (
   (jF d1 2).bind fun y4=>
   sI (w64 (Int.tdiv (w64 (y4 - d1)) 4)) fun f5=>
   some (((1,y4,f5),true))
  )
def zLR(f1:(Int×Int×Int)):Option Bool:=
 (qO f1).bind fun y2=>
 (zDN y2).bind fun y3=>
 (zAS f1.1).bind fun y4=>
 sI (w64 (2*y4)) fun a5=>
 (some (bif (bif (bif (ltI 0 f1.2.1) then (leI f1.2.1 y3) else false) then (ltI (w64 (y3 - f1.2.1)) a5) else false) then (leI a5 (w64 (y3+f1.2.1))) else false)).bind fun t9=>
 some t9
def zI4(f1:(Int×Int×Int)):Option Bool:=
 (zDP f1).bind fun y2=>
 (bif y2 then ((qO f1).bind fun y4=>(zBl y4).bind fun y5=>some y5) else some false).bind fun b6=>
 some b6
def zGf(f1:(Int×Int×Int)):Option (Int×Int×Int×Int):=
 (qO f1).bind fun y2=>
 (zDN y2).bind fun y3=>
 (zAS f1.2.2).bind fun y4=>
 (
  bif (ltI y3 y4) then
   (
    some y4
   )
  else
   (
    some y3
   )
 ).bind fun j5=>
 (jF (w64 (j5+f1.2.1)) (w64 (2*y4))).bind fun y7=>
 sI (w64 (j5 - y7)) fun b8=>
 (nz (w64 (2*f1.2.2))).bind fun z9=>
 sI (w64 (Int.tdiv (w64 (f1.2.1+b8)) (w64 (2*f1.2.2)))) fun f10=>
 some ((0,-1,1,f10))
def zHI(f1:(Int×Int×Int)):Option ((Int×Int×Int)×(Int×Int×Int×Int)×Bool):=
 (zI4 f1).bind fun y2=>
 bif (!y2) then
  (
   some (((0,0,0),(0,0,0,0),false))
  )
 else
  (
   (zGf f1).bind fun y4=>
   (zCZ f1 y4).bind fun y5=>
   (zDP y5).bind fun y6=>
   (bif (!y6) then some true else ((zCv y4).bind fun y8=>some (!y8))).bind fun b9=>
   bif b9 then
    (
     some (((0,0,0),(0,0,0,0),false))
    )
   else
    (
     some ((y5,y4,true))
    )
  )
def zF6:Nat→Int→Int→Int→Int→Int→Int→Int→Option ((Int×Int×Int×Int×Int×Int×Int) ⊕ ((Int×Int×Int)×(Int×Int×Int×Int)×Bool))
 |0,_,_,_,_,_,_,_=>none
 |n+1,f2,f3,f4,f5,f6,f7,f8=>
  (zLR ((f6,f7,f8))).bind fun y11=>
  bif (!y11) then
   (
    (zHI ((f6,f7,f8))).bind fun y13=>
    bif (!y13.2.2) then
     (
      some (.inr ((((0,0,0),(0,0,0,0),false))))
     )
    else
     (
      (zV ((f2,f3,f4,f5)) y13.2.1).bind fun y15=>
      (zCv y15).bind fun y16=>
      bif (!y16) then
       (
        some (.inr ((((0,0,0),(0,0,0,0),false))))
       )
      else
       (
        zF6 n y15.1 y15.2.1 y15.2.2.1 y15.2.2.2 y13.1.1 y13.1.2.1 y13.1.2.2
       )
     )
   )
  else
   (
    some (.inl (f2,f3,f4,f5,f6,f7,f8))
   )
def zHH(f1:(Int×Int×Int)):Option ((Int×Int×Int)×(Int×Int×Int×Int)×Bool):=
 (zF6 FU 1 0 0 1 f1.1 f1.2.1 f1.2.2).bind fun qo10=>
 match qo10 with
 | .inr r=>some r
 | .inl o10=>some ((o10.2.2.2.2,(o10.1,o10.2.1,o10.2.2.1,o10.2.2.2.1),true))
def zHj(x1:(Int×Int)):Option Bool:=
 (qP x1.1 (-100000000) 100000000).bind fun y2=>
 (bif y2 then ((zAA x1.2).bind fun y4=>some y4) else some false).bind fun b5=>
 some b5
def zFy(y3:((Int×Int×Int)×(Int×Int×Int×Int)×Bool)):Nat→Int→Int→Int→Int→Int→Int→Int→Option ((Int×Int×Int×Int) ⊕ ((Int×Int)×Bool))
 |0,_,_,_,_,_,_,_=>none
 |n+1,f4,f5,f6,f7,f8,f9,f10=>
  (zGf ((f4,f5,f6))).bind fun y13=>
  (zCZ ((f4,f5,f6)) y13).bind fun y14=>
  (zV ((f7,f8,f9,f10)) y13).bind fun y15=>
  (zAS y15.1).bind fun y16=>
  (bif (ltI 1000000000 y16) then some true else ((zAS y15.2.1).bind fun y18=>some (ltI 1000000000 y18))).bind fun b19=>
  (bif b19 then some true else ((zAS y15.2.2.1).bind fun y21=>some (ltI 1000000000 y21))).bind fun b22=>
  (bif b22 then some true else ((zAS y15.2.2.2).bind fun y24=>some (ltI 1000000000 y24))).bind fun b25=>
  bif b25 then
   (
    some (.inr ((((0,0),false))))
   )
  else
   (
    (some (((y14.1==y3.1.1)&&((y14.2.1==y3.1.2.1)&&(y14.2.2==y3.1.2.2))))).bind fun t27=>
    bif t27 then
     (
      some (.inl (y15.1,y15.2.1,y15.2.2.1,y15.2.2.2))
     )
    else
     (
      zFy y3 n y14.1 y14.2.1 y14.2.2 y15.1 y15.2.1 y15.2.2.1 y15.2.2.2
     )
   )
def zI2(d1:Int):Option ((Int×Int)×Bool):=
 (zEp d1).bind fun y2=>
 (zHH y2.1).bind fun y3=>
 (zFy y3 FU y3.1.1 y3.1.2.1 y3.1.2.2 1 0 0 1).bind fun qo12=>
 match qo12 with
 | .inr r=>some r
 | .inl o12=>
  (zAS (w64 (o12.1+o12.2.2.2))).bind fun y29=>
  (nz y3.1.1).bind fun z30=>
  (zAS (w64 (Int.tdiv o12.2.2.1 y3.1.1))).bind fun y31=>
  (zHj ((y29,y31))).bind fun y32=>
  some (((y29,y31),y32))
def zCH(d1:Int):Option ((Int×Int)×Bool):=
 (zBl d1).bind fun y2=>
 bif (!y2) then
  (
   some (((0,0),false))
  )
 else
  (
   (zI2 d1).bind fun y4=>
   bif (!y4.2) then
    (
     some (((0,0),false))
    )
   else
    (
     some ((y4.1,true))
    )
  )
def qU(d1:Int):Option (qe×Bool):=
 (zCH d1).bind fun y2=>
 (bif (!y2.2) then some true else ((zAA y2.1.1).bind fun y4=>some (!y4))).bind fun b5=>
 bif b5 then
  (
   some (((⟨#[]⟩:qe),false))
  )
 else
  (
   (zU d1).bind fun y7=>
   (zU y2.1.1).bind fun y8=>
   (zU y2.1.2).bind fun y9=>
   (j0 ([(⟨#[115,111,108,117,116,105,111,110]⟩:qe),y7,y8,y9])).bind fun y10=>
   some ((y10,true))
  )
def jY(vwith3:qe):Nat→qe→Int→List Int→Int→Int→Option (qe×(List Int)×Int×Int)
 |0,_,_,_,_,_=>none
 |n+1,t6,vn7,f8,f9,f10=>
  bif (bif (ltI 0 vn7) then (ltI 0 ((t6.size:Int))) else false) then
   (
    (zA ((f8,f9,f10)) ((t6.size:Int))).bind fun y15=>
    (zA y15.2 ((vwith3.size:Int))).bind fun y16=>
    (getB vwith3 y16.1).bind fun e17=>
    (zA y16.2 3).bind fun y18=>
    bif (eqI y18.1 0) then
     (
      (slc t6.size 0 y15.1).bind fun u20=>
      (catR (t6.extract (Int.toNat 0) (Int.toNat y15.1)) (zCj ([e17]))).bind fun u21=>
      (slc t6.size y15.1 ((t6.size:Int))).bind fun u22=>
      (catR ((t6.extract (Int.toNat 0) (Int.toNat y15.1))++(zCj ([e17]))) (t6.extract (Int.toNat y15.1) (Int.toNat ((t6.size:Int))))).bind fun u23=>
      sI (w64 (vn7 - 1)) fun vn24=>
      jY vwith3 n (((t6.extract (Int.toNat 0) (Int.toNat y15.1))++(zCj ([e17])))++(t6.extract (Int.toNat y15.1) (Int.toNat ((t6.size:Int))))) vn24 y18.2.1 y18.2.2.1 y18.2.2.2
     )
    else
     (
      bif (eqI y18.1 1) then
       (
        (slc t6.size 0 y15.1).bind fun u26=>
        (catR (t6.extract (Int.toNat 0) (Int.toNat y15.1)) (zCj ([e17]))).bind fun u27=>
        (slc t6.size (w64 (y15.1+1)) ((t6.size:Int))).bind fun u28=>
        (catR ((t6.extract (Int.toNat 0) (Int.toNat y15.1))++(zCj ([e17]))) (t6.extract (Int.toNat (w64 (y15.1+1))) (Int.toNat ((t6.size:Int))))).bind fun u29=>
        sI (w64 (vn7 - 1)) fun vn30=>
        jY vwith3 n (((t6.extract (Int.toNat 0) (Int.toNat y15.1))++(zCj ([e17])))++(t6.extract (Int.toNat (w64 (y15.1+1))) (Int.toNat ((t6.size:Int))))) vn30 y18.2.1 y18.2.2.1 y18.2.2.2
       )
      else
       (
        (slc t6.size 0 y15.1).bind fun u31=>
        (slc t6.size (w64 (y15.1+1)) ((t6.size:Int))).bind fun u32=>
        (catR (t6.extract (Int.toNat 0) (Int.toNat y15.1)) (t6.extract (Int.toNat (w64 (y15.1+1))) (Int.toNat ((t6.size:Int))))).bind fun u33=>
        sI (w64 (vn7 - 1)) fun vn34=>
        jY vwith3 n ((t6.extract (Int.toNat 0) (Int.toNat y15.1))++(t6.extract (Int.toNat (w64 (y15.1+1))) (Int.toNat ((t6.size:Int))))) vn34 y18.2.1 y18.2.2.1 y18.2.2.2
       )
     )
   )
  else
   (
    some (t6,f8,f9,f10)
   )
def zDB(cc1:((List Int)×Int×Int))(t2:qe)(vwith3:qe):Option (qe×((List Int)×Int×Int)):=
 (zA cc1 2).bind fun y4=>
 sI (w64 (1+y4.1)) fun vn5=>
 (jY vwith3 FU t2 vn5 y4.2.1 y4.2.2.1 y4.2.2.2).bind fun o12=>
 some ((o12.1,o12.2))
def zDl(cc1:((List Int)×Int×Int))(list2:List qe):Option (qe×((List Int)×Int×Int)):=
 (zA cc1 ((list2.length:Int))).bind fun y3=>
 (getI list2 y3.1).bind fun e4=>
 some ((e4,y3.2))
def zAg(cc1:((List Int)×Int×Int)):Option (qe×((List Int)×Int×Int)):=
 (
  (zA cc1 9).bind fun y3=>
  bif (eqI y3.1 0) then
   (
    (jW y3.2).bind fun y5=>
    (jV y5.2 y5.1).bind fun y6=>
    (zA2 y5.1 y6.1).bind fun y7=>
    some (y7.1,y6.2.1,y6.2.2.1,y6.2.2.2)
   )
  else
   (
    bif (eqI y3.1 1) then
     (
      (zAV y3.2).bind fun y9=>
      (zAd y9.1 y9.2.1).bind fun y10=>
      some (y10.1,y9.2.2.1,y9.2.2.2.1,y9.2.2.2.2)
     )
    else
     (
      bif (eqI y3.1 2) then
       (
        (zCE y3.2).bind fun y12=>
        (zBe y12.1 y12.2.1).bind fun y13=>
        some (y13.1,y12.2.2.1,y12.2.2.2.1,y12.2.2.2.2)
       )
      else
       (
        bif (eqI y3.1 3) then
         (
          (jM y3.2).bind fun y15=>
          (zA y15.2 400).bind fun y16=>
          (zA1 y15.1 (w64 (1+y16.1))).bind fun y17=>
          some (y17.1,y16.2.1,y16.2.2.1,y16.2.2.2)
         )
        else
         (
          bif (eqI y3.1 4) then
           (
            (zAV y3.2).bind fun y19=>
            (jQ y19.1 y19.2.1).bind fun y20=>
            some (y20.1,y19.2.2.1,y19.2.2.2.1,y19.2.2.2.2)
           )
          else
           (
            bif (eqI y3.1 5) then
             (
              (zAL y3.2).bind fun y22=>
              (zAq y22.1).bind fun y23=>
              some (y23.1,y22.2.1,y22.2.2.1,y22.2.2.2)
             )
            else
             (
              bif (eqI y3.1 6) then
               (
                (zU (-23)).bind fun y25=>
                (zA y3.2 9).bind fun y26=>
                (zU (w64 (1+y26.1))).bind fun y27=>
                (zA y26.2 9).bind fun y28=>
                (zU y28.1).bind fun y29=>
                (j0 ([(⟨#[114,111,111,116]⟩:qe),y25,y27,y29])).bind fun y30=>
                some (y30,y28.2.1,y28.2.2.1,y28.2.2.2)
               )
              else
               (
                bif (eqI y3.1 7) then
                 (
                  (jW y3.2).bind fun y32=>
                  (jU y32.1).bind fun y33=>
                  bif y33 then
                   (
                    (zBL y32.1).bind fun y35=>
                    (jS y32.1).bind fun y36=>
                    (zA y32.2 ((y35.length:Int))).bind fun y37=>
                    (getI y35 y37.1).bind fun e38=>
                    (getI y35 y37.1).bind fun e39=>
                    (zAT e39).bind fun y40=>
                    (j0 ([(⟨#[97,117,116,111,109,111,114,112,104]⟩:qe),y36,y40])).bind fun y41=>
                    some (y41,y37.2.1,y37.2.2.1,y37.2.2.2)
                   )
                  else
                   (
                    some ((⟨#[]⟩:qe),y32.2.1,y32.2.2.1,y32.2.2.2)
                   )
                 )
                else
                 (
                  (zBJ y3.2).bind fun y42=>
                  (qU y42.1).bind fun y43=>
                  some (y43.1,y42.2.1,y42.2.2.1,y42.2.2.2)
                 )
               )
             )
           )
         )
       )
     )
   )
 ).bind fun j2=>
 (
  bif (j2.1.toList==((⟨#[]⟩:qe)).toList) then
   (
    some ((⟨#[111,114,100,101,114,32,40,50,44,49,44,51,41,32,51]⟩:qe))
   )
  else
   (
    some j2.1
   )
 ).bind fun j44=>
 (q9 j2.2 4).bind fun y46=>
 bif y46.1 then
  (
   (zDB y46.2 j44 ((⟨#[40,41,44,59,91,93,45,48,49,50,51,32,97]⟩:qe))).bind fun y48=>
   some ((y48.1,y48.2))
  )
 else
  (
   (q9 y46.2 6).bind fun y49=>
   bif y49.1 then
    (
     (zDl y49.2 ([(⟨#[32]⟩:qe),(⟨#[32,49]⟩:qe),(⟨#[48]⟩:qe),(⟨#[10]⟩:qe)])).bind fun y51=>
     (catR j44 y51.1).bind fun u52=>
     some ((j44++y51.1,y51.2))
    )
   else
    (
     some ((j44,y49.2))
    )
  )
def zAP(code1:List Int):Option qe:=
 (zAg ((code1,0,0))).bind fun y2=>
 some y2.1
def zEq(kind1:qe):Option qe:=
 (some (mPut ((⟨#[115,111,108,117,116,105,111,110]⟩:qe)) ((⟨#[110,110,110]⟩:qe)) (mPut ((⟨#[97,117,116,111,109,111,114,112,104]⟩:qe)) ((⟨#[102,109]⟩:qe)) (mPut ((⟨#[114,111,111,116]⟩:qe)) ((⟨#[110,110,110]⟩:qe)) (mPut ((⟨#[111,114,100,101,114]⟩:qe)) ((⟨#[102,110]⟩:qe)) (mPut ((⟨#[99,111,109,112,111,115,105,116,101]⟩:qe)) ((⟨#[102,102,102,110,110,110,110,110,110,110,110]⟩:qe)) (mPut ((⟨#[111,98,115,116,114,117,99,116,105,111,110]⟩:qe)) ((⟨#[110,110,110]⟩:qe)) (mPut ((⟨#[118,97,108,117,101]⟩:qe)) ((⟨#[102,110,110,110]⟩:qe)) (mPut ((⟨#[100,105,102,102,101,114,101,110,116]⟩:qe)) ((⟨#[102,109,102,102,109,102]⟩:qe)) (mPut ((⟨#[101,113,117,105,118,97,108,101,110,116]⟩:qe)) ((⟨#[102,102,109]⟩:qe)) (([]:List (qe×qe))))))))))))).bind fun l2=>
 some (mAt kind1 l2 qf)
def zCF(c1:Int):Option Bool:=
 (some (bif (!eqI c1 45) then (bif (ltI c1 48) then true else (ltI 57 c1)) else false)).bind fun t4=>
 some t4
def qY(y2:List qe):Nat→Int→List Int→Option (List Int ⊕ List Int)
 |0,_,_=>none
 |n+1,t3,l4=>
  bif (ltI t3 ((y2.length:Int))) then
   (
    (getI y2 t3).bind fun e8=>
    (getI y2 t3).bind fun e9=>
    (zAw e9).bind fun y10=>
    bif (!y10.2) then
     (
      some (.inr ((([]:List Int))))
     )
    else
     (
      (room (l4.length+([y10.1]).length)).bind fun u12=>
      sI (w64 (t3+1)) fun t13=>
      qY y2 n t13 (l4++([y10.1]))
     )
   )
  else
   (
    some (.inl l4)
   )
def zAl(vs1:qe):Option (List Int):=
 (zBb (pOf zCF) vs1).bind fun y2=>
 (qY y2 FU 0 (([]:List Int))).bind fun qo6=>
 match qo6 with
 | .inr r=>some r
 | .inl o6=>some o6
def zCf(list1:List Int):Nat→Int→Option (Unit ⊕ Bool)
 |0,_=>none
 |n+1,t2=>
  bif (ltI t2 ((list1.length:Int))) then
   (
    (getI list1 t2).bind fun e6=>
    bif (bif (ltI e6 (-1000000)) then true else (ltI 1000000 e6)) then
     (
      some (.inr false)
     )
    else
     (
      sI (w64 (t2+1)) fun t9=>
      zCf list1 n t9
     )
   )
  else
   (
    some (.inl ())
   )
def qK(list1:List Int):Option Bool:=
 (zCf list1 FU 0).bind fun qo4=>
 match qo4 with
 | .inr r=>some r
 | .inl o4=>some true
def zEg(f1:(Int×Int×Int)):Option Bool:=
 (qK ([f1.1,f1.2.1,f1.2.2])).bind fun y2=>
 some y2
def jE(f1:(Int×Int×Int)):Option qe:=
 (zR f1.1).bind fun y2=>
 (catR ((⟨#[40]⟩:qe)) y2).bind fun u3=>
 (catR (((⟨#[40]⟩:qe))++y2) ((⟨#[44]⟩:qe))).bind fun u4=>
 (zR f1.2.1).bind fun y5=>
 (catR ((((⟨#[40]⟩:qe))++y2)++((⟨#[44]⟩:qe))) y5).bind fun u6=>
 (catR (((((⟨#[40]⟩:qe))++y2)++((⟨#[44]⟩:qe)))++y5) ((⟨#[44]⟩:qe))).bind fun u7=>
 (zR f1.2.2).bind fun y8=>
 (catR ((((((⟨#[40]⟩:qe))++y2)++((⟨#[44]⟩:qe)))++y5)++((⟨#[44]⟩:qe))) y8).bind fun u9=>
 (catR (((((((⟨#[40]⟩:qe))++y2)++((⟨#[44]⟩:qe)))++y5)++((⟨#[44]⟩:qe)))++y8) ((⟨#[41]⟩:qe))).bind fun u10=>
 some ((((((((⟨#[40]⟩:qe))++y2)++((⟨#[44]⟩:qe)))++y5)++((⟨#[44]⟩:qe)))++y8)++((⟨#[41]⟩:qe)))
def zCV(vs1:qe):Option ((Int×Int×Int)×Bool):=
 (zAl vs1).bind fun y2=>
 bif (!eqI ((y2.length:Int)) 3) then
  (
   some (((0,0,0),false))
  )
 else
  (
   (getI y2 0).bind fun e4=>
   (getI y2 0).bind fun e5=>
   (getI y2 1).bind fun e6=>
   (getI y2 1).bind fun e7=>
   (getI y2 2).bind fun e8=>
   (getI y2 2).bind fun e9=>
   (zEg ((e5,e7,e9))).bind fun y10=>
   (bif (!y10) then some true else ((jE ((e5,e7,e9))).bind fun y12=>some (!(y12.toList==vs1.toList)))).bind fun b13=>
   bif b13 then
    (
     some (((0,0,0),false))
    )
   else
    (
     some (((e5,e7,e9),true))
    )
  )
def zX(vm1:(Int×Int×Int×Int)):Option Bool:=
 (qK ([vm1.1,vm1.2.1,vm1.2.2.1,vm1.2.2.2])).bind fun y2=>
 some y2
def zBQ(vm1:(Int×Int×Int×Int)):Option qe:=
 (zR vm1.1).bind fun y2=>
 (catR ((⟨#[91]⟩:qe)) y2).bind fun u3=>
 (catR (((⟨#[91]⟩:qe))++y2) ((⟨#[44]⟩:qe))).bind fun u4=>
 (zR vm1.2.1).bind fun y5=>
 (catR ((((⟨#[91]⟩:qe))++y2)++((⟨#[44]⟩:qe))) y5).bind fun u6=>
 (catR (((((⟨#[91]⟩:qe))++y2)++((⟨#[44]⟩:qe)))++y5) ((⟨#[59]⟩:qe))).bind fun u7=>
 (zR vm1.2.2.1).bind fun y8=>
 (catR ((((((⟨#[91]⟩:qe))++y2)++((⟨#[44]⟩:qe)))++y5)++((⟨#[59]⟩:qe))) y8).bind fun u9=>
 (catR (((((((⟨#[91]⟩:qe))++y2)++((⟨#[44]⟩:qe)))++y5)++((⟨#[59]⟩:qe)))++y8) ((⟨#[44]⟩:qe))).bind fun u10=>
 (zR vm1.2.2.2).bind fun y11=>
 (catR ((((((((⟨#[91]⟩:qe))++y2)++((⟨#[44]⟩:qe)))++y5)++((⟨#[59]⟩:qe)))++y8)++((⟨#[44]⟩:qe))) y11).bind fun u12=>
 (catR (((((((((⟨#[91]⟩:qe))++y2)++((⟨#[44]⟩:qe)))++y5)++((⟨#[59]⟩:qe)))++y8)++((⟨#[44]⟩:qe)))++y11) ((⟨#[93]⟩:qe))).bind fun u13=>
 some ((((((((((⟨#[91]⟩:qe))++y2)++((⟨#[44]⟩:qe)))++y5)++((⟨#[59]⟩:qe)))++y8)++((⟨#[44]⟩:qe)))++y11)++((⟨#[93]⟩:qe)))
def zB9(vs1:qe):Option ((Int×Int×Int×Int)×Bool):=
 (zAl vs1).bind fun y2=>
 bif (!eqI ((y2.length:Int)) 4) then
  (
   some (((0,0,0,0),false))
  )
 else
  (
   (getI y2 0).bind fun e4=>
   (getI y2 0).bind fun e5=>
   (getI y2 1).bind fun e6=>
   (getI y2 1).bind fun e7=>
   (getI y2 2).bind fun e8=>
   (getI y2 2).bind fun e9=>
   (getI y2 3).bind fun e10=>
   (getI y2 3).bind fun e11=>
   (zX ((e5,e7,e9,e11))).bind fun y12=>
   (bif (!y12) then some true else ((zBQ ((e5,e7,e9,e11))).bind fun y14=>some (!(y14.toList==vs1.toList)))).bind fun b15=>
   bif b15 then
    (
     some (((0,0,0,0),false))
    )
   else
    (
     some (((e5,e7,e9,e11),true))
    )
  )
def zEa(w1:qe):Option (Int×Bool):=
 (zAw w1).bind fun y2=>
 (bif y2.2 then ((qK ([y2.1])).bind fun y4=>some y4) else some false).bind fun b5=>
 (bif b5 then ((zR y2.1).bind fun y7=>some (y7.toList==w1.toList)) else some false).bind fun b8=>
 some ((y2.1,b8))
def qW(e4:qe)(t10:Int)(y2:List qe)(y5:qe):Nat→Int→List (Int×Int×Int)→List (Int×Int×Int×Int)→List Int→Option (((List Int)×(List (Int×Int×Int×Int))×(List (Int×Int×Int))) ⊕ ((qe×(List (Int×Int×Int))×(List (Int×Int×Int×Int))×(List Int))×Bool))
 |0,_,_,_,_=>none
 |n+1,t11,l12,l13,l14=>
  bif (ltI t11 t10) then
   (
    (getI (subl y2 1 ((y2.length:Int))) t11).bind fun e18=>
    (getB y5 t11).bind fun e19=>
    bif (eqI e19 102) then
     (
      (zCV e18).bind fun y21=>
      (room (l12.length+([y21.1]).length)).bind fun u22=>
      bif (!y21.2) then
       (
        some (.inr ((((qf,([]:List (Int×Int×Int)),([]:List (Int×Int×Int×Int)),([]:List Int)),false))))
       )
      else
       (
        sI (w64 (t11+1)) fun t24=>
        qW e4 t10 y2 y5 n t24 (l12++([y21.1])) l13 l14
       )
     )
    else
     (
      bif (eqI e19 109) then
       (
        (zB9 e18).bind fun y26=>
        (room (l13.length+([y26.1]).length)).bind fun u27=>
        bif (!y26.2) then
         (
          some (.inr ((((qf,([]:List (Int×Int×Int)),([]:List (Int×Int×Int×Int)),([]:List Int)),false))))
         )
        else
         (
          sI (w64 (t11+1)) fun t29=>
          qW e4 t10 y2 y5 n t29 l12 (l13++([y26.1])) l14
         )
       )
      else
       (
        (zEa e18).bind fun y30=>
        (room (l14.length+([y30.1]).length)).bind fun u31=>
        bif (!y30.2) then
         (
          some (.inr ((((qf,([]:List (Int×Int×Int)),([]:List (Int×Int×Int×Int)),([]:List Int)),false))))
         )
        else
         (
          sI (w64 (t11+1)) fun t33=>
          qW e4 t10 y2 y5 n t33 l12 l13 (l14++([y30.1]))
         )
       )
     )
   )
  else
   (
    some (.inl (l14,l13,l12))
   )
def zAx(vs1:qe):Option ((qe×(List (Int×Int×Int))×(List (Int×Int×Int×Int))×(List Int))×Bool):=
 (zAG vs1 ((⟨#[32]⟩:qe))).bind fun y2=>
 (getI y2 0).bind fun e3=>
 (getI y2 0).bind fun e4=>
 (zEq e4).bind fun y5=>
 (some (bif (y5.toList==((⟨#[]⟩:qe)).toList) then true else (!eqI ((y2.length:Int)) (w64 (((y5.size:Int))+1))))).bind fun t7=>
 bif t7 then
  (
   some (((qf,([]:List (Int×Int×Int)),([]:List (Int×Int×Int×Int)),([]:List Int)),false))
  )
 else
  (
   (slc y2.length 1 ((y2.length:Int))).bind fun u9=>
   sI (((subl y2 1 ((y2.length:Int))).length:Int)) fun t10=>
   (qW e4 t10 y2 y5 FU 0 (([]:List (Int×Int×Int))) (([]:List (Int×Int×Int×Int))) (([]:List Int))).bind fun qo16=>
   match qo16 with
   | .inr r=>some r
   | .inl o16=>some (((e4,o16.2.2,o16.2.1,o16.1),true))
  )
def zA0(vm1:(Int×Int×Int×Int)):Option Int:=
 sI (w64 ((w64 (vm1.1*vm1.2.2.2)) - (w64 (vm1.2.1*vm1.2.2.1)))) fun t2=>
 some t2
def zBA(f1:(Int×Int×Int))(x2:Int)(y3:Int):Option Int:=
 sI (w64 ((w64 ((w64 ((w64 (f1.1*x2))*x2))+(w64 ((w64 (f1.2.1*x2))*y3))))+(w64 ((w64 (f1.2.2*y3))*y3)))) fun t4=>
 some t4
def zBR(f1:(Int×Int×Int))(x2:Int)(y3:Int)(u4:Int)(v5:Int):Option Int:=
 sI (w64 ((w64 ((w64 ((w64 ((w64 (2*f1.1))*x2))*u4))+(w64 (f1.2.1*(w64 ((w64 (x2*v5))+(w64 (y3*u4))))))))+(w64 ((w64 ((w64 (2*f1.2.2))*y3))*v5)))) fun t6=>
 some t6
def qC(f1:(Int×Int×Int))(vm2:(Int×Int×Int×Int)):Option (Int×Int×Int):=
 (zBA f1 vm2.1 vm2.2.2.1).bind fun y3=>
 (zBR f1 vm2.1 vm2.2.2.1 vm2.2.1 vm2.2.2.2).bind fun y4=>
 (zBA f1 vm2.2.1 vm2.2.2.2).bind fun y5=>
 some ((y3,y4,y5))
def zBw(f1:(Int×Int×Int))(vm2:(Int×Int×Int×Int))(g3:(Int×Int×Int)):Option Bool:=
 (zA0 vm2).bind fun y4=>
 (bif (eqI y4 1) then ((qC f1 vm2).bind fun y6=>some (((y6.1==g3.1)&&((y6.2.1==g3.2.1)&&(y6.2.2==g3.2.2))))) else some false).bind fun b7=>
 some b7
def zY(f1:(Int×Int×Int)):Option Int:=
 sI (w64 ((w64 (f1.2.1*f1.2.1)) - (w64 ((w64 (4*f1.1))*f1.2.2)))) fun t2=>
 some t2
def zN(f1:(Int×Int×Int)):Option Bool:=
 (zEg f1).bind fun y2=>
 (bif y2 then ((zY f1).bind fun y4=>some (ltI y4 0)) else some false).bind fun b5=>
 some (bif b5 then (ltI 0 f1.1) else false)
def qQ(f1:(Int×Int×Int)):Option Bool:=
 (some (bif (ltI (w64 (0 - f1.1)) f1.2.1) then (leI f1.2.1 f1.1) else false)).bind fun t3=>
 some t3
def qA(f1:(Int×Int×Int)):Option Bool:=
 (qQ f1).bind fun y2=>
 (some (bif y2 then (bif (ltI f1.1 f1.2.2) then true else (bif (eqI f1.1 f1.2.2) then (leI 0 f1.2.1) else false)) else false)).bind fun t6=>
 some t6
def zEE(vn1:Int):Option Int:=
 sI (mxI vn1 (w64 (0 - (mxI vn1 (-9223372036854775807))))) fun t2=>
 some t2
def zBX:Nat→Int→Int→Option Int
 |0,_,_=>none
 |n+1,a3,b4=>
  bif (!eqI b4 0) then
   (
    (nz b4).bind fun z8=>
    sI (Int.tmod a3 b4) fun b9=>
    zBX n b4 b9
   )
  else
   (
    some a3
   )
def zED(a1:Int)(b2:Int):Option Int:=
 (zBX FU a1 b2).bind fun o6=>
 (zEE o6).bind fun y10=>
 some y10
def zAy(a1:Int)(vm2:Int):Option Int:=
 (nz vm2).bind fun z3=>
 sI (Int.tmod a1 vm2) fun vr4=>
 bif (ltI vr4 0) then
  (
   sI (w64 (vr4+vm2)) fun vr6=>
   some vr6
  )
 else
  (
   some vr4
  )
def q7(d1:Int):Option Bool:=
 (bif (bif (leI (-2000) d1) then (leI d1 (-3)) else false) then ((zAy d1 4).bind fun y4=>some (leI y4 1)) else some false).bind fun b5=>
 some b5
def zBy(vn1:Int):Nat→Int→Option (Unit ⊕ Bool)
 |0,_=>none
 |n+1,p3=>
  bif (leI (w64 (p3*p3)) vn1) then
   (
    (nz p3).bind fun z7=>
    bif (eqI (Int.tmod vn1 p3) 0) then
     (
      some (.inr false)
     )
    else
     (
      sI (w64 (p3+1)) fun p9=>
      zBy vn1 n p9
     )
   )
  else
   (
    some (.inl ())
   )
def jP(vn1:Int):Option Bool:=
 bif (ltI vn1 2) then
  (
   some false
  )
 else
  (
   (zBy vn1 FU 2).bind fun qo5=>
   match qo5 with
   | .inr r=>some r
   | .inl o5=>some true
  )
def zB8(p2:Int):Nat→Int→Int→Option Int
 |0,_,_=>none
 |n+1,vn3,k4=>
  (nz p2).bind fun z7=>
  bif (eqI (Int.tmod vn3 p2) 0) then
   (
    sI (w64 (k4+1)) fun k9=>
    (nz p2).bind fun z10=>
    sI (w64 (Int.tdiv vn3 p2)) fun vn11=>
    zB8 p2 n vn11 k9
   )
  else
   (
    some k4
   )
def zAI(vn1:Int)(p2:Int):Option Int:=
 (zB8 p2 FU vn1 0).bind fun o6=>
 some o6
def zP(d1:Int)(vn2:Int):Nat→Int→List Int→Option (List Int)
 |0,_,_=>none
 |n+1,b3,l4=>
  bif (ltI b3 (w64 (2*vn2))) then
   (
    (nz (w64 (4*vn2))).bind fun z8=>
    (some (eqI (Int.tmod (w64 ((w64 (b3*b3)) - d1)) (w64 (4*vn2))) 0)).bind fun t9=>
    bif t9 then
     (
      (room (l4.length+([b3]).length)).bind fun u11=>
      sI (w64 (b3+1)) fun b12=>
      zP d1 vn2 n b12 (l4++([b3]))
     )
    else
     (
      sI (w64 (b3+1)) fun b13=>
      zP d1 vn2 n b13 l4
     )
   )
  else
   (
    some l4
   )
def qN(d1:Int)(vn2:Int):Option (List Int):=
 (zP d1 vn2 FU 0 (([]:List Int))).bind fun o6=>
 some o6
def zDw(d1:Int)(vn2:Int)(p3:Int):Option Bool:=
 (q7 d1).bind fun y4=>
 (bif (bif (bif y4 then (leI 1 vn2) else false) then (leI p3 2500) else false) then ((jP p3).bind fun y8=>some y8) else some false).bind fun b9=>
 (bif b9 then ((zAI vn2 p3).bind fun y11=>some (eqI (Int.tmod y11 2) 1)) else some false).bind fun b12=>
 (bif b12 then ((qN d1 p3).bind fun y14=>some (eqI ((y14.length:Int)) 0)) else some false).bind fun b15=>
 some b15
def jA(f1:(Int×Int×Int)):Option Bool:=
 (zN f1).bind fun y2=>
 (bif y2 then ((zY f1).bind fun y4=>some (leI (-2000) y4)) else some false).bind fun b5=>
 some b5
def zDD(f1:(Int×Int×Int)):Option Int:=
 (zED f1.2.1 f1.2.2).bind fun y2=>
 (zED f1.1 y2).bind fun y3=>
 some y3
def zZ(f1:(Int×Int×Int)):Option Bool:=
 (jA f1).bind fun y2=>
 (bif y2 then ((zDD f1).bind fun y4=>some (eqI y4 1)) else some false).bind fun b5=>
 some b5
def zCe(f1:(Int×Int×Int))(g2:(Int×Int×Int)):Option Bool:=
 (zZ f1).bind fun y3=>
 (bif y3 then ((zZ g2).bind fun y5=>some y5) else some false).bind fun b6=>
 (bif b6 then ((zY f1).bind fun y8=>(zY g2).bind fun y9=>some (eqI y8 y9)) else some false).bind fun b10=>
 some b10
def zCx(p1:(Int×Int×Int×Int))(q2:(Int×Int×Int×Int)):Option ((Int×Int×Int)×(Int×Int×Int)×(Int×Int×Int)):=
 sI (w64 (0+(w64 (p1.1*q2.1)))) fun f5=>
 sI (w64 (0+(w64 (p1.1*q2.2.1)))) fun f7=>
 sI (w64 (0+(w64 (p1.1*q2.2.2.1)))) fun f9=>
 sI (w64 (0+(w64 (p1.1*q2.2.2.2)))) fun f11=>
 sI (w64 (f7+(w64 (p1.2.1*q2.1)))) fun f15=>
 sI (w64 (0+(w64 (p1.2.1*q2.2.1)))) fun f17=>
 sI (w64 (f11+(w64 (p1.2.1*q2.2.2.1)))) fun f19=>
 sI (w64 (0+(w64 (p1.2.1*q2.2.2.2)))) fun f21=>
 sI (w64 (f9+(w64 (p1.2.2.1*q2.1)))) fun f25=>
 sI (w64 (f19+(w64 (p1.2.2.1*q2.2.1)))) fun f27=>
 sI (w64 (0+(w64 (p1.2.2.1*q2.2.2.1)))) fun f29=>
 sI (w64 (0+(w64 (p1.2.2.1*q2.2.2.2)))) fun f31=>
 sI (w64 (f27+(w64 (p1.2.2.2*q2.1)))) fun f35=>
 sI (w64 (f21+(w64 (p1.2.2.2*q2.2.1)))) fun f37=>
 sI (w64 (f31+(w64 (p1.2.2.2*q2.2.2.1)))) fun f39=>
 sI (w64 (0+(w64 (p1.2.2.2*q2.2.2.2)))) fun f41=>
 some (((f5,f15,f17),(f25,f35,f37),(f29,f39,f41)))
def zCg(f1:(Int×Int×Int))(g2:(Int×Int×Int))(vh3:(Int×Int×Int))(k4:List Int):Option (Bool×Bool):=
 (zCe f1 g2).bind fun y5=>
 (bif (!y5) then some true else ((zCe f1 vh3).bind fun y7=>some (!y7))).bind fun b8=>
 (bif b8 then some true else ((qA vh3).bind fun y10=>some (!y10))).bind fun b11=>
 (bif (bif b11 then true else (!eqI ((k4.length:Int)) 8)) then some true else ((qK k4).bind fun y14=>some (!y14))).bind fun b15=>
 bif b15 then
  (
   some ((false,false))
  )
 else
  (
   (slc k4.length 0 4).bind fun u17=>
   (getI (subl k4 0 4) 0).bind fun e18=>
   (getI (subl k4 0 4) 1).bind fun e19=>
   (getI (subl k4 0 4) 2).bind fun e20=>
   (getI (subl k4 0 4) 3).bind fun e21=>
   (slc k4.length 4 ((k4.length:Int))).bind fun u22=>
   (getI (subl k4 4 ((k4.length:Int))) 0).bind fun e23=>
   (getI (subl k4 4 ((k4.length:Int))) 1).bind fun e24=>
   (getI (subl k4 4 ((k4.length:Int))) 2).bind fun e25=>
   (getI (subl k4 4 ((k4.length:Int))) 3).bind fun e26=>
   (zCx ((e18,e19,e20,e21)) ((e18,e19,e20,e21))).bind fun y27=>
   (zCx ((e18,e19,e20,e21)) ((e23,e24,e25,e26))).bind fun y28=>
   (zCx ((e23,e24,e25,e26)) ((e23,e24,e25,e26))).bind fun y29=>
   (some (!eqI (w64 ((w64 ((w64 (vh3.1*y27.1.1))+(w64 (vh3.2.1*y28.1.1))))+(w64 (vh3.2.2*y29.1.1)))) (w64 (f1.1*g2.1)))).bind fun t32=>
   bif t32 then
    (
     some ((false,true))
    )
   else
    (
     (some (!eqI (w64 ((w64 ((w64 (vh3.1*y27.1.2.1))+(w64 (vh3.2.1*y28.1.2.1))))+(w64 (vh3.2.2*y29.1.2.1)))) (w64 (f1.1*g2.2.1)))).bind fun t35=>
     bif t35 then
      (
       some ((false,true))
      )
     else
      (
       (some (!eqI (w64 ((w64 ((w64 (vh3.1*y27.1.2.2))+(w64 (vh3.2.1*y28.1.2.2))))+(w64 (vh3.2.2*y29.1.2.2)))) (w64 (f1.1*g2.2.2)))).bind fun t38=>
       bif t38 then
        (
         some ((false,true))
        )
       else
        (
         (some (!eqI (w64 ((w64 ((w64 (vh3.1*y27.2.1.1))+(w64 (vh3.2.1*y28.2.1.1))))+(w64 (vh3.2.2*y29.2.1.1)))) (w64 (f1.2.1*g2.1)))).bind fun t43=>
         bif t43 then
          (
           some ((false,true))
          )
         else
          (
           (some (!eqI (w64 ((w64 ((w64 (vh3.1*y27.2.1.2.1))+(w64 (vh3.2.1*y28.2.1.2.1))))+(w64 (vh3.2.2*y29.2.1.2.1)))) (w64 (f1.2.1*g2.2.1)))).bind fun t46=>
           bif t46 then
            (
             some ((false,true))
            )
           else
            (
             (some (!eqI (w64 ((w64 ((w64 (vh3.1*y27.2.1.2.2))+(w64 (vh3.2.1*y28.2.1.2.2))))+(w64 (vh3.2.2*y29.2.1.2.2)))) (w64 (f1.2.1*g2.2.2)))).bind fun t49=>
             bif t49 then
              (
               some ((false,true))
              )
             else
              (
               (some (!eqI (w64 ((w64 ((w64 (vh3.1*y27.2.2.1))+(w64 (vh3.2.1*y28.2.2.1))))+(w64 (vh3.2.2*y29.2.2.1)))) (w64 (f1.2.2*g2.1)))).bind fun t54=>
               bif t54 then
                (
                 some ((false,true))
                )
               else
                (
                 (some (!eqI (w64 ((w64 ((w64 (vh3.1*y27.2.2.2.1))+(w64 (vh3.2.1*y28.2.2.2.1))))+(w64 (vh3.2.2*y29.2.2.2.1)))) (w64 (f1.2.2*g2.2.1)))).bind fun t57=>
                 bif t57 then
                  (
                   some ((false,true))
                  )
                 else
                  (
                   (some (!eqI (w64 ((w64 ((w64 (vh3.1*y27.2.2.2.2))+(w64 (vh3.2.1*y28.2.2.2.2))))+(w64 (vh3.2.2*y29.2.2.2.2)))) (w64 (f1.2.2*g2.2.2)))).bind fun t60=>
                   bif t60 then
                    (
                     some ((false,true))
                    )
                   else
                    (
                     some ((true,true))
                    )
                  )
                )
              )
            )
          )
        )
      )
    )
  )
def zCy:Option (Int×Int×Int×Int):=
 some ((1,0,0,1))
def zB5(a1:Int)(vm2:Int):Option Int:=
 (zAy a1 vm2).bind fun y3=>
 (nz vm2).bind fun z4=>
 sI (w64 (Int.tdiv (w64 (a1 - y3)) vm2)) fun t5=>
 some t5
def jB(f1:(Int×Int×Int)):Option (Int×Int×Int×Int):=
 (qA f1).bind fun y2=>
 bif y2 then
  (
   (zCy).bind fun y4=>
   some y4
  )
 else
  (
   (qQ f1).bind fun y5=>
   bif (!y5) then
    (
     (zB5 (w64 (f1.1 - f1.2.1)) (w64 (2*f1.1))).bind fun y7=>
     some ((1,y7,0,1))
    )
   else
    (
     some ((0,-1,1,0))
    )
  )
def zE(vm1:(Int×Int×Int×Int))(vn2:(Int×Int×Int×Int)):Option (Int×Int×Int×Int):=
 sI (w64 ((w64 (vm1.1*vn2.1))+(w64 (vm1.2.1*vn2.2.2.1)))) fun f3=>
 sI (w64 ((w64 (vm1.1*vn2.2.1))+(w64 (vm1.2.1*vn2.2.2.2)))) fun f4=>
 sI (w64 ((w64 (vm1.2.2.1*vn2.1))+(w64 (vm1.2.2.2*vn2.2.2.1)))) fun f5=>
 sI (w64 ((w64 (vm1.2.2.1*vn2.2.1))+(w64 (vm1.2.2.2*vn2.2.2.2)))) fun f6=>
 some ((f3,f4,f5,f6))
def zBu:Nat→Int→Int→Int→Int→Int→Int→Int→Option (Int×Int×Int×Int×Int×Int×Int)
 |0,_,_,_,_,_,_,_=>none
 |n+1,f3,f4,f5,f6,f7,f8,f9=>
  (qA ((f7,f8,f9))).bind fun y12=>
  bif (!y12) then
   (
    (jB ((f7,f8,f9))).bind fun y14=>
    (qC ((f7,f8,f9)) y14).bind fun y15=>
    (zE ((f3,f4,f5,f6)) y14).bind fun y16=>
    zBu n y16.1 y16.2.1 y16.2.2.1 y16.2.2.2 y15.1 y15.2.1 y15.2.2
   )
  else
   (
    some (f3,f4,f5,f6,f7,f8,f9)
   )
def qF(f1:(Int×Int×Int)):Option ((Int×Int×Int)×(Int×Int×Int×Int)):=
 (zCy).bind fun y2=>
 (zBu FU y2.1 y2.2.1 y2.2.2.1 y2.2.2.2 f1.1 f1.2.1 f1.2.2).bind fun o11=>
 some ((o11.2.2.2.2,(o11.1,o11.2.1,o11.2.2.1,o11.2.2.2.1)))
def zAe(f1:(Int×Int×Int)):Option (Int×Int×Int):=
 (qF f1).bind fun y2=>
 some y2.1
def zCc(d1:Int):Option (Int×Int×Int):=
 (zAy d1 2).bind fun y2=>
 sI (w64 (Int.tdiv (w64 (y2 - d1)) 4)) fun f3=>
 some ((1,y2,f3))
def zCo(f1:(Int×Int×Int)):Option Bool:=
 (zAe f1).bind fun y2=>
 (zY f1).bind fun y3=>
 (zCc y3).bind fun y4=>
 (zAe y4).bind fun y5=>
 (some (((y2.1==y5.1)&&((y2.2.1==y5.2.1)&&(y2.2.2==y5.2.2))))).bind fun t6=>
 some t6
def zCL(a2:Int)(g1:(Int×Int×Int))(size3:Int)(x6:Int):Nat→Int→Option (Unit ⊕ (Int×Int))
 |0,_=>none
 |n+1,y10=>
  bif (leI y10 size3) then
   (
    (bif (eqI (mxI x6 y10) size3) then ((zED x6 y10).bind fun y15=>some (eqI y15 1)) else some false).bind fun b16=>
    (bif b16 then ((zBA g1 x6 y10).bind fun y18=>(zED y18 a2).bind fun y19=>some (eqI y19 1)) else some false).bind fun b20=>
    bif b20 then
     (
      some (.inr (((x6,y10))))
     )
    else
     (
      sI (w64 (y10+1)) fun y22=>
      zCL a2 g1 size3 x6 n y22
     )
   )
  else
   (
    some (.inl ())
   )
def zCd(a2:Int)(g1:(Int×Int×Int))(size3:Int):Nat→Int→Option (Unit ⊕ (Int×Int))
 |0,_=>none
 |n+1,x6=>
  bif (leI x6 size3) then
   (
    (zCL a2 g1 size3 x6 FU 0).bind fun qo12=>
    match qo12 with
    | .inr r=>some (.inr r)
    | .inl o12=>
     sI (w64 (x6+1)) fun x23=>
     zCd a2 g1 size3 n x23
   )
  else
   (
    some (.inl ())
   )
def zAz(a2:Int)(g1:(Int×Int×Int)):Nat→Int→Option (Unit ⊕ (Int×Int))
 |0,_=>none
 |n+1,size3=>
  (zCd a2 g1 size3 FU 0).bind fun qo8=>
  match qo8 with
  | .inr r=>some (.inr r)
  | .inl o8=>
   sI (w64 (size3+1)) fun size24=>
   zAz a2 g1 n size24
def zDx(g1:(Int×Int×Int))(a2:Int):Option (Int×Int):=
 (zAz a2 g1 FU 0).bind fun qo5=>
 match qo5 with
 | .inr r=>some r
 | .inl _=>none
def zGF(vm2:Int):Nat→Int→Int→Int→Int→Option Int
 |0,_,_,_,_=>none
 |n+1,x4,y5,vr6,vs7=>
  bif (!eqI vs7 0) then
   (
    (nz vs7).bind fun z11=>
    sI (w64 (Int.tdiv vr6 vs7)) fun q12=>
    sI (w64 (vr6 - (w64 (q12*vs7)))) fun vs13=>
    sI (w64 (x4 - (w64 (q12*y5)))) fun y14=>
    zGF vm2 n y5 y14 vs7 vs13
   )
  else
   (
    some x4
   )
def zEr(a1:Int)(vm2:Int):Option Int:=
 (zAy a1 vm2).bind fun y3=>
 (zGF vm2 FU 1 0 y3 vm2).bind fun o9=>
 (zAy o9 vm2).bind fun y15=>
 some y15
def zBf(f1:(Int×Int×Int))(x2:Int)(y3:Int):Option ((Int×Int×Int)×(Int×Int×Int×Int)):=
 (
  bif (eqI y3 0) then
   (
    some (0,x2)
   )
  else
   (
    (zEE y3).bind fun y6=>
    (zEr x2 y6).bind fun y7=>
    (nz y3).bind fun z8=>
    sI (w64 (Int.tdiv (w64 ((w64 (x2*y7)) - 1)) y3)) fun f9=>
    some (f9,y7)
   )
 ).bind fun j4=>
 (qC f1 ((x2,j4.1,y3,j4.2))).bind fun y10=>
 (zB5 y10.2.1 (w64 (2*y10.1))).bind fun y11=>
 sI (w64 (0 - y11)) fun t12=>
 sI (w64 (j4.1+(w64 (t12*x2)))) fun f13=>
 sI (w64 (j4.2+(w64 (t12*y3)))) fun f14=>
 (qC f1 ((x2,f13,y3,f14))).bind fun y15=>
 some ((y15,(x2,f13,y3,f14)))
def zE9(f1:(Int×Int×Int))(y4:((Int×Int×Int)×(Int×Int×Int×Int))):Nat→Int→Option Int
 |0,_=>none
 |n+1,f6=>
  (zAy (w64 (f6 - y4.1.2.1)) (w64 (2*y4.1.1))).bind fun y9=>
  bif (!eqI y9 0) then
   (
    sI (w64 (f6+(w64 (2*f1.1)))) fun f11=>
    zE9 f1 y4 n f11
   )
  else
   (
    some f6
   )
def zDu(f1:(Int×Int×Int))(g2:(Int×Int×Int)):Option (Int×Int×Int×Int×(Int×Int×Int×Int)×(Int×Int×Int×Int)):=
 (zDx g2 f1.1).bind fun y3=>
 (zBf g2 y3.1 y3.2).bind fun y4=>
 (zAy f1.2.1 (w64 (2*f1.1))).bind fun y5=>
 (zE9 f1 y4 FU y5).bind fun o8=>
 (zAy o8 (w64 ((w64 (2*f1.1))*y4.1.1))).bind fun y12=>
 (zY f1).bind fun y13=>
 (nz (w64 ((w64 (4*f1.1))*y4.1.1))).bind fun z14=>
 sI (w64 (Int.tdiv (w64 ((w64 (y12*y12)) - y13)) (w64 ((w64 (4*f1.1))*y4.1.1)))) fun f15=>
 (nz (w64 (2*f1.1))).bind fun z16=>
 sI (w64 (Int.tdiv (w64 (y12 - f1.2.1)) (w64 (2*f1.1)))) fun f17=>
 (nz (w64 (2*y4.1.1))).bind fun z18=>
 (zE y4.2 ((1,w64 (Int.tdiv (w64 (y12 - y4.1.2.1)) (w64 (2*y4.1.1))),0,1))).bind fun y19=>
 some ((f1.1,y4.1.1,y12,f15,(1,f17,0,1),y19))
def zAs(u1:(Int×Int×Int×Int×(Int×Int×Int×Int)×(Int×Int×Int×Int))):Option (Int×Int×Int):=
 sI (w64 (u1.1*u1.2.1)) fun f2=>
 some ((f2,u1.2.2.1,u1.2.2.2.1))
def zD7(f1:(Int×Int×Int))(g2:(Int×Int×Int)):Option (Int×Int×Int):=
 (zAe f1).bind fun y3=>
 (zAe g2).bind fun y4=>
 (zDu y3 y4).bind fun y5=>
 (zAs y5).bind fun y6=>
 (zAe y6).bind fun y7=>
 some y7
def zBv(f1:(Int×Int×Int)):Nat→Int→Int→Int→Int→Option Int
 |0,_,_,_,_=>none
 |n+1,k3,f4,f5,f6=>
  (zCo ((f4,f5,f6))).bind fun y9=>
  bif (!y9) then
   (
    sI (w64 (k3+1)) fun k11=>
    (zD7 ((f4,f5,f6)) f1).bind fun y12=>
    zBv f1 n k11 y12.1 y12.2.1 y12.2.2
   )
  else
   (
    some k3
   )
def zD5(f1:(Int×Int×Int)):Option Int:=
 (zAe f1).bind fun y2=>
 (zBv f1 FU 1 y2.1 y2.2.1 y2.2.2).bind fun o8=>
 some o8
def zFF(f1:(Int×Int×Int))(vn2:Int):Option Bool:=
 (zZ f1).bind fun y3=>
 (bif (bif y3 then (leI 1 vn2) else false) then ((zD5 f1).bind fun y6=>some (eqI y6 vn2)) else some false).bind fun b7=>
 some b7
def zL(cc1:(qe×(List (Int×Int×Int))×(List (Int×Int×Int×Int))×(List Int))):Option Bool:=
 (some (cc1.1.toList==((⟨#[101,113,117,105,118,97,108,101,110,116]⟩:qe)).toList)).bind fun t2=>
 bif t2 then
  (
   (getI cc1.2.1 0).bind fun e4=>
   (getI cc1.2.2.1 0).bind fun e5=>
   (getI cc1.2.1 1).bind fun e6=>
   (zBw e4 e5 e6).bind fun y7=>
   some y7
  )
 else
  (
   (some (cc1.1.toList==((⟨#[100,105,102,102,101,114,101,110,116]⟩:qe)).toList)).bind fun t8=>
   bif t8 then
    (
     (getI cc1.2.1 0).bind fun e10=>
     (zN e10).bind fun y11=>
     (bif y11 then ((getI cc1.2.1 2).bind fun e13=>(zN e13).bind fun y14=>some y14) else some false).bind fun b15=>
     (bif b15 then ((getI cc1.2.1 0).bind fun e17=>(getI cc1.2.2.1 0).bind fun e18=>(getI cc1.2.1 1).bind fun e19=>(zBw e17 e18 e19).bind fun y20=>some y20) else some false).bind fun b21=>
     (bif b21 then ((getI cc1.2.1 2).bind fun e23=>(getI cc1.2.2.1 1).bind fun e24=>(getI cc1.2.1 3).bind fun e25=>(zBw e23 e24 e25).bind fun y26=>some y26) else some false).bind fun b27=>
     (bif b27 then ((getI cc1.2.1 1).bind fun e29=>(qA e29).bind fun y30=>some y30) else some false).bind fun b31=>
     (bif b31 then ((getI cc1.2.1 3).bind fun e33=>(qA e33).bind fun y34=>some y34) else some false).bind fun b35=>
     (bif b35 then ((getI cc1.2.1 1).bind fun e37=>(getI cc1.2.1 3).bind fun e38=>some (!((e37.1==e38.1)&&((e37.2.1==e38.2.1)&&(e37.2.2==e38.2.2))))) else some false).bind fun b39=>
     some b39
    )
   else
    (
     (some (cc1.1.toList==((⟨#[118,97,108,117,101]⟩:qe)).toList)).bind fun t40=>
     bif t40 then
      (
       (getI cc1.2.1 0).bind fun e42=>
       (getI cc1.2.2.2 1).bind fun e43=>
       (getI cc1.2.2.2 2).bind fun e44=>
       (zBA e42 e43 e44).bind fun y45=>
       (getI cc1.2.2.2 0).bind fun e46=>
       (bif (eqI y45 e46) then ((getI cc1.2.2.2 1).bind fun e48=>(getI cc1.2.2.2 2).bind fun e49=>(zED e48 e49).bind fun y50=>some (eqI y50 1)) else some false).bind fun b51=>
       some b51
      )
     else
      (
       (some (cc1.1.toList==((⟨#[111,98,115,116,114,117,99,116,105,111,110]⟩:qe)).toList)).bind fun t52=>
       bif t52 then
        (
         (getI cc1.2.2.2 0).bind fun e54=>
         (getI cc1.2.2.2 1).bind fun e55=>
         (getI cc1.2.2.2 2).bind fun e56=>
         (zDw e54 e55 e56).bind fun y57=>
         some y57
        )
       else
        (
         (some (cc1.1.toList==((⟨#[99,111,109,112,111,115,105,116,101]⟩:qe)).toList)).bind fun t58=>
         bif t58 then
          (
           (getI cc1.2.1 0).bind fun e60=>
           (getI cc1.2.1 1).bind fun e61=>
           (getI cc1.2.1 2).bind fun e62=>
           (zCg e60 e61 e62 cc1.2.2.2).bind fun y63=>
           some (bif y63.1 then y63.2 else false)
          )
         else
          (
           (some (cc1.1.toList==((⟨#[111,114,100,101,114]⟩:qe)).toList)).bind fun t65=>
           bif t65 then
            (
             (getI cc1.2.1 0).bind fun e67=>
             (getI cc1.2.2.2 0).bind fun e68=>
             (zFF e67 e68).bind fun y69=>
             some y69
            )
           else
            (
             (some (cc1.1.toList==((⟨#[114,111,111,116]⟩:qe)).toList)).bind fun t70=>
             bif t70 then
              (
               (getI cc1.2.2.2 1).bind fun e72=>
               (bif (leI 1 e72) then ((getI cc1.2.2.2 2).bind fun e74=>(getI cc1.2.2.2 2).bind fun e75=>(getI cc1.2.2.2 0).bind fun e76=>(getI cc1.2.2.2 1).bind fun e77=>(nz (w64 (4*e77))).bind fun z78=>some (eqI (Int.tmod (w64 ((w64 (e74*e75)) - e76)) (w64 (4*e77))) 0)) else some false).bind fun b79=>
               some b79
              )
             else
              (
               (some (cc1.1.toList==((⟨#[97,117,116,111,109,111,114,112,104]⟩:qe)).toList)).bind fun t80=>
               bif t80 then
                (
                 (getI cc1.2.1 0).bind fun e82=>
                 (getI cc1.2.2.1 0).bind fun e83=>
                 (getI cc1.2.1 0).bind fun e84=>
                 (zBw e82 e83 e84).bind fun y85=>
                 some y85
                )
               else
                (
                 (getI cc1.2.2.2 1).bind fun e86=>
                 (getI cc1.2.2.2 1).bind fun e87=>
                 (getI cc1.2.2.2 0).bind fun e88=>
                 (getI cc1.2.2.2 2).bind fun e89=>
                 (getI cc1.2.2.2 2).bind fun e90=>
                 (zEE (w64 ((w64 (e86*e87)) - (w64 ((w64 (e88*e89))*e90))))).bind fun y91=>
                 some (eqI y91 4)
                )
              )
            )
          )
        )
      )
    )
  )
def qI(vs1:qe):Option Int:=
 (zAx vs1).bind fun y2=>
 bif (!y2.2) then
  (
   some 0
  )
 else
  (
   (zL y2.1).bind fun y4=>
   bif y4 then
    (
     some 2
    )
   else
    (
     some 1
    )
  )
def zBP(b2:Int)(vs1:qe):Nat→Int→Int→List qe→Option (Int×(List qe))
 |0,_,_,_=>none
 |n+1,vfrom3,i4,l5=>
  bif (ltI i4 ((vs1.size:Int))) then
   (
    (getB vs1 i4).bind fun e9=>
    bif (eqI e9 b2) then
     (
      (slc vs1.size vfrom3 i4).bind fun u11=>
      (room (l5.length+([vs1.extract (Int.toNat vfrom3) (Int.toNat i4)]).length)).bind fun u12=>
      sI (w64 (i4+1)) fun vfrom13=>
      sI (w64 (i4+1)) fun i14=>
      zBP b2 vs1 n vfrom13 i14 (l5++([vs1.extract (Int.toNat vfrom3) (Int.toNat i4)]))
     )
    else
     (
      sI (w64 (i4+1)) fun i15=>
      zBP b2 vs1 n vfrom3 i15 l5
     )
   )
  else
   (
    some (vfrom3,l5)
   )
def zAJ(vs1:qe)(b2:Int):Option (List qe):=
 (zBP b2 vs1 FU 0 0 (([]:List qe))).bind fun o7=>
 (slc vs1.size o7.1 ((vs1.size:Int))).bind fun u16=>
 (room (o7.2.length+([vs1.extract (Int.toNat o7.1) (Int.toNat ((vs1.size:Int)))]).length)).bind fun u17=>
 (some (o7.2++([vs1.extract (Int.toNat o7.1) (Int.toNat ((vs1.size:Int)))]))).bind fun l18=>
 some l18
def zBo(kind1:qe):Option qe:=
 (some (kind1.toList==((⟨#[101,113,117,105,118,97,108,101,110,116]⟩:qe)).toList)).bind fun t2=>
 bif t2 then
  (
   some ((⟨#[102,102,109]⟩:qe))
  )
 else
  (
   (some (kind1.toList==((⟨#[100,105,102,102,101,114,101,110,116]⟩:qe)).toList)).bind fun t4=>
   bif t4 then
    (
     some ((⟨#[102,109,102,102,109,102]⟩:qe))
    )
   else
    (
     (some (kind1.toList==((⟨#[118,97,108,117,101]⟩:qe)).toList)).bind fun t6=>
     bif t6 then
      (
       some ((⟨#[102,110,110,110]⟩:qe))
      )
     else
      (
       (
        (some (kind1.toList==((⟨#[111,98,115,116,114,117,99,116,105,111,110]⟩:qe)).toList)).bind fun t9=>
        bif t9 then
         (
          some t9
         )
        else
         (
          (some (kind1.toList==((⟨#[114,111,111,116]⟩:qe)).toList)).bind fun t11=>
          bif t11 then
           (
            some t11
           )
          else
           (
            (some (kind1.toList==((⟨#[115,111,108,117,116,105,111,110]⟩:qe)).toList)).bind fun t13=>
            some t13
           )
         )
       ).bind fun j8=>
       bif j8 then
        (
         some ((⟨#[110,110,110]⟩:qe))
        )
       else
        (
         (some (kind1.toList==((⟨#[99,111,109,112,111,115,105,116,101]⟩:qe)).toList)).bind fun t15=>
         bif t15 then
          (
           some ((⟨#[102,102,102,110,110,110,110,110,110,110,110]⟩:qe))
          )
         else
          (
           (some (kind1.toList==((⟨#[111,114,100,101,114]⟩:qe)).toList)).bind fun t17=>
           bif t17 then
            (
             some ((⟨#[102,110]⟩:qe))
            )
           else
            (
             (some (kind1.toList==((⟨#[97,117,116,111,109,111,114,112,104]⟩:qe)).toList)).bind fun t19=>
             bif t19 then
              (
               some ((⟨#[102,109]⟩:qe))
              )
             else
              (
               some ((⟨#[]⟩:qe))
              )
            )
          )
        )
      )
    )
  )
def zAc(vs1:qe)(first2:Int)(last3:Int):Option (qe×Bool):=
 (bif (ltI ((vs1.size:Int)) 2) then some true else ((getB vs1 0).bind fun e5=>some (!eqI e5 first2))).bind fun b6=>
 (bif b6 then some true else ((getB vs1 (w64 (((vs1.size:Int)) - 1))).bind fun e8=>some (!eqI e8 last3))).bind fun b9=>
 bif b9 then
  (
   some (((⟨#[]⟩:qe),false))
  )
 else
  (
   (slc vs1.size 1 (w64 (((vs1.size:Int)) - 1))).bind fun u11=>
   some ((vs1.extract (Int.toNat 1) (Int.toNat (w64 (((vs1.size:Int)) - 1))),true))
  )
def zBp(vs1:qe):Nat→Int→Int→Option (Int ⊕ Int)
 |0,_,_=>none
 |n+1,vn8,i9=>
  bif (ltI i9 ((vs1.size:Int))) then
   (
    (getB vs1 i9).bind fun e13=>
    (bif (ltI e13 48) then some true else ((getB vs1 i9).bind fun e15=>some (ltI 57 e15))).bind fun b16=>
    bif b16 then
     (
      some (.inr ((-1)))
     )
    else
     (
      (getB vs1 i9).bind fun e18=>
      sI (w64 ((w64 (10*vn8))+(IntKind.i64.wrap (IntKind.u8.wrap (e18 - 48))))) fun vn19=>
      sI (w64 (i9+1)) fun i20=>
      zBp vs1 n vn19 i20
     )
   )
  else
   (
    some (.inl vn8)
   )
def zGe(vs1:qe):Option Int:=
 (qP ((vs1.size:Int)) 1 10).bind fun y2=>
 (bif (!y2) then some true else ((getB vs1 0).bind fun e4=>some (bif (eqI e4 48) then (ltI 1 ((vs1.size:Int))) else false))).bind fun b6=>
 bif b6 then
  (
   some (-1)
  )
 else
  (
   (zBp vs1 FU 0 0).bind fun qo11=>
   match qo11 with
   | .inr r=>some r
   | .inl o11=>some o11
  )
def zBr(vs1:qe):Option (Int×Bool):=
 (bif (ltI 1 ((vs1.size:Int))) then ((getB vs1 0).bind fun e3=>some (eqI e3 45)) else some false).bind fun b4=>
 (
  bif b4 then
   (
    (slc vs1.size 1 ((vs1.size:Int))).bind fun u7=>
    some (vs1.extract (Int.toNat 1) (Int.toNat ((vs1.size:Int))))
   )
  else
   (
    some vs1
   )
 ).bind fun j5=>
 (zGe j5).bind fun y8=>
 (some (bif (bif (ltI y8 0) then true else (bif b4 then (eqI y8 0) else false)) then true else (ltI 1000000 y8))).bind fun t12=>
 bif t12 then
  (
   some ((0,false))
  )
 else
  (
   bif b4 then
    (
     sI (w64 (0 - y8)) fun t15=>
     some ((t15,true))
    )
   else
    (
     some ((y8,true))
    )
  )
def zBF(y4:List qe):Nat→Int→List Int→Option (List Int ⊕ List Int)
 |0,_,_=>none
 |n+1,t6,l7=>
  bif (ltI t6 ((y4.length:Int))) then
   (
    (getI y4 t6).bind fun e11=>
    (getI y4 t6).bind fun e12=>
    (zBr e12).bind fun y13=>
    bif (!y13.2) then
     (
      some (.inr ((([]:List Int))))
     )
    else
     (
      (room (l7.length+([y13.1]).length)).bind fun u15=>
      sI (w64 (t6+1)) fun t16=>
      zBF y4 n t16 (l7++([y13.1]))
     )
   )
  else
   (
    some (.inl l7)
   )
def zAB(vs1:qe)(b2:Int)(count3:Int):Option (List Int):=
 (zAJ vs1 b2).bind fun y4=>
 bif (!eqI ((y4.length:Int)) count3) then
  (
   some (([]:List Int))
  )
 else
  (
   (zBF y4 FU 0 (([]:List Int))).bind fun qo9=>
   match qo9 with
   | .inr r=>some r
   | .inl o9=>some o9
  )
def zDO(vs1:qe):Option ((Int×Int×Int)×Bool):=
 (zAc vs1 40 41).bind fun y2=>
 (zAB y2.1 44 3).bind fun y3=>
 bif (bif (!y2.2) then true else (!eqI ((y3.length:Int)) 3)) then
  (
   some (((0,0,0),false))
  )
 else
  (
   (getI y3 0).bind fun e6=>
   (getI y3 0).bind fun e7=>
   (getI y3 1).bind fun e8=>
   (getI y3 1).bind fun e9=>
   (getI y3 2).bind fun e10=>
   (getI y3 2).bind fun e11=>
   some (((e7,e9,e11),true))
  )
def zAi(vs1:qe):Option ((Int×Int×Int×Int)×Bool):=
 (zAc vs1 91 93).bind fun y2=>
 (zAJ y2.1 59).bind fun y3=>
 bif (bif (!y2.2) then true else (!eqI ((y3.length:Int)) 2)) then
  (
   some (((0,0,0,0),false))
  )
 else
  (
   (getI y3 0).bind fun e6=>
   (getI y3 0).bind fun e7=>
   (zAB e7 44 2).bind fun y8=>
   (getI y3 1).bind fun e9=>
   (getI y3 1).bind fun e10=>
   (zAB e10 44 2).bind fun y11=>
   (some (bif (!eqI ((y8.length:Int)) 2) then true else (!eqI ((y11.length:Int)) 2))).bind fun t13=>
   bif t13 then
    (
     some (((0,0,0,0),false))
    )
   else
    (
     (getI y8 0).bind fun e15=>
     (getI y8 0).bind fun e16=>
     (getI y8 1).bind fun e17=>
     (getI y8 1).bind fun e18=>
     (getI y11 0).bind fun e19=>
     (getI y11 0).bind fun e20=>
     (getI y11 1).bind fun e21=>
     (getI y11 1).bind fun e22=>
     some (((e16,e18,e20,e22),true))
    )
  )
def zO(y2:List qe)(y5:qe):Nat→Bool→Int→List (Int×Int×Int)→List (Int×Int×Int×Int)→List Int→Option (Bool×(List Int)×(List (Int×Int×Int×Int))×(List (Int×Int×Int)))
 |0,_,_,_,_,_=>none
 |n+1,ok9,i10,l11,l12,l13=>
  bif (ltI i10 ((y5.size:Int))) then
   (
    (getI y2 (w64 (i10+1))).bind fun e17=>
    (getI y2 (w64 (i10+1))).bind fun e18=>
    (getB y5 i10).bind fun e19=>
    bif (eqI e19 102) then
     (
      (zDO e18).bind fun y21=>
      (room (l11.length+([y21.1]).length)).bind fun u22=>
      sI (w64 (i10+1)) fun i24=>
      zO y2 y5 n (bif ok9 then y21.2 else false) i24 (l11++([y21.1])) l12 l13
     )
    else
     (
      bif (eqI e19 109) then
       (
        (zAi e18).bind fun y26=>
        (room (l12.length+([y26.1]).length)).bind fun u27=>
        sI (w64 (i10+1)) fun i29=>
        zO y2 y5 n (bif ok9 then y26.2 else false) i29 l11 (l12++([y26.1])) l13
       )
      else
       (
        (zBr e18).bind fun y30=>
        (room (l13.length+([y30.1]).length)).bind fun u31=>
        sI (w64 (i10+1)) fun i33=>
        zO y2 y5 n (bif ok9 then y30.2 else false) i33 l11 l12 (l13++([y30.1]))
       )
     )
   )
  else
   (
    some (ok9,l13,l12,l11)
   )
def zBV(vs1:qe):Option (qe×((List (Int×Int×Int))×(List (Int×Int×Int×Int))×(List Int))×Bool):=
 (zAJ vs1 32).bind fun y2=>
 (getI y2 0).bind fun e3=>
 (getI y2 0).bind fun e4=>
 (zBo e4).bind fun y5=>
 (some (bif (y5.toList==((⟨#[]⟩:qe)).toList) then true else (!eqI ((y2.length:Int)) (w64 (((y5.size:Int))+1))))).bind fun t7=>
 bif t7 then
  (
   some (((⟨#[]⟩:qe),(([]:List (Int×Int×Int)),([]:List (Int×Int×Int×Int)),([]:List Int)),false))
  )
 else
  (
   (zO y2 y5 FU true 0 (([]:List (Int×Int×Int))) (([]:List (Int×Int×Int×Int))) (([]:List Int))).bind fun o15=>
   (getI y2 0).bind fun e34=>
   (getI y2 0).bind fun e35=>
   some ((e35,(o15.2.2.2,o15.2.2.1,o15.2.1),o15.1))
  )
def zC6(f1:(Int×Int×Int))(vm2:(Int×Int×Int×Int))(g3:(Int×Int×Int)):Option Bool:=
 (zGC vm2).bind fun y4=>
 (bif (eqI y4 1) then ((zCZ f1 vm2).bind fun y6=>some (((y6.1==g3.1)&&((y6.2.1==g3.2.1)&&(y6.2.2==g3.2.2))))) else some false).bind fun b7=>
 some b7
def zDp(vn1:Int):Nat→Int→Option (Unit ⊕ Bool)
 |0,_=>none
 |n+1,d3=>
  bif (leI (w64 (d3*d3)) vn1) then
   (
    (nz d3).bind fun z7=>
    bif (eqI (Int.tmod vn1 d3) 0) then
     (
      some (.inr false)
     )
    else
     (
      sI (w64 (d3+1)) fun d9=>
      zDp vn1 n d9
     )
   )
  else
   (
    some (.inl ())
   )
def zEL(vn1:Int):Option Bool:=
 bif (ltI vn1 2) then
  (
   some false
  )
 else
  (
   (zDp vn1 FU 2).bind fun qo5=>
   match qo5 with
   | .inr r=>some r
   | .inl o5=>some true
  )
def zDQ(d1:Int)(vn2:Int):Nat→Int→List Int→Option (List Int)
 |0,_,_=>none
 |n+1,b3,l4=>
  bif (ltI b3 (w64 (2*vn2))) then
   (
    (nz (w64 (4*vn2))).bind fun z8=>
    (some (eqI (Int.tmod (w64 ((w64 (b3*b3)) - d1)) (w64 (4*vn2))) 0)).bind fun t9=>
    bif t9 then
     (
      (room (l4.length+([b3]).length)).bind fun u11=>
      sI (w64 (b3+1)) fun b12=>
      zDQ d1 vn2 n b12 (l4++([b3]))
     )
    else
     (
      sI (w64 (b3+1)) fun b13=>
      zDQ d1 vn2 n b13 l4
     )
   )
  else
   (
    some l4
   )
def zEe(d1:Int)(vn2:Int):Option (List Int):=
 (zDQ d1 vn2 FU 0 (([]:List Int))).bind fun o6=>
 some o6
def zGD(f1:(Int×Int×Int))(g2:(Int×Int×Int))(i6:Int)(k4:List Int)(vh3:(Int×Int×Int)):Nat→Int→List Int→Option (List Int)
 |0,_,_=>none
 |n+1,j11,l12=>
  bif (ltI j11 4) then
   (
    sI (w64 ((w64 ((w64 (3*(w64 ((w64 (Int.tdiv i6 2))+(w64 (Int.tdiv j11 2))))))+(Int.tmod i6 2)))+(Int.tmod j11 2))) fun vat16=>
    (getI l12 vat16).bind fun e17=>
    (getI l12 vat16).bind fun e18=>
    (getI k4 i6).bind fun e19=>
    (getI k4 j11).bind fun e20=>
    (getI k4 i6).bind fun e21=>
    (getI k4 (w64 (4+j11))).bind fun e22=>
    (getI k4 (w64 (4+i6))).bind fun e23=>
    (getI k4 (w64 (4+j11))).bind fun e24=>
    (getI l12 vat16).bind fun e25=>
    (getI l12 vat16).bind fun e26=>
    (some (l12.set (Int.toNat (vat16)) (w64 (e18+(w64 ((w64 ((w64 ((w64 (vh3.1*e19))*e20))+(w64 ((w64 (vh3.2.1*e21))*e22))))+(w64 ((w64 (vh3.2.2*e23))*e24)))))))).bind fun l27=>
    sI (w64 (j11+1)) fun j28=>
    zGD f1 g2 i6 k4 vh3 n j28 l27
   )
  else
   (
    some l12
   )
def zFE(f1:(Int×Int×Int))(g2:(Int×Int×Int))(k4:List Int)(vh3:(Int×Int×Int)):Nat→Int→List Int→Option (List Int)
 |0,_,_=>none
 |n+1,i6,l7=>
  bif (ltI i6 4) then
   (
    (zGD f1 g2 i6 k4 vh3 FU 0 l7).bind fun o14=>
    sI (w64 (i6+1)) fun i29=>
    zFE f1 g2 k4 vh3 n i29 o14
   )
  else
   (
    some l7
   )
def zEk(f1:(Int×Int×Int))(g2:(Int×Int×Int))(o9:List Int):Nat→Int→Option (Unit ⊕ Bool)
 |0,_=>none
 |n+1,i30=>
  bif (ltI i30 9) then
   (
    (getI o9 i30).bind fun e34=>
    (getI o9 i30).bind fun e35=>
    (getI ([[f1.1,f1.2.1,f1.2.2],[g2.1,g2.2.1,g2.2.2]]:List (List Int)) 0).bind fun e36=>
    (getI ([[f1.1,f1.2.1,f1.2.2],[g2.1,g2.2.1,g2.2.2]]:List (List Int)) 0).bind fun e37=>
    (getI e37 (w64 (Int.tdiv i30 3))).bind fun e38=>
    (getI ([[f1.1,f1.2.1,f1.2.2],[g2.1,g2.2.1,g2.2.2]]:List (List Int)) 1).bind fun e39=>
    (getI ([[f1.1,f1.2.1,f1.2.2],[g2.1,g2.2.1,g2.2.2]]:List (List Int)) 1).bind fun e40=>
    (getI e40 (Int.tmod i30 3)).bind fun e41=>
    bif (!eqI e35 (w64 (e38*e41))) then
     (
      some (.inr false)
     )
    else
     (
      sI (w64 (i30+1)) fun i43=>
      zEk f1 g2 o9 n i43
     )
   )
  else
   (
    some (.inl ())
   )
def zGg(f1:(Int×Int×Int))(g2:(Int×Int×Int))(vh3:(Int×Int×Int))(k4:List Int):Option Bool:=
 (mk 9 9).bind fun u5=>
 (zFE f1 g2 k4 vh3 FU 0 (List.replicate (Int.toNat (9)) ((0:Int)))).bind fun o9=>
 (zEk f1 g2 o9 FU 0).bind fun qo32=>
 match qo32 with
 | .inr r=>some r
 | .inl o32=>some true
def zCa(f1:(Int×Int×Int))(g2:(Int×Int×Int))(vh3:(Int×Int×Int))(k4:List Int):Option (Bool×Bool):=
 (zDE f1 g2).bind fun y5=>
 (bif (!y5) then some true else ((zDE f1 vh3).bind fun y7=>some (!y7))).bind fun b8=>
 (bif b8 then some true else ((zBc vh3).bind fun y10=>some (!y10))).bind fun b11=>
 (bif (bif b11 then true else (!eqI ((k4.length:Int)) 8)) then some true else ((zBq k4 (-1000000) 1000000).bind fun y14=>some (!y14))).bind fun b15=>
 bif b15 then
  (
   some ((false,false))
  )
 else
  (
   (zGg f1 g2 vh3 k4).bind fun y17=>
   some ((y17,true))
  )
def zGB(f1:(Int×Int×Int)):Option (Int×Int×Int):=
 sI (w64 (0 - f1.2.1)) fun f2=>
 some ((f1.1,f2,f1.2.2))
def zG0(f1:(Int×Int×Int)):Option (Int×Int×Int):=
 (zGB f1).bind fun y2=>
 (zAU y2).bind fun y3=>
 some y3
def zD0:Nat→Int→Int→Int→Int→Int→Int→Int→Option (Int×Int×Int)
 |0,_,_,_,_,_,_,_=>none
 |n+1,k10,f11,f12,f13,f14,f15,f16=>
  bif (ltI 0 k10) then
   (
    (
     bif (eqI (Int.tmod k10 2) 1) then
      (
       (zB4 ((f11,f12,f13)) ((f14,f15,f16))).bind fun y22=>
       some (y22.1,y22.2.1,y22.2.2)
      )
     else
      (
       some (f11,f12,f13)
      )
    ).bind fun j20=>
    (zB4 ((f14,f15,f16)) ((f14,f15,f16))).bind fun y23=>
    sI (w64 (Int.tdiv k10 2)) fun k24=>
    zD0 n k24 j20.1 j20.2.1 j20.2.2 y23.1 y23.2.1 y23.2.2
   )
  else
   (
    some (f11,f12,f13)
   )
def zD1(f1:(Int×Int×Int))(k2:Int):Option (Int×Int×Int):=
 (zAU f1).bind fun y3=>
 (
  bif (ltI k2 0) then
   (
    (zG0 y3).bind fun y6=>
    sI (w64 (0 - k2)) fun k7=>
    some (k7,y6.1,y6.2.1,y6.2.2)
   )
  else
   (
    some (k2,y3.1,y3.2.1,y3.2.2)
   )
 ).bind fun j4=>
 (qO j4.2).bind fun y8=>
 (zDF y8).bind fun y9=>
 (zD0 FU j4.1 y9.1 y9.2.1 y9.2.2 j4.2.1 j4.2.2.1 j4.2.2.2).bind fun o18=>
 some o18
def zCP(f1:(Int×Int×Int))(vn2:Int)(y11:List Int)(y7:(Int×Int×Int)):Nat→Int→Option (Unit ⊕ Bool)
 |0,_=>none
 |n+1,t12=>
  bif (ltI t12 ((y11.length:Int))) then
   (
    (getI y11 t12).bind fun e16=>
    (nz e16).bind fun z17=>
    (zD1 f1 (w64 (Int.tdiv vn2 e16))).bind fun y18=>
    (some (((y18.1==y7.1)&&((y18.2.1==y7.2.1)&&(y18.2.2==y7.2.2))))).bind fun t19=>
    bif t19 then
     (
      some (.inr false)
     )
    else
     (
      sI (w64 (t12+1)) fun t21=>
      zCP f1 vn2 y11 y7 n t21
     )
   )
  else
   (
    some (.inl ())
   )
def zEm(f1:(Int×Int×Int))(vn2:Int):Option Bool:=
 (zC0 f1).bind fun y3=>
 bif (bif (!y3) then true else (ltI vn2 1)) then
  (
   some false
  )
 else
  (
   (qO f1).bind fun y6=>
   (zDF y6).bind fun y7=>
   (zD1 f1 vn2).bind fun y8=>
   (some (!((y8.1==y7.1)&&((y8.2.1==y7.2.1)&&(y8.2.2==y7.2.2))))).bind fun t9=>
   bif t9 then
    (
     some false
    )
   else
    (
     (zB2 vn2).bind fun y11=>
     (zCP f1 vn2 y11 y7 FU 0).bind fun qo14=>
     match qo14 with
     | .inr r=>some r
     | .inl o14=>some true
    )
  )
def qE(kind1:qe)(x2:((List (Int×Int×Int))×(List (Int×Int×Int×Int))×(List Int))):Option Bool:=
 (some (kind1.toList==((⟨#[101,113,117,105,118,97,108,101,110,116]⟩:qe)).toList)).bind fun t3=>
 bif t3 then
  (
   (getI x2.1 0).bind fun e5=>
   (getI x2.2.1 0).bind fun e6=>
   (getI x2.1 1).bind fun e7=>
   (zC6 e5 e6 e7).bind fun y8=>
   some y8
  )
 else
  (
   (some (kind1.toList==((⟨#[100,105,102,102,101,114,101,110,116]⟩:qe)).toList)).bind fun t9=>
   bif t9 then
    (
     (getI x2.1 0).bind fun e11=>
     (getI x2.1 1).bind fun e12=>
     (getI x2.1 2).bind fun e13=>
     (getI x2.1 3).bind fun e14=>
     (jU e11).bind fun y15=>
     (bif y15 then ((jU e13).bind fun y17=>some y17) else some false).bind fun b18=>
     (bif b18 then ((getI x2.2.1 0).bind fun e20=>(zC6 e11 e20 e12).bind fun y21=>some y21) else some false).bind fun b22=>
     (bif b22 then ((getI x2.2.1 1).bind fun e24=>(zC6 e13 e24 e14).bind fun y25=>some y25) else some false).bind fun b26=>
     (bif b26 then ((zBc e12).bind fun y28=>some y28) else some false).bind fun b29=>
     (bif b29 then ((zBc e14).bind fun y31=>some y31) else some false).bind fun b32=>
     (some (bif b32 then (!((e12.1==e14.1)&&((e12.2.1==e14.2.1)&&(e12.2.2==e14.2.2)))) else false)).bind fun t34=>
     some t34
    )
   else
    (
     (some (kind1.toList==((⟨#[118,97,108,117,101]⟩:qe)).toList)).bind fun t35=>
     bif t35 then
      (
       (getI x2.1 0).bind fun e37=>
       (getI x2.2.2 1).bind fun e38=>
       (getI x2.2.2 2).bind fun e39=>
       (zAb e37 e38 e39).bind fun y40=>
       (getI x2.2.2 0).bind fun e41=>
       (bif (eqI y40 e41) then ((getI x2.2.2 1).bind fun e43=>(getI x2.2.2 2).bind fun e44=>(zAR e43 e44).bind fun y45=>some (eqI y45 1)) else some false).bind fun b46=>
       some b46
      )
     else
      (
       (some (kind1.toList==((⟨#[111,98,115,116,114,117,99,116,105,111,110]⟩:qe)).toList)).bind fun t47=>
       bif t47 then
        (
         (getI x2.2.2 0).bind fun e49=>
         (getI x2.2.2 1).bind fun e50=>
         (getI x2.2.2 2).bind fun e51=>
         (zBD e49).bind fun y52=>
         (bif (bif y52 then (leI 1 e50) else false) then ((qP e51 2 2500).bind fun y55=>some y55) else some false).bind fun b56=>
         (bif b56 then ((zEL e51).bind fun y58=>some y58) else some false).bind fun b59=>
         (bif b59 then ((jT e50 e51).bind fun y61=>some (eqI (Int.tmod y61 2) 1)) else some false).bind fun b62=>
         (bif b62 then ((zEe e49 e51).bind fun y64=>some (eqI ((y64.length:Int)) 0)) else some false).bind fun b65=>
         some b65
        )
       else
        (
         (some (kind1.toList==((⟨#[99,111,109,112,111,115,105,116,101]⟩:qe)).toList)).bind fun t66=>
         bif t66 then
          (
           (getI x2.1 0).bind fun e68=>
           (getI x2.1 1).bind fun e69=>
           (getI x2.1 2).bind fun e70=>
           (zCa e68 e69 e70 x2.2.2).bind fun y71=>
           some (bif y71.1 then y71.2 else false)
          )
         else
          (
           (some (kind1.toList==((⟨#[111,114,100,101,114]⟩:qe)).toList)).bind fun t73=>
           bif t73 then
            (
             (getI x2.1 0).bind fun e75=>
             (getI x2.2.2 0).bind fun e76=>
             (zEm e75 e76).bind fun y77=>
             some y77
            )
           else
            (
             (some (kind1.toList==((⟨#[114,111,111,116]⟩:qe)).toList)).bind fun t78=>
             bif t78 then
              (
               (getI x2.2.2 0).bind fun e80=>
               (getI x2.2.2 1).bind fun e81=>
               (getI x2.2.2 2).bind fun e82=>
               (bif (leI 1 e81) then ((nz (w64 (4*e81))).bind fun z84=>some (eqI (Int.tmod (w64 ((w64 (e82*e82)) - e80)) (w64 (4*e81))) 0)) else some false).bind fun b85=>
               some b85
              )
             else
              (
               (some (kind1.toList==((⟨#[97,117,116,111,109,111,114,112,104]⟩:qe)).toList)).bind fun t86=>
               bif t86 then
                (
                 (getI x2.1 0).bind fun e88=>
                 (getI x2.2.1 0).bind fun e89=>
                 (getI x2.1 0).bind fun e90=>
                 (zC6 e88 e89 e90).bind fun y91=>
                 some y91
                )
               else
                (
                 (getI x2.2.2 0).bind fun e92=>
                 (getI x2.2.2 1).bind fun e93=>
                 (getI x2.2.2 2).bind fun e94=>
                 (zAS (w64 ((w64 (e93*e93)) - (w64 ((w64 (e92*e94))*e94))))).bind fun y95=>
                 some (eqI y95 4)
                )
              )
            )
          )
        )
      )
    )
  )
def zEK(vs1:qe):Option Int:=
 (zBV vs1).bind fun y2=>
 bif (!y2.2.2) then
  (
   some 0
  )
 else
  (
   (qE y2.1 y2.2.1).bind fun y4=>
   bif y4 then
    (
     some 2
    )
   else
    (
     some 1
    )
  )
def zAY(vs1:qe):Option Int:=
 (zEK vs1).bind fun y2=>
 some y2
def zBH(vs1:qe):Option (qe×Bool):=
 (zAx vs1).bind fun y2=>
 some ((y2.1.1,y2.2))
def zBG(vs1:qe):Option (qe×Bool):=
 (zBV vs1).bind fun y2=>
 bif (!y2.2.2) then
  (
   some (((⟨#[]⟩:qe),false))
  )
 else
  (
   some ((y2.1,true))
  )
def zA5:Nat→qe→Int→List Int→Int→Int→Option (qe×(List Int)×Int×Int)
 |0,_,_,_,_,_=>none
 |n+1,vs3,vn4,f5,f6,f7=>
  bif (ltI 0 vn4) then
   (
    (zAg ((f5,f6,f7))).bind fun y11=>
    (catR y11.1 ((⟨#[10]⟩:qe))).bind fun u12=>
    (catR vs3 (y11.1++((⟨#[10]⟩:qe)))).bind fun u13=>
    sI (w64 (vn4 - 1)) fun vn14=>
    zA5 n (vs3++(y11.1++((⟨#[10]⟩:qe)))) vn14 y11.2.1 y11.2.2.1 y11.2.2.2
   )
  else
   (
    some (vs3,f5,f6,f7)
   )
def zAX:Nat→qe→Int→Option qe
 |0,_,_=>none
 |n+1,vs24,vn25=>
  bif (ltI 0 vn25) then
   (
    (catR vs24 ((⟨#[114,111,111,116,32,45,50,51,32,49,32,49,10]⟩:qe))).bind fun u29=>
    sI (w64 (vn25 - 1)) fun vn30=>
    zAX n (vs24++((⟨#[114,111,111,116,32,45,50,51,32,49,32,49,10]⟩:qe))) vn30
   )
  else
   (
    some vs24
   )
def zBt(code1:List Int):Option qe:=
 (zA ((code1,0,0)) 6).bind fun y2=>
 (zA5 FU ((⟨#[]⟩:qe)) y2.1 y2.2.1 y2.2.2.1 y2.2.2.2).bind fun o9=>
 (
  (q9 o9.2 12).bind fun y16=>
  (some (bif y16.1 then (!(o9.1.toList==((⟨#[]⟩:qe)).toList)) else false)).bind fun t18=>
  bif t18 then
   (
    (slc o9.1.size 0 (w64 (((o9.1.size:Int)) - 1))).bind fun u20=>
    some (o9.1.extract (Int.toNat 0) (Int.toNat (w64 (((o9.1.size:Int)) - 1))),y16.2.1,y16.2.2.1,y16.2.2.2)
   )
  else
   (
    some (o9.1,y16.2.1,y16.2.2.1,y16.2.2.2)
   )
 ).bind fun j15=>
 (q9 j15.2 16).bind fun y21=>
 bif y21.1 then
  (
   (qT y21.2 ([39,40,41])).bind fun y23=>
   (zAX FU j15.1 y23.1).bind fun o27=>
   some o27
  )
 else
  (
   some j15.1
  )
def qV(vs1:qe)(suffix2:qe):Option Bool:=
 (bif (leI ((suffix2.size:Int)) ((vs1.size:Int))) then ((slc vs1.size (w64 (((vs1.size:Int)) - ((suffix2.size:Int)))) ((vs1.size:Int))).bind fun u4=>some ((vs1.extract (Int.toNat (w64 (((vs1.size:Int)) - ((suffix2.size:Int))))) (Int.toNat ((vs1.size:Int)))).toList==suffix2.toList)) else some false).bind fun b5=>
 some b5
def zAD(vs1:qe)(suffix2:qe):Option qe:=
 (qV vs1 suffix2).bind fun y3=>
 bif y3 then
  (
   (slc vs1.size 0 (w64 (((vs1.size:Int)) - ((suffix2.size:Int))))).bind fun u5=>
   some (vs1.extract (Int.toNat 0) (Int.toNat (w64 (((vs1.size:Int)) - ((suffix2.size:Int))))))
  )
 else
  (
   some vs1
  )
def zC4(vs1:qe)(suffix2:qe):Option qe:=
 (zAD vs1 suffix2).bind fun y3=>
 some y3
def zCz(vs1:qe)(suffix2:qe):Option Bool:=
 (qV vs1 suffix2).bind fun y3=>
 some y3
def zD6(vs1:qe):Option ((List qe)×Bool):=
 bif (vs1.toList==((⟨#[]⟩:qe)).toList) then
  (
   some ((([]:List qe),true))
  )
 else
  (
   (zC4 vs1 ((⟨#[10]⟩:qe))).bind fun y3=>
   (zAG y3 ((⟨#[10]⟩:qe))).bind fun y4=>
   (zCz vs1 ((⟨#[10]⟩:qe))).bind fun y5=>
   some ((y4,y5))
  )
def jN(y2:((List qe)×Bool)):Nat→Int→List Int→Option (List Int)
 |0,_,_=>none
 |n+1,t7,l8=>
  bif (ltI t7 ((y2.1.length:Int))) then
   (
    (getI y2.1 t7).bind fun e12=>
    (getI y2.1 t7).bind fun e13=>
    (qI e13).bind fun y14=>
    (room (l8.length+([y14]).length)).bind fun u15=>
    sI (w64 (t7+1)) fun t16=>
    jN y2 n t16 (l8++([y14]))
   )
  else
   (
    some l8
   )
def zBC(vs1:qe):Option ((List Int)×Bool):=
 (zD6 vs1).bind fun y2=>
 (some (bif (bif (!y2.2) then true else (ltI 4000 ((vs1.size:Int)))) then true else (ltI 40 ((y2.1.length:Int))))).bind fun t5=>
 bif t5 then
  (
   some ((([]:List Int),false))
  )
 else
  (
   (jN y2 FU 0 (([]:List Int))).bind fun o10=>
   some ((o10,true))
  )
def zFz(vs1:qe)(bytes2:Int)(most3:Int):Option ((List qe)×Bool):=
 (bif (ltI bytes2 ((vs1.size:Int))) then some true else ((bif (!(vs1.toList==((⟨#[]⟩:qe)).toList)) then ((getB vs1 (w64 (((vs1.size:Int)) - 1))).bind fun e6=>some (!eqI e6 10)) else some false).bind fun b7=>some b7)).bind fun b8=>
 bif b8 then
  (
   some ((([]:List qe),false))
  )
 else
  (
   (zAJ vs1 10).bind fun y10=>
   (slc y10.length 0 (w64 (((y10.length:Int)) - 1))).bind fun u11=>
   (some (leI (((subl y10 0 (w64 (((y10.length:Int)) - 1))).length:Int)) most3)).bind fun t12=>
   some ((subl y10 0 (w64 (((y10.length:Int)) - 1)),t12))
  )
def zBT(y2:((List qe)×Bool)):Nat→Int→List Int→Option (List Int)
 |0,_,_=>none
 |n+1,t4,l5=>
  bif (ltI t4 ((y2.1.length:Int))) then
   (
    (getI y2.1 t4).bind fun e9=>
    (zEK e9).bind fun y10=>
    (room (l5.length+([y10]).length)).bind fun u11=>
    sI (w64 (t4+1)) fun t12=>
    zBT y2 n t12 (l5++([y10]))
   )
  else
   (
    some l5
   )
def zD4(vs1:qe):Option ((List Int)×Bool):=
 (zFz vs1 4000 40).bind fun y2=>
 bif (!y2.2) then
  (
   some ((([]:List Int),false))
  )
 else
  (
   (zBT y2 FU 0 (([]:List Int))).bind fun o7=>
   some ((o7,true))
  )
def zCU(a1:List Int)(b2:List Int):Nat→Int→Option (Unit ⊕ Bool)
 |0,_=>none
 |n+1,t4=>
  bif (ltI t4 ((a1.length:Int))) then
   (
    (getI a1 t4).bind fun e8=>
    (getI b2 t4).bind fun e9=>
    bif (!eqI e8 e9) then
     (
      some (.inr false)
     )
    else
     (
      sI (w64 (t4+1)) fun t11=>
      zCU a1 b2 n t11
     )
   )
  else
   (
    some (.inl ())
   )
def zDm(a1:List Int)(b2:List Int):Option Bool:=
 bif (!eqI ((a1.length:Int)) ((b2.length:Int))) then
  (
   some false
  )
 else
  (
   (zCU a1 b2 FU 0).bind fun qo6=>
   match qo6 with
   | .inr r=>some r
   | .inl o6=>some true
  )
def qJ(y5:qe)(y6:qe)(y7:Int)(y8:Int):Nat→Int→Int→Option Int
 |0,_,_=>none
 |n+1,lines27,i28=>
  bif (ltI i28 (w64 (((y5.size:Int))+((y6.size:Int))))) then
   (
    (bif (ltI i28 ((y5.size:Int))) then ((getB y5 i28).bind fun e33=>some (eqI e33 10)) else some false).bind fun b34=>
    (bif b34 then some true else ((bif (leI ((y5.size:Int)) i28) then ((getB y6 (w64 (i28 - ((y5.size:Int))))).bind fun e37=>some (eqI e37 10)) else some false).bind fun b38=>some b38)).bind fun b39=>
    bif b39 then
     (
      sI (w64 (lines27+1)) fun lines41=>
      sI (w64 (i28+1)) fun i42=>
      qJ y5 y6 y7 y8 n lines41 i42
     )
    else
     (
      sI (w64 (i28+1)) fun i43=>
      qJ y5 y6 y7 y8 n lines27 i43
     )
   )
  else
   (
    some lines27
   )
def zDe(code1:List Int)(more2:List Int):Option Bool:=
 (zE2 code1 more2).bind fun y3=>
 bif y3 then
  (
   some true
  )
 else
  (
   (zAP code1).bind fun y5=>
   (zAP more2).bind fun y6=>
   (qI y5).bind fun y7=>
   (qI y6).bind fun y8=>
   (zAY y5).bind fun y9=>
   (bif (!eqI y7 y9) then some true else ((zAY y6).bind fun y11=>some (!eqI y8 y11))).bind fun b12=>
   bif b12 then
    (
     some false
    )
   else
    (
     (zBH y5).bind fun y14=>
     (zBG y5).bind fun y15=>
     (some (bif (bif (y14.2 != y15.2) then true else (!(y14.1.toList==y15.1.toList))) then true else (y14.2 != (!eqI y7 0)))).bind fun t18=>
     bif t18 then
      (
       some false
      )
     else
      (
       (zBt more2).bind fun y20=>
       (zBC y20).bind fun y21=>
       (zD4 y20).bind fun y22=>
       (bif (y21.2 != y22.2) then some true else ((zDm y21.1 y22.1).bind fun y24=>some (!y24))).bind fun b25=>
       bif b25 then
        (
         some false
        )
       else
        (
         (qJ y5 y6 y7 y8 FU 0 0).bind fun o30=>
         (some (bif (eqI o30 0) then (leI (w64 ((w64 (((y5.size:Int))+((y6.size:Int))))+2)) 4000) else false)).bind fun t45=>
         bif t45 then
          (
           (catR y5 ((⟨#[10]⟩:qe))).bind fun u47=>
           (catR (y5++((⟨#[10]⟩:qe))) y6).bind fun u48=>
           (catR ((y5++((⟨#[10]⟩:qe)))++y6) ((⟨#[10]⟩:qe))).bind fun u49=>
           (zBC (((y5++((⟨#[10]⟩:qe)))++y6)++((⟨#[10]⟩:qe)))).bind fun y50=>
           (bif y50.2 then ((zDm y50.1 ([y7,y8])).bind fun y52=>some y52) else some false).bind fun b53=>
           some b53
          )
         else
          (
           some true
          )
        )
      )
    )
  )
def zCp(f1:(Int×Int×Int)):Option ((Int×Int×Int)×(Int×Int×Int×Int)×Bool):=
 (zN f1).bind fun y2=>
 bif (!y2) then
  (
   some (((0,0,0),(0,0,0,0),false))
  )
 else
  (
   (qF f1).bind fun y4=>
   (zX y4.2).bind fun y5=>
   bif (!y5) then
    (
     some (((0,0,0),(0,0,0,0),false))
    )
   else
    (
     some ((y4.1,y4.2,true))
    )
  )
def zAM(kind1:qe)(words2:List qe):Option qe:=
 (catR kind1 ((⟨#[32]⟩:qe))).bind fun u3=>
 (zHi words2 ((⟨#[32]⟩:qe))).bind fun y4=>
 (catR (kind1++((⟨#[32]⟩:qe))) y4).bind fun u5=>
 some ((kind1++((⟨#[32]⟩:qe)))++y4)
def zEb(f1:(Int×Int×Int))(g2:(Int×Int×Int)):Option (qe×Bool):=
 (zCp f1).bind fun y3=>
 (zCp g2).bind fun y4=>
 (some (bif (bif (!y3.2.2) then true else (!y4.2.2)) then true else (((y3.1.1==y4.1.1)&&((y3.1.2.1==y4.1.2.1)&&(y3.1.2.2==y4.1.2.2)))))).bind fun t7=>
 bif t7 then
  (
   some (((⟨#[]⟩:qe),false))
  )
 else
  (
   (jE f1).bind fun y9=>
   (zBQ y3.2.1).bind fun y10=>
   (jE y3.1).bind fun y11=>
   (jE g2).bind fun y12=>
   (zBQ y4.2.1).bind fun y13=>
   (jE y4.1).bind fun y14=>
   (zAM ((⟨#[100,105,102,102,101,114,101,110,116]⟩:qe)) ([y9,y10,y11,y12,y13,y14])).bind fun y15=>
   some ((y15,true))
  )
def zQ(vm1:(Int×Int×Int×Int)):Option (Int×Int×Int×Int):=
 (zA0 vm1).bind fun y2=>
 sI (w64 (y2*vm1.2.2.2)) fun f3=>
 sI (w64 ((w64 (0 - y2))*vm1.2.1)) fun f4=>
 sI (w64 ((w64 (0 - y2))*vm1.2.2.1)) fun f5=>
 sI (w64 (y2*vm1.1)) fun f6=>
 some ((f3,f4,f5,f6))
def zLT(vm1:(Int×Int×Int×Int)):Option ((Int×Int×Int×Int)×Bool):=
 (zX vm1).bind fun y2=>
 bif (!y2) then
  (
   some (((0,0,0,0),false))
  )
 else
  (
   some ((vm1,true))
  )
def zEF(f1:(Int×Int×Int))(g2:(Int×Int×Int)):Option ((Int×Int×Int×Int)×Bool):=
 (zN f1).bind fun y3=>
 (bif (!y3) then some true else ((zN g2).bind fun y5=>some (!y5))).bind fun b6=>
 bif b6 then
  (
   some (((0,0,0,0),false))
  )
 else
  (
   (qF f1).bind fun y8=>
   (qF g2).bind fun y9=>
   (some (!((y8.1.1==y9.1.1)&&((y8.1.2.1==y9.1.2.1)&&(y8.1.2.2==y9.1.2.2))))).bind fun t10=>
   bif t10 then
    (
     some (((0,0,0,0),false))
    )
   else
    (
     (zQ y9.2).bind fun y12=>
     (zE y8.2 y12).bind fun y13=>
     (zLT y13).bind fun y14=>
     some ((y14.1,y14.2))
    )
  )
def zEX(f1:(Int×Int×Int))(g2:(Int×Int×Int)):Option (qe×Bool):=
 (zEF f1 g2).bind fun y3=>
 bif (!y3.2) then
  (
   some (((⟨#[]⟩:qe),false))
  )
 else
  (
   (jE f1).bind fun y5=>
   (jE g2).bind fun y6=>
   (zBQ y3.1).bind fun y7=>
   (zAM ((⟨#[101,113,117,105,118,97,108,101,110,116]⟩:qe)) ([y5,y6,y7])).bind fun y8=>
   some ((y8,true))
  )
def zBx(vn1:Int):Option Bool:=
 some (bif (leI 1 vn1) then (leI vn1 10000) else false)
def zCb(vn1:Int):Nat→Int→Int→Option Int
 |0,_,_=>none
 |n+1,low2,high3=>
  bif (ltI low2 high3) then
   (
    sI (w64 (Int.tdiv (w64 ((w64 (low2+high3))+1)) 2)) fun vm7=>
    bif (leI (w64 (vm7*vm7)) vn1) then
     (
      zCb vn1 n vm7 high3
     )
    else
     (
      sI (w64 (vm7 - 1)) fun high9=>
      zCb vn1 n low2 high9
     )
   )
  else
   (
    some low2
   )
def zFg(vn1:Int):Option Int:=
 (zCb vn1 FU 0 3000000000).bind fun o5=>
 some o5
def zDn(vn1:Int):Option Bool:=
 (bif (leI 0 vn1) then ((zFg vn1).bind fun y3=>(zFg vn1).bind fun y4=>some (eqI (w64 (y3*y4)) vn1)) else some false).bind fun b5=>
 some b5
def zAk(f1:(Int×Int×Int))(vn2:Int)(y3:Int)(y5:Int):Nat→Int→List (Int×Int)→Option (List (Int×Int))
 |0,_,_=>none
 |n+1,x7,l8=>
  bif (leI x7 y5) then
   (
    sI (w64 ((w64 ((w64 (y3*x7))*x7))+(w64 ((w64 (4*f1.2.2))*vn2)))) fun square12=>
    (zDn square12).bind fun y13=>
    bif (!y13) then
     (
      sI (w64 (x7+1)) fun x15=>
      zAk f1 vn2 y3 y5 n x15 l8
     )
    else
     (
      (zFg square12).bind fun y16=>
      (
       (nz (w64 (2*f1.2.2))).bind fun z18=>
       (some (eqI (Int.tmod (w64 ((w64 ((w64 (0 - f1.2.1))*x7)) - y16)) (w64 (2*f1.2.2))) 0)).bind fun t19=>
       bif t19 then
        (
         (nz (w64 (2*f1.2.2))).bind fun z21=>
         (room (l8.length+([(x7,w64 (Int.tdiv (w64 ((w64 ((w64 (0 - f1.2.1))*x7)) - y16)) (w64 (2*f1.2.2))))]).length)).bind fun u22=>
         (some (l8++([(x7,w64 (Int.tdiv (w64 ((w64 ((w64 (0 - f1.2.1))*x7)) - y16)) (w64 (2*f1.2.2))))]))).bind fun l23=>
         some l23
        )
       else
        (
         some l8
        )
      ).bind fun j17=>
      (bif (ltI 0 y16) then ((nz (w64 (2*f1.2.2))).bind fun z25=>some (eqI (Int.tmod (w64 ((w64 ((w64 (0 - f1.2.1))*x7))+y16)) (w64 (2*f1.2.2))) 0)) else some false).bind fun b26=>
      bif b26 then
       (
        (nz (w64 (2*f1.2.2))).bind fun z28=>
        (room (j17.length+([(x7,w64 (Int.tdiv (w64 ((w64 ((w64 (0 - f1.2.1))*x7))+y16)) (w64 (2*f1.2.2))))]).length)).bind fun u29=>
        (some (j17++([(x7,w64 (Int.tdiv (w64 ((w64 ((w64 (0 - f1.2.1))*x7))+y16)) (w64 (2*f1.2.2))))]))).bind fun l30=>
        sI (w64 (x7+1)) fun x31=>
        zAk f1 vn2 y3 y5 n x31 l30
       )
      else
       (
        sI (w64 (x7+1)) fun x32=>
        zAk f1 vn2 y3 y5 n x32 j17
       )
     )
   )
  else
   (
    some l8
   )
def zF8(f1:(Int×Int×Int))(vn2:Int):Option (List (Int×Int)):=
 (zY f1).bind fun y3=>
 (nz (w64 (0 - y3))).bind fun z4=>
 (zFg (w64 (Int.tdiv (w64 ((w64 (4*f1.2.2))*vn2)) (w64 (0 - y3))))).bind fun y5=>
 sI (w64 (0 - y5)) fun x6=>
 (zAk f1 vn2 y3 y5 FU x6 (([]:List (Int×Int)))).bind fun o10=>
 some o10
def zDH(f1:(Int×Int×Int))(vn2:Int):Option ((List (Int×Int))×Bool):=
 (jA f1).bind fun y3=>
 (bif (!y3) then some true else ((zBx vn2).bind fun y5=>some (!y5))).bind fun b6=>
 bif b6 then
  (
   some ((([]:List (Int×Int)),false))
  )
 else
  (
   (zF8 f1 vn2).bind fun y8=>
   some ((y8,true))
  )
def zAF(y3:((List (Int×Int))×Bool)):Nat→Int→List (Int×Int)→Option (List (Int×Int))
 |0,_,_=>none
 |n+1,t4,l5=>
  bif (ltI t4 ((y3.1.length:Int))) then
   (
    (getI y3.1 t4).bind fun e9=>
    (getI y3.1 t4).bind fun e10=>
    (zED e10.1 e10.2).bind fun y11=>
    bif (eqI y11 1) then
     (
      (room (l5.length+([e10]).length)).bind fun u13=>
      sI (w64 (t4+1)) fun t14=>
      zAF y3 n t14 (l5++([e10]))
     )
    else
     (
      sI (w64 (t4+1)) fun t15=>
      zAF y3 n t15 l5
     )
   )
  else
   (
    some l5
   )
def zBz(f1:(Int×Int×Int))(vn2:Int):Option ((List (Int×Int))×Bool):=
 (zDH f1 vn2).bind fun y3=>
 (zAF y3 FU 0 (([]:List (Int×Int)))).bind fun o7=>
 some ((o7,y3.2))
def zFh(f1:(Int×Int×Int))(vn2:Int):Option (qe×Bool):=
 (zBz f1 vn2).bind fun y3=>
 bif (bif (!y3.2) then true else (eqI ((y3.1.length:Int)) 0)) then
  (
   some (((⟨#[]⟩:qe),false))
  )
 else
  (
   (jE f1).bind fun y6=>
   (zR vn2).bind fun y7=>
   (getI y3.1 0).bind fun e8=>
   (getI y3.1 0).bind fun e9=>
   (zR e9.1).bind fun y10=>
   (getI y3.1 0).bind fun e11=>
   (getI y3.1 0).bind fun e12=>
   (zR e12.2).bind fun y13=>
   (zAM ((⟨#[118,97,108,117,101]⟩:qe)) ([y6,y7,y10,y13])).bind fun y14=>
   some ((y14,true))
  )
def zHl(p3:Int):Nat→Int→List Int→Option (Int×(List Int))
 |0,_,_=>none
 |n+1,vn8,l9=>
  (nz p3).bind fun z12=>
  bif (eqI (Int.tmod vn8 p3) 0) then
   (
    (room (l9.length+([p3]).length)).bind fun u14=>
    (nz p3).bind fun z15=>
    sI (w64 (Int.tdiv vn8 p3)) fun vn16=>
    zHl p3 n vn16 (l9++([p3]))
   )
  else
   (
    some (vn8,l9)
   )
def zIH:Nat→Int→Int→List Int→Option (Int×(List Int))
 |0,_,_,_=>none
 |n+1,vn2,p3,l4=>
  bif (leI (w64 (p3*p3)) vn2) then
   (
    (zHl p3 FU vn2 l4).bind fun o11=>
    sI (w64 (p3+1)) fun p17=>
    zIH n o11.1 p17 o11.2
   )
  else
   (
    some (vn2,l4)
   )
def zTR(vn1:Int):Option (List Int):=
 (zIH FU vn1 2 (([]:List Int))).bind fun o6=>
 bif (ltI 1 o6.1) then
  (
   (room (o6.2.length+([o6.1]).length)).bind fun u19=>
   some (o6.2++([o6.1]))
  )
 else
  (
   some o6.2
  )
def zF7(y2:List Int):Nat→Int→List Int→Option (List Int)
 |0,_,_=>none
 |n+1,t3,l4=>
  bif (ltI t3 ((y2.length:Int))) then
   (
    (getI y2 t3).bind fun e8=>
    (getI y2 t3).bind fun e9=>
    (bif (eqI ((l4.length:Int)) 0) then some true else ((getI l4 (w64 (((l4.length:Int)) - 1))).bind fun e11=>(getI l4 (w64 (((l4.length:Int)) - 1))).bind fun e12=>some (!eqI e12 e9))).bind fun b13=>
    bif b13 then
     (
      (room (l4.length+([e9]).length)).bind fun u15=>
      sI (w64 (t3+1)) fun t16=>
      zF7 y2 n t16 (l4++([e9]))
     )
    else
     (
      sI (w64 (t3+1)) fun t17=>
      zF7 y2 n t17 l4
     )
   )
  else
   (
    some l4
   )
def zF0(vn1:Int):Option (List Int):=
 (zTR vn1).bind fun y2=>
 (zF7 y2 FU 0 (([]:List Int))).bind fun o6=>
 some o6
def zBB(d1:Int)(vn2:Int)(y8:List Int):Nat→Int→Option (Unit ⊕ (Int×Bool))
 |0,_=>none
 |n+1,t9=>
  bif (ltI t9 ((y8.length:Int))) then
   (
    (getI y8 t9).bind fun e13=>
    (getI y8 t9).bind fun e14=>
    (zAI vn2 e14).bind fun y15=>
    (bif (eqI (Int.tmod y15 2) 1) then ((qN d1 e14).bind fun y17=>some (eqI ((y17.length:Int)) 0)) else some false).bind fun b18=>
    bif b18 then
     (
      some (.inr (((e14,true))))
     )
    else
     (
      sI (w64 (t9+1)) fun t20=>
      zBB d1 vn2 y8 n t20
     )
   )
  else
   (
    some (.inl ())
   )
def zE3(d1:Int)(vn2:Int):Option (Int×Bool):=
 (q7 d1).bind fun y3=>
 (bif (!y3) then some true else ((zBx vn2).bind fun y5=>some (!y5))).bind fun b6=>
 bif b6 then
  (
   some ((0,false))
  )
 else
  (
   (zF0 vn2).bind fun y8=>
   (zBB d1 vn2 y8 FU 0).bind fun qo11=>
   match qo11 with
   | .inr r=>some r
   | .inl o11=>some ((0,false))
  )
def zEW(d1:Int)(vn2:Int):Option (qe×Bool):=
 (zE3 d1 vn2).bind fun y3=>
 bif (bif (!y3.2) then true else (ltI 2500 y3.1)) then
  (
   some (((⟨#[]⟩:qe),false))
  )
 else
  (
   (zR d1).bind fun y6=>
   (zR vn2).bind fun y7=>
   (zR y3.1).bind fun y8=>
   (zAM ((⟨#[111,98,115,116,114,117,99,116,105,111,110]⟩:qe)) ([y6,y7,y8])).bind fun y9=>
   some ((y9,true))
  )
def zDG(x1:Int)(y2:Int)(u3:Int)(v4:Int):Option (Int×Int×Int×Int):=
 sI (w64 (x1*u3)) fun f5=>
 sI (w64 (x1*v4)) fun f6=>
 sI (w64 (y2*u3)) fun f7=>
 sI (w64 (y2*v4)) fun f8=>
 some ((f5,f6,f7,f8))
def zT(b1:(Int×Int×Int×Int))(k2:Int)(cc3:(Int×Int×Int×Int)):Option (Int×Int×Int×Int):=
 sI (w64 (b1.1+(w64 (k2*cc3.1)))) fun f5=>
 sI (w64 (b1.2.1+(w64 (k2*cc3.2.1)))) fun f7=>
 sI (w64 (b1.2.2.1+(w64 (k2*cc3.2.2.1)))) fun f9=>
 sI (w64 (b1.2.2.2+(w64 (k2*cc3.2.2.2)))) fun f11=>
 some ((f5,f7,f9,f11))
def zCq(f1:(Int×Int×Int))(g2:(Int×Int×Int)):Option ((Int×Int×Int)×(List Int)×Bool):=
 (zCe f1 g2).bind fun y3=>
 bif (!y3) then
  (
   some (((0,0,0),([]:List Int),false))
  )
 else
  (
   (qF f1).bind fun y5=>
   (qF g2).bind fun y6=>
   (zDu y5.1 y6.1).bind fun y7=>
   (zE y5.2 y7.2.2.2.2.1).bind fun y8=>
   (zQ y8).bind fun y9=>
   (zE y6.2 y7.2.2.2.2.2).bind fun y10=>
   (zQ y10).bind fun y11=>
   (zAs y7).bind fun y12=>
   (qF y12).bind fun y13=>
   (zQ y13.2).bind fun y14=>
   (zDG y9.1 y9.2.1 y11.1 y11.2.1).bind fun y15=>
   (zDG y9.1 y9.2.1 y11.2.2.1 y11.2.2.2).bind fun y16=>
   (zDG y9.2.2.1 y9.2.2.2 y11.1 y11.2.1).bind fun y17=>
   (zDG y9.2.2.1 y9.2.2.2 y11.2.2.1 y11.2.2.2).bind fun y18=>
   (zT y15 (w64 (0 - y7.2.2.2.1)) y18).bind fun y19=>
   (zT ((0,0,0,0)) y7.1 y16).bind fun y20=>
   (zT y20 y7.2.1 y17).bind fun y21=>
   (zT y21 y7.2.2.1 y18).bind fun y22=>
   (zT ((0,0,0,0)) y14.1 y19).bind fun y23=>
   (zT y23 y14.2.1 y22).bind fun y24=>
   (zT ((0,0,0,0)) y14.2.2.1 y19).bind fun y25=>
   (zT y25 y14.2.2.2 y22).bind fun y26=>
   (room ((([]:List Int)).length+([y24.1,y24.2.1,y24.2.2.1,y24.2.2.2]).length)).bind fun u27=>
   (room (((([]:List Int))++([y24.1,y24.2.1,y24.2.2.1,y24.2.2.2])).length+([y26.1,y26.2.1,y26.2.2.1,y26.2.2.2]).length)).bind fun u28=>
   (some (((([]:List Int))++([y24.1,y24.2.1,y24.2.2.1,y24.2.2.2]))++([y26.1,y26.2.1,y26.2.2.1,y26.2.2.2]))).bind fun l29=>
   (qK l29).bind fun y30=>
   bif (!y30) then
    (
     some (((0,0,0),([]:List Int),false))
    )
   else
    (
     some ((y13.1,l29,true))
    )
  )
def zAv(y3:((Int×Int×Int)×(List Int)×Bool)):Nat→Int→List qe→Option (List qe)
 |0,_,_=>none
 |n+1,t8,l9=>
  bif (ltI t8 ((y3.2.1.length:Int))) then
   (
    (getI y3.2.1 t8).bind fun e13=>
    (getI y3.2.1 t8).bind fun e14=>
    (zR e14).bind fun y15=>
    (room (l9.length+([y15]).length)).bind fun u16=>
    sI (w64 (t8+1)) fun t17=>
    zAv y3 n t17 (l9++([y15]))
   )
  else
   (
    some l9
   )
def zBk(f1:(Int×Int×Int))(g2:(Int×Int×Int)):Option (qe×Bool):=
 (zCq f1 g2).bind fun y3=>
 bif (!y3.2.2) then
  (
   some (((⟨#[]⟩:qe),false))
  )
 else
  (
   (jE f1).bind fun y5=>
   (jE g2).bind fun y6=>
   (jE y3.1).bind fun y7=>
   (zAv y3 FU 0 ([y5,y6,y7])).bind fun o11=>
   (zAM ((⟨#[99,111,109,112,111,115,105,116,101]⟩:qe)) o11).bind fun y18=>
   some ((y18,true))
  )
def zEs(f1:(Int×Int×Int)):Option (Int×Bool):=
 (zZ f1).bind fun y2=>
 bif (!y2) then
  (
   some ((0,false))
  )
 else
  (
   (zD5 f1).bind fun y4=>
   some ((y4,true))
  )
def zEP(f1:(Int×Int×Int)):Option (qe×Bool):=
 (zEs f1).bind fun y2=>
 bif (!y2.2) then
  (
   some (((⟨#[]⟩:qe),false))
  )
 else
  (
   (jE f1).bind fun y4=>
   (zR y2.1).bind fun y5=>
   (zAM ((⟨#[111,114,100,101,114]⟩:qe)) ([y4,y5])).bind fun y6=>
   some ((y6,true))
  )
def zBU(d1:Int):Option Bool:=
 (bif (bif (leI 5 d1) then (leI d1 1000) else false) then ((zAy d1 4).bind fun y4=>some (leI y4 1)) else some false).bind fun b5=>
 (bif b5 then ((zDn d1).bind fun y7=>some (!y7)) else some false).bind fun b8=>
 some b8
def zLS(x1:Nat):Option Nat:=
 (z8L x1).bind fun q2=>
 some q2
def zHk(vs1:(Int×Int)):Option Bool:=
 (zEE vs1.1).bind fun y2=>
 (bif (leI y2 100000000) then ((qK ([vs1.2])).bind fun y4=>some y4) else some false).bind fun b5=>
 some b5
def zAt(d1:Int)(most3:Int)(side2:Int):Nat→Int→Option (Unit ⊕ ((Int×Int)×Bool))
 |0,_=>none
 |n+1,u4=>
  bif (leI u4 most3) then
   (
    sI (w64 ((w64 ((w64 (d1*u4))*u4))+side2)) fun square8=>
    (zLS (floatOfInt .f64 (mxI square8 0))).bind fun y9=>
    (floatToIntVal .f64 y9 .i64).bind fun t10=>
    (some (bif (ltI 0 t10) then (eqI (w64 (t10*t10)) square8) else false)).bind fun t12=>
    bif t12 then
     (
      (zHk ((t10,u4))).bind fun y14=>
      some (.inr ((((t10,u4),y14))))
     )
    else
     (
      sI (w64 (u4+1)) fun u15=>
      zAt d1 most3 side2 n u15
     )
   )
  else
   (
    some (.inl ())
   )
def zDv(d1:Int)(side2:Int)(most3:Int):Option ((Int×Int)×Bool):=
 (zAt d1 most3 side2 FU 1).bind fun qo6=>
 match qo6 with
 | .inr r=>some r
 | .inl o6=>some (((0,0),false))
def zF1(d1:Int):Option ((Int×Int)×Bool):=
 (zDv d1 4 1000000).bind fun y2=>
 bif (!y2.2) then
  (
   some (((0,0),false))
  )
 else
  (
   some ((y2.1,true))
  )
def zB6(d1:Int):Option ((Int×Int)×Bool):=
 (zBU d1).bind fun y2=>
 bif (!y2) then
  (
   some (((0,0),false))
  )
 else
  (
   (zF1 d1).bind fun y4=>
   some ((y4.1,y4.2))
  )
def jR(d1:Int):Option (qe×Bool):=
 (zB6 d1).bind fun y2=>
 (bif (!y2.2) then some true else ((qK ([y2.1.1,y2.1.2])).bind fun y4=>some (!y4))).bind fun b5=>
 bif b5 then
  (
   some (((⟨#[]⟩:qe),false))
  )
 else
  (
   (zR d1).bind fun y7=>
   (zR y2.1.1).bind fun y8=>
   (zR y2.1.2).bind fun y9=>
   (zAM ((⟨#[115,111,108,117,116,105,111,110]⟩:qe)) ([y7,y8,y9])).bind fun y10=>
   some ((y10,true))
  )
def zBN(f1:List ((Int×Int×Int×Int))):Nat→Int→List ((Int×Int×Int×Int))→Option (List ((Int×Int×Int×Int)))
 |0,_,_=>none
 |n+1,t3,l4=>
  bif (ltI t3 ((f1.length:Int))) then
   (
    (getI f1 t3).bind fun e8=>
    (room ((f1++l4).length+([(w64 (0 - e8.1),w64 (0 - e8.2.1),w64 (0 - e8.2.2.1),w64 (0 - e8.2.2.2))]).length)).bind fun u9=>
    sI (w64 (t3+1)) fun t11=>
    zBN f1 n t11 (l4++([(w64 (0 - e8.1),w64 (0 - e8.2.1),w64 (0 - e8.2.2.1),w64 (0 - e8.2.2.2))]))
   )
  else
   (
    some l4
   )
def zAm(f1:(Int×Int×Int)):Option (List (Int×Int×Int×Int)):=
 (zCy).bind fun y2=>
 bif (bif (eqI f1.1 f1.2.2) then (eqI f1.2.1 0) else false) then
  (
   (room (([y2]).length+([(0,-1,1,0)]).length)).bind fun u5=>
   (zBN (([y2])++([(0,-1,1,0)])) FU 0 []).bind fun oV=>
   some ((([y2])++([(0,-1,1,0)]))++oV)
  )
 else
  (
   bif (bif (eqI f1.1 f1.2.2) then (eqI f1.2.1 f1.1) else false) then
    (
     (room (([y2]).length+([(0,-1,1,1),(1,1,-1,0)]).length)).bind fun u8=>
     (zBN (([y2])++([(0,-1,1,1),(1,1,-1,0)])) FU 0 []).bind fun oV=>
     some ((([y2])++([(0,-1,1,1),(1,1,-1,0)]))++oV)
    )
   else
    (
     (zBN ([y2]) FU 0 []).bind fun oV=>
     some (([y2])++oV)
    )
  )
def zGE(vm1:(Int×Int×Int×Int))(vn2:(Int×Int×Int×Int)):Option Bool:=
 bif (!eqI vm1.1 vn2.1) then
  (
   some (ltI vm1.1 vn2.1)
  )
 else
  (
   bif (!eqI vm1.2.1 vn2.2.1) then
    (
     some (ltI vm1.2.1 vn2.2.1)
    )
   else
    (
     bif (!eqI vm1.2.2.1 vn2.2.2.1) then
      (
       some (ltI vm1.2.2.1 vn2.2.2.1)
      )
     else
      (
       some (ltI vm1.2.2.2 vn2.2.2.2)
      )
    )
  )
def zCM(l7:List (Int×Int×Int×Int))(t6:Int)(y15:(Int×Int×Int×Int))(y4:((Int×Int×Int)×(Int×Int×Int×Int)))(y5:List (Int×Int×Int×Int)):Nat→Int→Option Int
 |0,_=>none
 |n+1,vat18=>
  (bif (ltI 0 vat18) then ((getI l7 (w64 (vat18 - 1))).bind fun e22=>(getI l7 (w64 (vat18 - 1))).bind fun e23=>(zGE y15 e23).bind fun y24=>some y24) else some false).bind fun b25=>
  bif b25 then
   (
    sI (w64 (vat18 - 1)) fun vat27=>
    zCM l7 t6 y15 y4 y5 n vat27
   )
  else
   (
    some vat18
   )
def zA3(y4:((Int×Int×Int)×(Int×Int×Int×Int)))(y5:List (Int×Int×Int×Int)):Nat→Int→List (Int×Int×Int×Int)→Option (List (Int×Int×Int×Int) ⊕ ((List (Int×Int×Int×Int))×Bool))
 |0,_,_=>none
 |n+1,t6,l7=>
  bif (ltI t6 ((y5.length:Int))) then
   (
    (getI y5 t6).bind fun e11=>
    (getI y5 t6).bind fun e12=>
    (zE y4.2 e12).bind fun y13=>
    (zQ y4.2).bind fun y14=>
    (zE y13 y14).bind fun y15=>
    (zX y15).bind fun y16=>
    bif (!y16) then
     (
      some (.inr (((([]:List (Int×Int×Int×Int)),false))))
     )
    else
     (
      (zCM l7 t6 y15 y4 y5 FU ((l7.length:Int))).bind fun o20=>
      (room (l7.length+([(0,0,0,0)]).length)).bind fun u28=>
      (slc (l7++([(0,0,0,0)])).length (w64 (o20+1)) ((l7++([(0,0,0,0)])).length:Int)).bind fun u29=>
      (slc (l7++([(0,0,0,0)])).length o20 ((l7++([(0,0,0,0)])).length:Int)).bind fun u30=>
      (some (z58 (l7++([(0,0,0,0)])) (Int.toNat (w64 (o20+1))) (Int.toNat o20))).bind fun l31=>
      (getI l31 o20).bind fun e32=>
      (getI l31 o20).bind fun e33=>
      sI (w64 (t6+1)) fun t34=>
      zA3 y4 y5 n t34 (l31.set (Int.toNat (o20)) y15)
     )
   )
  else
   (
    some (.inl l7)
   )
def zGG(f1:(Int×Int×Int)):Option ((List (Int×Int×Int×Int))×Bool):=
 (zN f1).bind fun y2=>
 bif (!y2) then
  (
   some ((([]:List (Int×Int×Int×Int)),false))
  )
 else
  (
   (qF f1).bind fun y4=>
   (zAm y4.1).bind fun y5=>
   (zA3 y4 y5 FU 0 (([]:List (Int×Int×Int×Int)))).bind fun qo9=>
   match qo9 with
   | .inr r=>some r
   | .inl o9=>some ((o9,true))
  )
theorem zPt:zAb=zBA:=rfl
theorem z3W:zEN=zBR:=rfl
theorem z2e:zCZ=qC:=rfl
theorem zMF:zV=zE:=rfl
theorem z7M:zGC=zA0:=rfl
theorem z2d:zCS=zQ:=rfl
theorem zTu(f:Int×Int×Int):zBc f=qA f:=by simp only[zBc,qA,qQ,za]
theorem zF2(a m:Int):jF a m=zAy a m:=by simp only[jF,zAy,zI]
theorem z3X(a m:Int):((jF a m).bind fun y2=>(nz m).bind fun _=>sI (w64 (Int.tdiv (w64 (a - y2)) m)) fun t4=>some t4)=zB5 a m:=by simp only[zB5,zF2]
theorem z1R(f:Int×Int×Int):zFZ f=zB5 (w64 (f.1 - f.2.1)) (w64 (2*f.1)):=z3X _ _
theorem z4B{a m:Int}(hm:1≤m)(h:a.tmod m<0):a.tmod m+m=a % m:=by have e:=Int.tmod_eq_emod (a:=a) (b:=m);have h1:=zz a (b:=m) (by omega);have h2:=qa a (b:=m) (by omega);split at e<;>omega
theorem z4A{a m:Int}(hm:1≤m)(h:0≤a.tmod m):a.tmod m=a % m:=by have e:=Int.tmod_eq_emod (a:=a) (b:=m);have h1:=zz a (b:=m) (by omega);have h2:=qa a (b:=m) (by omega);split at e<;>omega
theorem zA4{a m:Int}(h1:1≤m)(h2:m≤9223372036854775807):zAy a m=some (a % m):=by
 have h3:=zz a (b:=m) (by omega);have h4:=qa a (b:=m) (by omega);have hz:nz m=some ():=by
  unfold nz;rw[zA7];have:(m==0)=false:=by rw[zr];omega
  rw[this];rfl
 simp only[zAy,hz,za,zI,zJ];by_cases h:a.tmod m<0
 ·rw[zd h,zb,z4B h1 h,zB (by omega)]
 ·rw[ze h,zc,z4A h1 (by omega)]
theorem zGh{a m:Int}(h1:1≤m)(h2:m≤4611686018427387904)(h3:-4611686018427387904≤a)(h4:a≤4611686018427387904):zB5 a m=some (a / m):=by
 have e1:=zz a (b:=m) (by omega);have e2:=qa a (b:=m) (by omega);have hz:nz m=some ():=by
  unfold nz;rw[zA7];have:(m==0)=false:=by rw[zr];omega
  rw[this];rfl
 have e3:a - a % m=m*(a / m):=by have:=Int.emod_add_mul_ediv a m;omega
 have e4:Int.tdiv (a - a % m) m=a / m:=by rw[e3];exact Int.mul_tdiv_cancel_left _ (by omega)
 have e5:a / m≤4611686018427387904∧-4611686018427387904≤a / m:=by
  constructor
  ·rcases Int.lt_or_le a 0 with h|h
   ·have:=Int.ediv_neg_of_neg_of_pos h (show 0<m by omega);omega
   ·have:=Int.ediv_le_self m h;omega
  ·have:=Int.le_ediv_of_mul_le (c:=m) (a:=-4611686018427387904) (b:=a) (by omega) (by
    have:-4611686018427387904*m≤-4611686018427387904:=by omega
    omega)
   omega
 simp only[zB5,zA4 h1 (by omega),hz,za,zI];rw[zB (n:=a - a % m) (by omega),e4,zB (by omega)]
theorem z52{a b c:Int}(ha:1≤a)(haM:a≤2000000)(hb1:-2000000≤b)(hb2:b≤2000000)(hr:qA (a,b,c)=some false):zEf (a,b,c)=jB (a,b,c):=by
 have hf:=zGh (a:=a - b) (m:=2*a) (by omega) (by omega) (by omega) (by omega);have hn:qQ (a,b,c)=some (decide (-a<b∧b≤a)):=by
  simp only[qQ,za,zJ,zS];rw[zB (by omega)];by_cases h1:-a<b<;>by_cases h2:b≤a<;>simp[h1,h2]
  all_goals omega
 have hq:(a - b) / (2*a)=0↔(-a<b∧b≤a):=by
  constructor
  ·intro h;have h1:=Int.emod_add_mul_ediv (a - b) (2*a);have h2:=zz (a - b) (b:=2*a) (by omega);have h3:=qa (a - b) (b:=2*a) (by omega);rw[h]at h1;omega
  ·rintro⟨h1,h2⟩;exact Int.ediv_eq_zero_of_lt (by omega) (by omega)
 simp only[zEf,jB,z1R,zTu,hr,za,hn];rw[zB (n:=a - b) (by omega),zB (n:=2*a) (by omega),hf];simp only[za,zc,zA7];by_cases h:(a - b) / (2*a)=0
 ·have h2:=hq.1 h;simp[h,h2]
 ·have h2:¬(-a<b∧b≤a):=fun x=>h (hq.2 x);have h3:((a - b) / (2*a)==0)=false:=by rw[zr];exact h
  simp[h3,h2]
theorem qG{n:Int}(h:n.natAbs≤9223372036854775807):w64 n=n:=zB (by omega)
theorem zM{x y:Int}{A B:Nat}(hx:x.natAbs≤A)(hy:y.natAbs≤B):(x*y).natAbs≤A*B:=by rw[Int.natAbs_mul];exact Nat.mul_le_mul hx hy
theorem zOc{a b c:Int}(ha:a.natAbs≤2000000)(hb:b.natAbs≤2000000)(hc:c.natAbs≤2000000):qC (a,b,c) (0,-1,1,0)=some (c,-b,a):=by simp only[qC,zBA,zBR,zI,za,Int.mul_zero,Int.zero_mul,Int.mul_one,Int.add_zero,Int.zero_add,Int.one_mul];rw[show w64 0=0 from rfl];simp only[Int.mul_zero,Int.zero_mul,Int.mul_one,Int.add_zero,Int.zero_add,Int.one_mul];rw[show w64 0=0 from rfl];simp only[Int.mul_zero,Int.zero_mul,Int.mul_one,Int.add_zero,Int.zero_add,Int.one_mul,Int.mul_neg,Int.neg_mul,Int.neg_neg];have e1:w64 c=c:=qG (by omega);have e2:w64 (-1)=-1:=rfl;have e3:w64 a=a:=qG (by omega);have e4:w64 (-a)=-a:=qG (by omega);have e5:w64 (-b)=-b:=qG (by omega);simp only[e1,e2,e3,e4,e5,Int.mul_neg,Int.neg_mul,Int.neg_neg,Int.mul_one,Int.one_mul,Int.add_zero,Int.zero_add,show w64 0=0 from rfl]
theorem zOd{a b c s:Int}(ha:a.natAbs≤2000000)(hb:b.natAbs≤2000000)(hc:c.natAbs≤2000000)(hs:s.natAbs≤2000000):qC (a,b,c) (1,s,0,1)=some (a,2*a*s+b,a*s*s+b*s+c):=by have m1:=zM ha hs;have m2:=zM hb hs;have m3:=zM m1 hs;have m4:(2*a*s).natAbs≤2*2000000*2000000:=zM (zM (x:=2) (A:=2) (by decide) ha) hs;simp only[qC,zBA,zBR,zI,za,Int.mul_zero,Int.zero_mul,Int.mul_one,Int.add_zero,Int.zero_add,Int.one_mul];have z:w64 0=0:=rfl;have o:w64 1=1:=rfl;have e1:w64 c=c:=qG (by omega);have e3:w64 a=a:=qG (by omega);have e4:w64 b=b:=qG (by omega);have e5:w64 (2*a)=2*a:=qG (by omega);have e6:w64 (2*a*s)=2*a*s:=qG (by omega);have e7:w64 (a*s)=a*s:=qG (by omega);have e8:w64 (a*s*s)=a*s*s:=qG (by omega);have e9:w64 (b*s)=b*s:=qG (by omega);have e10:w64 (a*s*s+b*s)=a*s*s+b*s:=qG (by omega);have e11:w64 (a*s*s+b*s+c)=a*s*s+b*s+c:=qG (by omega);have e12:w64 (2*a*s+b)=2*a*s+b:=qG (by omega);simp only[z,o,e1,e3,e4,e5,e6,e7,e8,e9,e10,e11,e12,Int.mul_one,Int.one_mul,Int.add_zero,Int.zero_add,Int.mul_zero,Int.zero_mul]
theorem zYd{n:Int}(h:n.natAbs≤9223372036854775806):zEE n=some (n.natAbs:Int):=by
 simp only[zEE,zI,mxI,zJ];by_cases h1:n< -9223372036854775807
 ·omega
 ·rw[ze h1,zc,zB (by omega)];by_cases h2:n<0 - n
  ·rw[zd h2,zb];congr 1;omega
  ·rw[ze h2,zc];congr 1;omega
theorem zHf{n:Int}(h:n.natAbs≤9223372036854775806):zAS n=some (n.natAbs:Int):=by
 simp only[zAS,zCY,za,zJ];rw[zB (by omega)];by_cases h2:0 - n<n
 ·rw[zd h2,zb,za];congr 1;omega
 ·rw[ze h2,zc,za];congr 1;omega
theorem zEQ{b:Int}(h:b≠0):nz b=some ():=by
 unfold nz;rw[zA7];have:(b==0)=false:=by rw[zr];exact h
 rw[this];rfl
theorem zDU{a b:Int}(h:a≠b):eqI a b=false:=by rw[zA7,zr];exact h
theorem zB1(a:Int):eqI a a=true:=by rw[zA7];exact beq_self_eq_true a
theorem zH5(a b:Int):Int.gcd b (a.tmod b)=Int.gcd a b:=by unfold Int.gcd;rw[Int.natAbs_tmod,Nat.gcd_comm,←Nat.gcd_rec,Nat.gcd_comm]
theorem zYJ{x y:Nat}(k:Nat)(hy:0<y)(hxy:y<x)(h:x<2 ^(k+1)):x % y<2 ^k:=by have h1:=Nat.mod_lt x hy;have h2:=Nat.div_add_mod x y;have h3:1≤x / y:=Nat.div_pos (Nat.le_of_lt hxy) hy;have h4:y*1≤y*(x / y):=Nat.mul_le_mul_left y h3;rw[Nat.pow_succ]at h;omega
theorem zYK:∀(k n:Nat)(a b:Int),b.natAbs<2 ^k→2*k+1≤n→∃r,zBX n a b=some r∧r.natAbs=Int.gcd a b
 |k,0,a,b,_,hn=>by omega
 |0,n+1,a,b,hb,hn=>by
  have:b=0:=by simp at hb;omega
  subst this;unfold zBX;rw[zB1];exact⟨a,rfl,by simp⟩
 |k+1,n+1,a,b,hb,hn=>by
  unfold zBX;by_cases h0:b=0
  ·subst h0;rw[zB1];exact⟨a,rfl,by simp⟩
  ·rw[zDU h0,zEQ h0];simp only[zh,zb,za,zI];rw[←zH5 a b]
   match n,hn with
   |n+1,hn=>
    unfold zBX;by_cases h1:a.tmod b=0
    ·rw[h1,zB1];exact⟨b,rfl,by simp⟩
    ·rw[zDU h1,zEQ h1];simp only[zh,zb,za,zI];rw[←zH5 b (a.tmod b)];refine zYK k n _ _ ?_ (by omega)
     rw[Int.natAbs_tmod];have h2:(a.tmod b).natAbs<b.natAbs:=by rw[Int.natAbs_tmod];exact Nat.mod_lt _ (by omega)
     exact zYJ k (by omega) h2 hb
theorem zYk(k:Nat)(h:k≤1000000):k≤FU:=Nat.le_trans h (by decide)
theorem zTl{a b:Int}{M:Nat}(ha:a.natAbs≤M)(hb:b.natAbs≤M):Int.gcd a b≤M:=by
 by_cases h:b=0
 ·subst h;simpa using ha
 ·have:Int.gcd a b∣b.natAbs:=Nat.gcd_dvd_right _ _;exact Nat.le_trans (Nat.le_of_dvd (by omega) this) hb
theorem zME{a b:Int}(ha:a.natAbs≤9223372036854775806)(hb:b.natAbs≤9223372036854775806):zED a b=some (Int.gcd a b:Int):=by obtain⟨r,h1,h2⟩:=zYK 64 FU a b (by omega) (zYk 129 (by decide));have h3:=zTl ha hb;simp only[zED,h1,za,zYd (n:=r) (by omega),h2]
theorem zZI:∀(n:Nat)(a b:Int),jO n a b=zBX n a b
 |0,a,b=>rfl
 |n+1,a,b=>by unfold jO zBX;simp only[zI,zZI n]
theorem zI5(a b:Int):Int.gcd (a.natAbs:Int) (b.natAbs:Int)=Int.gcd a b:=by unfold Int.gcd;simp
theorem z4i:∀(n:Nat)(a b r:Int),0≤a→0≤b→zBX n a b=some r→0≤r
 |0,a,b,r,_,_,h=>by cases h
 |n+1,a,b,r,ha,hb,h=>by
  unfold zBX at h;by_cases h0:b=0
  ·subst h0;rw[zB1]at h;have h:some a=some r:=h;injection h with h;omega
  ·rw[zDU h0,zEQ h0]at h;simp only[zh,zb,za,zI]at h;exact z4i n _ _ _ hb (Int.tmod_nonneg _ ha) h
theorem zHe{a b:Int}(ha:a.natAbs≤9223372036854775806)(hb:b.natAbs≤9223372036854775806):zAR a b=some (Int.gcd a b:Int):=by obtain⟨r,h1,h2⟩:=zYK 64 FU (a.natAbs:Int) (b.natAbs:Int) (by omega) (zYk 129 (by decide));have h3:=z4i _ _ _ _ (by omega) (by omega) h1;rw[zI5]at h2;simp only[zAR,zHf ha,zHf hb,za,zZI,h1];congr 1;omega
def inN(x:Int):Bool:=leI (-1000000) x&&leI x 1000000
theorem jG{x:Int}:inN x=true↔-1000000≤x∧x≤1000000:=by unfold inN;rw[zS,zS];simp
theorem z2S(l:List Int)(hl:l.length<1000000):∀(n i:Nat),i≤l.length→l.length - i<n→zCf l n (i:Int)=some (if (l.drop i).all inN then .inl () else .inr false)
 |0,i,_,h=>by omega
 |n+1,i,hi,h=>by
  unfold zCf;rw[zJ];by_cases h1:(i:Int)<(l.length:Int)
  ·have h2:i<l.length:=by omega
   rw[zd h1,zb];have h3:getI l (i:Int)=some l[i]:=by unfold getI;rw[zS,zd (by omega:(0:Int)≤(i:Int)),zb];simp[h2]
   rw[h3,za,List.drop_eq_getElem_cons h2,List.all_cons];simp only[zJ,inN,zS,zI];rw[zB (by omega)];have ih:=z2S l hl n (i+1) (by omega) (by omega);rw[show ((i:Int)+1)=((i+1:Nat):Int) by omega,ih];by_cases h4:l[i]< -1000000
   ·have h6:¬(-1000000≤l[i]):=by omega
    simp[h4,h6]
   ·by_cases h5:1000000<l[i]
    ·have h6:¬(l[i]≤1000000):=by omega
     simp[h4,h5,h6]
    ·have h6:-1000000≤l[i]:=by omega
     have h7:l[i]≤1000000:=by omega
     simp only[h4,h5,h6,h7,decide_true,decide_false,zc,zb,Bool.and_true,Bool.true_and]
  ·rw[ze h1,zc,List.drop_eq_nil_of_le (by omega)];rfl
theorem zGI(l:List Int)(hl:l.length<1000000):qK l=some (l.all inN):=by have h:=z2S l hl FU 0 (Nat.zero_le _) (by (have:(1000000:Nat)≤FU:=by decide);omega);simp only[qK,show (0:Int)=((0:Nat):Int) from rfl,h,List.drop_zero];cases l.all inN<;>rfl
theorem zZm(n:Int):zAA n=some (inN n):=by simp only[zAA,qP,za,inN];cases leI (-1000000) n<;>rfl
theorem zFU(f:Int×Int×Int):zEg f=some (inN f.1&&(inN f.2.1&&inN f.2.2)):=by simp only[zEg,zGI _ (show [f.1,f.2.1,f.2.2].length<1000000 by simp),za,List.all_cons,List.all_nil,Bool.and_true]
theorem zW4(f:Int×Int×Int):zDP f=some (inN f.1&&(inN f.2.1&&inN f.2.2)):=by simp only[zDP,zZm,za];cases inN f.1<;>cases inN f.2.1<;>cases inN f.2.2<;>rfl
theorem zF3:qO=zY:=rfl
theorem zOe{a b c:Int}(ha:inN a=true)(hb:inN b=true)(hc:inN c=true):zY (a,b,c)=some (b*b - 4*a*c):=by rw[jG]at ha hb hc;have m1:=zM (x:=b) (y:=b) (A:=1000000) (B:=1000000) (by omega) (by omega);have m2:=zM (x:=4*a) (y:=c) (A:=4000000) (B:=1000000) (by omega) (by omega);simp only[zY,zI];rw[qG (n:=b*b) (by omega),qG (n:=4*a) (by omega),qG (n:=4*a*c) (by omega),qG (by omega)]
theorem zOf(f:Int×Int×Int):jU f=zN f:=by simp only[jU,zN,zFU,zW4,zF3]
theorem zIx(f:Int×Int×Int):zEC f=jA f:=by simp only[zEC,jA,zOf,zF3]
theorem zIP{a b c:Int}(ha:inN a=true)(hb:inN b=true)(hc:inN c=true):zDD (a,b,c)=some (Int.gcd a (Int.gcd b c):Int):=by rw[jG]at ha hb hc;have h:=zTl (a:=b) (b:=c) (M:=1000000) (by omega) (by omega);simp only[zDD,zME (a:=b) (b:=c) (by omega) (by omega),za];rw[zME (by omega) (by omega)];rfl
theorem zX2{a b c:Int}(ha:inN a=true)(hb:inN b=true)(hc:inN c=true):zAH (a,b,c)=some (Int.gcd a (Int.gcd b c):Int):=by rw[jG]at ha hb hc;have h:=zTl (a:=a) (b:=b) (M:=1000000) (by omega) (by omega);simp only[zAH,zHe (a:=a) (b:=b) (by omega) (by omega),za];rw[zHe (by omega) (by omega),za];congr 2;unfold Int.gcd;simp[Nat.gcd_assoc]
theorem zHc{a b c:Int}(h:jA (a,b,c)=some true):inN a=true∧inN b=true∧inN c=true∧b*b - 4*a*c<0∧-2000≤b*b - 4*a*c∧0<a:=by
 simp only[jA,zN,zFU,za]at h;cases ha:inN a<;>cases hb:inN b<;>cases hc:inN c<;>simp only[ha,hb,hc,Bool.and_true,Bool.and_false,Bool.true_and,Bool.false_and,zb,zc,za]at h
 all_goals first
  |(exfalso;exact absurd (zF h) (by decide))
  |skip
 rw[zOe ha hb hc]at h;simp only[za,zJ,zS]at h;by_cases h1:b*b - 4*a*c<0<;>by_cases h2:0<a<;>by_cases h3:-2000≤b*b - 4*a*c<;>simp[h1,h2,h3]at h;exact⟨rfl,rfl,rfl,h1,h3,h2⟩
theorem zGw(f:Int×Int×Int):∃b,zN f=some b:=by simp only[zN,zFU,za,zY,zI];cases (inN f.1&&(inN f.2.1&&inN f.2.2))<;>exact⟨_,rfl⟩
theorem zHd(f:Int×Int×Int):∃b,jA f=some b:=by obtain⟨b,hb⟩:=zGw f;simp only[jA,hb,za,zY,zI];cases b<;>exact⟨_,rfl⟩
theorem zFi(f:Int×Int×Int):zC0 f=zZ f:=by
 simp only[zC0,zZ,zIx];obtain⟨b,hb⟩:=zHd f;rw[hb];cases b with
 |false=>rfl
 |true=>obtain⟨a,b,c⟩:=f;obtain⟨ha,hb,hc,_⟩:=zHc hb;simp only[za,zb,zIP ha hb hc,zX2 ha hb hc]
theorem zHs(f:Int×Int×Int):∃b,zZ f=some b:=by
 obtain⟨b,hb⟩:=zHd f;simp only[zZ,hb,za];cases b with
 |false=>exact⟨_,rfl⟩
 |true=>obtain⟨a,b,c⟩:=f;obtain⟨ha,hb,hc,_⟩:=zHc hb;simp only[za,zb,zIP ha hb hc];exact⟨_,rfl⟩
theorem zFb{a b c:Int}(h:zZ (a,b,c)=some true):inN a=true∧inN b=true∧inN c=true∧b*b - 4*a*c<0∧-2000≤b*b - 4*a*c∧0<a∧Int.gcd a (Int.gcd b c)=1:=by
 simp only[zZ]at h;obtain⟨s,hs⟩:=zHd (a,b,c);rw[hs]at h;cases s with
 |false=>exfalso;exact absurd (zF h) (by decide)
 |true=>obtain⟨h1,h2,h3,h4,h5,h6⟩:=zHc hs;simp only[za,zb,zIP h1 h2 h3,zA7]at h;have h7:=zF h;refine⟨h1,h2,h3,h4,h5,h6,?_⟩;have:=eq_of_beq h7;omega
theorem zW5(v:Int):∀(n:Nat)(d:Int),zDp v n d=zBy v n d
 |0,d=>rfl
 |n+1,d=>by unfold zDp zBy;simp only[zI,zW5 v n]
theorem z44(v:Int):zEL v=jP v:=by unfold zEL jP;rw[zW5]
theorem zLU(v:Int)(hv:v≤1000000):∀(n:Nat)(d:Int),1≤d→d≤1001→1002 - d≤n→∃r,zBy v n d=some r
 |0,d,h1,h2,h3=>by omega
 |n+1,d,h1,h2,h3=>by
  unfold zBy;have m1:=zM (x:=d) (y:=d) (A:=1001) (B:=1001) (by omega) (by omega);rw[qG (n:=d*d) (by omega),zS];by_cases h4:d*d≤v
  ·have h5:d≤1000:=by
    rcases Int.lt_or_le 1000 d with h|h
    ·have:1001*1001≤d*d:=Int.mul_le_mul (by omega) (by omega) (by omega) (by omega);omega
    ·exact h
   rw[zd h4,zb,zEQ (by omega),za];cases eqI (Int.tmod v d) 0 with
   |true=>exact⟨_,rfl⟩
   |false=>simp only[zc,zI];rw[zB (by omega)];exact zLU v hv n (d+1) (by omega) (by omega) (by omega)
  ·rw[ze h4,zc];exact⟨_,rfl⟩
theorem z0q(v:Int)(hv:v≤1000000):∃b,jP v=some b:=by
 unfold jP;cases ltI v 2 with
 |true=>exact⟨_,rfl⟩
 |false=>obtain⟨r,hr⟩:=zLU v hv FU 2 (by omega) (by omega) (by (have:(1002:Nat)≤FU:=by decide);omega);rw[zc,hr];cases r<;>exact⟨_,rfl⟩
theorem z1A(d:Int):zBD d=q7 d:=by
 simp only[zBD,qP,q7,za,zF2];cases h:(bif leI (-2000) d then leI d (-3) else false) with
 |false=>rfl
 |true=>simp only[zb];rw[zA4 (by omega) (by omega)];simp only[za,zJ,zS];congr 1;simp only[decide_eq_decide];omega
theorem zZa(d:Int):q7 d=some (decide (-2000≤d∧d≤-3∧d % 4≤1)):=by simp only[q7,zS];by_cases h1:-2000≤d<;>by_cases h2:d≤-3<;>simp[h1,h2];rw[zA4 (by omega) (by omega)];rfl
structure RedInv (a b c d g:Int):Prop where
  a1:1≤a
  aM:a≤1000000
  b1:-1900000≤b
  b2:b≤1900000
  c1:1≤c
  cM:c≤1250000
  dis:b*b - 4*a*c=d
  neg:d<0
  nrm:(-a<b∧b≤a)∨c≤1000000
  con:∀k:Int,(k∣a∧k∣b∧k∣c)↔k∣g
def zCt(a b c:Int):Prop:=(-a<b∧b≤a)∧(a<c∨(a=c∧0≤b))
instance (a b c:Int):Decidable (zCt a b c):=inferInstanceAs (Decidable ((-a<b∧b≤a)∧(a<c∨(a=c∧0≤b))))
theorem zLN{a b c:Int}(ha:1≤a)(haM:a≤1000000):qA (a,b,c)=some (decide (zCt a b c)):=by
 have hn:qQ (a,b,c)=some (decide (-a<b∧b≤a)):=by
  simp only[qQ,za,zJ,zS];rw[zB (by omega)];by_cases h1:-a<b<;>by_cases h2:b≤a<;>simp[h1,h2]
  all_goals omega
 simp only[qA,hn,za,zJ,zS,zA7];unfold zCt;by_cases h1:-a<b<;>by_cases h2:b≤a<;>by_cases h3:a<c<;>by_cases h4:a=c<;>by_cases h5:0≤b<;>simp[h1,h2,h3,h4,h5]
theorem zZW{a b c d g:Int}(h:RedInv a b c d g)(hr:¬zCt a b c):∃m a2 b2 c2,jB (a,b,c)=some m∧qC (a,b,c) m=some (a2,b2,c2)∧RedInv a2 b2 c2 d g∧
  ((¬(-a<b∧b≤a)∧a2=a∧(-a2<b2∧b2≤a2))∨((-a<b∧b≤a)∧a2<a)∨((-a<b∧b≤a)∧zCt a2 b2 c2∧a2≤a)):=by
 obtain⟨a1,aM,b1,b2,c1,cM,dis,neg,nrm,con⟩:=h;have hn:qQ (a,b,c)=some (decide (-a<b∧b≤a)):=by
  simp only[qQ,za,zJ,zS];rw[zB (by omega)];by_cases h1:-a<b<;>by_cases h2:b≤a<;>simp[h1,h2]
  all_goals omega
 by_cases hN:-a<b∧b≤a
 ·have hst:jB (a,b,c)=some (0,-1,1,0):=by
   simp only[jB,zLN a1 aM,hn,za,ze hr,zd hN];rfl
  refine⟨_,c,-b,a,hst,zOc (by omega) (by omega) (by omega),?_,?_⟩
  ·have hca:c≤a:=by
    unfold zCt at hr;have:¬(a<c∨(a=c∧0≤b)):=fun x=>hr ⟨hN,x⟩;omega
   exact⟨c1,by omega,by omega,by omega,a1,by omega,by grind,neg,.inr aM,fun k=>by rw[←con k,Int.dvd_neg];exact⟨fun h=>⟨h.2.2,h.2.1,h.1⟩,fun h=>⟨h.2.2,h.2.1,h.1⟩⟩⟩
  ·have h2:¬(a<c∨(a=c∧0≤b)):=fun x=>hr ⟨hN,x⟩;by_cases hac:a=c
   ·refine .inr (.inr ⟨hN,⟨?_,.inr ?_⟩,?_⟩)<;>omega
   ·exact .inr (.inl ⟨hN,by omega⟩)
 ·have hf:=zGh (a:=a - b) (m:=2*a) (by omega) (by omega) (by omega) (by omega);have e1:=zz (a - b) (b:=2*a) (by omega);have e2:=qa (a - b) (b:=2*a) (by omega);have e3:=Int.emod_add_mul_ediv (a - b) (2*a);generalize hs:(a - b) / (2*a)=s at*;generalize hq:(a - b) % (2*a)=q at*;have hs1:s≤1000000:=by
   rcases Int.lt_or_le 1000000 s with h|h
   ·have:2*a*1000001≤2*a*s:=zo (by omega) (by omega);omega
   ·exact h
  have hs2:-1000001≤s:=by
   rcases Int.lt_or_le s (-1000001) with h|h
   ·have:2*a*s≤2*a*(-1000002):=zo (by omega) (by omega);omega
   ·exact h
  have hst:jB (a,b,c)=some (1,s,0,1):=by simp only[jB,zLN a1 aM,hn,za,ze hr,ze hN,zc,zh,zb];rw[zB (n:=a - b) (by omega),zB (n:=2*a) (by omega),hf];rfl
  have hb:-a<2*a*s+b∧2*a*s+b≤a:=by omega
  have hid:4*a*(a*s*s+b*s+c)=(2*a*s+b)*(2*a*s+b) - d:=by grind
  have hsq:0≤(2*a*s+b)*(2*a*s+b):=by
   rcases Int.le_total 0 (2*a*s+b) with h|h
   ·exact Int.mul_nonneg h h
   ·exact Int.mul_nonneg_of_nonpos_of_nonpos h h
  have hsq2:(2*a*s+b)*(2*a*s+b)≤a*a:=by
   have:=zM (x:=2*a*s+b) (y:=2*a*s+b) (A:=a.natAbs) (B:=a.natAbs) (by omega) (by omega);have h2:((2*a*s+b)*(2*a*s+b)).natAbs≤(a*a).natAbs:=by rw[Int.natAbs_mul a a];exact this
   have h3:0≤a*a:=Int.mul_nonneg (by omega) (by omega);omega
  have hbb:0≤b*b:=by
   rcases Int.le_total 0 b with h|h
   ·exact Int.mul_nonneg h h
   ·exact Int.mul_nonneg_of_nonpos_of_nonpos h h
  have hc:1≤a*s*s+b*s+c:=by
   rcases Int.lt_or_le 0 (a*s*s+b*s+c) with h|h
   ·exact h
   ·have:4*a*(a*s*s+b*s+c)≤4*a*0:=zo h (by omega);omega
  have hcc:c≤1000000:=nrm.resolve_left hN;have hcM:a*s*s+b*s+c≤1250000:=by
   have h4:4*a*(a*s*s+b*s+c)≤a*a+4*a*c:=by omega
   have h5:a*a+4*a*c≤a*5000000:=by
    have:a*(a+4*c)≤a*5000000:=zo (by omega) (by omega);have e:a*(a+4*c)=a*a+4*a*c:=by grind
    omega
   rcases Int.lt_or_le 1250000 (a*s*s+b*s+c) with h|h
   ·have:4*a*1250001≤4*a*(a*s*s+b*s+c):=zo (by omega) (by omega);omega
   ·exact h
  have hcon:∀k:Int,(k∣a∧k∣2*a*s+b∧k∣a*s*s+b*s+c)↔k∣g:=by
   intro k;rw[←con k];constructor
   ·rintro⟨u1,u2,u3⟩;have v1:k∣b:=by
     have w1:k∣2*a*s:=Int.dvd_mul_of_dvd_left (Int.dvd_mul_of_dvd_right u1);exact (Int.dvd_add_right w1).1 u2
    have w2:k∣a*s*s+b*s:=Int.dvd_add (Int.dvd_mul_of_dvd_left (Int.dvd_mul_of_dvd_left u1)) (Int.dvd_mul_of_dvd_left v1);exact⟨u1,v1,(Int.dvd_add_right w2).1 u3⟩
   ·rintro⟨u1,u2,u3⟩;have w1:k∣2*a*s:=Int.dvd_mul_of_dvd_left (Int.dvd_mul_of_dvd_right u1);have w2:k∣a*s*s+b*s:=Int.dvd_add (Int.dvd_mul_of_dvd_left (Int.dvd_mul_of_dvd_left u1)) (Int.dvd_mul_of_dvd_left u2);exact⟨u1,Int.dvd_add w1 u2,Int.dvd_add w2 u3⟩
  refine⟨_,a,2*a*s+b,a*s*s+b*s+c,hst,zOd (by omega) (by omega) (by omega) (by omega),⟨a1,aM,by omega,by omega,hc,hcM,by grind,neg,.inl hb,hcon⟩,.inl ⟨hN,rfl,hb⟩⟩
theorem zSD(m n:Int×Int×Int×Int):∃y,zE m n=some y:=by simp only[zE,zI];exact⟨_,rfl⟩
theorem z2C:∀(n:Nat)(a b c d g p q r s:Int),RedInv a b c d g→4*a+(if -a<b∧b≤a then 0 else 2)+(if zCt a b c then 0 else 1)≤(n:Int)→
  ∃m1 m2 m3 m4 a2 b2 c2,zBu n p q r s a b c=some (m1,m2,m3,m4,a2,b2,c2)∧zDZ n p q r s a b c=some (m1,m2,m3,m4,a2,b2,c2)∧RedInv a2 b2 c2 d g∧zCt a2 b2 c2
 |0,a,b,c,d,g,p,q,r,s,h,hm=>by have:=h.a1;split at hm<;>split at hm<;>omega
 |n+1,a,b,c,d,g,p,q,r,s,h,hm=>by
  unfold zBu zDZ;rw[zTu,zLN h.a1 h.aM];by_cases hr:zCt a b c
  ·refine⟨p,q,r,s,a,b,c,?_,?_,h,hr⟩<;>simp[hr]
  ·obtain⟨m,a2,b2,c2,h1,h2,h3,h4⟩:=zZW h hr;obtain⟨y,hy⟩:=zSD (p,q,r,s) m;obtain⟨y1,y2,y3,y4⟩:=y;have hstep:zEf (a,b,c)=jB (a,b,c):=z52 h.a1 (by have:=h.aM;omega) (by have:=h.b1;omega) (by have:=h.b2;omega) (by rw[zLN h.a1 h.aM,ze hr]);have e1:(!decide (zCt a b c))=true:=by simp[hr]
   simp only[za,hstep,h1,z2e,zMF,h2,hy,e1,zb];refine z2C n a2 b2 c2 d g y1 y2 y3 y4 h3 ?_
   rcases h4 with⟨g1,g2,g3⟩|⟨g1,g2⟩|⟨g1,g2,g3⟩
   ·rw[if_neg g1,if_neg hr]at hm;rw[if_pos g3];split<;>omega
   ·rw[if_pos g1,if_neg hr]at hm;split<;>split<;>omega
   ·rw[if_pos g1,if_neg hr]at hm;rw[if_pos g2.1,if_pos g2];omega
theorem zTP{a b c d g:Int}(h:RedInv a b c d g):∃m a2 b2 c2,qF (a,b,c)=some ((a2,b2,c2),m)∧qH (a,b,c)=some ((a2,b2,c2),m)∧RedInv a2 b2 c2 d g∧zCt a2 b2 c2:=by
 obtain⟨m1,m2,m3,m4,a2,b2,c2,h1,h2,h3,h4⟩:=z2C FU a b c d g 1 0 0 1 h (by have e:((FU:Nat):Int)=1000000000:=rfl;rw[e];have:=h.aM;split<;>split<;>omega)
 refine⟨(m1,m2,m3,m4),a2,b2,c2,?_,?_,h3,h4⟩
 ·simp only[qF,zCy,za,h1]
 ·simp only[qH,h2,za]
theorem zXp{a b c:Int}(h:zZ (a,b,c)=some true):RedInv a b c (b*b - 4*a*c) 1:=by
 obtain⟨ha,hb,hc,hneg,hbig,hpos,hg⟩:=zFb h;rw[jG]at ha hb hc;have hbb:0≤b*b:=by
  rcases Int.le_total 0 b with h|h
  ·exact Int.mul_nonneg h h
  ·exact Int.mul_nonneg_of_nonpos_of_nonpos h h
 have hc1:1≤c:=by
  rcases Int.lt_or_le 0 c with h|h
  ·exact h
  ·have:4*a*c≤4*a*0:=zo h (by omega);omega
 refine⟨by omega,by omega,by omega,by omega,hc1,by omega,rfl,hneg,.inr (by omega),fun k=>?_⟩;constructor
 ·rintro⟨u1,u2,u3⟩;have h1:k∣(Int.gcd b c:Int):=Int.dvd_coe_gcd u2 u3;have h2:k∣(Int.gcd a (Int.gcd b c):Int):=Int.dvd_coe_gcd u1 h1;rw[hg]at h2;exact h2
 ·intro h1;exact⟨Int.dvd_trans h1 (Int.one_dvd _),Int.dvd_trans h1 (Int.one_dvd _),Int.dvd_trans h1 (Int.one_dvd _)⟩
theorem FUge:1000000≤FU:=by decide
theorem nzOk{b:Int}(h:b≠0):nz b=some ():=by
 unfold nz;rw[zA7];have:(b==0)=false:=by rw[zr];exact h
 rw[this];rfl
theorem zGM(a:Int):eqI a a=true:=by rw[zA7];exact beq_self_eq_true a
theorem eqNe{a b:Int}(h:a≠b):eqI a b=false:=by rw[zA7,zr];exact h
theorem zA9{n:Nat}(h:n≤1000000000):room n=some ():=by unfold room;rw[Nat.ble_eq_true_of_le (by omega),zb]
theorem zCh{α:Type}{l:List α}{k:Nat}(hk:k<l.length):getI l (k:Int)=some (l[k]'hk):=by unfold getI;rw[zS,zd (by omega),zb];simp
theorem zBa{k:Nat}(h:k<1000000000):w64 ((k:Int)+1)=((k+1:Nat):Int):=by rw[zB (by omega)];push_cast;omega
def bl(l:List UInt8):qe:=⟨l.toArray⟩
theorem zAf(a b:List UInt8):bl a++bl b=bl (a++b):=by apply ByteArray.ext;simp[bl]
theorem zCB(l:List UInt8):(bl l).size=l.length:=by simp[bl,ByteArray.size]
theorem zDK(l:List UInt8):(bl l).data.toList=l:=by simp[bl]
theorem zCi{a b:List UInt8}(h:a.length+b.length≤9223372036854775807):catR (bl a) (bl b)=some ():=by unfold catR;rw[if_pos (by rw[zCB,zCB];exact h)]
theorem zWy{d:Int}(h0:0≤d)(h1:d≤9):zCj [IntKind.u8.wrap (w64 (48+d))]=bl [UInt8.ofNat (48+d.toNat)]:=by
 rw[zB (by omega),IntKind.wrap_u8];have e:(48+d) % 256=48+d:=by omega
 have e2:(48+d).toNat=48+d.toNat:=by omega
 apply ByteArray.ext;simp only[zCj,List.foldl_cons,List.foldl_nil,e,e2];rfl
theorem zPp:∀(n k u:Nat),u<10 ^k→k≤18→k<n→zB3 n (u:Int)=some (bl (Go.Lib.decDigits u))
 |0,k,u,_,_,h=>by omega
 |n+1,k,u,h1,h18,h2=>by
  rw[zB3,zJ];by_cases hu:u<10
  ·rw[zd (by omega),zb,zWy (by omega) (by omega),Go.Lib.decDigits_one hu];rfl
  ·have hk:k≠0:=by
    intro e;subst e;simp at h1;omega
   obtain⟨j,rfl⟩:∃j,k=j+1:=⟨k - 1,by omega⟩
   have h3:u / 10<10 ^j:=by rw[Nat.pow_succ]at h1;omega
   have hbig:10 ^(j+1)≤10 ^18:=Nat.pow_le_pow_right (by decide) h18;have hb2:u<1000000000000000000:=Nat.lt_of_lt_of_le h1 hbig;have e1:w64 (Int.tdiv (u:Int) 10)=((u / 10:Nat):Int):=by rw[show Int.tdiv (u:Int) 10=((u / 10:Nat):Int) from rfl,zB (by omega)]
   have e2:Int.tmod (u:Int) 10=((u % 10:Nat):Int):=rfl;rw[ze (by omega),zc,e1,zPp n j (u / 10) h3 (by omega) (by omega),e2];simp only[za];rw[zWy (by omega) (by omega)];have h4:Go.Lib.nDigits (u / 10)≤20:=by
    rcases Nat.lt_or_ge 20 (Go.Lib.nDigits (u / 10)) with h5|h5
    ·exfalso
     have h6:∀(m v:Nat),v<10 ^m→1≤m→Go.Lib.nDigits v≤m:=by
      intro m
      induction m with
      |zero=>intro v hv h;omega
      |succ m ih=>
       intro v hv _;by_cases hv10:v<10
       ·rw[Go.Lib.nDigits_small hv10];omega
       ·rw[Go.Lib.nDigits_big hv10];have:m≠0:=by intro e;subst e;simp at hv;omega
        have:=ih (v / 10) (by rw[Nat.pow_succ]at hv;omega) (by omega);omega
     have:=h6 20 (u / 10) (by omega) (by omega);omega
    ·exact h5
   rw[zCi (by rw[Go.Lib.decDigits_length];simp;omega),za,zAf];have e3:Go.Lib.decDigits u=Go.Lib.decDigits (u / 10)++[UInt8.ofNat (48+u % 10)]:=by rw[Go.Lib.decDigits,dif_neg hu]
   rw[e3];rfl
theorem zO2:∀(m v:Nat),v<10 ^m→1≤m→Go.Lib.nDigits v≤m
 |0,v,hv,h=>by omega
 |m+1,v,hv,_=>by
  by_cases hv10:v<10
  ·rw[Go.Lib.nDigits_small hv10];omega
  ·rw[Go.Lib.nDigits_big hv10];have:m≠0:=by intro e;subst e;simp at hv;omega
   have:=zO2 m (v / 10) (by rw[Nat.pow_succ]at hv;omega) (by omega);omega
def sm18(n:Int):Prop:=-1000000000000000000<n∧n<1000000000000000000
theorem jD{n:Int}(h:sm18 n):(Go.Lib.itoa n).length≤19:=by
 obtain⟨h0,h1⟩:=h;unfold Go.Lib.itoa;split
 ·rw[zf,Go.Lib.decDigits_length];have:=zO2 18 n.natAbs (by omega) (by omega);omega
 ·rw[Go.Lib.decDigits_length];have:=zO2 18 n.toNat (by omega) (by omega);omega
theorem zB0{n:Int}(h:sm18 n):zU n=some (bl (Go.Lib.itoa n)):=by
 have hl:=jD h;obtain⟨h0,h1⟩:=h;have hF:=FUge;unfold zU;unfold Go.Lib.itoa at hl ⊢;rw[zJ];by_cases hn:n<0
 ·rw[zd hn,zb,if_pos hn];rw[if_pos hn]at hl;have e1:w64 (0 - n)=((n.natAbs:Nat):Int):=by rw[zB (by omega)];omega
  rw[e1,zPp FU 18 n.natAbs (by omega) (by omega) (by omega)];have e2:(⟨#[45]⟩:qe)=bl [45]:=rfl;simp only[za];rw[e2,zCi (by simp at hl ⊢;omega),za,zAf];rfl
 ·rw[ze hn,zc,if_neg hn];have e1:n=((n.toNat:Nat):Int):=by omega
  rw[e1,zPp FU 18 n.toNat (by omega) (by omega) (by omega)];rfl
theorem zCr{n:Int}(h:sm18 n):zR n=some (bl (Go.Lib.itoa n)):=by obtain⟨h0,h1⟩:=h;unfold zR;rw[if_pos (by omega)];rfl
theorem zSF(ls:List (List UInt8))(h:∀x∈ls,x.length≤1000):(Go.Lib.joinTail [32] ls).length≤1001*ls.length:=by
 induction ls with
 |nil=>simp[Go.Lib.joinTail]
 |cons x r ih=>have h1:=ih fun y hy=>h y (zm _ hy);have h2:=h x zl;simp only[Go.Lib.joinTail,List.map_cons,List.flatten_cons,List.length_append,zf,List.length_nil]at h1 ⊢;omega
theorem zW0(x:List UInt8)(r:List (List UInt8)):Go.Lib.joinTail [32] (x::r)=32::(x++Go.Lib.joinTail [32] r):=by simp[Go.Lib.joinTail]
theorem zTU(ls:List (List UInt8))(hN:ls.length≤100)(hL:∀x∈ls,x.length≤1000):∀(n k:Nat)(out:List UInt8),1≤k→k≤ls.length→ls.length - k<n→out.length≤2000*k→
  zBd (ls.map bl) n (bl out) (k:Int)=some (bl (out++Go.Lib.joinTail [32] (ls.drop k)))
 |0,k,out,_,_,h,_=>by omega
 |n+1,k,out,h1,h0,h,ho=>by
  unfold zBd;rw[zJ,List.length_map];by_cases hk:k<ls.length
  ·have e3:ls.drop k=ls[k]::ls.drop (k+1):=List.drop_eq_getElem_cons hk;have hx:=hL (ls[k]) (zt hk);rw[zd (by omega),zb,zCh (by rw[List.length_map];exact hk)];simp only[za,List.getElem_map];rw[zJ,zd (by omega),zb];have e2:(⟨#[32]⟩:qe)=bl [32]:=rfl;rw[e2,zCi (by simp;omega),za,zAf,zCi (by simp;omega),za,zAf,zI,zBa (by omega)];rw[zTU ls hN hL n (k+1) _ (by omega) (by omega) (by omega) (by simp;omega),e3,zW0];simp
  ·have e:k=ls.length:=by omega
   rw[ze (by omega),zc,e,List.drop_length];simp[Go.Lib.joinTail]
theorem zFG(x:List UInt8)(r:List (List UInt8))(hN:r.length≤99)(hL:∀y∈x::r,y.length≤1000):j0 (bl x::r.map bl)=some (bl (x++Go.Lib.joinTail [32] r)):=by
 have hF:=FUge;obtain⟨m,hm⟩:∃m,FU=m+1:=⟨FU - 1,by omega⟩
 have hx:=hL x zl;have key:zBd (bl x::r.map bl) FU (bl []) 0=some (bl (x++Go.Lib.joinTail [32] r)):=by rw[hm];unfold zBd;have e1:getI (bl x::r.map bl) 0=some (bl x):=rfl;have e2:=zBa (k:=0) (by omega);rw[zJ,zd (by simp only[zf];omega),zb,e1];simp only[za];rw[zJ,ze (by omega),zc,zCi (by simp;omega),za,zAf,zI];have e3:w64 (0+1)=((0+1:Nat):Int):=e2;rw[e3];have:=zTU (x::r) (by simp;omega) hL m 1 ([]++x) (by omega) (by simp) (by simp only[zf];omega) (by simp;omega);simpa using this
 unfold j0;have e0:(⟨#[]⟩:qe)=bl []:=rfl;rw[e0,key];rfl
theorem zKE(x:List UInt8)(r:List (List UInt8))(hr:r≠[])(hN:r.length≤99)(hL:∀y∈x::r,y.length≤1000):zAM (bl x) (r.map bl)=some (bl (x++Go.Lib.joinTail [32] r)):=by
 have hx:=hL x zl;have ht:=zSF r fun y hy=>hL y (zm _ hy);have e2:(⟨#[32]⟩:qe)=bl [32]:=rfl;have e4:(r.map bl).map (fun b:qe=>b.data.toList)=r:=by
  rw[List.map_map]
  conv=>rhs;rw[←List.map_id r]
  exact List.map_congr_left fun y _=>zDK y
 have e5:Go.Lib.joinTail [32] r=32::Go.Lib.join r [32]:=by
  cases r with
  |nil=>exact absurd rfl hr
  |cons y s=>rw[zW0,Go.Lib.join_cons]
 have e6:(Go.Lib.join r [32]).length≤1001*r.length:=by rw[e5]at ht;simp at ht;omega
 have hj:zHi (r.map bl) (bl [32])=some (bl (Go.Lib.join r [32])):=by unfold zHi;rw[e4,zDK,if_pos ⟨by rw[List.length_map];omega,by omega⟩];rfl
 unfold zAM;rw[e2,zCi (by simp;omega),za,hj,za,zAf,zCi (by simp;omega),za,zAf,e5];simp
def upz:Nat→Int→List Int
 |0,_=>[]
 |f+1,y=>y::upz f (y+1)
theorem zYA:∀(f:Nat)(y z:Int),z∈upz f y↔y≤z∧z<y+f
 |0,y,z=>by simp[upz]
 |f+1,y,z=>by rw[upz,zk,zYA f (y+1) z];push_cast;omega
theorem z3t:∀(f:Nat)(y:Int),(upz f y).Pairwise (·<·)
 |0,y=>List.Pairwise.nil
 |f+1,y=>by rw[upz,List.pairwise_cons];refine⟨fun z hz=>?_,z3t f (y+1)⟩;have:=(zYA f (y+1) z).1 hz;omega
theorem z1m:∀(f:Nat)(y:Int),(upz f y).length=f
 |0,y=>rfl
 |f+1,y=>by rw[upz,zf,z1m f (y+1)]
theorem z65{a b c:Int}(ha:1≤a)(haM:a≤1000000):zBc (a,b,c)=some (decide (zCt a b c)):=by rw[zTu];exact zLN ha haM
def cfR(d a b:Int):Int×Int×Int:=(a,b,Int.tdiv (b*b - d) (4*a))
def okR(d:Int)(f:Int×Int×Int):Bool:=eqI (f.2.1*f.2.1 - 4*f.1*f.2.2) d&&decide (zCt f.1 f.2.1 f.2.2)
def rowR(d a:Int)(n:Nat)(b:Int):List (Int×Int×Int):=((upz n b).map (cfR d a)).filter (okR d)
theorem zTK{d a b:Int}{n:Nat}{f:Int×Int×Int}(h:f∈rowR d a n b):f.1=a:=by unfold rowR at h;obtain⟨b',_,hb⟩:=List.mem_map.1 (List.mem_filter.1 h).1;rw[←hb];rfl
theorem z62{x m:Int}(hm:1≤m):(Int.tdiv x m).natAbs≤x.natAbs:=by rw[Int.natAbs_tdiv];exact Nat.div_le_self _ _
theorem zOX{d a:Int}(ha1:1≤a)(ha:a≤1000)(hd1:-2000≤d)(hd2:d≤-3):∀(m fu:Nat)(b:Int)(acc:List (Int×Int×Int)),b+m=a+1→-1000≤b→m<fu→acc.length+m≤100000000→
  zCO a d fu b acc=some (acc++rowR d a m b)
 |m,0,b,acc,_,_,h,_=>by omega
 |0,fu+1,b,acc,hb,hb0,hf,hl=>by rw[zCO,zS,ze (by omega),zc];simp[rowR,upz]
 |m+1,fu+1,b,acc,hb,hb0,hf,hl=>by
  rw[zCO,zS,zd (by omega),zb];have b1:=zM (x:=b) (y:=b) (A:=1000) (B:=1000) (by omega) (by omega);have e4:w64 (4*a)=4*a:=zB (by omega);have e5:w64 (w64 (b*b) - d)=b*b - d:=by rw[qG (n:=b*b) (by omega),qG (by omega)]
  have q1:=z62 (x:=b*b - d) (m:=4*a) (by omega);generalize hc:Int.tdiv (b*b - d) (4*a)=c at q1;have b2:=zM (x:=4*a) (y:=c) (A:=4000) (B:=1002000) (by omega) (by omega);have ed:qO (a,b,c)=some (b*b - 4*a*c):=by simp only[qO,zI];rw[qG (n:=b*b) (by omega),e4,qG (n:=4*a*c) (by omega),qG (by omega)]
  have ew:w64 (b+1)=b+1:=zB (by omega);have hcf:cfR d a b=(a,b,c):=by unfold cfR;rw[hc]
  rw[e4,nzOk (by omega),e5,hc,qG (n:=c) (by omega)];simp only[za,zI,ed,z65 ha1 (show a≤1000000 by omega),ew];have hrow:rowR d a (m+1) b=(if okR d (a,b,c) then [(a,b,c)] else [])++rowR d a m (b+1):=by unfold rowR;rw[upz,List.map_cons,List.filter_cons,hcf];cases okR d (a,b,c)<;>simp
  rw[hrow];unfold okR;dsimp only;cases h1:eqI (b*b - 4*a*c) d with
  |true=>
   rw[zb];simp only[za,Bool.true_and];cases h2:decide (zCt a b c) with
   |true=>rw[zb,zA9 (by simp;omega)];simp only[za];rw[zOX ha1 ha hd1 hd2 m fu (b+1) _ (by omega) (by omega) (by omega) (by simp;omega)];simp
   |false=>rw[zc];rw[zOX ha1 ha hd1 hd2 m fu (b+1) _ (by omega) (by omega) (by omega) (by omega)];simp
  |false=>rw[zc];simp only[za,Bool.false_and,zc];rw[zOX ha1 ha hd1 hd2 m fu (b+1) _ (by omega) (by omega) (by omega) (by omega)];simp
theorem zOC{a b:Int}(h0:0≤a)(h:a≤b):a*a≤b*b:=Int.mul_le_mul h h h0 (by omega)
theorem z0O{d:Int}(hd1:-2000≤d)(hd2:d≤-3):∀(m fu:Nat)(a:Int)(acc:List (Int×Int×Int)),1≤a→a+m=27→m<fu→(acc.length:Int)≤1000*a→
  ∃L,zE6 d fu a acc=some (acc++L)∧(L.length:Int)+1000*a≤28000∧(∀f,f∈L↔a≤f.1∧3*f.1*f.1≤-d∧f∈rowR d f.1 (2*f.1).toNat (1 - f.1))∧∃asq:List Int,asq.Pairwise (·<·)∧(∀x∈asq,a≤x∧x≤26)∧L=asq.flatMap fun a=>rowR d a (2*a).toNat (1 - a)
 |m,0,a,acc,_,_,h,_=>by omega
 |m,fu+1,a,acc,ha,hm,hf,hl=>by
  have b1:=zM (x:=3*a) (y:=a) (A:=81) (B:=27) (by omega) (by omega);have e1:w64 (w64 (3*a)*a)=3*a*a:=by rw[zB (n:=3*a) (by omega),qG (by omega)]
  have e2:w64 (0 - d)=-d:=by rw[zB (by omega)];omega
  rw[zE6,e1,e2,zS];by_cases h:3*a*a≤-d
  ·have ha2:a≤26:=by
    rcases Int.lt_or_le 26 a with h2|h2
    ·have h3:=zOC (a:=27) (b:=a) (by omega) (by omega);have e:3*a*a=3*(a*a):=by grind
     omega
    ·exact h2
   obtain⟨m',rfl⟩:∃m',m=m'+1:=⟨m - 1,by omega⟩
   have hF:=FUge;rw[zd h,zb,zB (n:=1 - a) (by omega),zB (n:=a+1) (by omega)];simp only[zI];rw[zOX ha (by omega) hd1 hd2 (2*a).toNat FU (1 - a) acc (by omega) (by omega) (by omega) (by omega)];simp only[za];have hrl:(rowR d a (2*a).toNat (1 - a)).length≤(2*a).toNat:=by
    unfold rowR;refine Nat.le_trans (List.length_filter_le _ _) ?_
    rw[List.length_map,z1m];exact Nat.le_refl _
   obtain⟨L,k1,k2,k3,asq,k4,k5,k6⟩:=z0O hd1 hd2 m' fu (a+1) (acc++rowR d a (2*a).toNat (1 - a)) (by omega) (by omega) (by omega) (by rw[List.length_append];omega);refine⟨rowR d a (2*a).toNat (1 - a)++L,by rw[k1,List.append_assoc],by rw[List.length_append];omega,fun f=>?_,a::asq,?_,?_,?_⟩
   ·rw[zn,k3];constructor
    ·rintro (h1|⟨h1,h2,h3⟩)
     ·rw[zTK h1];exact⟨Int.le_refl _,h,h1⟩
     ·exact⟨by omega,h2,h3⟩
    ·rintro⟨h1,h2,h3⟩;by_cases hfa:f.1=a
     ·rw[hfa]at h3;exact .inl h3
     ·exact .inr ⟨by omega,h2,h3⟩
   ·rw[List.pairwise_cons];exact⟨fun x hx=>by have:=k5 x hx;omega,k4⟩
   ·intro x hx;rcases List.mem_cons.1 hx with e|e
    ·omega
    ·have:=k5 x e;omega
   ·rw[List.flatMap_cons,k6]
  ·rw[ze h,zc];refine⟨[],by simp,by simp;omega,fun f=>?_,[],List.Pairwise.nil,fun x hx=>(by cases hx),rfl⟩;refine⟨fun hf=>(by cases hf),fun hf=>?_⟩;obtain⟨h1,h2,h3⟩:=hf
   exfalso
   have h4:=zOC (a:=a) (b:=f.1) (by omega) h1;have e3:3*a*a=3*(a*a):=by grind
   have e4:3*f.1*f.1=3*(f.1*f.1):=by grind
   omega
theorem zYv:∀(k n:Nat)(a b:Int),0≤a→0≤b→b.natAbs<2 ^k→2*k+1≤n→∃r,jO n a b=some r∧r.natAbs=Int.gcd a b∧0≤r
 |k,0,a,b,_,_,_,hn=>by omega
 |0,n+1,a,b,ha,hb0,hb,hn=>by
  have:b=0:=by simp at hb;omega
  subst this;unfold jO;rw[zB1];exact⟨a,rfl,by simp,ha⟩
 |k+1,n+1,a,b,ha,hb0,hb,hn=>by
  unfold jO;by_cases h0:b=0
  ·subst h0;rw[zB1];exact⟨a,rfl,by simp,ha⟩
  ·rw[zDU h0,zEQ h0];simp only[zh,zb,za,zI];rw[←zH5 a b]
   match n,hn with
   |n+1,hn=>
    unfold jO;by_cases h1:a.tmod b=0
    ·rw[h1,zB1];exact⟨b,rfl,by simp,hb0⟩
    ·rw[zDU h1,zEQ h1];simp only[zh,zb,za,zI];rw[←zH5 b (a.tmod b)];refine zYv k n _ _ (Int.tmod_nonneg _ ha) (Int.tmod_nonneg _ hb0) ?_ (by omega)
     rw[Int.natAbs_tmod];have h2:(a.tmod b).natAbs<b.natAbs:=by rw[Int.natAbs_tmod];exact Nat.mod_lt _ (by omega)
     exact zYJ k (by omega) h2 hb
theorem zYu{a b:Int}(ha:a.natAbs≤9223372036854775806)(hb:b.natAbs≤9223372036854775806):zAR a b=some (Int.gcd a b:Int):=by obtain⟨r,h1,h2,h3⟩:=zYv 64 FU (a.natAbs:Int) (b.natAbs:Int) (by omega) (by omega) (by omega) (zYk 129 (by decide));rw[zI5]at h2;simp only[zAR,zHf ha,zHf hb,za,h1];congr 1;omega
theorem zXI{a b c:Int}(ha:inN a=true)(hb:inN b=true)(hc:inN c=true):zAH (a,b,c)=some (Int.gcd a (Int.gcd b c):Int):=by rw[jG]at ha hb hc;have h:=zTl (a:=a) (b:=b) (M:=1000000) (by omega) (by omega);simp only[zAH,zYu (a:=a) (b:=b) (by omega) (by omega),za];rw[zYu (by omega) (by omega),za];congr 2;unfold Int.gcd;simp[Nat.gcd_assoc]
theorem zLM{l:List (Int×Int×Int)}(hl:l.length≤1000000)(hb:∀f∈l,inN f.1=true∧inN f.2.1=true∧inN f.2.2=true):∀(fu k:Nat)(acc:List (Int×Int×Int)),k≤l.length→l.length - k<fu→acc.length≤k→
  zDR l fu (k:Int) acc=some (acc++(l.drop k).filter fun f=>eqI (Int.gcd f.1 (Int.gcd f.2.1 f.2.2):Int) 1)
 |0,k,acc,h0,h1,h2=>by omega
 |fu+1,k,acc,h0,h1,h2=>by
  rw[zDR];rw[zJ];by_cases hk:k<l.length
  ·obtain⟨c1,c2,c3⟩:=hb (l[k]) (zt hk);have hcon:zAH l[k]=some (Int.gcd l[k].1 (Int.gcd l[k].2.1 l[k].2.2):Int):=zXI c1 c2 c3;rw[zd (by omega),zb,zCh hk,List.drop_eq_getElem_cons hk,List.filter_cons];simp only[za,hcon,zI,zBa (show k<1000000000 by omega)];cases eqI (Int.gcd l[k].1 (Int.gcd l[k].2.1 l[k].2.2):Int) 1 with
   |true=>rw[zb,zA9 (by simp;omega),if_pos rfl];simp only[za];rw[zLM hl hb fu (k+1) _ (by omega) (by omega) (by simp;omega)];simp
   |false=>rw[zc,if_neg (by simp)];exact zLM hl hb fu (k+1) acc (by omega) (by omega) (by omega)
  ·rw[ze (by omega),zc,List.drop_eq_nil_of_le (by omega)];simp
def PrR(d:Int)(f:Int×Int×Int):Prop:=1≤f.1∧zCt f.1 f.2.1 f.2.2∧f.2.1*f.2.1 - 4*f.1*f.2.2=d∧Int.gcd f.1 (Int.gcd f.2.1 f.2.2)=1
theorem z4W{a b c d:Int}(ha:1≤a)(h:zCt a b c)(hd:b*b - 4*a*c=d):3*a*a≤-d:=by
 have h1:b*b≤a*a:=by
  obtain⟨⟨h2,h3⟩,_⟩:=h;rcases Int.le_total 0 b with h4|h4
  ·exact zOC h4 h3
  ·have:=zOC (a:=-b) (b:=a) (by omega) (by omega);have e:(-b)*(-b)=b*b:=by grind
   omega
 have h5:a≤c:=by obtain⟨_,h6⟩:=h;omega
 have h7:4*a*a≤4*a*c:=zo h5 (by omega);have e:4*a*a=4*(a*a):=by grind
 have e2:3*a*a=3*(a*a):=by grind
 omega
theorem z2A{d:Int}{f:Int×Int×Int}(hd1:-2000≤d)(hd2:d≤-3):(1≤f.1∧3*f.1*f.1≤-d∧f∈rowR d f.1 (2*f.1).toNat (1 - f.1))↔(1≤f.1∧zCt f.1 f.2.1 f.2.2∧f.2.1*f.2.1 - 4*f.1*f.2.2=d):=by
 obtain⟨a,b,c⟩:=f;unfold rowR;rw[List.mem_filter,List.mem_map];constructor
 ·rintro⟨h1,h2,⟨b',h3,h4⟩,h5⟩;unfold okR at h5;rw[zj,decide_eq_true_eq,zA7,beq_iff_eq]at h5;exact⟨h1,h5.2,h5.1⟩
 ·rintro⟨h1,h2,h3⟩;have h1':1≤a:=h1;have h2':zCt a b c:=h2;have h3':b*b - 4*a*c=d:=h3;refine⟨h1,z4W h1' h2' h3',⟨b,(zYA _ _ _).2 ⟨?_,?_⟩,?_⟩,?_⟩
  ·obtain⟨⟨h4,h5⟩,_⟩:=h2';show 1 - a≤b;omega
  ·obtain⟨⟨h4,h5⟩,_⟩:=h2';show b<1 - a+((2*a).toNat:Int);omega
  ·unfold cfR;have e:b*b - d=4*a*c:=by omega
   show (a,b,Int.tdiv (b*b - d) (4*a))=(a,b,c)
   rw[e,Int.mul_tdiv_cancel_left _ (by omega)]
  ·unfold okR;rw[zj,decide_eq_true_eq,zA7,beq_iff_eq];exact⟨h3,h2⟩
theorem z0n{d:Int}(hd1:-2000≤d)(hd2:d≤-3):∃L,zFR d=some L∧L.length≤27000∧(∀f,f∈L↔PrR d f)∧L.Nodup:=by
 have hF:=FUge;obtain⟨L,k1,k2,k3,asq,k4,k5,k6⟩:=z0O hd1 hd2 26 FU 1 [] (by omega) (by omega) (by omega) (by simp);rw[zq]at k1;have hLl:L.length≤27000:=by omega
 have hmem:∀f∈L,1≤f.1∧zCt f.1 f.2.1 f.2.2∧f.2.1*f.2.1 - 4*f.1*f.2.2=d:=fun f hf=>(z2A hd1 hd2).1 ((k3 f).1 hf);have hbd:∀f∈L,inN f.1=true∧inN f.2.1=true∧inN f.2.2=true:=by
  intro f hf;obtain⟨h1,h2,h3⟩:=hmem f hf;have h4:=z4W h1 h2 h3;obtain⟨⟨h5,h6⟩,h7⟩:=h2;have ha:f.1≤26:=by
   rcases Int.lt_or_le 26 f.1 with h8|h8
   ·have:=zOC (a:=27) (b:=f.1) (by omega) (by omega);have e:3*f.1*f.1=3*(f.1*f.1):=by grind
    omega
   ·exact h8
  have hb:=zM (x:=f.2.1) (y:=f.2.1) (A:=26) (B:=26) (by omega) (by omega);have hc:f.2.2≤1000:=by
   have h9:4*1*f.2.2≤4*f.1*f.2.2:=by have:4*1*f.2.2≤(4*f.1)*f.2.2:=Int.mul_le_mul_of_nonneg_right (by omega) (by omega);exact this
   omega
  rw[jG,jG,jG];omega
 have h2:=zLM (l:=L) (by omega) hbd FU 0 [] (by omega) (by omega) (by simp);rw[zq,List.drop_zero]at h2;refine⟨_,by simp only[zFR,zHX,k1,za];exact congrArg (fun z=>z.bind fun o=>some o) h2,Nat.le_trans (List.length_filter_le _ _) hLl,fun f=>?_,?_⟩
 ·rw[List.mem_filter,k3,z2A hd1 hd2,zA7,beq_iff_eq];unfold PrR;constructor
  ·rintro⟨⟨a1,a2,a3⟩,a4⟩;exact⟨a1,a2,a3,by omega⟩
  ·rintro⟨a1,a2,a3,a4⟩;exact⟨⟨a1,a2,a3⟩,by omega⟩
 ·refine List.Pairwise.filter _ ?_
  rw[k6];have hrow:∀a:Int,(rowR d a (2*a).toNat (1 - a)).Nodup:=by
   intro a;unfold rowR;refine List.Pairwise.filter _ ?_
   rw[List.pairwise_map];refine (z3t (2*a).toNat (1 - a)).imp ?_
   intro x y hxy e;have:=congrArg (fun f:Int×Int×Int=>f.2.1) e;simp only[cfR]at this;omega
  rw[List.pairwise_flatMap];refine⟨fun a _=>hrow a,k4.imp ?_⟩;intro x y hxy f hf g hg e;have fx:=zTK hf;have gy:=zTK hg;rw[e]at fx;omega
theorem z43{d:Int}(hd1:-2000≤d)(hd2:d≤-3)(h4:d % 4≤1):PrR d (1,d % 2,(d % 2 - d) / 4):=by
 have e:(d % 2)*(d % 2)=d % 2:=by rcases (by omega:d % 2=0∨d % 2=1) with h|h<;>rw[h]<;>rfl
 refine⟨Int.le_refl 1,⟨⟨?_,?_⟩,?_⟩,?_,?_⟩
 ·show -1<d % 2;omega
 ·show d % 2≤1;omega
 ·show 1<(d % 2 - d) / 4∨(1=(d % 2 - d) / 4∧0≤d % 2)
  omega
 ·show d % 2*(d % 2) - 4*1*((d % 2 - d) / 4)=d;rw[e];omega
 ·simp
structure CurB (k:Nat) (c:List Int×Int×Int):Prop where
  lo:0≤c.2.1
  hi:c.2.1≤(k:Int)
  len:c.1.length≤1048576
  by8:∀x∈c.1,0≤x∧x≤255
theorem CurB.up{k k2:Nat}{c:List Int×Int×Int}(h:CurB k c)(hk:k≤k2):CurB k2 c:=⟨h.lo,by have:=h.hi;omega,h.len,h.by8⟩
theorem CurB.start{code:List Int}(h1:code.length≤1048576)(h2:∀x∈code,0≤x∧x≤255):CurB 0 (code,0,0):=⟨Int.le_refl _,Int.le_refl _,h1,h2⟩
theorem z7Y{code more:List Int}:zE2 code more=some (decide (1048576<code.length∨1048576 - (code.length:Int)<more.length))∨1048576<code.length∧zE2 code more=some true:=by
 by_cases h:1048576<code.length
 ·right;refine⟨h,?_⟩;simp only[zE2,za,zJ,zd (show (1048576:Int)<(code.length:Int) by omega),zb]
 ·left;simp only[zE2,za,zJ,ze (show ¬(1048576:Int)<(code.length:Int) by omega),zc];rw[zB (by omega)];congr 1;simp only[decide_eq_decide];omega
theorem z3c(code more:List Int):zE2 code more=some true∨(zE2 code more=some false∧code.length≤1048576∧more.length≤1048576):=by
 rcases z7Y (code:=code) (more:=more) with h|h
 ·by_cases h1:1048576<code.length∨1048576 - (code.length:Int)<more.length
  ·exact .inl (by rw[h,zd h1])
  ·refine .inr ⟨by rw[h,ze h1],?_,?_⟩<;>omega
 ·exact .inl h.2
theorem wrap_u8{x:Int}(h:0≤x∧x≤255):IntKind.i64.wrap x=x:=zLx (by omega)
theorem z5m(a:Int):0≤IntKind.i64.wrap (andI .u64 a 255)∧IntKind.i64.wrap (andI .u64 a 255)≤255:=by
 have h:0≤andI .u64 a 255∧andI .u64 a 255≤255:=by
  unfold andI;have h1:(BitVec.ofInt IntKind.u64.bits a&&& BitVec.ofInt IntKind.u64.bits 255).toNat≤255:=by rw[BitVec.toNat_and];exact Nat.and_le_right
  generalize (BitVec.ofInt IntKind.u64.bits a&&& BitVec.ofInt IntKind.u64.bits 255).toNat=q at h1;rw[show IntKind.u64.wrap (q:Int)=(q:Int) by show (q:Int) % 18446744073709551616=q;omega]
  omega
 rw[wrap_u8 h];exact h
theorem z2T{k:Nat}{c:List Int×Int×Int}(h:CurB k c)(hk:k≤1099511627776):∃b c',zCm c=some (b,c')∧0≤b∧b≤255∧CurB (k+1) c':=by
 obtain⟨xs,p,q⟩:=c;obtain⟨h1,h2,h3,h4⟩:=h;simp only at h1 h2 h3 h4;have e1:w64 (p+1)=p+1:=zB (by omega);have nextB:∀q',CurB (k+1) (xs,p+1,q'):=fun q'=>⟨by show 0≤p+1;omega,by show p+1≤((k+1:Nat):Int);omega,h3,h4⟩
 simp only[zCm,zI,zJ,zS,e1];by_cases hp:p<(xs.length:Int)
 ·have hi:p.toNat<xs.length:=by omega
  have hg:getI xs p=some xs[p.toNat]:=by unfold getI;rw[zS,zd h1,zb];simp[hi]
  have hb:=h4 xs[p.toNat] (zt hi);simp only[zd hp,zb,hg,za,wrap_u8 hb];by_cases hl:p+1≤(xs.length:Int)
  ·simp only[zd hl,zb];exact⟨_,_,rfl,hb.1,hb.2,nextB _⟩
  ·omega
 ·simp only[ze hp,zc,za];simp only[ze (show ¬p+1≤(xs.length:Int) by omega),zc];exact⟨_,_,rfl,(z5m _).1,(z5m _).2,nextB _⟩
theorem zSC{x n:Int}(hx:0≤x)(hn:0<n):0≤x.tmod n∧x.tmod n<n:=⟨Int.tmod_nonneg _ hx,Int.tmod_lt_of_pos _ hn⟩
theorem qS{k:Nat}{c:List Int×Int×Int}(n:Int)(h:CurB k c)(hk:k≤1000000000000):∃x c',zA c n=some (x,c')∧0≤x∧(n≤1→x=0)∧(1<n→x<n)∧CurB (k+2) c':=by
 simp only[zA,zS,zJ];by_cases h1:n≤1
 ·rw[zd h1,zb];exact⟨0,c,rfl,Int.le_refl _,fun _=>rfl,fun h2=>by omega,h.up (by omega)⟩
 ·rw[ze h1,zc];obtain⟨b,c1,e1,b1,b2,hc1⟩:=z2T h (by omega);rw[e1,za];by_cases h2:200<n
  ·obtain⟨d,c2,e2,d1,d2,hc2⟩:=z2T hc1 (by omega);simp only[zd h2,zb,e2,za,zI,zEQ (show n≠0 by omega)];rw[zB (n:=b*256) (by omega),zB (n:=b*256+d) (by omega)];have:=zSC (x:=b*256+d) (n:=n) (by omega) (by omega);exact⟨_,_,rfl,this.1,fun h3=>absurd h3 h1,fun _=>this.2,hc2⟩
  ·simp only[ze h2,zc,za,zI,zEQ (show n≠0 by omega)];have:=zSC (x:=b) (n:=n) b1 (by omega);exact⟨_,_,rfl,this.1,fun h3=>absurd h3 h1,fun _=>this.2,hc1.up (by omega)⟩
theorem zRt{α:Type}{l:List α}{x:Int}(h1:0≤x)(h2:x<(l.length:Int)):∃y,getI l x=some y∧y∈l:=by
 have hi:x.toNat<l.length:=by omega
 refine⟨l[x.toNat],?_,zt hi⟩;unfold getI;rw[zS,zd h1,zb];simp[hi]
theorem zGP{k:Nat}{c:List Int×Int×Int}{l:List Int}(hl:l≠[])(h:CurB k c)(hk:k≤1000000000000):∃x c',qT c l=some (x,c')∧x∈l∧CurB (k+2) c':=by
 obtain⟨x,c1,e1,x1,x2,x3,hc1⟩:=qS (l.length:Int) h hk;have hp:=List.length_pos_iff.2 hl;obtain⟨y,e2,hy⟩:=zRt (l:=l) x1 (by
  rcases Nat.lt_or_ge 1 l.length with h1|h1
  ·exact x3 (by omega)
  ·have:=x2 (by omega);omega)
 simp only[qT,e1,za,e2];exact⟨y,c1,rfl,hy,hc1⟩
theorem z7N{k:Nat}{c:List Int×Int×Int}(h:CurB k c)(hk:k≤100000000000):∃d c',zDr c=some (d,c')∧CurB (k+4) c':=by
 obtain⟨y,c1,e1,_,_,_,h1⟩:=qS 16 h (by omega);simp only[zDr,e1,za];cases eqI y 0 with
 |true=>obtain⟨x,c2,e2,_,h2⟩:=zGP (l:=[-3,-4,-2000,-1999,-1996,-1995,-163,-2001,-2003,-2004,0,1,5,-1,-2,-5,-9223372036854775808]) (by simp) h1 (by omega);simp only[zb,e2,za];exact⟨x,c2,rfl,h2⟩
 |false=>
  rw[zc];generalize hj:(bif eqI y 1 then some (eqI y 1) else some (eqI y 2))=j;have hj2:∃b,j=some b:=by subst hj;cases eqI y 1<;>exact⟨_,rfl⟩
  obtain⟨b,rfl⟩:=hj2;simp only[za];cases b with
  |true=>
   obtain⟨x,c2,e2,x1,_,x3,h2⟩:=qS 1998 h1 (by omega);have x4:=x3 (by omega);simp only[zb,e2,za,zI,zF2];rw[zB (n:=-3 - x) (by omega),zA4 (by omega) (by omega)];simp only[za];cases ltI 1 ((-3 - x) % 4) with
   |true=>
    simp only[zb,zCY];cases ltI (w64 (-3 - x - 2)) (-2000) with
    |true=>exact⟨_,c2,rfl,h2⟩
    |false=>exact⟨_,c2,rfl,h2⟩
   |false=>exact⟨_,c2,rfl,h2⟩
  |false=>
   rw[zc];generalize hj3:(bif eqI y 3 then some (eqI y 3) else bif eqI y 4 then some (eqI y 4) else some (eqI y 5))=j3;have hj4:∃b,j3=some b:=by subst hj3;cases eqI y 3<;>cases eqI y 4<;>exact⟨_,rfl⟩
   obtain⟨b,rfl⟩:=hj4;simp only[za];cases b with
   |true=>obtain⟨x,c2,e2,_,h2⟩:=zGP (l:=[-84,-420,-231,-260,-455,-520,-660,-1155,-1320,-1380,-1428,-1540,-399,-1092,-1560,-1785]) (by simp) h1 (by omega);simp only[zb,e2,za];exact⟨x,c2,rfl,h2⟩
   |false=>
    rw[zc];generalize hj5:(bif eqI y 6 then some (eqI y 6) else some (eqI y 7))=j5;have hj6:∃b,j5=some b:=by subst hj5;cases eqI y 6<;>exact⟨_,rfl⟩
    obtain⟨b,rfl⟩:=hj6;simp only[za];cases b with
    |true=>obtain⟨x,c2,e2,_,_,_,h2⟩:=qS 60 h1 (by omega);simp only[zb,e2,za,zI];exact⟨_,c2,rfl,h2⟩
    |false=>obtain⟨x,c2,e2,_,_,_,h2⟩:=qS 50 h1 (by omega);simp only[zc,e2,za,zI];exact⟨_,c2,rfl,h2⟩
theorem zXo{a b c:Int}(h:jA (a,b,c)=some true):RedInv a b c (b*b - 4*a*c) (Int.gcd a (Int.gcd b c):Int):=by
 obtain⟨ha,hb,hc,hneg,hbig,hpos⟩:=zHc h;rw[jG]at ha hb hc;have hbb:0≤b*b:=by
  rcases Int.le_total 0 b with h|h
  ·exact Int.mul_nonneg h h
  ·exact Int.mul_nonneg_of_nonpos_of_nonpos h h
 have hc1:1≤c:=by
  rcases Int.lt_or_le 0 c with h|h
  ·exact h
  ·have:4*a*c≤4*a*0:=zo h (by omega);omega
 refine⟨by omega,by omega,by omega,by omega,hc1,by omega,rfl,hneg,.inr (by omega),fun k=>?_⟩;constructor
 ·rintro⟨u1,u2,u3⟩;exact Int.dvd_coe_gcd u1 (Int.dvd_coe_gcd u2 u3)
 ·intro h1;have h2:(Int.gcd a (Int.gcd b c):Int)∣a:=Int.gcd_dvd_left _ _;have h3:(Int.gcd a (Int.gcd b c):Int)∣(Int.gcd b c:Int):=Int.gcd_dvd_right _ _;exact⟨Int.dvd_trans h1 h2,Int.dvd_trans (Int.dvd_trans h1 h3) (Int.gcd_dvd_left _ _),Int.dvd_trans (Int.dvd_trans h1 h3) (Int.gcd_dvd_right _ _)⟩
theorem zNU{k:Nat}{c:List Int×Int×Int}(n:Int)(h:CurB k c)(hk:k≤100000000000):∃b c',q9 c n=some (b,c')∧CurB (k+2) c':=by obtain⟨x,c',e,_,_,_,h1⟩:=qS n h (by omega);exact⟨eqI x 0,c',by simp only[q9,e,za],h1⟩
theorem zNX(m n:Int×Int×Int×Int):∃y,zV m n=some y:=by simp only[zV,zI];exact⟨_,rfl⟩
theorem z1K(f:Int×Int×Int)(m:Int×Int×Int×Int):∃y,zCZ f m=some y:=by simp only[zCZ,zAb,zEN,zI,za];exact⟨_,rfl⟩
theorem zJr:∀(m fu k:Nat)(t:Int)(a b c d:Int)(cu:List Int×Int×Int),CurB k cu→k+4*m≤100000000000→t≤m→m<fu→
  ∃p q r s c',jZ fu t a b c d cu.1 cu.2.1 cu.2.2=some (p,q,r,s,c')∧CurB (k+4*m) c'
 |m,0,k,t,a,b,c,d,cu,_,_,_,h=>by omega
 |0,fu+1,k,t,a,b,c,d,cu,hc,hk,ht,hf=>by rw[jZ,zJ,ze (by omega),zc];exact⟨_,_,_,_,_,rfl,hc⟩
 |m+1,fu+1,k,t,a,b,c,d,cu,hc,hk,ht,hf=>by
  rw[jZ,zJ];by_cases h0:0<t
  ·obtain⟨x,c1,e1,_,_,_,h1⟩:=qS 9 hc (by omega);obtain⟨y,c2,e2,_,_,_,h2⟩:=qS 3 h1 (by omega);have e1':zA (cu.1,cu.2.1,cu.2.2) 9=some (x,c1):=e1;rw[zd h0,zb,e1'];simp only[za,zI,e2];have hw:w64 (t - 1)≤(m:Int):=by rw[zB (by omega)];omega
   cases eqI y 0 with
   |true=>obtain⟨z,hz⟩:=zNX (a,b,c,d) (1,w64 (x - 4),0,1);rw[zb,hz,za];obtain⟨p,q,r,s,c',g1,g2⟩:=zJr m fu (k+4) (w64 (t - 1)) z.1 z.2.1 z.2.2.1 z.2.2.2 c2 (h2.up (by omega)) (by omega) hw (by omega);exact⟨p,q,r,s,c',g1,g2.up (by omega)⟩
   |false=>
    rw[zc];cases eqI y 1 with
    |true=>obtain⟨z,hz⟩:=zNX (a,b,c,d) (1,0,w64 (x - 4),1);rw[zb,hz,za];obtain⟨p,q,r,s,c',g1,g2⟩:=zJr m fu (k+4) (w64 (t - 1)) z.1 z.2.1 z.2.2.1 z.2.2.2 c2 (h2.up (by omega)) (by omega) hw (by omega);exact⟨p,q,r,s,c',g1,g2.up (by omega)⟩
    |false=>obtain⟨z,hz⟩:=zNX (a,b,c,d) (0,-1,1,0);rw[zc,hz,za];obtain⟨p,q,r,s,c',g1,g2⟩:=zJr m fu (k+4) (w64 (t - 1)) z.1 z.2.1 z.2.2.1 z.2.2.2 c2 (h2.up (by omega)) (by omega) hw (by omega);exact⟨p,q,r,s,c',g1,g2.up (by omega)⟩
  ·rw[ze h0,zc];exact⟨_,_,_,_,_,rfl,hc.up (by omega)⟩
theorem z3E{k:Nat}{c:List Int×Int×Int}(h:CurB k c)(hk:k≤10000000000):∃m c',zDC c=some (m,c')∧CurB (k+26) c':=by obtain⟨x,c1,e1,x0,_,x2,h1⟩:=qS 6 h (by omega);have x3:=x2 (by omega);have hF:=FUge;obtain⟨p,q,r,s,c',g1,g2⟩:=zJr 6 FU (k+2) x 1 0 0 1 c1 h1 (by omega) (by omega) (by omega);exact⟨(p,q,r,s),c',by simp only[zDC,e1,za,g1],g2.up (by omega)⟩
theorem zJH{k:Nat}{c:List Int×Int×Int}(f:Int×Int×Int)(h:CurB k c)(hk:k≤10000000000):∃g c',jV c f=some (g,c')∧CurB (k+26) c':=by
 obtain⟨m,c1,e1,h1⟩:=z3E h hk;obtain⟨y,hy⟩:=z1K f m;simp only[jV,e1,za,hy,zW4];cases (inN y.1&&(inN y.2.1&&inN y.2.2)) with
 |true=>exact⟨_,c1,rfl,h1⟩
 |false=>exact⟨_,c1,rfl,h1⟩
def OkD(d:Int):Prop:=-2000≤d∧d≤-3∧d % 4≤1
instance (d:Int):Decidable (OkD d):=inferInstanceAs (Decidable (-2000≤d∧d≤-3∧d % 4≤1))
theorem z6i(d:Int):zBD d=some (decide (OkD d)):=by
 simp only[zBD,qP,za,zS];by_cases h1:-2000≤d
 ·by_cases h2:d≤-3
  ·rw[zd h1,zd h2,zb,zb,zF2,zA4 (by omega) (by omega)];simp only[za,zJ];congr 1;rw[Bool.eq_iff_iff,qc,qc];unfold OkD;omega
  ·rw[zd h1,ze h2,ze (show ¬OkD d from fun h=>h2 h.2.1)];rfl
 ·rw[ze h1,ze (show ¬OkD d from fun h=>h1 h.1)];rfl
theorem zGv{k:Nat}{c:List Int×Int×Int}(h:CurB k c)(hk:k≤10000000000):∃d c',jM c=some (d,c')∧OkD d∧CurB (k+4) c':=by
 obtain⟨d,c1,e1,h1⟩:=z7N h (by omega);simp only[jM,e1,za,z6i];by_cases hd:OkD d
 ·rw[zd hd];exact⟨d,c1,rfl,hd,h1⟩
 ·rw[ze hd];exact⟨-23,c1,rfl,⟨by decide,by decide,by decide⟩,h1⟩
theorem zHh{k:Nat}{c:List Int×Int×Int}{d:Int}(hd:OkD d)(h:CurB k c)(hk:k≤100000000000):∃f c',zAK c d=some (f,c')∧PrR d f∧CurB (k+2) c':=by
 obtain⟨L,h1,h2,h3,_⟩:=z0n hd.1 hd.2.1;have hp:=(h3 _).2 (z43 hd.1 hd.2.1 hd.2.2);have hL:0<L.length:=List.length_pos_of_mem hp;obtain⟨x,c1,e1,x0,x1,x2,g1⟩:=qS (L.length:Int) h (by omega);have hx:x<(L.length:Int):=by
  rcases Int.lt_or_le 1 (L.length:Int) with h5|h5
  ·exact x2 h5
  ·have:=x1 h5;omega
 obtain⟨f,e2,hf⟩:=zRt x0 hx;simp only[zAK,h1,za,e1,e2];exact⟨f,c1,rfl,(h3 f).1 hf,g1⟩
theorem bif3{α:Type}(a b c:Bool):∃x,(bif a then some b else some c:Option Bool)=some x:=by cases a<;>exact⟨_,rfl⟩
theorem zPk{k:Nat}{c:List Int×Int×Int}(h:CurB k c)(hk:k≤100000000000):∃v c',zBM c=some (v,c')∧CurB (k+8) c':=by
 obtain⟨y,c1,e1,_,_,_,h1⟩:=qS 12 h (by omega);simp only[zBM,e1,za];cases eqI y 0 with
 |true=>obtain⟨x,c2,e2,_,h2⟩:=zGP (l:=[0,1,-1,1000000,-1000000,1000001,-1000001,-9223372036854775808,9223372036854775807,999983,999999,1000]) (by simp) h1 (by omega);simp only[zb,e2,za];exact⟨x,c2,rfl,h2.up (by omega)⟩
 |false=>
  rw[zc];obtain⟨j,hj⟩:=bif3 (α:=Int) (eqI y 1) (eqI y 1) (eqI y 2);rw[hj];simp only[za];cases j with
  |true=>obtain⟨x1,c2,e2,_,_,_,h2⟩:=qS 50000 h1 (by omega);obtain⟨x2,c3,e3,_,_,_,h3⟩:=qS 20 h2 (by omega);obtain⟨x3,c4,e4,_,_,_,h4⟩:=qS 2 h3 (by omega);simp only[zb,e2,e3,e4,za,zI];exact⟨_,c4,rfl,h4.up (by omega)⟩
  |false=>
   rw[zc];obtain⟨j,hj⟩:=bif3 (α:=Int) (eqI y 3) (eqI y 3) (eqI y 4);rw[hj];simp only[za];cases j with
   |true=>obtain⟨x1,c2,e2,_,_,_,h2⟩:=qS 2000 h1 (by omega);simp only[zb,e2,za];exact⟨_,c2,rfl,h2.up (by omega)⟩
   |false=>obtain⟨x1,c2,e2,_,_,_,h2⟩:=qS 121 h1 (by omega);simp only[zc,e2,za,zI];exact⟨_,c2,rfl,h2.up (by omega)⟩
theorem z7D{k:Nat}{c:List Int×Int×Int}(h:CurB k c)(hk:k≤10000000000):∃v c',zDq c=some (v,c')∧CurB (k+30) c':=by
 obtain⟨y,c1,e1,_,_,_,h1⟩:=qS 14 h (by omega);simp only[zDq,e1,za];cases eqI y 0 with
 |true=>obtain⟨x1,c2,e2,h2⟩:=zPk h1 (by omega);obtain⟨x2,c3,e3,h3⟩:=zPk h2 (by omega);obtain⟨x3,c4,e4,h4⟩:=zPk h3 (by omega);simp only[zb,e2,e3,e4,za];exact⟨_,c4,rfl,h4.up (by omega)⟩
 |false=>
  rw[zc];cases eqI y 1 with
  |true=>obtain⟨x0,c2,e2,_,h2⟩:=zGP (l:=[2,3,-1,0,1000]) (by simp) h1 (by omega);obtain⟨x1,c3,e3,_,_,_,h3⟩:=qS 20 h2 (by omega);obtain⟨x2,c4,e4,_,_,_,h4⟩:=qS 21 h3 (by omega);obtain⟨x3,c5,e5,_,_,_,h5⟩:=qS 20 h4 (by omega);simp only[zb,e2,e3,e4,e5,za,zI];exact⟨_,c5,rfl,h5.up (by omega)⟩
  |false=>
   rw[zc];cases eqI y 2 with
   |true=>obtain⟨x1,c3,e3,_,_,_,h3⟩:=qS 2000 h1 (by omega);obtain⟨x2,c4,e4,_,_,_,h4⟩:=qS 3000 h3 (by omega);obtain⟨x3,c5,e5,_,_,_,h5⟩:=qS 2000 h4 (by omega);simp only[zb,e3,e4,e5,za,zI];exact⟨_,c5,rfl,h5.up (by omega)⟩
   |false=>
    rw[zc];cases eqI y 3 with
    |true=>obtain⟨x1,c3,e3,_,_,_,h3⟩:=qS 21 h1 (by omega);obtain⟨x2,c4,e4,_,_,_,h4⟩:=qS 21 h3 (by omega);obtain⟨x3,c5,e5,_,_,_,h5⟩:=qS 21 h4 (by omega);simp only[zb,e3,e4,e5,za,zI];exact⟨_,c5,rfl,h5.up (by omega)⟩
    |false=>obtain⟨x1,c3,e3,p0,_,p2,h3⟩:=qS 25 h1 (by omega);have p3:=p2 (by omega);obtain⟨x2,c4,e4,_,_,_,h4⟩:=qS 40 h3 (by omega);have ea:w64 (1+x1)=1+x1:=zB (by omega);obtain⟨x3,c5,e5,_,_,_,h5⟩:=qS (w64 (2*(1+x1))) h4 (by omega);have hz:nz (w64 (4*(1+x1)))=some ():=nzOk (by rw[zB (by omega)];omega);simp only[zc,e3,e4,ea,e5,hz,za,zI];exact⟨_,c5,rfl,h5.up (by omega)⟩
theorem zL4{k:Nat}{c:List Int×Int×Int}(h:CurB k c)(hk:k≤1000000000):∃v c',jW c=some (v,c')∧CurB (k+40) c':=by
 obtain⟨y,c1,e1,_,_,_,h1⟩:=qS 12 h (by omega);simp only[jW,e1,za];cases eqI y 0 with
 |true=>obtain⟨x1,c2,e2,h2⟩:=z7D h1 (by omega);simp only[zb,e2,za];exact⟨_,c2,rfl,h2.up (by omega)⟩
 |false=>
  rw[zc];cases eqI y 1 with
  |true=>obtain⟨d,c2,e2,hd,h2⟩:=zGv h1 (by omega);obtain⟨f,c3,e3,_,h3⟩:=zHh hd h2 (by omega);obtain⟨x,c4,e4,_,_,_,h4⟩:=qS 5 h3 (by omega);obtain⟨g,c5,e5,h5⟩:=zJH (w64 (w64 (1+x)*f.1),w64 (w64 (1+x)*f.2.1),w64 (w64 (1+x)*f.2.2)) h4 (by omega);simp only[zb,e2,e3,e4,e5,za,zI];exact⟨_,c5,rfl,h5.up (by omega)⟩
  |false=>
   rw[zc];cases eqI y 2 with
   |true=>obtain⟨x1,c3,e3,_,_,_,h3⟩:=qS 1000000 h1 (by omega);obtain⟨x2,c4,e4,_,_,_,h4⟩:=qS 1000001 h3 (by omega);obtain⟨x3,c5,e5,_,_,_,h5⟩:=qS 750001 h4 (by omega);simp only[zb,e3,e4,e5,za,zI];exact⟨_,c5,rfl,h5.up (by omega)⟩
   |false=>obtain⟨d,c2,e2,hd,h2⟩:=zGv h1 (by omega);obtain⟨f,c3,e3,_,h3⟩:=zHh hd h2 (by omega);obtain⟨g,c5,e5,h5⟩:=zJH f h3 (by omega);simp only[zc,e2,e3,e5,za];exact⟨_,c5,rfl,h5.up (by omega)⟩
theorem class_some'{f:Int×Int×Int}(h:jA f=some true):∃g,zAU f=some g:=by obtain⟨a,b,c⟩:=f;obtain⟨m,a2,b2,c2,_,h2,_,_⟩:=zTP (zXo h);exact⟨(a2,b2,c2),by simp only[zAU,h2,za]⟩
theorem shown_ok'{k:Nat}{c:List Int×Int×Int}(f:Int×Int×Int)(h:CurB k c)(hk:k≤1000000000):∃v c',zCR c f=some (v,c')∧CurB (k+12) c':=by
 obtain⟨y,c1,e1,_,_,_,h1⟩:=qS 8 h (by omega);simp only[zCR,e1,za];cases eqI y 0 with
 |true=>obtain⟨x0,c2,e2,_,h2⟩:=zGP (l:=[0,1,-1,10000,10001,4611686018427387904]) (by simp) h1 (by omega);simp only[zb,e2,za];exact⟨_,c2,rfl,h2.up (by omega)⟩
 |false=>
  rw[zc];obtain⟨j,hj⟩:=bif3 (α:=Int) (eqI y 1) (eqI y 1) (eqI y 2);rw[hj];simp only[za];cases j with
  |true=>obtain⟨x1,c2,e2,_,_,_,h2⟩:=qS 200 h1 (by omega);simp only[zb,e2,za,zI];exact⟨_,c2,rfl,h2.up (by omega)⟩
  |false=>
   rw[zc];cases eqI y 3 with
   |true=>obtain⟨x1,c2,e2,_,_,_,h2⟩:=qS 10000 h1 (by omega);simp only[zb,e2,za,zI];exact⟨_,c2,rfl,h2.up (by omega)⟩
   |false=>
    rw[zc,zIx];obtain⟨b,hb⟩:=zHd f;rw[hb];simp only[za];cases b with
    |false=>obtain⟨x1,c2,e2,_,_,_,h2⟩:=qS 50 h1 (by omega);simp only[zh,zb,e2,za,zI];exact⟨_,c2,rfl,h2.up (by omega)⟩
    |true=>
     obtain⟨g,hg⟩:=class_some' hb;obtain⟨x1,c2,e2,_,_,_,h2⟩:=qS 13 h1 (by omega);obtain⟨x2,c3,e3,_,_,_,h3⟩:=qS 13 h2 (by omega);obtain⟨b4,c4,e4,h4⟩:=zNU 4 h3 (by omega);simp only[zg,zc,hg,e2,e3,e4,za,zI,zAb];cases b4 with
     |true=>obtain⟨x0,c5,e5,_,h5⟩:=zGP (l:=[4,9,25,2,3]) (by simp) h4 (by omega);simp only[zb,e5,za];exact⟨_,c5,rfl,h5.up (by omega)⟩
     |false=>exact⟨_,c4,rfl,h4.up (by omega)⟩
theorem z2y{k:Nat}{c:List Int×Int×Int}(h:CurB k c)(hk:k≤100000000):∃f v c',zCE c=some (f,v,c')∧CurB (k+100) c':=by
 obtain⟨d,c1,e1,hd,h1⟩:=zGv h (by omega);obtain⟨f,c2,e2,_,h2⟩:=zHh hd h1 (by omega);obtain⟨g,c3,e3,h3⟩:=zJH f h2 (by omega);obtain⟨y,c4,e4,_,_,_,h4⟩:=qS 12 h3 (by omega);simp only[zCE,e1,e2,e3,e4,za];have fin:∀(z:Int×Int×Int)(c5:List Int×Int×Int),CurB (k+86) c5→∃v c',zCR c5 z=some (v,c')∧CurB (k+100) c':=fun z c5 h5=>by obtain⟨v,c6,e6,h6⟩:=shown_ok' z h5 (by omega);exact⟨v,c6,e6,h6.up (by omega)⟩
 cases eqI y 0 with
 |true=>obtain⟨z,c5,e5,h5⟩:=zL4 h4 (by omega);obtain⟨v,c6,e6,h6⟩:=fin z c5 (h5.up (by omega));simp only[zb,e5,za,e6];exact⟨_,_,_,rfl,h6⟩
 |false=>
  rw[zc];cases eqI y 1 with
  |true=>obtain⟨x,c5,e5,_,_,_,h5⟩:=qS 4 h4 (by omega);obtain⟨v,c6,e6,h6⟩:=fin (3,x,3) c5 (h5.up (by omega));simp only[zb,e5,za,e6];exact⟨_,_,_,rfl,h6⟩
  |false=>
   rw[zc];cases eqI y 2 with
   |true=>obtain⟨x,c5,e5,_,_,_,h5⟩:=qS 2 h4 (by omega);obtain⟨x2,c6,e6,_,_,_,h6⟩:=qS 2 h5 (by omega);obtain⟨v,c7,e7,h7⟩:=fin (w64 (1+x),0,w64 (1+x2)) c6 (h6.up (by omega));simp only[zb,e5,e6,za,zI,e7];exact⟨_,_,_,rfl,h7⟩
   |false=>obtain⟨v,c7,e7,h7⟩:=fin g c4 (h4.up (by omega));simp only[zc,za,e7];exact⟨_,_,_,rfl,h7⟩
def fB(f:Int×Int×Int):List UInt8:=((((([40]++Go.Lib.itoa f.1)++[44])++Go.Lib.itoa f.2.1)++[44])++Go.Lib.itoa f.2.2)++[41]
theorem zHK{f:Int×Int×Int}(h1:sm18 f.1)(h2:sm18 f.2.1)(h3:sm18 f.2.2):(fB f).length≤100:=by have a1:=jD h1;have a2:=jD h2;have a3:=jD h3;simp[fB];omega
theorem zDo{f:Int×Int×Int}(h1:sm18 f.1)(h2:sm18 f.2.1)(h3:sm18 f.2.2):jS f=some (bl (fB f)):=by have a1:=jD h1;have a2:=jD h2;have a3:=jD h3;have e1:(⟨#[40]⟩:qe)=bl [40]:=rfl;have e2:(⟨#[44]⟩:qe)=bl [44]:=rfl;have e3:(⟨#[41]⟩:qe)=bl [41]:=rfl;unfold jS;rw[zB0 h1,za,e1,e2,e3,zCi (by simp;omega),za,zAf,zCi (by simp;omega),za,zAf,zB0 h2,za,zCi (by simp;omega),za,zAf,zCi (by simp;omega),za,zAf,zB0 h3,za,zCi (by simp;omega),za,zAf,zCi (by simp;omega),za,zAf];rfl
theorem zBj{f:Int×Int×Int}(h1:sm18 f.1)(h2:sm18 f.2.1)(h3:sm18 f.2.2):jE f=some (bl (fB f)):=by have a1:=jD h1;have a2:=jD h2;have a3:=jD h3;have e1:(⟨#[40]⟩:qe)=bl [40]:=rfl;have e2:(⟨#[44]⟩:qe)=bl [44]:=rfl;have e3:(⟨#[41]⟩:qe)=bl [41]:=rfl;unfold jE;rw[zCr h1,za,e1,e2,e3,zCi (by simp;omega),za,zAf,zCi (by simp;omega),za,zAf,zCr h2,za,zCi (by simp;omega),za,zAf,zCi (by simp;omega),za,zAf,zCr h3,za,zCi (by simp;omega),za,zAf,zCi (by simp;omega),za,zAf];rfl
def mB(m:Int×Int×Int×Int):List UInt8:=((((((([91]++Go.Lib.itoa m.1)++[44])++Go.Lib.itoa m.2.1)++[59])++Go.Lib.itoa m.2.2.1)++[44])++Go.Lib.itoa m.2.2.2)++[93]
theorem zYB{m:Int×Int×Int×Int}(h1:sm18 m.1)(h2:sm18 m.2.1)(h3:sm18 m.2.2.1)(h4:sm18 m.2.2.2):(mB m).length≤100:=by have a1:=jD h1;have a2:=jD h2;have a3:=jD h3;have a4:=jD h4;simp[mB];omega
theorem zJx{m:Int×Int×Int×Int}(h1:sm18 m.1)(h2:sm18 m.2.1)(h3:sm18 m.2.2.1)(h4:sm18 m.2.2.2):zAT m=some (bl (mB m)):=by have a1:=jD h1;have a2:=jD h2;have a3:=jD h3;have a4:=jD h4;have e1:(⟨#[91]⟩:qe)=bl [91]:=rfl;have e2:(⟨#[44]⟩:qe)=bl [44]:=rfl;have e3:(⟨#[59]⟩:qe)=bl [59]:=rfl;have e4:(⟨#[93]⟩:qe)=bl [93]:=rfl;unfold zAT;rw[zB0 h1,za,e1,e2,e3,e4,zCi (by simp;omega),za,zAf,zCi (by simp;omega),za,zAf,zB0 h2,za,zCi (by simp;omega),za,zAf,zCi (by simp;omega),za,zAf,zB0 h3,za,zCi (by simp;omega),za,zAf,zCi (by simp;omega),za,zAf,zB0 h4,za,zCi (by simp;omega),za,zAf,zCi (by simp;omega),za,zAf];rfl
theorem zHp{m:Int×Int×Int×Int}(h1:sm18 m.1)(h2:sm18 m.2.1)(h3:sm18 m.2.2.1)(h4:sm18 m.2.2.2):zBQ m=some (bl (mB m)):=by have a1:=jD h1;have a2:=jD h2;have a3:=jD h3;have a4:=jD h4;have e1:(⟨#[91]⟩:qe)=bl [91]:=rfl;have e2:(⟨#[44]⟩:qe)=bl [44]:=rfl;have e3:(⟨#[59]⟩:qe)=bl [59]:=rfl;have e4:(⟨#[93]⟩:qe)=bl [93]:=rfl;unfold zBQ;rw[zCr h1,za,e1,e2,e3,e4,zCi (by simp;omega),za,zAf,zCi (by simp;omega),za,zAf,zCr h2,za,zCi (by simp;omega),za,zAf,zCi (by simp;omega),za,zAf,zCr h3,za,zCi (by simp;omega),za,zAf,zCi (by simp;omega),za,zAf,zCr h4,za,zCi (by simp;omega),za,zAf,zCi (by simp;omega),za,zAf];rfl
def OkO{α:Type}(x:Option α)(Q:α→Prop):Prop:=∃a,x=some a∧Q a
theorem OkO.bind{α β:Type}{x:Option α}{f:α→Option β}{Q:α→Prop}{R:β→Prop}(h:OkO x Q)(hf:∀a,Q a→OkO (f a) R):OkO (x.bind f) R:=by obtain⟨a,rfl,h1⟩:=h;exact hf a h1
theorem OkO.cond{α:Type}{b:Bool}{x y:Option α}{Q:α→Prop}(h1:b=true→OkO x Q)(h2:b=false→OkO y Q):OkO (bif b then x else y) Q:=by
 cases b with
 |true=>exact h1 rfl
 |false=>exact h2 rfl
theorem OkO.some{α:Type}{a:α}{Q:α→Prop}(h:Q a):OkO (some a) Q:=⟨a,rfl,h⟩
theorem OkO.mono{α:Type}{x:Option α}{Q R:α→Prop}(h:OkO x Q)(hr:∀a,Q a→R a):OkO x R:=by obtain⟨a,h1,h2⟩:=h;exact⟨a,h1,hr a h2⟩
theorem OkO.sI{α:Type}{e:Int}{f:Int→Option α}{Q:α→Prop}(h:OkO (f e) Q):OkO (sI e f) Q:=by rw[zI];exact h
abbrev Cur3:=List Int×Int×Int
theorem z70{k:Nat}{c:Cur3}{l:List Int}(hl:l≠[])(h:CurB k c)(hk:k≤1000000000000):OkO (qT c l) (fun y=>y.1∈l∧CurB (k+2) y.2):=by obtain⟨x,c',e,h1,h2⟩:=zGP hl h hk;exact⟨_,e,h1,h2⟩
theorem z2Q{k:Nat}{c:Cur3}(n:Int)(h:CurB k c)(hk:k≤100000000000):OkO (q9 c n) (fun y=>CurB (k+2) y.2):=by obtain⟨x,c',e,h1⟩:=zNU n h hk;exact⟨_,e,h1⟩
theorem z2N{α:Type}{k:Nat}{c:Cur3}{l:List α}(hl:0<l.length)(h:CurB k c)(hk:k≤1000000000000):OkO (zA c (l.length:Int)) (fun y=>0≤y.1∧y.1<(l.length:Int)∧CurB (k+2) y.2):=by
 obtain⟨x,c',e,h1,h2,h3,h4⟩:=qS (l.length:Int) h hk;refine⟨_,e,h1,?_,h4⟩;rcases Nat.lt_or_ge 1 l.length with h5|h5
 ·exact h3 (by omega)
 ·have:=h2 (by omega);simp only;omega
theorem zPg{k:Nat}{c:Cur3}(n:Int)(h:CurB k c)(hk:k≤1000000000000):OkO (zA c n) (fun y=>0≤y.1∧(n≤1→y.1=0)∧(1<n→y.1<n)∧CurB (k+2) y.2):=by obtain⟨x,c',e,h1,h2,h3,h4⟩:=qS n h hk;exact⟨_,e,h1,h2,h3,h4⟩
theorem z9F{α:Type}{l:List α}{x:Int}(h1:0≤x)(h2:x<(l.length:Int)):OkO (getI l x) (fun y=>y∈l):=zRt h1 h2
theorem of_O{k:Nat}{c:Cur3}{l:List qe}(hl:0<l.length)(h:CurB k c)(hk:k≤1000000000000):OkO (zDl c l) (fun y=>y.1∈l∧CurB (k+2) y.2):=by
 unfold zDl;refine (z2N hl h hk).bind fun y h3=>?_
 refine (z9F h3.1 h3.2.1).bind fun e h4=>?_
 exact OkO.some ⟨h4,h3.2.2⟩
theorem z7W(e:Int):(zCj [e]).size=1:=rfl
theorem zYP(t:qe){a b:Int}(h0:0≤a)(h1:a≤b)(h2:b≤t.size):(t.extract (Int.toNat a) (Int.toNat b)).size=b.toNat - a.toNat:=by rw[ByteArray.size_extract];omega
theorem slcI{n:Nat}{a b:Int}(h0:0≤a)(h1:a≤b)(h2:b≤n):slc n a b=some ():=by unfold slc;rw[zS,zS,zS,zd h0,zd h1,zd h2];rfl
theorem catI{a b:qe}(h:a.size+b.size≤1000000000):catR a b=some ():=by unfold catR;rw[if_pos (by omega)]
theorem z9G{b:qe}{i:Int}(h0:0≤i)(h1:i<b.size):OkO (getB b i) (fun _=>True):=by unfold getB;rw[if_pos ⟨h0,h1⟩];exact OkO.some trivial
theorem zXu{k:Nat}{c:Cur3}{n:Nat}(hn:0<n)(h:CurB k c)(hk:k≤1000000000000):OkO (zA c (n:Int)) (fun y=>0≤y.1∧y.1<(n:Int)∧CurB (k+2) y.2):=by
 obtain⟨x,c',e,h1,h2,h3,h4⟩:=qS (n:Int) h hk;refine⟨_,e,h1,?_,h4⟩;simp only;rcases Nat.lt_or_ge 1 n with h5|h5
 ·exact h3 (by omega)
 ·have:=h2 (by omega);omega
theorem zJd(w:qe)(hw:0<w.size):∀(m f:Nat)(t:qe)(a:List Int)(b c:Int)(k:Nat),m<f→t.size+m≤100000→CurB k (a,b,c)→k+8*m≤10000000→
  OkO (jY w f t (m:Int) a b c) (fun y=>y.1.size≤t.size+m∧CurB (k+8*m) y.2)
 |0,f,t,a,b,c,k,hf,ht,hc,hk=>by
  obtain⟨f,rfl⟩:∃m,f=m+1:=⟨f - 1,by omega⟩
  unfold jY;rw[zJ,ze (by omega),zc,zc];exact OkO.some ⟨by simp only;omega,hc⟩
 |m+1,f,t,a,b,c,k,hf,ht,hc,hk=>by
  obtain⟨f,rfl⟩:∃m,f=m+1:=⟨f - 1,by omega⟩
  unfold jY;refine OkO.cond (fun hcond=>?_) fun _=>OkO.some ⟨by simp only;omega,hc.up (by omega)⟩;rw[zJ,zJ,zd (show (0:Int)<((m+1:Nat):Int) by omega),zb]at hcond;have htz:=of_decide_eq_true hcond;refine (zXu (n:=t.size) (by omega) hc (by omega)).bind fun y15 h15=>?_
  refine (zXu (n:=w.size) hw h15.2.2 (by omega)).bind fun y16 h16=>?_
  refine (z9G h16.1 h16.2.1).bind fun e17 _=>?_
  refine (zPg 3 h16.2.2 (by omega)).bind fun y18 h18=>?_
  obtain⟨_,_,_,h18⟩:=h18;obtain⟨i0,i1,_⟩:=h15;have e1:w64 (((m+1:Nat):Int) - 1)=(m:Int):=by rw[zB (by omega)];omega
  have e2:w64 (y15.1+1)=y15.1+1:=zB (by omega);have z1:=zYP t (a:=0) (b:=y15.1) (by omega) (by omega) (by omega);have z2:=zYP t (a:=y15.1) (b:=(t.size:Int)) (by omega) (by omega) (by omega);have z3:=zYP t (a:=y15.1+1) (b:=(t.size:Int)) (by omega) (by omega) (by omega);have b1:=z7W e17;refine OkO.cond (fun _=>?_) fun _=>OkO.cond (fun _=>?_) fun _=>?_
  ·rw[slcI (by omega) (by omega) (by omega),za,catI (by omega),za,slcI (by omega) (by omega) (by omega),za,catI (by rw[ByteArray.size_append];omega),za,zI,e1];exact (zJd w hw m f _ _ _ _ (k+6) (by omega) (by rw[ByteArray.size_append,ByteArray.size_append];omega) h18 (by omega)).mono fun z hz=>⟨by have:=hz.1;rw[ByteArray.size_append,ByteArray.size_append]at this;omega,hz.2.up (by omega)⟩
  ·rw[slcI (by omega) (by omega) (by omega),za,catI (by omega),za,e2,slcI (by omega) (by omega) (by omega),za,catI (by rw[ByteArray.size_append];omega),za,zI,e1];exact (zJd w hw m f _ _ _ _ (k+6) (by omega) (by rw[ByteArray.size_append,ByteArray.size_append];omega) h18 (by omega)).mono fun z hz=>⟨by have:=hz.1;rw[ByteArray.size_append,ByteArray.size_append]at this;omega,hz.2.up (by omega)⟩
  ·rw[slcI (by omega) (by omega) (by omega),za,e2,slcI (by omega) (by omega) (by omega),za,catI (by omega),za,zI,e1];exact (zJd w hw m f _ _ _ _ (k+6) (by omega) (by rw[ByteArray.size_append];omega) h18 (by omega)).mono fun z hz=>⟨by have:=hz.1;rw[ByteArray.size_append]at this;omega,hz.2.up (by omega)⟩
theorem z4H{k:Nat}{c:Cur3}(t w:qe)(hw:0<w.size)(ht:t.size≤90000)(h:CurB k c)(hk:k≤1000000):OkO (zDB c t w) (fun y=>y.1.size≤t.size+2∧CurB (k+20) y.2):=by
 have hF:200000000<FU:=by decide
 unfold zDB;refine (zXu (n:=2) (by omega) h (by omega)).bind fun y hy=>?_
 obtain⟨m,hm,hm2⟩:∃m:Nat,w64 (1+y.1)=(m:Int)∧m≤2:=by obtain⟨h0,h1,_⟩:=hy;exact⟨(1+y.1).toNat,by rw[zB (by omega)];omega,by omega⟩
 rw[zI,hm];exact (zJd w hw m FU t _ _ _ (k+2) (by omega) (by omega) hy.2.2 (by omega)).bind fun o ho=>OkO.some ⟨by have:=ho.1;simp only;omega,ho.2.up (by omega)⟩
theorem zGK{n:Int}(h:inN n=true):sm18 n:=by rw[jG]at h;unfold sm18;omega
theorem zH3(x:Int):0≤x*x:=by
 rcases Int.le_total 0 x with h|h
 ·exact Int.mul_nonneg h h
 ·exact Int.mul_nonneg_of_nonpos_of_nonpos h h
theorem zXD{x:Int}{M N:Nat}(h:x*x≤(N:Int))(hM:N<(M+1)*(M+1)):x.natAbs≤M:=by
 rcases Nat.lt_or_ge M x.natAbs with h1|h1
 ·have h2:(M+1)*(M+1)≤x.natAbs*x.natAbs:=Nat.mul_le_mul h1 h1;have h3:x*x=((x.natAbs*x.natAbs:Nat):Int):=Int.natAbs_mul_self.symm;omega
 ·exact h1
theorem z6e{A B C d x y v:Int}(hd:B*B - 4*A*C=d)(hv:A*x*x+B*x*y+C*y*y=v):(-d)*(x*x)+(2*C*y+B*x)*(2*C*y+B*x)=4*C*v:=by subst hd hv;grind
theorem z5W{A B C d x y v:Int}(hd:B*B - 4*A*C=d)(hv:A*x*x+B*x*y+C*y*y=v):(-d)*(x*x)≤4*C*v:=by have h1:=z6e hd hv;have h2:=zH3 (2*C*y+B*x);omega
theorem zYS{A B C d x y v:Int}(hd:B*B - 4*A*C=d)(hneg:d<0)(hC1:1≤C)(hC:C≤1000000)(hv:A*x*x+B*x*y+C*y*y=v)(hv2:v≤1250000):x.natAbs≤2300000:=by have h1:=z5W hd hv;have h2:1*(x*x)≤(-d)*(x*x):=Int.mul_le_mul_of_nonneg_right (by omega) (zH3 x);have h3:4*C*v≤4*C*1250000:=zo hv2 (by omega);exact zXD (N:=5000000000000) (by omega) (by decide)
structure MatInv (A B C p q r s a b c:Int):Prop where
  e1:A*p*p+B*p*r+C*r*r=a
  e2:2*A*p*q+B*(p*s+q*r)+2*C*r*s=b
  e3:A*q*q+B*q*s+C*s*s=c
  dt:p*s - q*r=1
theorem MatInv.swap{A B C p q r s a b c:Int}(h:MatInv A B C p q r s a b c):MatInv A B C q (-p) s (-r) c (-b) a:=by obtain⟨e1,e2,e3,dt⟩:=h;exact⟨e3,by grind,by grind,by grind⟩
theorem MatInv.norm{A B C p q r s a b c:Int}(t:Int)(h:MatInv A B C p q r s a b c):MatInv A B C p (p*t+q) r (r*t+s) a (2*a*t+b) (a*t*t+b*t+c):=by obtain⟨e1,e2,e3,dt⟩:=h;exact⟨e1,by grind,by grind,by grind⟩
theorem z0c{a b c d g:Int}(h:RedInv a b c d g)(hr:¬zCt a b c):jB (a,b,c)=some (0,-1,1,0)∨∃t,-1000001≤t∧t≤1000000∧jB (a,b,c)=some (1,t,0,1):=by
 obtain⟨a1,aM,b1,b2,c1,cM,dis,neg,nrm,con⟩:=h;have hn:qQ (a,b,c)=some (decide (-a<b∧b≤a)):=by
  simp only[qQ,za,zJ,zS];rw[zB (by omega)];by_cases h1:-a<b<;>by_cases h2:b≤a<;>simp[h1,h2]
  all_goals omega
 by_cases hN:-a<b∧b≤a
 ·left;simp only[jB,zLN a1 aM,hn,za,ze hr,zd hN];rfl
 ·right;have hf:=zGh (a:=a - b) (m:=2*a) (by omega) (by omega) (by omega) (by omega);have e1:=zz (a - b) (b:=2*a) (by omega);have e2:=qa (a - b) (b:=2*a) (by omega);have e3:=Int.emod_add_mul_ediv (a - b) (2*a);generalize hs:(a - b) / (2*a)=s at*;generalize hq:(a - b) % (2*a)=q at*;have hs1:s≤1000000:=by
   rcases Int.lt_or_le 1000000 s with h|h
   ·have:2*a*1000001≤2*a*s:=zo (by omega) (by omega);omega
   ·exact h
  have hs2:-1000001≤s:=by
   rcases Int.lt_or_le s (-1000001) with h|h
   ·have:2*a*s≤2*a*(-1000002):=zo (by omega) (by omega);omega
   ·exact h
  refine⟨s,hs2,hs1,?_⟩;simp only[jB,zLN a1 aM,hn,za,ze hr,ze hN,zc,zh,zb];rw[zB (n:=a - b) (by omega),zB (n:=2*a) (by omega),hf];rfl
theorem z05{p q r s:Int}(hp:p.natAbs≤2300000)(hq:q.natAbs≤2300000)(hr:r.natAbs≤2300000)(hs:s.natAbs≤2300000):zE (p,q,r,s) (0,-1,1,0)=some (q,-p,s,-r):=by
 simp only[zE,zI,Int.mul_zero,Int.mul_one];have e:∀x:Int,x*-1=-x:=fun x=>by omega
 rw[e p,e r,zB (n:=0) (by omega),zB (n:=q) (by omega),zB (n:=-p) (by omega),zB (n:=s) (by omega),zB (n:=-r) (by omega),zB (n:=0+q) (by omega),zB (n:=-p+0) (by omega),zB (n:=0+s) (by omega),zB (n:=-r+0) (by omega)];simp
theorem z06{p q r s t:Int}(hp:p.natAbs≤2300000)(hq:q.natAbs≤2300000)(hr:r.natAbs≤2300000)(hs:s.natAbs≤2300000)(ht:t.natAbs≤1000001):zE (p,q,r,s) (1,t,0,1)=some (p,p*t+q,r,r*t+s):=by have m1:=zM hp ht;have m2:=zM hr ht;simp only[zE,zI,Int.mul_zero,Int.mul_one];rw[zB (n:=0) (by omega),zB (n:=q) (by omega),zB (n:=p) (by omega),zB (n:=s) (by omega),zB (n:=r) (by omega),zB (n:=p*t) (by omega),zB (n:=r*t) (by omega),zB (n:=p+0) (by omega),zB (n:=p*t+q) (by omega),zB (n:=r+0) (by omega),zB (n:=r*t+s) (by omega)];simp
theorem zO5{A B C:Int}(hA1:1≤A)(hA:A≤1000000)(hC1:1≤C)(hC:C≤1000000):∀(n:Nat)(a b c d g p q r s:Int),B*B - 4*A*C=d→RedInv a b c d g→MatInv A B C p q r s a b c→4*a+(if -a<b∧b≤a then 0 else 2)+(if zCt a b c then 0 else 1)≤(n:Int)→
  ∃m1 m2 m3 m4 a2 b2 c2,zBu n p q r s a b c=some (m1,m2,m3,m4,a2,b2,c2)∧RedInv a2 b2 c2 d g∧zCt a2 b2 c2∧MatInv A B C m1 m2 m3 m4 a2 b2 c2
 |0,a,b,c,d,g,p,q,r,s,hd,h,hv,hm=>by have:=h.a1;split at hm<;>split at hm<;>omega
 |n+1,a,b,c,d,g,p,q,r,s,hd,h,hv,hm=>by
  unfold zBu;rw[zLN h.a1 h.aM];by_cases hr:zCt a b c
  ·refine⟨p,q,r,s,a,b,c,?_,h,hr,hv⟩;simp[hr]
  ·obtain⟨m,a2,b2,c2,h1,h2,h3,h4⟩:=zZW h hr;have hdS:B*B - 4*C*A=d:=by rw[←hd];grind
   have bp:=zYS hd h.neg hC1 hC hv.e1 (by have:=h.aM;omega);have bq:=zYS hd h.neg hC1 hC hv.e3 h.cM;have br:=zYS (A:=C) (C:=A) (x:=r) (y:=p) hdS h.neg hA1 hA (v:=a) (by have:=hv.e1;grind) (by have:=h.aM;omega);have bs:=zYS (A:=C) (C:=A) (x:=s) (y:=q) hdS h.neg hA1 hA (v:=c) (by have:=hv.e3;grind) h.cM;have e1:(!decide (zCt a b c))=true:=by simp[hr]
   have hmeas:4*a2+(if -a2<b2∧b2≤a2 then 0 else 2)+(if zCt a2 b2 c2 then 0 else 1)≤(n:Int):=by
    rcases h4 with⟨g1,g2,g3⟩|⟨g1,g2⟩|⟨g1,g2,g3⟩
    ·rw[if_neg g1,if_neg hr]at hm;rw[if_pos g3];split<;>omega
    ·rw[if_pos g1,if_neg hr]at hm;split<;>split<;>omega
    ·rw[if_pos g1,if_neg hr]at hm;rw[if_pos g2.1,if_pos g2];omega
   have ha:=h.a1;have hb1:=h.b1;have hb2:=h.b2;have haM:=h.aM;have hc1:=h.c1;have hcM:=h.cM;rcases z0c h hr with hs|⟨t,t1,t2,hs⟩
   ·rw[hs]at h1;have hm0:=zF h1;subst hm0;have hsub:=zOc (a:=a) (b:=b) (c:=c) (by omega) (by omega) (by omega);rw[hsub]at h2;obtain⟨ea,hbc⟩:=Prod.mk.inj (zF h2);obtain⟨eb,ec⟩:=Prod.mk.inj hbc;rw[←ea,←eb,←ec]at h3 hmeas;simp only[za,hs,hsub,z05 bp bq br bs,e1,zb];exact zO5 hA1 hA hC1 hC n _ _ _ d g _ _ _ _ hd h3 hv.swap hmeas
   ·rw[hs]at h1;have hm0:=zF h1;subst hm0;have hsub:=zOd (a:=a) (b:=b) (c:=c) (s:=t) (by omega) (by omega) (by omega) (by omega);rw[hsub]at h2;obtain⟨ea,hbc⟩:=Prod.mk.inj (zF h2);obtain⟨eb,ec⟩:=Prod.mk.inj hbc;rw[←ea,←eb,←ec]at h3 hmeas;simp only[za,hs,hsub,z06 bp bq br bs (t:=t) (by omega),e1,zb];exact zO5 hA1 hA hC1 hC n _ _ _ d g _ _ _ _ hd h3 (hv.norm t) hmeas
theorem zDg{A B C d x y v a b c:Int}(hd:B*B - 4*A*C=d)(hC1:1≤C)(hC:C≤1000000)(hdis:b*b - 4*a*c=d)(hred:zCt a b c)(ha:1≤a)(hv:A*x*x+B*x*y+C*y*y=v)(hv2:v=a∨v=c):x.natAbs≤2000:=by
 have h1:=z5W hd hv;obtain⟨⟨b1,b2⟩,hr⟩:=hred;have hac:a≤c:=by omega
 have hbb:b*b≤a*a:=by
  have:=zM (x:=b) (y:=b) (A:=a.natAbs) (B:=a.natAbs) (by omega) (by omega);have h2:(b*b).natAbs≤(a*a).natAbs:=by rw[Int.natAbs_mul a a];exact this
  have h3:=zH3 a;have h4:=zH3 b;omega
 have haa:a*a≤a*c:=zo hac (by omega);have hD:3*(a*c)≤-d:=by
  have:4*a*c=4*(a*c):=by rw[zy]
  omega
 have hxx:=zH3 x;have h5:3*(a*c)*(x*x)≤(-d)*(x*x):=Int.mul_le_mul_of_nonneg_right hD hxx;have h6:4*C*v≤4000000*v:=Int.mul_le_mul_of_nonneg_right (by omega) (by omega);have h7:3*(a*c)*(x*x)≤4000000*v:=by omega
 -- divide by v
 have h8:3*(x*x)≤4000000:=by
  rcases Int.lt_or_le 4000000 (3*(x*x)) with h|h
  ·exfalso
   rcases hv2 with rfl|rfl
   ·have h9:v*(3*(x*x))≤v*(3*(c*(x*x))):=zo (by
     have:1*(x*x)≤c*(x*x):=Int.mul_le_mul_of_nonneg_right (by omega) hxx;omega) (by omega)
    have h10:v*(3*(c*(x*x)))=3*(v*c)*(x*x):=by grind
    have h11:v*4000001≤v*(3*(x*x)):=zo (by omega) (by omega);omega
   ·have h9:v*(3*(x*x))≤v*(3*(a*(x*x))):=zo (by
     have:1*(x*x)≤a*(x*x):=Int.mul_le_mul_of_nonneg_right (by omega) hxx;omega) (by omega)
    have h10:v*(3*(a*(x*x)))=3*(a*v)*(x*x):=by grind
    have h11:v*4000001≤v*(3*(x*x)):=zo (by omega) (by omega);omega
  ·exact h
 exact zXD (N:=1333334) (by omega) (by decide)
theorem zTN{a b c:Int}(h:zN (a,b,c)=some true):∃g,RedInv a b c (b*b - 4*a*c) g∧c≤1000000:=by
 have hin:inN a=true∧inN b=true∧inN c=true:=by
  simp only[zN,zFU,za]at h;cases ha:inN a with
  |false=>rw[ha]at h;simp at h
  |true=>
   cases hb:inN b with
   |false=>rw[ha,hb]at h;simp at h
   |true=>
    cases hc:inN c with
    |false=>rw[ha,hb,hc]at h;simp at h
    |true=>exact⟨rfl,rfl,rfl⟩
 obtain⟨ha,hb,hc⟩:=hin;have hd:=zOe ha hb hc;simp only[zN,zFU,ha,hb,hc,Bool.and_self,za,zb,hd,zJ]at h;rw[jG]at ha hb hc;have hneg:b*b - 4*a*c<0:=by
  rcases Int.lt_or_le (b*b - 4*a*c) 0 with h1|h1
  ·exact h1
  ·rw[ze (by omega)]at h;cases h
 have hpos:0<a:=by
  rw[zd hneg]at h;rcases Int.lt_or_le 0 a with h1|h1
  ·exact h1
  ·rw[ze (by omega)]at h;cases h
 have hbb:=zH3 b;have hc1:1≤c:=by
  rcases Int.lt_or_le 0 c with h|h
  ·exact h
  ·have:4*a*c≤4*a*0:=zo h (by omega);omega
 refine⟨(Int.gcd a (Int.gcd b c):Int),⟨by omega,by omega,by omega,by omega,hc1,by omega,rfl,hneg,.inr (by omega),fun k=>?_⟩,by omega⟩;constructor
 ·rintro⟨u1,u2,u3⟩;exact Int.dvd_coe_gcd u1 (Int.dvd_coe_gcd u2 u3)
 ·intro hk;have k1:k∣a:=Int.dvd_trans hk (Int.gcd_dvd_left ..);have k2:k∣(Int.gcd b c:Int):=Int.dvd_trans hk (Int.gcd_dvd_right ..);exact⟨k1,Int.dvd_trans k2 (Int.gcd_dvd_left ..),Int.dvd_trans k2 (Int.gcd_dvd_right ..)⟩
theorem z6b{a b c g:Int}(hi:RedInv a b c (b*b - 4*a*c) g)(hcM:c≤1000000):∃m1 m2 m3 m4 a2 b2 c2,qF (a,b,c)=some ((a2,b2,c2),(m1,m2,m3,m4))∧RedInv a2 b2 c2 (b*b - 4*a*c) g∧zCt a2 b2 c2∧MatInv a b c m1 m2 m3 m4 a2 b2 c2∧m1.natAbs≤2000∧m2.natAbs≤2000∧m3.natAbs≤2000∧m4.natAbs≤2000:=by
 obtain⟨m1,m2,m3,m4,a3,b3,c3,q1,q2,q3,q4⟩:=zO5 (B:=b) hi.a1 hi.aM hi.c1 hcM FU a b c _ g 1 0 0 1 rfl hi ⟨by grind,by grind,by grind,by decide⟩ (by have e:((FU:Nat):Int)=1000000000:=rfl;rw[e];have:=hi.aM;split<;>split<;>omega)
 have k1':qF (a,b,c)=some ((a3,b3,c3),(m1,m2,m3,m4)):=by simp only[qF,zCy,za,q1]
 have hdS:b*b - 4*c*a=b*b - 4*a*c:=by grind
 have s1:=zDg (A:=a) (B:=b) (C:=c) (x:=m1) (y:=m3) rfl hi.c1 hcM q2.dis q3 q2.a1 q4.e1 (.inl rfl);have s2:=zDg (A:=a) (B:=b) (C:=c) (x:=m2) (y:=m4) rfl hi.c1 hcM q2.dis q3 q2.a1 q4.e3 (.inr rfl);have s3:=zDg (A:=c) (B:=b) (C:=a) (x:=m3) (y:=m1) (v:=a3) hdS hi.a1 hi.aM q2.dis q3 q2.a1 (by have:=q4.e1;grind) (.inl rfl);have s4:=zDg (A:=c) (B:=b) (C:=a) (x:=m4) (y:=m2) (v:=c3) hdS hi.a1 hi.aM q2.dis q3 q2.a1 (by have:=q4.e3;grind) (.inr rfl);exact⟨m1,m2,m3,m4,a3,b3,c3,k1',q2,q3,q4,s1,s2,s3,s4⟩
theorem z4Y{a b c g:Int}(hi:RedInv a b c (b*b - 4*a*c) g)(hcM:c≤1000000):∃m1 m2 m3 m4 a2 b2 c2,qF (a,b,c)=some ((a2,b2,c2),(m1,m2,m3,m4))∧qH (a,b,c)=some ((a2,b2,c2),(m1,m2,m3,m4))∧RedInv a2 b2 c2 (b*b - 4*a*c) g∧zCt a2 b2 c2∧MatInv a b c m1 m2 m3 m4 a2 b2 c2∧m1.natAbs≤2000∧m2.natAbs≤2000∧m3.natAbs≤2000∧m4.natAbs≤2000:=by
 obtain⟨m,a2,b2,c2,k1,k2,k3,k4⟩:=zTP hi;obtain⟨m1,m2,m3,m4,a3,b3,c3,q1,q2,q3,q4⟩:=zO5 (B:=b) hi.a1 hi.aM hi.c1 hcM FU a b c _ g 1 0 0 1 rfl hi ⟨by grind,by grind,by grind,by decide⟩ (by have e:((FU:Nat):Int)=1000000000:=rfl;rw[e];have:=hi.aM;split<;>split<;>omega)
 have k1':qF (a,b,c)=some ((a3,b3,c3),(m1,m2,m3,m4)):=by simp only[qF,zCy,za,q1]
 rw[k1]at k1';have e:=zF k1';obtain⟨e1,rfl⟩:=Prod.mk.inj e;obtain⟨rfl,e2⟩:=Prod.mk.inj e1;obtain⟨rfl,rfl⟩:=Prod.mk.inj e2;have hdS:b*b - 4*c*a=b*b - 4*a*c:=by grind
 have s1:=zDg (A:=a) (B:=b) (C:=c) (x:=m1) (y:=m3) rfl hi.c1 hcM q2.dis q3 q2.a1 q4.e1 (.inl rfl);have s2:=zDg (A:=a) (B:=b) (C:=c) (x:=m2) (y:=m4) rfl hi.c1 hcM q2.dis q3 q2.a1 q4.e3 (.inr rfl);have s3:=zDg (A:=c) (B:=b) (C:=a) (x:=m3) (y:=m1) (v:=a2) hdS hi.a1 hi.aM q2.dis q3 q2.a1 (by have:=q4.e1;grind) (.inl rfl);have s4:=zDg (A:=c) (B:=b) (C:=a) (x:=m4) (y:=m2) (v:=c2) hdS hi.a1 hi.aM q2.dis q3 q2.a1 (by have:=q4.e3;grind) (.inr rfl);exact⟨m1,m2,m3,m4,a2,b2,c2,k1,k2,q2,q3,q4,s1,s2,s3,s4⟩
theorem zTy{f:Int×Int×Int}(h:zN f=some true):∃m f2,qF f=some (f2,m)∧qH f=some (f2,m)∧inN m.1=true∧inN m.2.1=true∧inN m.2.2.1=true∧inN m.2.2.2=true∧
  (-10000000≤f2.1∧f2.1≤10000000)∧(-10000000≤f2.2.1∧f2.2.1≤10000000)∧(-10000000≤f2.2.2∧f2.2.2≤10000000)∧zCt f2.1 f2.2.1 f2.2.2∧(∃g,RedInv f2.1 f2.2.1 f2.2.2 (f.2.1*f.2.1 - 4*f.1*f.2.2) g):=by
 obtain⟨a,b,c⟩:=f;obtain⟨g,hi,hcM⟩:=zTN h;obtain⟨m,a2,b2,c2,k1,k2,k3,k4⟩:=zTP hi;obtain⟨m1,m2,m3,m4,a3,b3,c3,q1,q2,q3,q4⟩:=zO5 (B:=b) hi.a1 hi.aM hi.c1 hcM FU a b c _ g 1 0 0 1 rfl hi ⟨by grind,by grind,by grind,by decide⟩ (by have e:((FU:Nat):Int)=1000000000:=rfl;rw[e];have:=hi.aM;split<;>split<;>omega)
 have k1':qF (a,b,c)=some ((a3,b3,c3),(m1,m2,m3,m4)):=by simp only[qF,zCy,za,q1]
 rw[k1]at k1';have e:=zF k1';obtain⟨e1,rfl⟩:=Prod.mk.inj e;obtain⟨rfl,e2⟩:=Prod.mk.inj e1;obtain⟨rfl,rfl⟩:=Prod.mk.inj e2;have hdS:b*b - 4*c*a=b*b - 4*a*c:=by grind
 have s1:=zDg (A:=a) (B:=b) (C:=c) (x:=m1) (y:=m3) rfl hi.c1 hcM q2.dis q3 q2.a1 q4.e1 (.inl rfl);have s2:=zDg (A:=a) (B:=b) (C:=c) (x:=m2) (y:=m4) rfl hi.c1 hcM q2.dis q3 q2.a1 q4.e3 (.inr rfl);have s3:=zDg (A:=c) (B:=b) (C:=a) (x:=m3) (y:=m1) (v:=a2) hdS hi.a1 hi.aM q2.dis q3 q2.a1 (by have:=q4.e1;grind) (.inl rfl);have s4:=zDg (A:=c) (B:=b) (C:=a) (x:=m4) (y:=m2) (v:=c2) hdS hi.a1 hi.aM q2.dis q3 q2.a1 (by have:=q4.e3;grind) (.inr rfl);have r1:=q2.a1;have r2:=q2.aM;have r3:=q2.b1;have r4:=q2.b2;have r5:=q2.c1;have r6:=q2.cM;refine⟨_,_,k1,k2,jG.2 (by show -1000000≤m1∧m1≤1000000;omega),jG.2 (by show -1000000≤m2∧m2≤1000000;omega),jG.2 (by show -1000000≤m3∧m3≤1000000;omega),jG.2 (by show -1000000≤m4∧m4≤1000000;omega),by show -10000000≤a2∧a2≤10000000;omega,by show -10000000≤b2∧b2≤10000000;omega,by show -10000000≤c2∧c2≤10000000;omega,q3,g,q2⟩
def bv(x:Int):BitVec 64:=BitVec.ofInt 64 x
theorem z0Z(x:Int):w64 x=(bv x).toInt:=by rw[zMt,bv,BitVec.toInt_ofInt,IntKind.wrap_i64,Int.bmod_def];omega
theorem zEx(x:Int):bv (w64 x)=bv x:=by rw[z0Z];unfold bv;rw[BitVec.ofInt_toInt]
theorem zAO{x y:Int}(h:bv x=bv y):w64 x=w64 y:=by rw[z0Z,z0Z,h]
theorem zGN(x y:Int):bv (x+y)=bv x+bv y:=BitVec.ofInt_add x y
theorem zG8(x y:Int):bv (x*y)=bv x*bv y:=BitVec.ofInt_mul x y
theorem zNe(x y:Int):bv (x - y)=bv x - bv y:=by rw[Int.sub_eq_add_neg,zGN];unfold bv;rw[BitVec.ofInt_neg,BitVec.sub_eq_add_neg]
theorem wml(x y:Int):w64 (w64 x*y)=w64 (x*y):=zAO (by rw[zG8,zG8,zEx])
theorem wmr(x y:Int):w64 (x*w64 y)=w64 (x*y):=zAO (by rw[zG8,zG8,zEx])
theorem wal(x y:Int):w64 (w64 x+y)=w64 (x+y):=zAO (by rw[zGN,zGN,zEx])
theorem war(x y:Int):w64 (x+w64 y)=w64 (x+y):=zAO (by rw[zGN,zGN,zEx])
theorem wsl(x y:Int):w64 (w64 x - y)=w64 (x - y):=zAO (by rw[zNe,zNe,zEx])
theorem wsr(x y:Int):w64 (x - w64 y)=w64 (x - y):=zAO (by rw[zNe,zNe,zEx])
theorem at_w(a b c x y:Int):zBA (a,b,c) x y=some (w64 (a*x*x+b*x*y+c*y*y)):=by simp only[zBA,zI,wml,wmr,wal,war,wsl,wsr]
theorem z2M(a b c x y u v:Int):zBR (a,b,c) x y u v=some (w64 (2*a*x*u+b*(x*v+y*u)+2*c*y*v)):=by simp only[zBR,zI,wml,wmr,wal,war,wsl,wsr]
theorem z8C(a b c p q r s:Int):qC (a,b,c) (p,q,r,s)=some (w64 (a*p*p+b*p*r+c*r*r),w64 (2*a*p*q+b*(p*s+r*q)+2*c*r*s),w64 (a*q*q+b*q*s+c*s*s)):=by simp only[qC,at_w,z2M,za]
theorem zJ4(p q r s p' q' r' s':Int):zE (p,q,r,s) (p',q',r',s')=some (w64 (p*p'+q*r'),w64 (p*q'+q*s'),w64 (r*p'+s*r'),w64 (r*q'+s*s')):=by simp only[zE,zI,wml,wmr,wal,war,wsl,wsr]
theorem zYY(a b c:Int):zY (a,b,c)=some (w64 (b*b - 4*a*c)):=by simp only[zY,zI,wml,wmr,wal,war,wsl,wsr]
end Go.Proofs.YtnjhhbcccgbbnaaGreatDoor
namespace Go.Proofs.YtnjhhbcccgbbnaaGreatDoor
def ptG(a A B C x y:Nat):Bool:=Nat.beq (Nat.gcd (Nat.add (Nat.add (Nat.mul A (Nat.mul x x)) (Nat.mul B (Nat.mul x y))) (Nat.mul C (Nat.mul y y))) a) 1
def ptA(a A B C:Nat):Bool:=bif ptG a A B C 0 1 then true else bif ptG a A B C 1 0 then true else bif ptG a A B C 1 1 then true else bif ptG a A B C 1 2 then true else bif ptG a A B C 2 1 then true else bif ptG a A B C 1 3 then true else bif ptG a A B C 2 3 then true else bif ptG a A B C 3 1 then true else ptG a A B C 3 2
def ptC(a A B:Nat):Nat→Bool
 |0=>true
 |k+1=>bif (bif Nat.beq (Nat.gcd (Nat.gcd A B) (Nat.gcd k a)) 1 then ptA a A B k else true) then ptC a A B k else false
def ptB(a A:Nat):Nat→Bool
 |0=>true
 |k+1=>bif ptC a A k a then ptB a A k else false
def ptD(a:Nat):Nat→Bool
 |0=>true
 |k+1=>bif ptB a k a then ptD a k else false
def ptE:Nat→Bool
 |0=>true
 |k+1=>bif ptD (Nat.succ k) (Nat.succ k) then ptE k else false
theorem z89:ptE 25=true:=by decide+kernel
theorem zRy{a b:Bool}(h:(bif a then b else false)=true):a=true∧b=true:=by cases a<;>simp_all
theorem z2J{a A B:Nat}:∀k,ptC a A B k=true→∀C,C<k→Nat.gcd (Nat.gcd A B) (Nat.gcd C a)=1→ptA a A B C=true
 |0,_,C,hC,_=>by omega
 |k+1,h,C,hC,hg=>by
  obtain⟨h1,h2⟩:=zRy h;by_cases e:C=k
  ·subst e;have:Nat.beq (Nat.gcd (Nat.gcd A B) (Nat.gcd C a)) 1=true:=by rw[Nat.beq_eq];exact hg
   rw[this,zb]at h1;exact h1
  ·exact z2J k h2 C (by omega) hg
theorem z2K{a A:Nat}:∀k,ptB a A k=true→∀B,B<k→ptC a A B a=true
 |0,_,C,hC=>by omega
 |k+1,h,C,hC=>by
  obtain⟨h1,h2⟩:=zRy h;by_cases e:C=k
  ·subst e;exact h1
  ·exact z2K k h2 C (by omega)
theorem z2I{a:Nat}:∀k,ptD a k=true→∀A,A<k→ptB a A a=true
 |0,_,C,hC=>by omega
 |k+1,h,C,hC=>by
  obtain⟨h1,h2⟩:=zRy h;by_cases e:C=k
  ·subst e;exact h1
  ·exact z2I k h2 C (by omega)
theorem z2H:∀k,ptE k=true→∀a,a<k→ptD (a+1) (a+1)=true
 |0,_,C,hC=>by omega
 |k+1,h,C,hC=>by
  obtain⟨h1,h2⟩:=zRy h;by_cases e:C=k
  ·subst e;exact h1
  ·exact z2H k h2 C (by omega)
theorem z87{a A B C:Nat}(h1:1≤a)(h2:a≤25)(hA:A<a)(hB:B<a)(hC:C<a)(hg:Nat.gcd (Nat.gcd A B) (Nat.gcd C a)=1):ptA a A B C=true:=by have e:=z2H 25 z89 (a - 1) (by omega);rw[show a - 1+1=a by omega]at e;exact z2J a (z2K a (z2I a e A hA) B hB) C hC hg
def ptL:List (Int×Int):=[(0,1),(1,0),(1,1),(1,2),(2,1),(1,3),(2,3),(3,1),(3,2)]
theorem gcd_of'{g x y:Int}(h:∀c:Int,c∣g→(c∣x↔c∣y)):Int.gcd g x=Int.gcd g y:=by
 refine Nat.dvd_antisymm ?_ ?_<;>apply Int.natCast_dvd_natCast.1
 ·exact Int.dvd_coe_gcd (Int.gcd_dvd_left _ _) ((h _ (Int.gcd_dvd_left _ _)).1 (Int.gcd_dvd_right _ _))
 ·exact Int.dvd_coe_gcd (Int.gcd_dvd_left _ _) ((h _ (Int.gcd_dvd_left _ _)).2 (Int.gcd_dvd_right _ _))
theorem z6z{v a:Int}{n:Nat}(ha:1≤a)(hn:a∣v - (n:Int)):Int.gcd v a=Nat.gcd n a.toNat:=by
 obtain⟨k,hk⟩:=hn;have e:v=(n:Int)+a*k:=by omega
 rw[e,Int.gcd_comm,gcd_of' (y:=(n:Int)) (fun c hc=>by
  obtain⟨j,hj⟩:=hc;constructor
  ·rintro⟨i,hi⟩;exact⟨i - j*k,by rw[Int.mul_sub,←zy,←hj];omega⟩
  ·rintro⟨i,hi⟩;exact⟨i+j*k,by rw[Int.mul_add,←zy,←hj];omega⟩),Int.gcd_comm]
 unfold Int.gcd;rw[Int.natAbs_natCast];congr 1;omega
theorem zTr{x a:Int}(ha:1≤a):a∣x - ((x % a).toNat:Int)∧(x % a).toNat<a.toNat:=by have h1:=zz x (b:=a) (by omega);have h2:=qa x (b:=a) (by omega);have h3:=Int.emod_add_mul_ediv x a;exact⟨⟨x / a,by omega⟩,by omega⟩
theorem pt_ex{a A B C:Int}(h1:1≤a)(h2:a≤25)(hp:∀k:Int,k∣A→k∣B→k∣C→k∣1):∃p,p∈ptL∧Int.gcd (A*p.1*p.1+B*p.1*p.2+C*p.2*p.2) a=1:=by
 obtain⟨a1,a2⟩:=zTr (x:=A) h1;obtain⟨b1,b2⟩:=zTr (x:=B) h1;obtain⟨c1,c2⟩:=zTr (x:=C) h1;generalize (A % a).toNat=A' at*;generalize (B % a).toNat=B' at*;generalize (C % a).toNat=C' at*;have hg:Nat.gcd (Nat.gcd A' B') (Nat.gcd C' a.toNat)=1:=by
  generalize hG:Nat.gcd (Nat.gcd A' B') (Nat.gcd C' a.toNat)=G;have g1:G∣A':=hG▸Nat.dvd_trans (Nat.gcd_dvd_left _ _) (Nat.gcd_dvd_left _ _);have g2:G∣B':=hG▸Nat.dvd_trans (Nat.gcd_dvd_left _ _) (Nat.gcd_dvd_right _ _);have g3:G∣C':=hG▸Nat.dvd_trans (Nat.gcd_dvd_right _ _) (Nat.gcd_dvd_left _ _);have g4:G∣a.toNat:=hG▸Nat.dvd_trans (Nat.gcd_dvd_right _ _) (Nat.gcd_dvd_right _ _);have g5:(G:Int)∣a:=by
   have:((a.toNat:Nat):Int)=a:=by omega
   rw[←this];exact Int.natCast_dvd_natCast.2 g4
  have up:∀{X:Int}{X':Nat},a∣X - (X':Int)→G∣X'→(G:Int)∣X:=by intro X X' u1 u2;obtain⟨i,hi⟩:=Int.dvd_trans g5 u1;obtain⟨j,hj⟩:=Int.natCast_dvd_natCast.2 u2;exact⟨i+j,by rw[Int.mul_add];omega⟩
  have h:=hp G (up a1 g1) (up b1 g2) (up c1 g3);have:=Int.natCast_dvd_natCast.1 (show (G:Int)∣((1:Nat):Int) from h);exact Nat.dvd_one.1 this
 have k:=z87 (by omega) (by omega) a2 b2 c2 hg;have fin:∀x y:Nat,((x:Int),(y:Int))∈ptL→ptG a.toNat A' B' C' x y=true→∃p,p∈ptL∧Int.gcd (A*p.1*p.1+B*p.1*p.2+C*p.2*p.2) a=1:=by
  intro x y hm hG;refine⟨_,hm,?_⟩;have e:=Nat.eq_of_beq_eq_true hG;rw[←e];refine z6z h1 ?_
  obtain⟨i,hi⟩:=a1;obtain⟨j,hj⟩:=b1;obtain⟨l,hl⟩:=c1;refine⟨i*(x*x)+j*(x*y)+l*(y*y),?_⟩;have eA:A=a*i+A':=by omega
  have eB:B=a*j+B':=by omega
  have eC:C=a*l+C':=by omega
  have e3:((((A'.mul (x.mul x)).add (B'.mul (x.mul y))).add (C'.mul (y.mul y)):Nat):Int)=A'*(x*x)+B'*(x*y)+C'*(y*y):=by simp only[Nat.add_eq,Nat.mul_eq,Int.natCast_add,Int.natCast_mul]
  rw[e3,eA,eB,eC];simp only[];grind
 unfold ptA at k;by_cases e1:ptG a.toNat A' B' C' 0 1=true;· exact fin 0 1 (by decide) e1
 by_cases e2:ptG a.toNat A' B' C' 1 0=true;· exact fin 1 0 (by decide) e2
 by_cases e3:ptG a.toNat A' B' C' 1 1=true;· exact fin 1 1 (by decide) e3
 by_cases e4:ptG a.toNat A' B' C' 1 2=true;· exact fin 1 2 (by decide) e4
 by_cases e5:ptG a.toNat A' B' C' 2 1=true;· exact fin 2 1 (by decide) e5
 by_cases e6:ptG a.toNat A' B' C' 1 3=true;· exact fin 1 3 (by decide) e6
 by_cases e7:ptG a.toNat A' B' C' 2 3=true;· exact fin 2 3 (by decide) e7
 by_cases e8:ptG a.toNat A' B' C' 3 1=true;· exact fin 3 1 (by decide) e8
 rw[Bool.not_eq_true]at e1 e2 e3 e4 e5 e6 e7 e8;rw[e1,e2,e3,e4,e5,e6,e7,e8]at k;simp only[zc]at k;exact fin 3 2 (by decide) k
end Go.Proofs.YtnjhhbcccgbbnaaGreatDoor
namespace Go.Proofs.YtnjhhbcccgbbnaaGreatDoor
structure Rb (A B C:Int):Prop where
  a1:1≤A
  a2:A≤26
  b1:-26≤B
  b2:B≤26
  c1:1≤C
  c2:C≤1000
def Vl(A B C x y:Int):Int:=A*x*x+B*x*y+C*y*y
def Gd(a A B C s x y:Int):Prop:=mxI x y=s∧Int.gcd x y=1∧Int.gcd (Vl A B C x y) a=1
theorem z8v(x y:Int):mxI x y=max x y:=by
 unfold mxI;rw[zJ];by_cases h:x<y
 ·rw[zd h,zb];omega
 ·rw[ze h,zc];omega
theorem z6n(x y:Int):zCY x y=some (mxI x y):=by
 unfold zCY mxI;rw[zJ,zJ];by_cases h:x<y
 ·rw[zd h,ze (show ¬y<x by omega)];rfl
 ·rw[ze h];by_cases h2:y<x
  ·rw[zd h2];rfl
  ·rw[ze h2,show x=y by omega];rfl
theorem z8A{A B C x y:Int}(h:Rb A B C)(hx:0≤x)(hx2:x≤3)(hy:0≤y)(hy2:y≤3):(Vl A B C x y).natAbs≤10000:=by obtain⟨a1,a2,b1,b2,c1,c2⟩:=h;have m1:(A*x*x).natAbs≤26*3*3:=zM (zM (by omega) (by omega)) (by omega);have m2:(B*x*y).natAbs≤26*3*3:=zM (zM (by omega) (by omega)) (by omega);have m3:(C*y*y).natAbs≤1000*3*3:=zM (zM (by omega) (by omega)) (by omega);unfold Vl;omega
theorem fp11{a A B C s x:Int}(h:Rb A B C)(ha:1≤a)(ha2:a≤100)(hx:0≤x)(hxs:x≤s)(hs:s≤3):∀(n:Nat)(y:Int),0≤y→y≤s+1→(s+1 - y).toNat<n→
  ∃r,zCL a (A,B,C) s x n y=some r∧zD2 a (A,B,C) s x n y=some r∧(r=.inl ()→∀y',y≤y'→y'≤s→¬Gd a A B C s x y')∧(∀p,r=.inr p→p.1=x∧0≤p.2∧p.2≤s∧Gd a A B C s x p.2)
 |0,y,h0,h1,hn=>by omega
 |n+1,y,h0,h1,hn=>by
  rw[zCL,zD2,zS];by_cases hy:y≤s
  ·rw[zd hy,zb,zb];have hb:=z8A (x:=x) (y:=y) h hx (by omega) h0 (by omega);have hv:w64 (A*x*x+B*x*y+C*y*y)=Vl A B C x y:=qG (by unfold Vl at hb;omega);have e1:zAb (A,B,C) x y=some (Vl A B C x y):=by rw[zPt,at_w,hv]
   rw[at_w,hv,e1,z6n];simp only[za];rw[zME (a:=x) (b:=y) (by omega) (by omega),zHe (a:=x) (b:=y) (by omega) (by omega),zME (b:=a) (by omega) (by omega),zHe (b:=a) (by omega) (by omega)];simp only[za];by_cases hG:Gd a A B C s x y
   ·obtain⟨g1,g2,g3⟩:=hG;rw[g1,g2,g3,zB1];simp only[zb,Int.natCast_one,zB1,za];refine⟨_,rfl,rfl,fun e=>(by cases e),fun p e=>?_⟩;cases e;exact⟨rfl,h0,hy,g1,g2,g3⟩
   ·have hc:∀{α:Type}(u v:Option α),((bif eqI (mxI x y) s then some (eqI ((Int.gcd x y:Nat):Int) 1) else some false).bind fun b16=>(bif b16 then some (eqI ((Int.gcd (Vl A B C x y) a:Nat):Int) 1) else some false).bind fun b20=>bif b20 then u else v)=v:=by
     intro α u v;by_cases g1:mxI x y=s
     ·rw[g1,zB1,zb,za];by_cases g2:Int.gcd x y=1
      ·rw[g2,show ((1:Nat):Int)=1 from rfl,zB1,zb,za];have g3:¬Int.gcd (Vl A B C x y) a=1:=fun g3=>hG ⟨g1,g2,g3⟩;rw[zDU (show ((Int.gcd (Vl A B C x y) a:Nat):Int)≠1 by omega),zc]
      ·rw[zDU (show ((Int.gcd x y:Nat):Int)≠1 by omega),zc,za,zc]
     ·rw[zDU g1,zc,za,zc,za,zc]
    rw[hc,hc];simp only[zI];rw[zB (n:=y+1) (by omega)];obtain⟨r,k1,k2,k3,k4⟩:=fp11 h ha ha2 hx hxs hs n (y+1) (by omega) (by omega) (by omega);refine⟨r,k1,k2,fun e y' u1 u2=>?_,k4⟩;by_cases e2:y'=y
    ·rw[e2];exact hG
    ·exact k3 e y' (by omega) u2
  ·rw[ze hy,zc,zc];refine⟨_,rfl,rfl,fun _ y' u1 u2=>by omega,fun p e=>by cases e⟩
theorem fp7{a A B C s:Int}(h:Rb A B C)(ha:1≤a)(ha2:a≤100)(hs0:0≤s)(hs:s≤3):∀(n:Nat)(x:Int),0≤x→x≤s+1→(s+1 - x).toNat<n→
  ∃r,zCd a (A,B,C) s n x=some r∧zDs a (A,B,C) s n x=some r∧(r=.inl ()→∀x' y',x≤x'→x'≤s→0≤y'→y'≤s→¬Gd a A B C s x' y')∧(∀p,r=.inr p→0≤p.1∧p.1≤s∧0≤p.2∧p.2≤s∧Gd a A B C s p.1 p.2)
 |0,x,h0,h1,hn=>by omega
 |n+1,x,h0,h1,hn=>by
  have hF:=FUge;rw[zCd,zDs,zS];by_cases hx:x≤s
  ·rw[zd hx,zb,zb];obtain⟨r,k1,k2,k3,k4⟩:=fp11 h ha ha2 h0 hx hs FU 0 (by omega) (by omega) (by omega);rw[k1,k2];simp only[za];cases r with
   |inr p=>obtain⟨q1,q2,q3,q4⟩:=k4 p rfl;refine⟨_,rfl,rfl,fun e=>(by cases e),fun p' e=>?_⟩;cases e;rw[q1];exact⟨h0,hx,q2,q3,q4⟩
   |inl u=>
    simp only[zI];rw[zB (n:=x+1) (by omega)];obtain⟨r,j1,j2,j3,j4⟩:=fp7 h ha ha2 hs0 hs n (x+1) (by omega) (by omega) (by omega);refine⟨r,j1,j2,fun e x' y' u1 u2 u3 u4=>?_,j4⟩;by_cases e2:x'=x
    ·rw[e2];exact k3 rfl y' u3 u4
    ·exact j3 e x' y' (by omega) u2 u3 u4
  ·rw[ze hx,zc,zc];refine⟨_,rfl,rfl,fun _ x' y' u1 u2=>by omega,fun p e=>by cases e⟩
theorem fp4{a A B C:Int}(h:Rb A B C)(ha:1≤a)(ha2:a≤100){t x0 y0:Int}(ht:t≤3)(hG:Gd a A B C t x0 y0)(hx0:0≤x0)(hx1:x0≤t)(hy0:0≤y0)(hy1:y0≤t):∀(m n n':Nat)(s:Int),0≤s→s≤t→(t - s).toNat≤m→m<n→m<n'→
  ∃p,zAz a (A,B,C) n s=some (.inr p)∧zDt a (A,B,C) n' s=some (.inr p)∧∃s',s'≤3∧0≤p.1∧p.1≤s'∧0≤p.2∧p.2≤s'∧Gd a A B C s' p.1 p.2
 |m,0,n',s,h0,h1,hm,hn,hn'=>by omega
 |m,n+1,0,s,h0,h1,hm,hn,hn'=>by omega
 |m,n+1,n'+1,s,h0,h1,hm,hn,hn'=>by
  have hF:=FUge;rw[zAz,zDt,zS,zd (show s≤100 by omega),zb];obtain⟨r,k1,k2,k3,k4⟩:=fp7 h ha ha2 h0 (by omega) FU 0 (by omega) (by omega) (by omega);rw[k1,k2];simp only[za];cases r with
  |inr p=>obtain⟨q1,q2,q3,q4,q5⟩:=k4 p rfl;exact⟨p,rfl,rfl,s,by omega,q1,q2,q3,q4,q5⟩
  |inl u=>
   have hne:s≠t:=by intro e;rw[e]at k3;exact k3 rfl x0 y0 hx0 hx1 hy0 hy1 hG
   obtain⟨m',rfl⟩:∃m',m=m'+1:=⟨m - 1,by omega⟩
   simp only[zI];rw[zB (n:=s+1) (by omega)];exact fp4 h ha ha2 ht hG hx0 hx1 hy0 hy1 m' n n' (s+1) (by omega) (by omega) (by omega) (by omega) (by omega)
theorem z88{x y s:Int}(hs:s≤3)(h1:0≤x)(h2:x≤s)(h3:0≤y)(h4:y≤s)(hg:Int.gcd x y=1):(x,y)∈ptL:=by
 have e1:x=0∨x=1∨x=2∨x=3:=by omega
 have e2:y=0∨y=1∨y=2∨y=3:=by omega
 rcases e1 with rfl|rfl|rfl|rfl<;>rcases e2 with rfl|rfl|rfl|rfl<;>first|decide|(exfalso;revert hg;decide)
theorem z0s{a A B C:Int}(h:Rb A B C)(ha:1≤a)(ha2:a≤25)(hp:∀k:Int,k∣A→k∣B→k∣C→k∣1):∃p,zDx (A,B,C) a=some p∧zD3 (A,B,C) a=some p∧p∈ptL∧Int.gcd (Vl A B C p.1 p.2) a=1:=by
 have hF:=FUge;obtain⟨⟨x,y⟩,hm,hg⟩:=pt_ex ha ha2 hp;have hr:0≤x∧x≤3∧0≤y∧y≤3∧Int.gcd x y=1∧1≤max x y:=by simp only[ptL,zk,Prod.mk.injEq,zp,or_false]at hm;rcases hm with⟨rfl,rfl⟩|⟨rfl,rfl⟩|⟨rfl,rfl⟩|⟨rfl,rfl⟩|⟨rfl,rfl⟩|⟨rfl,rfl⟩|⟨rfl,rfl⟩|⟨rfl,rfl⟩|⟨rfl,rfl⟩<;>decide
 obtain⟨r1,r2,r3,r4,r5,r6⟩:=hr;have hG:Gd a A B C (max x y) x y:=⟨z8v x y,r5,hg⟩
 obtain⟨p,k1,k2,s',u1,u2,u3,u4,u5,u6⟩:=fp4 h ha (by omega) (show max x y≤3 by omega) hG r1 (by omega) r3 (by omega) 3 (FU - 1) FU 1 (by omega) (by omega) (by omega) (by omega) (by omega);have z:zAz a (A,B,C) FU 0=some (.inr p):=by
  obtain⟨r,j1,j2,j3,j4⟩:=fp7 h ha (by omega) (s:=0) (by omega) (by omega) FU 0 (by omega) (by omega) (by omega);rw[show FU=(FU - 1)+1 from rfl,zAz,j1,za];cases r with
  |inr q=>
   obtain⟨w1,w2,w3,w4,w5,w6,w7⟩:=j4 q rfl;have e1:q.1=0:=by omega
   have e2:q.2=0:=by omega
   rw[e1,e2]at w6;exact absurd w6 (by decide)
  |inl u=>simp only[zI];rw[show w64 (0+1)=1 from rfl];exact k1
 refine⟨p,?_,?_,z88 u1 u2 u3 u4 u5 u6.2.1,u6.2.2⟩
 ·simp only[zDx,z,za]
 ·simp only[zD3,k2,za]
end Go.Proofs.YtnjhhbcccgbbnaaGreatDoor
namespace Go.Proofs.YtnjhhbcccgbbnaaGreatDoor
theorem z9L{b x d y k:Int}(hk:0≤k)(hy:1≤y)(M:Int)(h:(x.natAbs:Int)*d+(b.natAbs:Int)*y≤M):((b - k*x).natAbs:Int)*y+(x.natAbs:Int)*(d - k*y)≤M∧((x.natAbs:Int)*(d - k*y)≥0→((b - k*x).natAbs:Int)≤M):=by
 have h1:((b - k*x).natAbs:Int)≤(b.natAbs:Int)+k*(x.natAbs:Int):=by
  have h2:(b - k*x).natAbs≤b.natAbs+(k*x).natAbs:=Int.natAbs_sub_le b (k*x);have h3:(((k*x).natAbs:Nat):Int)=k*(x.natAbs:Int):=by rw[Int.natAbs_mul,Int.natCast_mul,Int.natAbs_of_nonneg hk]
  omega
 have h4:((b - k*x).natAbs:Int)*y≤((b.natAbs:Int)+k*(x.natAbs:Int))*y:=Int.mul_le_mul_of_nonneg_right h1 (by omega);have e:((b.natAbs:Int)+k*(x.natAbs:Int))*y+(x.natAbs:Int)*(d - k*y)=(x.natAbs:Int)*d+(b.natAbs:Int)*y:=by grind
 have h5:((b - k*x).natAbs:Int)*1≤((b - k*x).natAbs:Int)*y:=zo hy (by omega);constructor
 ·omega
 ·intro h6;omega
theorem z8Z{d y:Int}(hd:0≤d)(hy:1≤y):0≤Int.tdiv d y∧Int.tdiv d y≤d∧0≤d - Int.tdiv d y*y∧d - Int.tdiv d y*y<y:=by
 have h1:=Int.tmod_add_mul_tdiv d y;have h2:0≤d.tmod y∧d.tmod y<y:=⟨Int.tmod_nonneg _ hd,Int.tmod_lt_of_pos _ (by omega)⟩
 have h3:=Int.tdiv_nonneg hd (show 0≤y by omega);have e:Int.tdiv d y*y=y*Int.tdiv d y:=Int.mul_comm _ _;have h4:Int.tdiv d y*1≤Int.tdiv d y*y:=zo hy h3;refine⟨h3,by omega,by omega,by omega⟩
theorem bigk{k x:Int}{K M:Nat}(h1:k.natAbs≤K)(h2:x.natAbs≤M)(hKM:K*M≤9000000000000):w64 (k*x)=k*x∧(k*x).natAbs≤K*M:=by have:=zM h1 h2;exact⟨qG (by omega),this⟩
theorem tz{z g:Int}(hg:g≠0):eqI (Int.tmod z g) 0=decide (g∣z):=by rw[zA7,Bool.eq_iff_iff,beq_iff_eq,qc];exact⟨Int.dvd_of_tmod_eq_zero,Int.tmod_eq_zero_of_dvd⟩
theorem tdv{a b c:Int}(hb:b≠0)(h:b*c=a):Int.tdiv a b=c:=by rw[←h,Int.mul_tdiv_cancel_left _ hb]
theorem z2Y{n m:Int}:∀(k fu:Nat)(r nx x y:Int),0≤nx→nx≤k→k<fu→1≤r→r≤100000→nx≤100000→(y.natAbs:Int)*r+(x.natAbs:Int)*nx≤100000→x.natAbs≤100000→y.natAbs≤100000→n∣r - x*m→n∣nx - y*m→(∀c:Int,c∣r→c∣nx→c∣1)→
  ∃z,zDA n fu r nx x y=some (1,z)∧n∣1 - z*m∧z.natAbs≤100000
 |k,0,r,nx,x,y,_,_,hf,_,_,_,_,_,_,_,_,_=>by omega
 |k,fu+1,r,nx,x,y,h0,hk,hf,hr,hr2,hn2,hS,hx,hy,d1,d2,hc=>by
  rw[zDA];by_cases hz:nx=0
  ·subst hz;have h1:r=1:=Int.eq_one_of_dvd_one (by omega) (hc r ⟨1,by omega⟩ ⟨0,by omega⟩);subst h1;rw[zGM,zg,zc];exact⟨x,rfl,d1,hx⟩
  ·have hn1:1≤nx:=by omega
   obtain⟨k',rfl⟩:∃k',k=k'+1:=⟨k - 1,by omega⟩
   obtain⟨q0,q1,q2,q3⟩:=z8Z (d:=r) (y:=nx) (by omega) hn1;obtain⟨s1,s2⟩:=z9L (b:=x) (x:=y) (d:=r) (y:=nx) (k:=Int.tdiv r nx) q0 hn1 100000 hS;have s4:=s2 (Int.mul_nonneg (by omega) q2);generalize hq:Int.tdiv r nx=q at*;obtain⟨w1,w2⟩:=bigk (k:=q) (x:=nx) (K:=100000) (M:=100000) (by omega) (by omega) (by decide);obtain⟨w3,w4⟩:=bigk (k:=q) (x:=y) (K:=100000) (M:=100000) (by omega) hy (by decide);have hne:(!eqI nx 0)=true:=by rw[eqNe hz];rfl
   rw[hne,zb];simp only[nzOk hz,za,zI,hq];rw[zB (n:=q) (by omega),w1,w3,zB (n:=r - q*nx) (by omega),zB (n:=x - q*y) (by omega)];refine z2Y k' fu nx (r - q*nx) y (x - q*y) q2 (by omega) (by omega) hn1 hn2 (by omega) (by omega) hy (by omega) d2 ?_ fun c c1 c2=>hc c ?_ c1
   ·obtain⟨u,hu⟩:=d1;obtain⟨v,hv⟩:=d2;exact⟨u - q*v,by grind⟩
   ·obtain⟨u,hu⟩:=c1;obtain⟨v,hv⟩:=c2;exact⟨v+q*u,by grind⟩
theorem z6w{n m:Int}(hn:1≤n)(hn2:n≤100000)(hm:m.natAbs≤100000)(hc:∀c:Int,c∣n→c∣m→c∣1):∃v,zDT m n=some v∧n∣1 - v*m∧0≤v∧v<n:=by
 have hF:=FUge;have m1:=zz m (b:=n) (by omega);have m2:=qa m (b:=n) (by omega);have em:=Int.emod_add_mul_ediv m n;obtain⟨z,e1,e2,e3⟩:=z2Y (n:=n) (m:=m) 100000 FU n (m % n) 0 1 m1 (by omega) (by omega) hn hn2 (by omega) (by simp;omega) (by decide) (by decide) ⟨1,by omega⟩ ⟨-(m / n),by grind⟩ fun c c1 c2=>hc c c1 (by obtain⟨u,hu⟩:=c1;obtain⟨v,hv⟩:=c2;exact⟨v+u*(m / n),by grind⟩)
 have z1:=zz z (b:=n) (by omega);have z2:=qa z (b:=n) (by omega);have ez:=Int.emod_add_mul_ediv z n;refine⟨z % n,?_,?_,z1,z2⟩
 ·simp only[zDT,zF2,zA4 hn (show n≤9223372036854775807 by omega),za,e1,zGM,zg,zc]
 ·obtain⟨u,hu⟩:=e2;exact⟨u+(z / n)*m,by grind⟩
end Go.Proofs.YtnjhhbcccgbbnaaGreatDoor
namespace Go.Proofs.YtnjhhbcccgbbnaaGreatDoor
theorem inv9{x y:Int}(h:(x,y)∈ptL):∃q s:Int,(bif eqI y 0 then some (0,x) else (zEE y).bind fun y6=>(zEr x y6).bind fun y7=>(nz y).bind fun z8=>sI (w64 (Int.tdiv (w64 ((w64 (x*y7)) - 1)) y)) fun f9=>some (f9,y7))=some (q,s)∧zE8 x y=some (1,s,-q)∧x*s - q*y=1∧q.natAbs≤3∧s.natAbs≤3∧0≤x∧x≤3∧0≤y∧y≤3:=by
 simp only[ptL,zk,Prod.mk.injEq,zp,or_false]at h;rcases h with⟨rfl,rfl⟩|⟨rfl,rfl⟩|⟨rfl,rfl⟩|⟨rfl,rfl⟩|⟨rfl,rfl⟩|⟨rfl,rfl⟩|⟨rfl,rfl⟩|⟨rfl,rfl⟩|⟨rfl,rfl⟩
 ·exact⟨-1,0,by decide+kernel,by decide+kernel,by decide⟩
 ·exact⟨0,1,by decide+kernel,by decide+kernel,by decide⟩
 ·exact⟨-1,0,by decide+kernel,by decide+kernel,by decide⟩
 ·exact⟨0,1,by decide+kernel,by decide+kernel,by decide⟩
 ·exact⟨-1,0,by decide+kernel,by decide+kernel,by decide⟩
 ·exact⟨0,1,by decide+kernel,by decide+kernel,by decide⟩
 ·exact⟨1,2,by decide+kernel,by decide+kernel,by decide⟩
 ·exact⟨-1,0,by decide+kernel,by decide+kernel,by decide⟩
 ·exact⟨1,1,by decide+kernel,by decide+kernel,by decide⟩
structure Cmp (A B C D x y v q0 s0 B0 Q Bh C1:Int):Prop where
  hv:A*x*x+B*x*y+C*y*y=v
  v1:1≤v
  v2:v≤10000
  hB0:2*A*x*q0+B*(x*s0+y*q0)+2*C*y*s0=B0
  b0:B0.natAbs≤20000
  hQ:B0 / (2*v)=Q
  q:Q.natAbs≤20001
  m6:(-Q*x).natAbs≤60003
  m7:(-Q*y).natAbs≤60003
  hBh:B0 % (2*v)=Bh
  e1:B0+2*v*-Q=Bh
  t1:0≤Bh
  t2:Bh<2*v
  e2:2*A*x*(q0+-Q*x)+B*(x*(s0+-Q*y)+y*(q0+-Q*x))+2*C*y*(s0+-Q*y)=Bh
  hC1:A*(q0+-Q*x)*(q0+-Q*x)+B*(q0+-Q*x)*(s0+-Q*y)+C*(s0+-Q*y)*(s0+-Q*y)=C1
  em:MatInv A B C x (q0+-Q*x) y (s0+-Q*y) v Bh C1
  dis:Bh*Bh - 4*v*C1=D
  bb:Bh*Bh≤400000000
  c1:C1.natAbs≤20000
theorem z9R(A B C x y q0 s0 Q:Int):2*A*x*(q0+-Q*x)+B*(x*(s0+-Q*y)+y*(q0+-Q*x))+2*C*y*(s0+-Q*y)=(2*A*x*q0+B*(x*s0+y*q0)+2*C*y*s0)+2*(A*x*x+B*x*y+C*y*y)*-Q:=by grind
theorem z9S(x s0 Q y q0:Int):x*(s0+-Q*y) - (q0+-Q*x)*y=x*s0 - q0*y:=by grind
theorem z9Q(v:Int):4*v*(v+2001)=2*v*(2*v)+8004*v:=by grind
theorem zRx{A B C p q r s a b c:Int}(h:MatInv A B C p q r s a b c):b*b - 4*a*c=B*B - 4*A*C:=by
 obtain⟨f1,f2,f3,f4⟩:=h;have:b*b - 4*a*c=(B*B - 4*A*C)*((p*s - q*r)*(p*s - q*r)):=by rw[←f1,←f2,←f3];grind
 rw[this,f4];omega
theorem cmp_b{A B C x y q0 s0:Int}(h:Rb A B C)(i4:q0.natAbs≤3)(i5:s0.natAbs≤3)(i6:0≤x)(i7:x≤3)(i8:0≤y)(i9:y≤3):(2*A*x*q0+B*(x*s0+y*q0)+2*C*y*s0).natAbs≤20000:=by obtain⟨a1,a2,b1,b2,c1,c2⟩:=h;have m1:(2*A*x*q0).natAbs≤2*26*3*3:=zM (zM (zM (by omega) (by omega)) (by omega)) (by omega);have m2:(x*s0).natAbs≤3*3:=zM (by omega) (by omega);have m3:(y*q0).natAbs≤3*3:=zM (by omega) (by omega);have m4:(B*(x*s0+y*q0)).natAbs≤26*18:=zM (by omega) (by omega);have m5:(2*C*y*s0).natAbs≤2*1000*3*3:=zM (zM (zM (by omega) (by omega)) (by omega)) (by omega);omega
theorem cmp_q{v B0:Int}(v1:1≤v)(hB:B0.natAbs≤20000):(B0 / (2*v)).natAbs≤20001∧B0+2*v*-(B0 / (2*v))=B0 % (2*v)∧0≤B0 % (2*v)∧B0 % (2*v)<2*v:=by
 have t1:=zz B0 (b:=2*v) (by omega);have t2:=qa B0 (b:=2*v) (by omega);have t3:=Int.emod_add_mul_ediv B0 (2*v);generalize hQ:B0 / (2*v)=Q at*;refine⟨?_,by rw[Int.mul_neg];omega,t1,t2⟩;rcases Int.lt_or_le 20001 Q with h|h
 ·have:2*v*20002≤2*v*Q:=zo (by omega) (by omega);omega
 ·rcases Int.lt_or_le Q (-20001) with h'|h'
  ·have:2*v*Q≤2*v*(-20002):=zo (by omega) (by omega);omega
  ·omega
theorem cmp_c{v Bh C1 D:Int}(v1:1≤v)(v2:v≤10000)(hD1:-2000≤D)(hD2:D≤0)(t1:0≤Bh)(t2:Bh<2*v)(hdis:Bh*Bh - 4*v*C1=D):Bh*Bh≤400000000∧C1.natAbs≤20000:=by
 have hBB:Bh*Bh≤2*v*(2*v):=Int.mul_le_mul (by omega) (by omega) t1 (by omega);have hBB0:0≤Bh*Bh:=Int.mul_nonneg t1 t1;have hBB4:2*v*(2*v)≤20000*20000:=Int.mul_le_mul (by omega) (by omega) (by omega) (by omega);have hCu:C1≤v+2000:=by
  rcases Int.lt_or_le (v+2000) C1 with h|h
  ·have k1:4*v*(v+2001)≤4*v*C1:=zo (by omega) (by omega);have k2:=z9Q v;omega
  ·exact h
 have hCl:-2000≤C1:=by
  rcases Int.lt_or_le C1 (-2000) with h|h
  ·have k1:4*v*C1≤4*v*(-2001):=zo (by omega) (by omega);omega
  ·exact h
 omega
theorem z7Q{A B C x y v q0 s0 Q Bh:Int}(hv:A*x*x+B*x*y+C*y*y=v)(i3:x*s0 - q0*y=1)(e2:2*A*x*(q0+-Q*x)+B*(x*(s0+-Q*y)+y*(q0+-Q*x))+2*C*y*(s0+-Q*y)=Bh):MatInv A B C x (q0+-Q*x) y (s0+-Q*y) v Bh (A*(q0+-Q*x)*(q0+-Q*x)+B*(q0+-Q*x)*(s0+-Q*y)+C*(s0+-Q*y)*(s0+-Q*y)):=by
 refine⟨hv,?_,rfl,?_⟩
 ·rw[←e2,Int.mul_comm (q0+-Q*x) y]
 ·rw[z9S x s0 Q y q0,i3]
theorem z9P{A B C D x y v q0 s0:Int}(h:Rb A B C)(hD:B*B - 4*A*C=D)(hD1:-2000≤D)(hD2:D≤0)(hv:Vl A B C x y=v)(hv1:1≤v)(i3:x*s0 - q0*y=1)(i4:q0.natAbs≤3)(i5:s0.natAbs≤3)(i6:0≤x)(i7:x≤3)(i8:0≤y)(i9:y≤3):∃B0 Q Bh C1,Cmp A B C D x y v q0 s0 B0 Q Bh C1:=by have hvb:=z8A h i6 i7 i8 i9;rw[hv]at hvb;unfold Vl at hv;have hB0b:=cmp_b h i4 i5 i6 i7 i8 i9;have ee:=z9R A B C x y q0 s0;rw[hv]at ee;obtain⟨hQb,e1,t1,t2⟩:=cmp_q (v:=v) hv1 hB0b;have e2:=(ee ((2*A*x*q0+B*(x*s0+y*q0)+2*C*y*s0) / (2*v))).trans e1;have em:=z7Q hv i3 e2;have hdis:=(zRx em).trans hD;obtain⟨hBB,hC⟩:=cmp_c hv1 (by omega) hD1 hD2 t1 t2 hdis;exact⟨_,_,_,_,hv,hv1,by omega,rfl,hB0b,rfl,hQb,zM (A:=20001) (B:=3) (by omega) (by omega),zM (A:=20001) (B:=3) (by omega) (by omega),rfl,e1,t1,t2,e2,rfl,em,hdis,hBB,hC⟩
theorem z5b{A B C D x y v q0 s0 B0 Q Bh C1:Int}(h:Cmp A B C D x y v q0 s0 B0 Q Bh C1)(i4:q0.natAbs≤3)(i5:s0.natAbs≤3)(i1:(bif eqI y 0 then some (0,x) else (zEE y).bind fun y6=>(zEr x y6).bind fun y7=>(nz y).bind fun z8=>sI (w64 (Int.tdiv (w64 ((w64 (x*y7)) - 1)) y)) fun f9=>some (f9,y7))=some (q0,s0)):zBf (A,B,C) x y=some ((v,Bh,C1),(x,q0+-Q*x,y,s0+-Q*y)):=by obtain⟨hv,v1,v2,hB0,b0,hQ,q,m6,m7,hBh,e1,t1,t2,e2,hC1,em,dis,bb,c1⟩:=h;unfold zBf;rw[i1];simp only[za,z8C];rw[hv,hB0,zB (n:=B0) (by omega),zB (n:=v) (by omega),zB (n:=2*v) (by omega),zGh (by omega) (by omega) (by omega) (by omega),hQ];simp only[za,zI];rw[zB (n:=0 - Q) (by omega),show (0 - Q)=-Q by omega,zB (n:=-Q*x) (by omega),zB (n:=-Q*y) (by omega),zB (n:=q0+-Q*x) (by omega),zB (n:=s0+-Q*y) (by omega)];rw[e2,hC1,zB (n:=C1) (by omega),zB (n:=Bh) (by omega)]
theorem z5a{A B C D x y v q0 s0 B0 Q Bh C1:Int}(h:Cmp A B C D x y v q0 s0 B0 Q Bh C1)(hD:B*B - 4*A*C=D)(hD1:-2000≤D)(hD2:D≤0)(i4:q0.natAbs≤3)(i5:s0.natAbs≤3)(i2:zE8 x y=some (1,s0,-q0)):zBO (A,B,C) x y=some ((v,Bh,C1),(x,q0+-Q*x,y,s0+-Q*y)):=by obtain⟨hv,v1,v2,hB0,b0,hQ,q,m6,m7,hBh,e1,t1,t2,e2,hC1,em,dis,bb,c1⟩:=h;unfold zBO;rw[i2];simp only[za];rw[zPt,at_w,hv,zB (n:=v) (by omega)];simp only[za,zI];rw[show w64 (0 - -q0)=q0 by rw[zB (by omega)];omega,z3W,z2M,hB0,zB (n:=B0) (by omega)];simp only[za];rw[zF2,zB (n:=2*v) (by omega),zA4 (by omega) (by omega),hBh];simp only[za];rw[zEQ (show 2*v≠0 by omega),zB (n:=Bh - B0) (by omega),tdv (c:=-Q) (by omega) (by omega)];simp only[za];have x1:x*-Q=-Q*x:=Int.mul_comm _ _;have y1:y*-Q=-Q*y:=Int.mul_comm _ _;rw[zB (n:=-Q) (by omega),x1,y1,zB (n:=-Q*x) (by omega),zB (n:=-Q*y) (by omega),zB (n:=q0+-Q*x) (by omega),zB (n:=s0+-Q*y) (by omega),zB (n:=2*v*-Q) (by omega),e1,zB (n:=Bh) (by omega),zF3,zYY,hD,zB (n:=D) (by omega)];simp only[za];rw[zB (n:=4*v) (by omega),zEQ (show 4*v≠0 by omega)];have hBB0:0≤Bh*Bh:=Int.mul_nonneg t1 t1;simp only[za];rw[zB (n:=Bh*Bh) (by omega),zB (n:=Bh*Bh - D) (by omega),tdv (b:=4*v) (c:=C1) (by omega) (by omega),zB (n:=C1) (by omega)]
theorem zVq{A B C D x y v:Int}(h:Rb A B C)(hD:B*B - 4*A*C=D)(hD1:-2000≤D)(hD2:D≤0)(hm:(x,y)∈ptL)(hv:Vl A B C x y=v)(hv1:1≤v):
  ∃q s Bh Ch,zBf (A,B,C) x y=some ((v,Bh,Ch),(x,q,y,s))∧zBO (A,B,C) x y=some ((v,Bh,Ch),(x,q,y,s))∧MatInv A B C x q y s v Bh Ch∧0≤Bh∧Bh<2*v∧v≤10000∧q.natAbs≤100000∧s.natAbs≤100000∧0≤x∧x≤3∧0≤y∧y≤3:=by
 obtain⟨q0,s0,i1,i2,i3,i4,i5,i6,i7,i8,i9⟩:=inv9 hm;obtain⟨B0,Q,Bh,C1,k⟩:=z9P h hD hD1 hD2 hv hv1 i3 i4 i5 i6 i7 i8 i9;have k1:=z5b k i4 i5 i1;have k2:=z5a k hD hD1 hD2 i4 i5 i2;obtain⟨hv,v1,v2,hB0,b0,hQ,q,m6,m7,hBh,e1,t1,t2,e2,hC1,em,dis,bb,c1⟩:=k;exact⟨_,_,Bh,C1,k1,k2,em,t1,t2,v2,by omega,by omega,i6,i7,i8,i9⟩
end Go.Proofs.YtnjhhbcccgbbnaaGreatDoor
