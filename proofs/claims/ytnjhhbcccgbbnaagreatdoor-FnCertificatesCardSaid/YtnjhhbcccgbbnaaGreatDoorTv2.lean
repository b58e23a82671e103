/-
  Rules of walks, plain functions and their laws, part 2.
  Conditions: none.
-/
import GoSem.Core.Utf8
import Derived.Test.YtnjhhbcccgbbnaaGreatDoorTv1
set_option linter.unusedSimpArgs false
set_option linter.unusedVariables false
namespace Go.Proofs.YtnjhhbcccgbbnaaGreatDoor
def zEU(code1:List Int)(more2:List Int):Option Bool:=
 (some (bif (ltI 1048576 ((code1.length:Int))) then true else (ltI (w64 (1048576 - ((code1.length:Int)))) ((more2.length:Int))))).bind fun t4=>
 some t4
def zCp(cc1:((List Int)×Int×Int)):Option (Int×((List Int)×Int×Int)):=
 (
  bif (ltI cc1.2.1 ((cc1.1.length:Int))) then
   (
    (getI cc1.1 cc1.2.1).bind fun e4=>
    sI (IntKind.i64.wrap e4) fun b5=>
    some b5
   )
  else
   (
    some 0
   )
 ).bind fun j2=>
 sI (w64 (cc1.2.1+1)) fun f6=>
 sI (IntKind.u64.wrap ((IntKind.u64.wrap ((IntKind.u64.wrap (cc1.2.2*6364136223846793005))+(IntKind.u64.wrap j2)))+1442695040888963407)) fun f7=>
 bif (leI f6 ((cc1.1.length:Int))) then
  (
   some ((j2,(cc1.1,f6,f7)))
  )
 else
  (
   sI (IntKind.i64.wrap (andI .u64 (shrI .u64 f7 40) 255)) fun t9=>
   some ((t9,(cc1.1,f6,f7)))
  )
def zC(cc1:((List Int)×Int×Int))(vn2:Int):Option (Int×((List Int)×Int×Int)):=
 bif (leI vn2 1) then
  (
   some ((0,cc1))
  )
 else
  (
   (zCp cc1).bind fun y4=>
   bif (ltI 200 vn2) then
    (
     (zCp y4.2).bind fun y6=>
     sI (w64 ((w64 (y4.1*256))+y6.1)) fun x7=>
     (nz vn2).bind fun z8=>
     sI (Int.tmod x7 vn2) fun t9=>
     some ((t9,y6.2))
    )
   else
    (
     (nz vn2).bind fun z10=>
     sI (Int.tmod y4.1 vn2) fun t11=>
     some ((t11,y4.2))
    )
  )
def jE(cc1:((List Int)×Int×Int))(list2:List Int):Option (Int×((List Int)×Int×Int)):=
 (zC cc1 ((list2.length:Int))).bind fun y3=>
 (getI list2 y3.1).bind fun e4=>
 some ((e4,y3.2))
def zB4(cc1:((List Int)×Int×Int)):Option (Int×((List Int)×Int×Int)):=
 (zC cc1 12).bind fun y2=>
 bif (eqI y2.1 0) then
  (
   (jE y2.2 ([0,1,-1,1000000,-1000000,1000001,-1000001,-9223372036854775808,9223372036854775807,999983,999999,1000])).bind fun y4=>
   some ((y4.1,y4.2))
  )
 else
  (
   (
    bif (eqI y2.1 1) then
     (
      some (eqI y2.1 1)
     )
    else
     (
      some (eqI y2.1 2)
     )
   ).bind fun j5=>
   bif j5 then
    (
     (zC y2.2 50000).bind fun y8=>
     (zC y8.2 20).bind fun y9=>
     (zC y9.2 2).bind fun y10=>
     sI (w64 ((w64 (y8.1*(w64 (1+y9.1))))*(w64 (1 - (w64 (2*y10.1)))))) fun t11=>
     some ((t11,y10.2))
    )
   else
    (
     (
      bif (eqI y2.1 3) then
       (
        some (eqI y2.1 3)
       )
      else
       (
        some (eqI y2.1 4)
       )
     ).bind fun j12=>
     bif j12 then
      (
       (zC y2.2 2000).bind fun y15=>
       some ((y15.1,y15.2))
      )
     else
      (
       (zC y2.2 121).bind fun y16=>
       sI (w64 (y16.1 - 40)) fun t17=>
       some ((t17,y16.2))
      )
    )
  )
def zDo(cc1:((List Int)×Int×Int)):Option ((Int×Int×Int)×((List Int)×Int×Int)):=
 (zC cc1 14).bind fun y2=>
 bif (eqI y2.1 0) then
  (
   (zB4 y2.2).bind fun y4=>
   (zB4 y4.2).bind fun y5=>
   (zB4 y5.2).bind fun y6=>
   some (((y4.1,y5.1,y6.1),y6.2))
  )
 else
  (
   bif (eqI y2.1 1) then
    (
     (jE y2.2 ([2,3,-1,0,1000])).bind fun y8=>
     (zC y8.2 20).bind fun y9=>
     (zC y9.2 21).bind fun y10=>
     (zC y10.2 20).bind fun y11=>
     sI (w64 (y8.1*y9.1)) fun f12=>
     sI (w64 (y8.1*(w64 (y10.1 - 10)))) fun f13=>
     sI (w64 (y8.1*y11.1)) fun f14=>
     some (((f12,f13,f14),y11.2))
    )
   else
    (
     bif (eqI y2.1 2) then
      (
       (zC y2.2 2000).bind fun y16=>
       (zC y16.2 3000).bind fun y17=>
       (zC y17.2 2000).bind fun y18=>
       sI (w64 (y17.1 - 1500)) fun f19=>
       some (((y16.1,f19,y18.1),y18.2))
      )
     else
      (
       bif (eqI y2.1 3) then
        (
         (zC y2.2 21).bind fun y21=>
         (zC y21.2 21).bind fun y22=>
         (zC y22.2 21).bind fun y23=>
         sI (w64 (y21.1 - 10)) fun f24=>
         sI (w64 (y22.1 - 10)) fun f25=>
         sI (w64 (y23.1 - 10)) fun f26=>
         some (((f24,f25,f26),y23.2))
        )
       else
        (
         (zC y2.2 25).bind fun y27=>
         (zC y27.2 40).bind fun y28=>
         sI (w64 (1+y27.1)) fun a29=>
         (zC y28.2 (w64 (2*a29))).bind fun y30=>
         sI (w64 ((w64 (y30.1 - a29))+1)) fun b31=>
         (nz (w64 (4*a29))).bind fun z32=>
         sI (w64 ((w64 (Int.tdiv (w64 ((w64 (b31*b31))+(w64 (4*a29)))) (w64 (4*a29))))+y28.1)) fun f33=>
         some (((a29,b31,f33),y30.2))
        )
      )
    )
  )
def jI(a1:Int)(vm2:Int):Option Int:=
 (nz vm2).bind fun z3=>
 sI (Int.tmod a1 vm2) fun vr4=>
 bif (ltI vr4 0) then
  (
   sI (w64 (vr4+vm2)) fun vr6=>
   some vr6
  )
 else
  (
   some vr4
  )
def zCa(a1:Int)(b2:Int):Option Int:=
 bif (ltI b2 a1) then
  (
   some a1
  )
 else
  (
   some b2
  )
def zCq(cc1:((List Int)×Int×Int)):Option (Int×((List Int)×Int×Int)):=
 (zC cc1 16).bind fun y2=>
 bif (eqI y2.1 0) then
  (
   (jE y2.2 ([-3,-4,-2000,-1999,-1996,-1995,-163,-2001,-2003,-2004,0,1,5,-1,-2,-5,-9223372036854775808])).bind fun y4=>
   some ((y4.1,y4.2))
  )
 else
  (
   (
    bif (eqI y2.1 1) then
     (
      some (eqI y2.1 1)
     )
    else
     (
      some (eqI y2.1 2)
     )
   ).bind fun j5=>
   bif j5 then
    (
     (zC y2.2 1998).bind fun y8=>
     sI (w64 ((-3) - y8.1)) fun d9=>
     (jI d9 4).bind fun y10=>
     bif (ltI 1 y10) then
      (
       (zCa (-2000) (w64 (d9 - 2))).bind fun y12=>
       some ((y12,y8.2))
      )
     else
      (
       some ((d9,y8.2))
      )
    )
   else
    (
     (
      bif (eqI y2.1 3) then
       (
        some (eqI y2.1 3)
       )
      else
       (
        bif (eqI y2.1 4) then
         (
          some (eqI y2.1 4)
         )
        else
         (
          some (eqI y2.1 5)
         )
       )
     ).bind fun j13=>
     bif j13 then
      (
       (jE y2.2 ([-84,-420,-231,-260,-455,-520,-660,-1155,-1320,-1380,-1428,-1540,-399,-1092,-1560,-1785])).bind fun y17=>
       some ((y17.1,y17.2))
      )
     else
      (
       (
        bif (eqI y2.1 6) then
         (
          some (eqI y2.1 6)
         )
        else
         (
          some (eqI y2.1 7)
         )
       ).bind fun j18=>
       bif j18 then
        (
         (zC y2.2 60).bind fun y21=>
         sI (w64 ((-4)*(w64 (1+y21.1)))) fun t22=>
         some ((t22,y21.2))
        )
       else
        (
         (zC y2.2 50).bind fun y23=>
         sI (w64 ((-3) - (w64 (4*y23.1)))) fun t24=>
         some ((t24,y23.2))
        )
      )
    )
  )
def zAX(vn1:Int)(lo2:Int)(hi3:Int):Option Bool:=
 some (bif (leI lo2 vn1) then (leI vn1 hi3) else false)
def zC9(d1:Int):Option Bool:=
 (zAX d1 (-2000) (-3)).bind fun y2=>
 (bif y2 then ((jI d1 4).bind fun y4=>some (ltI y4 2)) else some false).bind fun b5=>
 some b5
def zA4(cc1:((List Int)×Int×Int)):Option (Int×((List Int)×Int×Int)):=
 (zCq cc1).bind fun y2=>
 (zC9 y2.1).bind fun y3=>
 bif (!y3) then
  (
   some ((-23,y2.2))
  )
 else
  (
   some ((y2.1,y2.2))
  )
def qT(f1:(Int×Int×Int)):Option Int:=
 sI (w64 ((w64 (f1.2.1*f1.2.1)) - (w64 ((w64 (4*f1.1))*f1.2.2)))) fun t2=>
 some t2
def zDn(f1:(Int×Int×Int)):Option Bool:=
 (some (bif (bif (ltI (w64 (0 - f1.1)) f1.2.1) then (leI f1.2.1 f1.1) else false) then (bif (ltI f1.1 f1.2.2) then true else (bif (eqI f1.1 f1.2.2) then (leI 0 f1.2.1) else false)) else false)).bind fun t6=>
 some t6
def zC4(a2:Int)(d1:Int):Nat→Int→List (Int×Int×Int)→Option (List (Int×Int×Int))
 |0,_,_=>none
 |n+1,b8,l9=>
  bif (leI b8 a2) then
   (
    (nz (w64 (4*a2))).bind fun z13=>
    sI (w64 (Int.tdiv (w64 ((w64 (b8*b8)) - d1)) (w64 (4*a2)))) fun f14=>
    (qT ((a2,b8,f14))).bind fun y15=>
    (bif (eqI y15 d1) then ((zDn ((a2,b8,f14))).bind fun y17=>some y17) else some false).bind fun b18=>
    bif b18 then
     (
      (room (l9.length+([(a2,b8,f14)]).length)).bind fun u20=>
      sI (w64 (b8+1)) fun b21=>
      zC4 a2 d1 n b21 (l9++([(a2,b8,f14)]))
     )
    else
     (
      sI (w64 (b8+1)) fun b22=>
      zC4 a2 d1 n b22 l9
     )
   )
  else
   (
    some l9
   )
def zE6(d1:Int):Nat→Int→List (Int×Int×Int)→Option (List (Int×Int×Int))
 |0,_,_=>none
 |n+1,a2,l3=>
  bif (leI (w64 ((w64 (3*a2))*a2)) (w64 (0 - d1))) then
   (
    sI (w64 (1 - a2)) fun b7=>
    (zC4 a2 d1 FU b7 l3).bind fun o11=>
    sI (w64 (a2+1)) fun a23=>
    zE6 d1 n a23 o11
   )
  else
   (
    some l3
   )
def zHr(d1:Int):Option (List (Int×Int×Int)):=
 (zE6 d1 FU 1 (([]:List (Int×Int×Int)))).bind fun o5=>
 some o5
def zAk(vn1:Int):Option Int:=
 (zCa vn1 (w64 (0 - vn1))).bind fun y2=>
 some y2
def jS:Nat→Int→Int→Option Int
 |0,_,_=>none
 |n+1,a5,b6=>
  bif (!eqI b6 0) then
   (
    (nz b6).bind fun z10=>
    sI (Int.tmod a5 b6) fun b11=>
    jS n b6 b11
   )
  else
   (
    some a5
   )
def zAj(a1:Int)(b2:Int):Option Int:=
 (zAk a1).bind fun y3=>
 (zAk b2).bind fun y4=>
 (jS FU y3 y4).bind fun o8=>
 some o8
def zAT(f1:(Int×Int×Int)):Option Int:=
 (zAj f1.1 f1.2.1).bind fun y2=>
 (zAj y2 f1.2.2).bind fun y3=>
 some y3
def zDT(y2:List (Int×Int×Int)):Nat→Int→List (Int×Int×Int)→Option (List (Int×Int×Int))
 |0,_,_=>none
 |n+1,t3,l4=>
  bif (ltI t3 ((y2.length:Int))) then
   (
    (getI y2 t3).bind fun e8=>
    (getI y2 t3).bind fun e9=>
    (zAT e9).bind fun y10=>
    bif (eqI y10 1) then
     (
      (room (l4.length+([e9]).length)).bind fun u12=>
      sI (w64 (t3+1)) fun t13=>
      zDT y2 n t13 (l4++([e9]))
     )
    else
     (
      sI (w64 (t3+1)) fun t14=>
      zDT y2 n t14 l4
     )
   )
  else
   (
    some l4
   )
def zFZ(d1:Int):Option (List (Int×Int×Int)):=
 (zHr d1).bind fun y2=>
 (zDT y2 FU 0 (([]:List (Int×Int×Int)))).bind fun o6=>
 some o6
def j0(cc1:((List Int)×Int×Int))(d2:Int):Option ((Int×Int×Int)×((List Int)×Int×Int)):=
 (zFZ d2).bind fun y3=>
 (zC cc1 ((y3.length:Int))).bind fun y4=>
 (getI y3 y4.1).bind fun e5=>
 (getI y3 y4.1).bind fun e6=>
 some ((e6,y4.2))
def zZ(vm1:(Int×Int×Int×Int))(vn2:(Int×Int×Int×Int)):Option (Int×Int×Int×Int):=
 sI (w64 ((w64 (vm1.1*vn2.1))+(w64 (vm1.2.1*vn2.2.2.1)))) fun f3=>
 sI (w64 ((w64 (vm1.1*vn2.2.1))+(w64 (vm1.2.1*vn2.2.2.2)))) fun f4=>
 sI (w64 ((w64 (vm1.2.2.1*vn2.1))+(w64 (vm1.2.2.2*vn2.2.2.1)))) fun f5=>
 sI (w64 ((w64 (vm1.2.2.1*vn2.2.1))+(w64 (vm1.2.2.2*vn2.2.2.2)))) fun f6=>
 some ((f3,f4,f5,f6))
def zAI:Nat→Int→Int→Int→Int→Int→List Int→Int→Int→Option (Int×Int×Int×Int×(List Int)×Int×Int)
 |0,_,_,_,_,_,_,_,_=>none
 |n+1,k3,f4,f5,f6,f7,f8,f9,f10=>
  bif (ltI 0 k3) then
   (
    (zC ((f8,f9,f10)) 9).bind fun y14=>
    sI (w64 (y14.1 - 4)) fun t15=>
    (zC y14.2 3).bind fun y16=>
    bif (eqI y16.1 0) then
     (
      (zZ ((f4,f5,f6,f7)) ((1,t15,0,1))).bind fun y18=>
      sI (w64 (k3 - 1)) fun k19=>
      zAI n k19 y18.1 y18.2.1 y18.2.2.1 y18.2.2.2 y16.2.1 y16.2.2.1 y16.2.2.2
     )
    else
     (
      bif (eqI y16.1 1) then
       (
        (zZ ((f4,f5,f6,f7)) ((1,0,t15,1))).bind fun y21=>
        sI (w64 (k3 - 1)) fun k22=>
        zAI n k22 y21.1 y21.2.1 y21.2.2.1 y21.2.2.2 y16.2.1 y16.2.2.1 y16.2.2.2
       )
      else
       (
        (zZ ((f4,f5,f6,f7)) ((0,-1,1,0))).bind fun y23=>
        sI (w64 (k3 - 1)) fun k24=>
        zAI n k24 y23.1 y23.2.1 y23.2.2.1 y23.2.2.2 y16.2.1 y16.2.2.1 y16.2.2.2
       )
     )
   )
  else
   (
    some (f4,f5,f6,f7,f8,f9,f10)
   )
def zDG(cc1:((List Int)×Int×Int)):Option ((Int×Int×Int×Int)×((List Int)×Int×Int)):=
 (zC cc1 6).bind fun y2=>
 (zAI FU y2.1 1 0 0 1 y2.2.1 y2.2.2.1 y2.2.2.2).bind fun o12=>
 some (((o12.1,o12.2.1,o12.2.2.1,o12.2.2.2.1),o12.2.2.2.2))
def zBM(f1:(Int×Int×Int))(x2:Int)(y3:Int):Option Int:=
 sI (w64 ((w64 ((w64 ((w64 (f1.1*x2))*x2))+(w64 ((w64 (f1.2.1*x2))*y3))))+(w64 ((w64 (f1.2.2*y3))*y3)))) fun t4=>
 some t4
def zEE(f1:(Int×Int×Int))(x2:Int)(y3:Int)(u4:Int)(v5:Int):Option Int:=
 sI (w64 ((w64 ((w64 ((w64 ((w64 (2*f1.1))*x2))*u4))+(w64 (f1.2.1*(w64 ((w64 (x2*v5))+(w64 (y3*u4))))))))+(w64 ((w64 ((w64 (2*f1.2.2))*y3))*v5)))) fun t6=>
 some t6
def zDJ(f1:(Int×Int×Int))(vm2:(Int×Int×Int×Int)):Option (Int×Int×Int):=
 (zBM f1 vm2.1 vm2.2.2.1).bind fun y3=>
 (zEE f1 vm2.1 vm2.2.2.1 vm2.2.1 vm2.2.2.2).bind fun y4=>
 (zBM f1 vm2.2.1 vm2.2.2.2).bind fun y5=>
 some ((y3,y4,y5))
def zAM(vn1:Int):Option Bool:=
 (zAX vn1 (-1000000) 1000000).bind fun y2=>
 some y2
def zDP(f1:(Int×Int×Int)):Option Bool:=
 (zAM f1.1).bind fun y2=>
 (bif y2 then ((zAM f1.2.1).bind fun y4=>some y4) else some false).bind fun b5=>
 (bif b5 then ((zAM f1.2.2).bind fun y7=>some y7) else some false).bind fun b8=>
 some b8
def jT(cc1:((List Int)×Int×Int))(f2:(Int×Int×Int)):Option ((Int×Int×Int)×((List Int)×Int×Int)):=
 (zDG cc1).bind fun y3=>
 (zDJ f2 y3.1).bind fun y4=>
 (zDP y4).bind fun y5=>
 bif (!y5) then
  (
   some ((f2,y3.2))
  )
 else
  (
   some ((y4,y3.2))
  )
def zAF(cc1:((List Int)×Int×Int)):Option ((Int×Int×Int)×((List Int)×Int×Int)):=
 (zC cc1 12).bind fun y2=>
 bif (eqI y2.1 0) then
  (
   (zDo y2.2).bind fun y4=>
   some ((y4.1,y4.2))
  )
 else
  (
   bif (eqI y2.1 1) then
    (
     (zA4 y2.2).bind fun y6=>
     (j0 y6.2 y6.1).bind fun y7=>
     (zC y7.2 5).bind fun y8=>
     sI (w64 (1+y8.1)) fun k9=>
     (jT y8.2 ((w64 (k9*y7.1.1),w64 (k9*y7.1.2.1),w64 (k9*y7.1.2.2)))).bind fun y10=>
     some ((y10.1,y10.2))
    )
   else
    (
     bif (eqI y2.1 2) then
      (
       (zC y2.2 1000000).bind fun y12=>
       (zC y12.2 1000001).bind fun y13=>
       (zC y13.2 750001).bind fun y14=>
       sI (w64 (1+y12.1)) fun f15=>
       sI (w64 (250000+y14.1)) fun f16=>
       some (((f15,y13.1,f16),y14.2))
      )
     else
      (
       (zA4 y2.2).bind fun y17=>
       (j0 y17.2 y17.1).bind fun y18=>
       (jT y18.2 y18.1).bind fun y19=>
       some ((y19.1,y19.2))
      )
    )
  )
def jO(f1:(Int×Int×Int)):Option Bool:=
 (zDP f1).bind fun y2=>
 (bif y2 then ((qT f1).bind fun y4=>some (ltI y4 0)) else some false).bind fun b5=>
 some (bif b5 then (ltI 0 f1.1) else false)
def zF4(f1:(Int×Int×Int)):Option Int:=
 (jI (w64 (f1.1 - f1.2.1)) (w64 (2*f1.1))).bind fun y2=>
 (nz (w64 (2*f1.1))).bind fun z3=>
 sI (w64 (Int.tdiv (w64 ((w64 (f1.1 - f1.2.1)) - y2)) (w64 (2*f1.1)))) fun t4=>
 some t4
def zEe(f1:(Int×Int×Int)):Option (Int×Int×Int×Int):=
 (zF4 f1).bind fun y2=>
 bif (!eqI y2 0) then
  (
   some ((1,y2,0,1))
  )
 else
  (
   (zDn f1).bind fun y4=>
   bif y4 then
    (
     some ((1,0,0,1))
    )
   else
    (
     some ((0,-1,1,0))
    )
  )
def zD0:Nat→Int→Int→Int→Int→Int→Int→Int→Option (Int×Int×Int×Int×Int×Int×Int)
 |0,_,_,_,_,_,_,_=>none
 |n+1,f2,f3,f4,f5,f6,f7,f8=>
  (zDn ((f6,f7,f8))).bind fun y11=>
  bif (!y11) then
   (
    (zEe ((f6,f7,f8))).bind fun y13=>
    (zDJ ((f6,f7,f8)) y13).bind fun y14=>
    (zZ ((f2,f3,f4,f5)) y13).bind fun y15=>
    zD0 n y15.1 y15.2.1 y15.2.2.1 y15.2.2.2 y14.1 y14.2.1 y14.2.2
   )
  else
   (
    some (f2,f3,f4,f5,f6,f7,f8)
   )
def qM(f1:(Int×Int×Int)):Option ((Int×Int×Int)×(Int×Int×Int×Int)):=
 (zD0 FU 1 0 0 1 f1.1 f1.2.1 f1.2.2).bind fun o10=>
 some ((o10.2.2.2.2,(o10.1,o10.2.1,o10.2.2.1,o10.2.2.2.1)))
def zKo(vm1:(Int×Int×Int×Int)):Option Int:=
 sI (w64 ((w64 (vm1.1*vm1.2.2.2)) - (w64 (vm1.2.1*vm1.2.2.1)))) fun t2=>
 some t2
def zC6(vm1:(Int×Int×Int×Int)):Option (Int×Int×Int×Int):=
 (zKo vm1).bind fun y2=>
 sI (w64 (y2*vm1.2.2.2)) fun f3=>
 sI (w64 ((w64 (0 - y2))*vm1.2.1)) fun f4=>
 sI (w64 ((w64 (0 - y2))*vm1.2.2.1)) fun f5=>
 sI (w64 (y2*vm1.1)) fun f6=>
 some ((f3,f4,f5,f6))
def zCy(vm1:(Int×Int×Int×Int)):Option Bool:=
 (zAM vm1.1).bind fun y2=>
 (bif y2 then ((zAM vm1.2.1).bind fun y4=>some y4) else some false).bind fun b5=>
 (bif b5 then ((zAM vm1.2.2.1).bind fun y7=>some y7) else some false).bind fun b8=>
 (bif b8 then ((zAM vm1.2.2.2).bind fun y10=>some y10) else some false).bind fun b11=>
 some b11
def zBd(f1:(Int×Int×Int))(g2:(Int×Int×Int)):Option ((Int×Int×Int×Int)×Bool):=
 (jO f1).bind fun y3=>
 (bif (!y3) then some true else ((jO g2).bind fun y5=>some (!y5))).bind fun b6=>
 bif b6 then
  (
   some (((0,0,0,0),false))
  )
 else
  (
   (qM f1).bind fun y8=>
   (qM g2).bind fun y9=>
   (zC6 y9.2).bind fun y10=>
   (zZ y8.2 y10).bind fun y11=>
   (bif (!((y8.1.1==y9.1.1)&&((y8.1.2.1==y9.1.2.1)&&(y8.1.2.2==y9.1.2.2)))) then some true else ((zCy y11).bind fun y13=>some (!y13))).bind fun b14=>
   bif b14 then
    (
     some (((0,0,0,0),false))
    )
   else
    (
     some ((y11,true))
    )
  )
def zBk:Nat→Int→Option qd
 |0,_=>none
 |n+1,vn1=>
  bif (ltI vn1 10) then
   (
    some (zHa ([IntKind.u8.wrap (w64 (48+vn1))]))
   )
  else
   (
    (zBk n (w64 (Int.tdiv vn1 10))).bind fun y3=>
    (catR y3 (zHa ([IntKind.u8.wrap (w64 (48+(Int.tmod vn1 10)))]))).bind fun u4=>
    some (y3++(zHa ([IntKind.u8.wrap (w64 (48+(Int.tmod vn1 10)))])))
   )
def qQ(vn1:Int):Option qd:=
 bif (ltI vn1 0) then
  (
   (zBk FU (w64 (0 - vn1))).bind fun y3=>
   (catR ((⟨#[45]⟩:qd)) y3).bind fun u4=>
   some (((⟨#[45]⟩:qd))++y3)
  )
 else
  (
   (zBk FU vn1).bind fun y5=>
   some y5
  )
def zAN(f1:(Int×Int×Int)):Option qd:=
 (qQ f1.1).bind fun y2=>
 (catR ((⟨#[40]⟩:qd)) y2).bind fun u3=>
 (catR (((⟨#[40]⟩:qd))++y2) ((⟨#[44]⟩:qd))).bind fun u4=>
 (qQ f1.2.1).bind fun y5=>
 (catR ((((⟨#[40]⟩:qd))++y2)++((⟨#[44]⟩:qd))) y5).bind fun u6=>
 (catR (((((⟨#[40]⟩:qd))++y2)++((⟨#[44]⟩:qd)))++y5) ((⟨#[44]⟩:qd))).bind fun u7=>
 (qQ f1.2.2).bind fun y8=>
 (catR ((((((⟨#[40]⟩:qd))++y2)++((⟨#[44]⟩:qd)))++y5)++((⟨#[44]⟩:qd))) y8).bind fun u9=>
 (catR (((((((⟨#[40]⟩:qd))++y2)++((⟨#[44]⟩:qd)))++y5)++((⟨#[44]⟩:qd)))++y8) ((⟨#[41]⟩:qd))).bind fun u10=>
 some ((((((((⟨#[40]⟩:qd))++y2)++((⟨#[44]⟩:qd)))++y5)++((⟨#[44]⟩:qd)))++y8)++((⟨#[41]⟩:qd)))
def zAu(vm1:(Int×Int×Int×Int)):Option qd:=
 (qQ vm1.1).bind fun y2=>
 (catR ((⟨#[91]⟩:qd)) y2).bind fun u3=>
 (catR (((⟨#[91]⟩:qd))++y2) ((⟨#[44]⟩:qd))).bind fun u4=>
 (qQ vm1.2.1).bind fun y5=>
 (catR ((((⟨#[91]⟩:qd))++y2)++((⟨#[44]⟩:qd))) y5).bind fun u6=>
 (catR (((((⟨#[91]⟩:qd))++y2)++((⟨#[44]⟩:qd)))++y5) ((⟨#[59]⟩:qd))).bind fun u7=>
 (qQ vm1.2.2.1).bind fun y8=>
 (catR ((((((⟨#[91]⟩:qd))++y2)++((⟨#[44]⟩:qd)))++y5)++((⟨#[59]⟩:qd))) y8).bind fun u9=>
 (catR (((((((⟨#[91]⟩:qd))++y2)++((⟨#[44]⟩:qd)))++y5)++((⟨#[59]⟩:qd)))++y8) ((⟨#[44]⟩:qd))).bind fun u10=>
 (qQ vm1.2.2.2).bind fun y11=>
 (catR ((((((((⟨#[91]⟩:qd))++y2)++((⟨#[44]⟩:qd)))++y5)++((⟨#[59]⟩:qd)))++y8)++((⟨#[44]⟩:qd))) y11).bind fun u12=>
 (catR (((((((((⟨#[91]⟩:qd))++y2)++((⟨#[44]⟩:qd)))++y5)++((⟨#[59]⟩:qd)))++y8)++((⟨#[44]⟩:qd)))++y11) ((⟨#[93]⟩:qd))).bind fun u13=>
 some ((((((((((⟨#[91]⟩:qd))++y2)++((⟨#[44]⟩:qd)))++y5)++((⟨#[59]⟩:qd)))++y8)++((⟨#[44]⟩:qd)))++y11)++((⟨#[93]⟩:qd)))
def zBq(l1:List qd):Nat→qd→Int→Option qd
 |0,_,_=>none
 |n+1,out2,t3=>
  bif (ltI t3 ((l1.length:Int))) then
   (
    (getI l1 t3).bind fun e7=>
    bif (ltI 0 t3) then
     (
      (catR out2 ((⟨#[32]⟩:qd))).bind fun u9=>
      (catR (out2++((⟨#[32]⟩:qd))) e7).bind fun u10=>
      sI (w64 (t3+1)) fun t11=>
      zBq l1 n ((out2++((⟨#[32]⟩:qd)))++e7) t11
     )
    else
     (
      (catR out2 e7).bind fun u12=>
      sI (w64 (t3+1)) fun t13=>
      zBq l1 n (out2++e7) t13
     )
   )
  else
   (
    some out2
   )
def zAs(l1:List qd):Option qd:=
 (zBq l1 FU ((⟨#[]⟩:qd)) 0).bind fun o5=>
 some o5
def zAi(f1:(Int×Int×Int))(g2:(Int×Int×Int)):Option (qd×Bool):=
 (zBd f1 g2).bind fun y3=>
 bif (!y3.2) then
  (
   some (((⟨#[]⟩:qd),false))
  )
 else
  (
   (zAN f1).bind fun y5=>
   (zAN g2).bind fun y6=>
   (zAu y3.1).bind fun y7=>
   (zAs ([(⟨#[101,113,117,105,118,97,108,101,110,116]⟩:qd),y5,y6,y7])).bind fun y8=>
   some ((y8,true))
  )
def zAC(cc1:((List Int)×Int×Int))(vn2:Int):Option (Bool×((List Int)×Int×Int)):=
 (zC cc1 vn2).bind fun y3=>
 some ((eqI y3.1 0,y3.2))
def zBZ(cc1:((List Int)×Int×Int)):Option ((Int×Int×Int)×((List Int)×Int×Int)):=
 (zAC cc1 12).bind fun y2=>
 bif y2.1 then
  (
   (zAF y2.2).bind fun y4=>
   some ((y4.1,y4.2))
  )
 else
  (
   (zA4 y2.2).bind fun y5=>
   (j0 y5.2 y5.1).bind fun y6=>
   (zAC y6.2 2).bind fun y7=>
   bif y7.1 then
    (
     (jT y7.2 y6.1).bind fun y9=>
     some ((y9.1,y9.2))
    )
   else
    (
     some ((y6.1,y7.2))
    )
  )
def zDw(f1:(Int×Int×Int)):Option Bool:=
 (jO f1).bind fun y2=>
 (bif y2 then ((qT f1).bind fun y4=>some (leI (-2000) y4)) else some false).bind fun b5=>
 some b5
def zDQ(f1:(Int×Int×Int)):Option Bool:=
 (zDw f1).bind fun y2=>
 (bif y2 then ((zAT f1).bind fun y4=>some (eqI y4 1)) else some false).bind fun b5=>
 some b5
def zAb(cc1:((List Int)×Int×Int)):Option ((Int×Int×Int)×(Int×Int×Int)×((List Int)×Int×Int)):=
 (zBZ cc1).bind fun y2=>
 (zDQ y2.1).bind fun y3=>
 (bif (!y3) then some ((true,y2.2)) else ((zAC y2.2 16).bind fun y5=>some ((y5.1,y5.2)))).bind fun b6=>
 bif b6.1 then
  (
   (zBZ b6.2).bind fun y8=>
   some ((y2.1,y8.1,y8.2))
  )
 else
  (
   (qT y2.1).bind fun y9=>
   (j0 b6.2 y9).bind fun y10=>
   (zAC y10.2 2).bind fun y11=>
   bif y11.1 then
    (
     (jT y11.2 y10.1).bind fun y13=>
     some ((y2.1,y13.1,y13.2))
    )
   else
    (
     some ((y2.1,y10.1,y11.2))
    )
  )
def zAq(f1:(Int×Int×Int))(g2:(Int×Int×Int)):Option (qd×Bool):=
 (jO f1).bind fun y3=>
 (bif (!y3) then some true else ((jO g2).bind fun y5=>some (!y5))).bind fun b6=>
 bif b6 then
  (
   some (((⟨#[]⟩:qd),false))
  )
 else
  (
   (qM f1).bind fun y8=>
   (qM g2).bind fun y9=>
   (some (((y8.1.1==y9.1.1)&&((y8.1.2.1==y9.1.2.1)&&(y8.1.2.2==y9.1.2.2))))).bind fun t10=>
   bif t10 then
    (
     some (((⟨#[]⟩:qd),false))
    )
   else
    (
     (zAN f1).bind fun y12=>
     (zAu y8.2).bind fun y13=>
     (zAN y8.1).bind fun y14=>
     (zAN g2).bind fun y15=>
     (zAu y9.2).bind fun y16=>
     (zAN y9.1).bind fun y17=>
     (zAs ([(⟨#[100,105,102,102,101,114,101,110,116]⟩:qd),y12,y13,y14,y15,y16,y17])).bind fun y18=>
     some ((y18,true))
    )
  )
def zBL(f1:(Int×Int×Int)):Option (Int×Int×Int):=
 (qM f1).bind fun y2=>
 some y2.1
def zC5(cc1:((List Int)×Int×Int))(f2:(Int×Int×Int)):Option (Int×((List Int)×Int×Int)):=
 (zC cc1 8).bind fun y3=>
 bif (eqI y3.1 0) then
  (
   (jE y3.2 ([0,1,-1,10000,10001,4611686018427387904])).bind fun y5=>
   some ((y5.1,y5.2))
  )
 else
  (
   (
    bif (eqI y3.1 1) then
     (
      some (eqI y3.1 1)
     )
    else
     (
      some (eqI y3.1 2)
     )
   ).bind fun j6=>
   bif j6 then
    (
     (zC y3.2 200).bind fun y9=>
     sI (w64 (1+y9.1)) fun t10=>
     some ((t10,y9.2))
    )
   else
    (
     bif (eqI y3.1 3) then
      (
       (zC y3.2 10000).bind fun y12=>
       sI (w64 (1+y12.1)) fun t13=>
       some ((t13,y12.2))
      )
     else
      (
       (zDw f2).bind fun y14=>
       bif (!y14) then
        (
         (zC y3.2 50).bind fun y16=>
         sI (w64 (1+y16.1)) fun t17=>
         some ((t17,y16.2))
        )
       else
        (
         (zBL f2).bind fun y18=>
         (zC y3.2 13).bind fun y19=>
         (zC y19.2 13).bind fun y20=>
         (zBM y18 (w64 (y19.1 - 6)) (w64 (y20.1 - 6))).bind fun y21=>
         (zAC y20.2 4).bind fun y22=>
         bif y22.1 then
          (
           (jE y22.2 ([4,9,25,2,3])).bind fun y24=>
           sI (w64 (y21*y24.1)) fun vn25=>
           some ((vn25,y24.2))
          )
         else
          (
           some ((y21,y22.2))
          )
        )
      )
    )
  )
def zCQ(cc1:((List Int)×Int×Int)):Option ((Int×Int×Int)×Int×((List Int)×Int×Int)):=
 (zA4 cc1).bind fun y2=>
 (j0 y2.2 y2.1).bind fun y3=>
 (jT y3.2 y3.1).bind fun y4=>
 (
  (zC y4.2 12).bind fun y6=>
  bif (eqI y6.1 0) then
   (
    (zAF y6.2).bind fun y8=>
    some (y8.1.1,y8.1.2.1,y8.1.2.2,y8.2.1,y8.2.2.1,y8.2.2.2)
   )
  else
   (
    bif (eqI y6.1 1) then
     (
      (zC y6.2 4).bind fun y10=>
      some (3,y10.1,3,y10.2.1,y10.2.2.1,y10.2.2.2)
     )
    else
     (
      bif (eqI y6.1 2) then
       (
        (zC y6.2 2).bind fun y12=>
        (zC y12.2 2).bind fun y13=>
        sI (w64 (1+y12.1)) fun f14=>
        sI (w64 (1+y13.1)) fun f15=>
        some (f14,0,f15,y13.2.1,y13.2.2.1,y13.2.2.2)
       )
      else
       (
        some (y4.1.1,y4.1.2.1,y4.1.2.2,y6.2.1,y6.2.2.1,y6.2.2.2)
       )
     )
   )
 ).bind fun j5=>
 (zC5 j5.2.2.2 ((j5.1,j5.2.1,j5.2.2.1))).bind fun y16=>
 some (((j5.1,j5.2.1,j5.2.2.1),y16.1,y16.2))
def zCd(vn1:Int):Option Bool:=
 (zAX vn1 1 10000).bind fun y2=>
 some y2
def zDU(vn1:Int):Nat→Int→Int→Option Int
 |0,_,_=>none
 |n+1,lo2,hi3=>
  bif (ltI lo2 hi3) then
   (
    sI (w64 (Int.tdiv (w64 ((w64 (lo2+hi3))+1)) 2)) fun mid7=>
    bif (leI (w64 (mid7*mid7)) vn1) then
     (
      zDU vn1 n mid7 hi3
     )
    else
     (
      sI (w64 (mid7 - 1)) fun hi9=>
      zDU vn1 n lo2 hi9
     )
   )
  else
   (
    some lo2
   )
def zDO(vn1:Int):Option Int:=
 (zDU vn1 FU 0 1000000000).bind fun o5=>
 some o5
def zDg(l1:List (Int×Int))(p2:(Int×Int)):Nat→Int→Option (Unit ⊕ Bool)
 |0,_=>none
 |n+1,t3=>
  bif (ltI t3 ((l1.length:Int))) then
   (
    (getI l1 t3).bind fun e7=>
    bif (((e7.1==p2.1)&&(e7.2==p2.2))) then
     (
      some (.inr true)
     )
    else
     (
      sI (w64 (t3+1)) fun t9=>
      zDg l1 p2 n t9
     )
   )
  else
   (
    some (.inl ())
   )
def zER(l1:List (Int×Int))(p2:(Int×Int)):Option Bool:=
 (zDg l1 p2 FU 0).bind fun qo5=>
 match qo5 with
 | .inr r=>some r
 | .inl o5=>some false
def zDf(l1:List (Int×Int))(p2:(Int×Int)):Nat→Int→Option Int
 |0,_=>none
 |n+1,k3=>
  (bif (ltI k3 ((l1.length:Int))) then ((getI l1 k3).bind fun e7=>(bif (ltI e7.1 p2.1) then some true else ((getI l1 k3).bind fun e9=>(bif (eqI e9.1 p2.1) then ((getI l1 k3).bind fun e11=>some (ltI e11.2 p2.2)) else some false).bind fun b12=>some b12)).bind fun b13=>some b13) else some false).bind fun b14=>
  bif b14 then
   (
    sI (w64 (k3+1)) fun k16=>
    zDf l1 p2 n k16
   )
  else
   (
    some k3
   )
def zFH(l1:List (Int×Int))(p2:(Int×Int)):Option (List (Int×Int)):=
 (zDf l1 p2 FU 0).bind fun o5=>
 (slc l1.length 0 o5).bind fun u17=>
 (room ((([]:List (Int×Int))).length+(subl l1 0 o5).length)).bind fun u18=>
 (room (((([]:List (Int×Int)))++(subl l1 0 o5)).length+([p2]).length)).bind fun u19=>
 (slc l1.length o5 ((l1.length:Int))).bind fun u20=>
 (room ((((([]:List (Int×Int)))++(subl l1 0 o5))++([p2])).length+(subl l1 o5 ((l1.length:Int))).length)).bind fun u21=>
 (some ((((([]:List (Int×Int)))++(subl l1 0 o5))++([p2]))++(subl l1 o5 ((l1.length:Int))))).bind fun l22=>
 some l22
def zAp(e21:Int)(f1:(Int×Int×Int))(t14:Int)(t16:Int)(t22:Int)(vn2:Int)(y10:Int)(y3:Int)(y4:Int):Nat→List (Int×Int)→Int→Option (List (Int×Int))
 |0,_,_=>none
 |n+1,out23,t24=>
  bif (ltI t24 t22) then
   (
    (getI ([y10,w64 (0 - y10)]:List Int) t24).bind fun e28=>
    (getI ([y10,w64 (0 - y10)]:List Int) t24).bind fun e29=>
    (nz (w64 (2*f1.1))).bind fun z30=>
    (some (eqI (Int.tmod (w64 (e29 - (w64 (f1.2.1*e21)))) (w64 (2*f1.1))) 0)).bind fun t31=>
    bif t31 then
     (
      (nz (w64 (2*f1.1))).bind fun z33=>
      sI (w64 (Int.tdiv (w64 (e29 - (w64 (f1.2.1*e21)))) (w64 (2*f1.1)))) fun f34=>
      (zER out23 ((f34,e21))).bind fun y35=>
      bif (!y35) then
       (
        (zFH out23 ((f34,e21))).bind fun y37=>
        sI (w64 (t24+1)) fun t38=>
        zAp e21 f1 t14 t16 t22 vn2 y10 y3 y4 n y37 t38
       )
      else
       (
        sI (w64 (t24+1)) fun t39=>
        zAp e21 f1 t14 t16 t22 vn2 y10 y3 y4 n out23 t39
       )
     )
    else
     (
      sI (w64 (t24+1)) fun t40=>
      zAp e21 f1 t14 t16 t22 vn2 y10 y3 y4 n out23 t40
     )
   )
  else
   (
    some out23
   )
def zCS(f1:(Int×Int×Int))(t14:Int)(vn2:Int)(y10:Int)(y3:Int)(y4:Int):Nat→List (Int×Int)→Int→Option (List (Int×Int))
 |0,_,_=>none
 |n+1,out15,t16=>
  bif (ltI t16 t14) then
   (
    (getI ([y4,w64 (0 - y4)]:List Int) t16).bind fun e20=>
    (getI ([y4,w64 (0 - y4)]:List Int) t16).bind fun e21=>
    sI ((([y10,w64 (0 - y10)]).length:Int)) fun t22=>
    (zAp e21 f1 t14 t16 t22 vn2 y10 y3 y4 FU out15 0).bind fun o26=>
    sI (w64 (t16+1)) fun t41=>
    zCS f1 t14 vn2 y10 y3 y4 n o26 t41
   )
  else
   (
    some out15
   )
def zED(f1:(Int×Int×Int))(vn2:Int)(y3:Int):Nat→Int→List (Int×Int)→Option (List (Int×Int))
 |0,_,_=>none
 |n+1,y4,out5=>
  (some (leI (w64 ((w64 ((w64 (0 - y3))*y4))*y4)) (w64 ((w64 (4*f1.1))*vn2)))).bind fun t8=>
  bif t8 then
   (
    (zDO (w64 ((w64 ((w64 (y3*y4))*y4))+(w64 ((w64 (4*f1.1))*vn2))))).bind fun y10=>
    (some (!eqI (w64 (y10*y10)) (w64 ((w64 ((w64 (y3*y4))*y4))+(w64 ((w64 (4*f1.1))*vn2)))))).bind fun t11=>
    bif t11 then
     (
      sI (w64 (y4+1)) fun y13=>
      zED f1 vn2 y3 n y13 out5
     )
    else
     (
      sI ((([y4,w64 (0 - y4)]).length:Int)) fun t14=>
      (zCS f1 t14 vn2 y10 y3 y4 FU out5 0).bind fun o18=>
      sI (w64 (y4+1)) fun y42=>
      zED f1 vn2 y3 n y42 o18
     )
   )
  else
   (
    some out5
   )
def zHB(f1:(Int×Int×Int))(vn2:Int):Option (List (Int×Int)):=
 (qT f1).bind fun y3=>
 (zED f1 vn2 y3 FU 0 (([]:List (Int×Int)))).bind fun o7=>
 some o7
def zAv(l1:List (Int×Int)):Nat→Int→List (Int×Int)→Option (List (Int×Int))
 |0,_,_=>none
 |n+1,t2,l3=>
  bif (ltI t2 ((l1.length:Int))) then
   (
    (getI l1 t2).bind fun e7=>
    (zAj e7.1 e7.2).bind fun y8=>
    bif (eqI y8 1) then
     (
      (room (l3.length+([e7]).length)).bind fun u10=>
      sI (w64 (t2+1)) fun t11=>
      zAv l1 n t11 (l3++([e7]))
     )
    else
     (
      sI (w64 (t2+1)) fun t12=>
      zAv l1 n t12 l3
     )
   )
  else
   (
    some l3
   )
def zEQ(l1:List (Int×Int)):Option (List (Int×Int)):=
 (zAv l1 FU 0 (([]:List (Int×Int)))).bind fun o5=>
 some o5
def zAl(f1:(Int×Int×Int))(vn2:Int):Option ((List (Int×Int))×Bool):=
 (zDw f1).bind fun y3=>
 (bif (!y3) then some true else ((zCd vn2).bind fun y5=>some (!y5))).bind fun b6=>
 bif b6 then
  (
   some ((([]:List (Int×Int)),false))
  )
 else
  (
   (zHB f1 vn2).bind fun y8=>
   (zEQ y8).bind fun y9=>
   some ((y9,true))
  )
def zBr(f1:(Int×Int×Int))(vn2:Int):Option (qd×Bool):=
 (zAl f1 vn2).bind fun y3=>
 bif (bif (!y3.2) then true else (eqI ((y3.1.length:Int)) 0)) then
  (
   some (((⟨#[]⟩:qd),false))
  )
 else
  (
   (zAN f1).bind fun y6=>
   (qQ vn2).bind fun y7=>
   (getI y3.1 0).bind fun e8=>
   (getI y3.1 0).bind fun e9=>
   (qQ e9.1).bind fun y10=>
   (getI y3.1 0).bind fun e11=>
   (getI y3.1 0).bind fun e12=>
   (qQ e12.2).bind fun y13=>
   (zAs ([(⟨#[118,97,108,117,101]⟩:qd),y6,y7,y10,y13])).bind fun y14=>
   some ((y14,true))
  )
def zEs(d3:Int):Nat→Int→List Int→Option (Int×(List Int))
 |0,_,_=>none
 |n+1,vn8,l9=>
  (nz d3).bind fun z12=>
  bif (eqI (Int.tmod vn8 d3) 0) then
   (
    (room (l9.length+([d3]).length)).bind fun u14=>
    (nz d3).bind fun z15=>
    sI (w64 (Int.tdiv vn8 d3)) fun vn16=>
    zEs d3 n vn16 (l9++([d3]))
   )
  else
   (
    some (vn8,l9)
   )
def zFR:Nat→Int→Int→List Int→Option (Int×(List Int))
 |0,_,_,_=>none
 |n+1,vn2,d3,l4=>
  bif (leI (w64 (d3*d3)) vn2) then
   (
    (zEs d3 FU vn2 l4).bind fun o11=>
    sI (w64 (d3+1)) fun d17=>
    zFR n o11.1 d17 o11.2
   )
  else
   (
    some (vn2,l4)
   )
def zG4(vn1:Int):Option (List Int):=
 (zFR FU vn1 2 (([]:List Int))).bind fun o6=>
 bif (ltI 1 o6.1) then
  (
   (room (o6.2.length+([o6.1]).length)).bind fun u19=>
   some (o6.2++([o6.1]))
  )
 else
  (
   some o6.2
  )
def zH2(l1:List Int)(vn2:Int):Nat→Int→Option Int
 |0,_=>none
 |n+1,k3=>
  (bif (ltI k3 ((l1.length:Int))) then ((getI l1 k3).bind fun e7=>some (ltI e7 vn2)) else some false).bind fun b8=>
  bif b8 then
   (
    sI (w64 (k3+1)) fun k10=>
    zH2 l1 vn2 n k10
   )
  else
   (
    some k3
   )
def zKn(l1:List Int)(vn2:Int):Option (List Int):=
 (zH2 l1 vn2 FU 0).bind fun o5=>
 (bif (ltI o5 ((l1.length:Int))) then ((getI l1 o5).bind fun e12=>some (eqI e12 vn2)) else some false).bind fun b13=>
 bif b13 then
  (
   some l1
  )
 else
  (
   (slc l1.length 0 o5).bind fun u15=>
   (room ((([]:List Int)).length+(subl l1 0 o5).length)).bind fun u16=>
   (room (((([]:List Int))++(subl l1 0 o5)).length+([vn2]).length)).bind fun u17=>
   (slc l1.length o5 ((l1.length:Int))).bind fun u18=>
   (room ((((([]:List Int))++(subl l1 0 o5))++([vn2])).length+(subl l1 o5 ((l1.length:Int))).length)).bind fun u19=>
   (some ((((([]:List Int))++(subl l1 0 o5))++([vn2]))++(subl l1 o5 ((l1.length:Int))))).bind fun l20=>
   some l20
  )
def zFc(y2:List Int):Nat→List Int→Int→Option (List Int)
 |0,_,_=>none
 |n+1,out3,t4=>
  bif (ltI t4 ((y2.length:Int))) then
   (
    (getI y2 t4).bind fun e8=>
    (getI y2 t4).bind fun e9=>
    (zKn out3 e9).bind fun y10=>
    sI (w64 (t4+1)) fun t11=>
    zFc y2 n y10 t11
   )
  else
   (
    some out3
   )
def zDh(vn1:Int):Option (List Int):=
 (zG4 vn1).bind fun y2=>
 (zFc y2 FU (([]:List Int)) 0).bind fun o6=>
 some o6
def zEt(p2:Int):Nat→Int→Int→Option Int
 |0,_,_=>none
 |n+1,vn3,k4=>
  (nz p2).bind fun z7=>
  bif (eqI (Int.tmod vn3 p2) 0) then
   (
    (nz p2).bind fun z9=>
    sI (w64 (Int.tdiv vn3 p2)) fun vn10=>
    sI (w64 (k4+1)) fun k11=>
    zEt p2 n vn10 k11
   )
  else
   (
    some k4
   )
def zB7(vn1:Int)(p2:Int):Option Int:=
 (zEt p2 FU vn1 0).bind fun o6=>
 some o6
def zB3(d1:Int)(vn2:Int):Nat→Int→Option (Unit ⊕ Bool)
 |0,_=>none
 |n+1,b3=>
  bif (ltI b3 (w64 (2*vn2))) then
   (
    (nz (w64 (4*vn2))).bind fun z7=>
    (some (eqI (Int.tmod (w64 ((w64 (b3*b3)) - d1)) (w64 (4*vn2))) 0)).bind fun t8=>
    bif t8 then
     (
      some (.inr true)
     )
    else
     (
      sI (w64 (b3+1)) fun b10=>
      zB3 d1 vn2 n b10
     )
   )
  else
   (
    some (.inl ())
   )
def zEC(d1:Int)(vn2:Int):Option Bool:=
 (zB3 d1 vn2 FU 0).bind fun qo5=>
 match qo5 with
 | .inr r=>some r
 | .inl o5=>some false
def zAc(d1:Int)(vn2:Int)(y8:List Int):Nat→Int→Option (Unit ⊕ (Int×Bool))
 |0,_=>none
 |n+1,t9=>
  bif (ltI t9 ((y8.length:Int))) then
   (
    (getI y8 t9).bind fun e13=>
    (zB7 vn2 e13).bind fun y14=>
    (bif (eqI (Int.tmod y14 2) 1) then ((zEC d1 e13).bind fun y16=>some (!y16)) else some false).bind fun b17=>
    bif b17 then
     (
      some (.inr (((e13,true))))
     )
    else
     (
      sI (w64 (t9+1)) fun t19=>
      zAc d1 vn2 y8 n t19
     )
   )
  else
   (
    some (.inl ())
   )
def zCE(d1:Int)(vn2:Int):Option (Int×Bool):=
 (zC9 d1).bind fun y3=>
 (bif (!y3) then some true else ((zCd vn2).bind fun y5=>some (!y5))).bind fun b6=>
 bif b6 then
  (
   some ((0,false))
  )
 else
  (
   (zDh vn2).bind fun y8=>
   (zAc d1 vn2 y8 FU 0).bind fun qo11=>
   match qo11 with
   | .inr r=>some r
   | .inl o11=>some ((0,false))
  )
def zAh(d1:Int)(vn2:Int):Option (qd×Bool):=
 (zCE d1 vn2).bind fun y3=>
 bif (bif (!y3.2) then true else (ltI 2500 y3.1)) then
  (
   some (((⟨#[]⟩:qd),false))
  )
 else
  (
   (qQ d1).bind fun y6=>
   (qQ vn2).bind fun y7=>
   (qQ y3.1).bind fun y8=>
   (zAs ([(⟨#[111,98,115,116,114,117,99,116,105,111,110]⟩:qd),y6,y7,y8])).bind fun y9=>
   some ((y9,true))
  )
def zES(f1:(Int×Int×Int))(g2:(Int×Int×Int)):Option Bool:=
 (zDQ f1).bind fun y3=>
 (bif y3 then ((zDQ g2).bind fun y5=>some y5) else some false).bind fun b6=>
 (bif b6 then ((qT f1).bind fun y8=>(qT g2).bind fun y9=>some (eqI y8 y9)) else some false).bind fun b10=>
 some b10
def zD1(a2:Int)(g1:(Int×Int×Int))(k3:Int)(x7:Int):Nat→Int→Option (Unit ⊕ (Int×Int))
 |0,_=>none
 |n+1,y11=>
  bif (leI y11 k3) then
   (
    (zCa x7 y11).bind fun y15=>
    (bif (eqI y15 k3) then ((zAj x7 y11).bind fun y17=>some (eqI y17 1)) else some false).bind fun b18=>
    (bif b18 then ((zBM g1 x7 y11).bind fun y20=>(zAj y20 a2).bind fun y21=>some (eqI y21 1)) else some false).bind fun b22=>
    bif b22 then
     (
      some (.inr (((x7,y11))))
     )
    else
     (
      sI (w64 (y11+1)) fun y24=>
      zD1 a2 g1 k3 x7 n y24
     )
   )
  else
   (
    some (.inl ())
   )
def zDp(a2:Int)(g1:(Int×Int×Int))(k3:Int):Nat→Int→Option (Unit ⊕ (Int×Int))
 |0,_=>none
 |n+1,x7=>
  bif (leI x7 k3) then
   (
    (zD1 a2 g1 k3 x7 FU 0).bind fun qo13=>
    match qo13 with
    | .inr r=>some (.inr r)
    | .inl o13=>
     sI (w64 (x7+1)) fun x25=>
     zDp a2 g1 k3 n x25
   )
  else
   (
    some (.inl ())
   )
def zDq(a2:Int)(g1:(Int×Int×Int)):Nat→Int→Option (Unit ⊕ (Int×Int))
 |0,_=>none
 |n+1,k3=>
  bif (leI k3 100) then
   (
    (zDp a2 g1 k3 FU 0).bind fun qo9=>
    match qo9 with
    | .inr r=>some (.inr r)
    | .inl o9=>
     sI (w64 (k3+1)) fun k26=>
     zDq a2 g1 n k26
   )
  else
   (
    some (.inl ())
   )
def zD2(g1:(Int×Int×Int))(a2:Int):Option (Int×Int):=
 (zDq a2 g1 FU 1).bind fun qo5=>
 match qo5 with
 | .inr r=>some r
 | .inl o5=>some ((1,0))
def zJO(vn1:Int):Option Int:=
 bif (ltI 0 vn1) then
  (
   some 1
  )
 else
  (
   bif (ltI vn1 0) then
    (
     some (-1)
    )
   else
    (
     some 0
    )
  )
def zDF(vm2:Int):Nat→Int→Int→Int→Int→Option (Int×Int)
 |0,_,_,_,_=>none
 |n+1,vr4,next5,x6,y7=>
  bif (!eqI next5 0) then
   (
    (nz next5).bind fun z11=>
    sI (w64 (Int.tdiv vr4 next5)) fun q12=>
    sI (w64 (vr4 - (w64 (q12*next5)))) fun next13=>
    sI (w64 (x6 - (w64 (q12*y7)))) fun y14=>
    zDF vm2 n next5 next13 y7 y14
   )
  else
   (
    some (vr4,x6)
   )
def zDV(a1:Int)(vm2:Int):Option Int:=
 (jI a1 vm2).bind fun y3=>
 (zDF vm2 FU vm2 y3 0 1).bind fun o9=>
 bif (!eqI o9.1 1) then
  (
   some (-1)
  )
 else
  (
   (jI o9.2 vm2).bind fun y16=>
   some y16
  )
def zE7(a1:Int)(b2:Int):Option (Int×Int×Int):=
 (zAj a1 b2).bind fun y3=>
 bif (eqI b2 0) then
  (
   (zJO a1).bind fun y5=>
   some ((y3,y5,0))
  )
 else
  (
   (nz y3).bind fun z6=>
   (zAk b2).bind fun y7=>
   (nz y3).bind fun z8=>
   (zDV (w64 (Int.tdiv a1 y3)) (w64 (Int.tdiv y7 y3))).bind fun y9=>
   (nz b2).bind fun z10=>
   sI (w64 (Int.tdiv (w64 (y3 - (w64 (a1*y9)))) b2)) fun t11=>
   some ((y3,y9,t11))
  )
def zB6(f1:(Int×Int×Int))(x2:Int)(y3:Int):Option ((Int×Int×Int)×(Int×Int×Int×Int)):=
 (zE7 x2 y3).bind fun y4=>
 (zBM f1 x2 y3).bind fun y5=>
 sI (w64 (0 - y4.2.2)) fun q6=>
 (zEE f1 x2 y3 q6 y4.2.1).bind fun y7=>
 (jI y7 (w64 (2*y5))).bind fun y8=>
 (nz (w64 (2*y5))).bind fun z9=>
 sI (w64 (Int.tdiv (w64 (y8 - y7)) (w64 (2*y5)))) fun t10=>
 sI (w64 (q6+(w64 (x2*t10)))) fun f11=>
 sI (w64 (y4.2.1+(w64 (y3*t10)))) fun f12=>
 sI (w64 (y7+(w64 ((w64 (2*y5))*t10)))) fun b13=>
 (qT f1).bind fun y14=>
 (nz (w64 (4*y5))).bind fun z15=>
 sI (w64 (Int.tdiv (w64 ((w64 (b13*b13)) - y14)) (w64 (4*y5)))) fun f16=>
 some (((y5,b13,f16),(x2,f11,y3,f12)))
def zDi(a1:Int)(vm2:Int)(b3:Int)(vn4:Int):Option (Int×Int×Bool):=
 (zAj vm2 vn4).bind fun y5=>
 (nz y5).bind fun z6=>
 bif (!eqI (Int.tmod (w64 (b3 - a1)) y5) 0) then
  (
   some ((0,0,false))
  )
 else
  (
   (nz y5).bind fun z8=>
   (nz y5).bind fun z9=>
   (nz y5).bind fun z10=>
   (zDV (w64 (Int.tdiv vm2 y5)) (w64 (Int.tdiv vn4 y5))).bind fun y11=>
   (nz y5).bind fun z12=>
   (jI (w64 ((w64 (Int.tdiv (w64 (b3 - a1)) y5))*y11)) (w64 (Int.tdiv vn4 y5))).bind fun y13=>
   (nz y5).bind fun z14=>
   sI (w64 ((w64 (Int.tdiv vm2 y5))*vn4)) fun all15=>
   (jI (w64 (a1+(w64 (vm2*y13)))) all15).bind fun y16=>
   some ((y16,all15,true))
  )
def zEu(t1:Int):Option (Int×Int×Int×Int):=
 some ((1,t1,0,1))
def zCe(f1:(Int×Int×Int))(g2:(Int×Int×Int)):Option ((Int×Int×Int)×(Int×Int×Int)×(Int×Int×Int×Int)×(Int×Int×Int×Int)):=
 (qM f1).bind fun y3=>
 (qM g2).bind fun y4=>
 (zD2 y4.1 y3.1.1).bind fun y5=>
 (zB6 y4.1 y5.1 y5.2).bind fun y6=>
 (zZ y4.2 y6.2).bind fun y7=>
 (jI y3.1.2.1 (w64 (2*y3.1.1))).bind fun y8=>
 (zDi y8 (w64 (2*y3.1.1)) y6.1.2.1 (w64 (2*y6.1.1))).bind fun y9=>
 (nz (w64 (2*y3.1.1))).bind fun z10=>
 (zEu (w64 (Int.tdiv (w64 (y9.1 - y3.1.2.1)) (w64 (2*y3.1.1))))).bind fun y11=>
 (zZ y3.2 y11).bind fun y12=>
 (nz (w64 (2*y6.1.1))).bind fun z13=>
 (zEu (w64 (Int.tdiv (w64 (y9.1 - y6.1.2.1)) (w64 (2*y6.1.1))))).bind fun y14=>
 (zZ y7 y14).bind fun y15=>
 (qT y3.1).bind fun y16=>
 (nz (w64 ((w64 (4*y3.1.1))*y6.1.1))).bind fun z17=>
 sI (w64 (Int.tdiv (w64 ((w64 (y9.1*y9.1)) - y16)) (w64 ((w64 (4*y3.1.1))*y6.1.1)))) fun cc18=>
 sI (w64 (y3.1.1*cc18)) fun f19=>
 sI (w64 (y6.1.1*cc18)) fun f20=>
 some (((y3.1.1,y9.1,f20),(y6.1.1,y9.1,f19),y12,y15))
def zCz(a1:(Int×Int×Int))(e2:(Int×Int×Int)):Option (Int×Int×Int):=
 (nz e2.1).bind fun z3=>
 sI (w64 (a1.1*e2.1)) fun f4=>
 sI (w64 (Int.tdiv a1.2.2 e2.1)) fun f5=>
 some ((f4,a1.2.1,f5))
def zC7(y3:((Int×Int×Int)×(Int×Int×Int)×(Int×Int×Int×Int)×(Int×Int×Int×Int)))(y4:(Int×Int×Int))(y5:((Int×Int×Int)×(Int×Int×Int×Int)))(y6:(Int×Int×Int×Int))(y7:(Int×Int×Int×Int))(y8:(Int×Int×Int×Int)):Nat→Int→List Int→Option (List Int)
 |0,_,_=>none
 |n+1,i10,l11=>
  bif (ltI i10 4) then
   (
    (
     bif (leI 2 i10) then
      (
       some (y6.2.1,y6.2.2.2)
      )
     else
      (
       some (y6.1,y6.2.2.1)
      )
    ).bind fun j15=>
    (
     bif (eqI (Int.tmod i10 2) 1) then
      (
       some (y7.2.1,y7.2.2.2)
      )
     else
      (
       some (y7.1,y7.2.2.1)
      )
    ).bind fun j17=>
    sI (w64 ((w64 (j15.1*j17.1)) - (w64 ((w64 (y4.2.2*j15.2))*j17.2)))) fun p19=>
    sI (w64 ((w64 ((w64 ((w64 (y3.1.1*j15.1))*j17.2))+(w64 ((w64 (y3.2.1.1*j15.2))*j17.1))))+(w64 ((w64 (y4.2.1*j15.2))*j17.2)))) fun q20=>
    (getI l11 i10).bind fun e21=>
    (getI l11 i10).bind fun e22=>
    (some (l11.set (Int.toNat (i10)) (w64 ((w64 (y8.1*p19))+(w64 (y8.2.1*q20)))))).bind fun l23=>
    (getI l23 (w64 (4+i10))).bind fun e24=>
    (getI l23 (w64 (4+i10))).bind fun e25=>
    (some (l23.set (Int.toNat (w64 (4+i10))) (w64 ((w64 (y8.2.2.1*p19))+(w64 (y8.2.2.2*q20)))))).bind fun l26=>
    sI (w64 (i10+1)) fun i27=>
    zC7 y3 y4 y5 y6 y7 y8 n i27 l26
   )
  else
   (
    some l11
   )
def zEF(f1:(Int×Int×Int))(g2:(Int×Int×Int)):Option ((Int×Int×Int)×(List Int)):=
 (zCe f1 g2).bind fun y3=>
 (zCz y3.1 y3.2.1).bind fun y4=>
 (qM y4).bind fun y5=>
 (zC6 y3.2.2.1).bind fun y6=>
 (zC6 y3.2.2.2).bind fun y7=>
 (zC6 y5.2).bind fun y8=>
 (mk 8 8).bind fun u9=>
 (zC7 y3 y4 y5 y6 y7 y8 FU 0 (List.replicate (Int.toNat (8)) ((0:Int)))).bind fun o13=>
 some ((y5.1,o13))
def zE8(hi3:Int)(l1:List Int)(lo2:Int):Nat→Int→Option (Unit ⊕ Bool)
 |0,_=>none
 |n+1,t4=>
  bif (ltI t4 ((l1.length:Int))) then
   (
    (getI l1 t4).bind fun e8=>
    (zAX e8 lo2 hi3).bind fun y9=>
    bif (!y9) then
     (
      some (.inr false)
     )
    else
     (
      sI (w64 (t4+1)) fun t11=>
      zE8 hi3 l1 lo2 n t11
     )
   )
  else
   (
    some (.inl ())
   )
def zFI(l1:List Int)(lo2:Int)(hi3:Int):Option Bool:=
 (zE8 hi3 l1 lo2 FU 0).bind fun qo6=>
 match qo6 with
 | .inr r=>some r
 | .inl o6=>some true
def zBH(f1:(Int×Int×Int))(g2:(Int×Int×Int)):Option ((Int×Int×Int)×(List Int)×Bool):=
 (zES f1 g2).bind fun y3=>
 bif (!y3) then
  (
   some (((0,0,0),([]:List Int),false))
  )
 else
  (
   (zEF f1 g2).bind fun y5=>
   (zFI y5.2 (-1000000) 1000000).bind fun y6=>
   bif (!y6) then
    (
     some (((0,0,0),([]:List Int),false))
    )
   else
    (
     some ((y5.1,y5.2,true))
    )
  )
def zA2(y3:((Int×Int×Int)×(List Int)×Bool)):Nat→Int→List qd→Option (List qd)
 |0,_,_=>none
 |n+1,t9,l10=>
  bif (ltI t9 ((y3.2.1.length:Int))) then
   (
    (getI y3.2.1 t9).bind fun e14=>
    (getI y3.2.1 t9).bind fun e15=>
    (qQ e15).bind fun y16=>
    (room (l10.length+([y16]).length)).bind fun u17=>
    sI (w64 (t9+1)) fun t18=>
    zA2 y3 n t18 (l10++([y16]))
   )
  else
   (
    some l10
   )
def jZ(f1:(Int×Int×Int))(g2:(Int×Int×Int)):Option (qd×Bool):=
 (zBH f1 g2).bind fun y3=>
 bif (!y3.2.2) then
  (
   some (((⟨#[]⟩:qd),false))
  )
 else
  (
   (zAN f1).bind fun y5=>
   (zAN g2).bind fun y6=>
   (zAN y3.1).bind fun y7=>
   (some ([(⟨#[99,111,109,112,111,115,105,116,101]⟩:qd),y5,y6,y7])).bind fun l8=>
   (zA2 y3 FU 0 l8).bind fun o12=>
   (zAs o12).bind fun y19=>
   some ((y19,true))
  )
def zGB(d1:Int):Option (Int×Int×Int):=
 (jI d1 2).bind fun y2=>
 sI (w64 (Int.tdiv (w64 (y2 - d1)) 4)) fun f3=>
 some ((1,y2,f3))
def zET(f1:(Int×Int×Int))(g2:(Int×Int×Int)):Option (Int×Int×Int):=
 (zCe f1 g2).bind fun y3=>
 (zCz y3.1 y3.2.1).bind fun y4=>
 (zBL y4).bind fun y5=>
 some y5
def zCr(y2:(Int×Int×Int)):Nat→Int→Int→Int→Int→Option Int
 |0,_,_,_,_=>none
 |n+1,k3,f4,f5,f6=>
  (qT y2).bind fun y9=>
  (zGB y9).bind fun y10=>
  bif (!((f4==y10.1)&&((f5==y10.2.1)&&(f6==y10.2.2)))) then
   (
    (zET ((f4,f5,f6)) y2).bind fun y12=>
    sI (w64 (k3+1)) fun k13=>
    zCr y2 n k13 y12.1 y12.2.1 y12.2.2
   )
  else
   (
    some k3
   )
def zEv(f1:(Int×Int×Int)):Option Int:=
 (zBL f1).bind fun y2=>
 (zCr y2 FU 1 y2.1 y2.2.1 y2.2.2).bind fun o8=>
 some o8
def zBG(f1:(Int×Int×Int)):Option (qd×Bool):=
 (zDQ f1).bind fun y2=>
 bif (!y2) then
  (
   some (((⟨#[]⟩:qd),false))
  )
 else
  (
   (zAN f1).bind fun y4=>
   (zEv f1).bind fun y5=>
   (zBk FU y5).bind fun y6=>
   (zAs ([(⟨#[111,114,100,101,114]⟩:qd),y4,y6])).bind fun y7=>
   some ((y7,true))
  )
def zGi(vm1:(Int×Int×Int×Int))(vn2:(Int×Int×Int×Int)):Option Bool:=
 bif (!eqI vm1.1 vn2.1) then
  (
   some (ltI vm1.1 vn2.1)
  )
 else
  (
   bif (!eqI vm1.2.1 vn2.2.1) then
    (
     some (ltI vm1.2.1 vn2.2.1)
    )
   else
    (
     bif (!eqI vm1.2.2.1 vn2.2.2.1) then
      (
       some (ltI vm1.2.2.1 vn2.2.2.1)
      )
     else
      (
       some (ltI vm1.2.2.2 vn2.2.2.2)
      )
    )
  )
def zBF(f23:Int)(f24:Int)(f25:Int)(f26:Int)(f6:Int)(f7:Int)(f8:Int)(t10:Int)(u15:Int)(y9:Int):Nat→Int→List (Int×Int×Int×Int)→Option (Int×(List (Int×Int×Int×Int)))
 |0,_,_=>none
 |n+1,vat28,l29=>
  (bif (ltI 0 vat28) then ((getI l29 (w64 (vat28 - 1))).bind fun e33=>(getI l29 (w64 (vat28 - 1))).bind fun e34=>(zGi ((f23,f24,f25,f26)) e34).bind fun y35=>some y35) else some false).bind fun b36=>
  bif b36 then
   (
    (getI l29 (w64 (vat28 - 1))).bind fun e38=>
    (getI l29 (w64 (vat28 - 1))).bind fun e39=>
    (getI l29 vat28).bind fun e40=>
    (getI l29 vat28).bind fun e41=>
    sI (w64 (vat28 - 1)) fun vat42=>
    zBF f23 f24 f25 f26 f6 f7 f8 t10 u15 y9 n vat42 (l29.set (Int.toNat (vat28)) e39)
   )
  else
   (
    some (vat28,l29)
   )
def jN(f6:Int)(f7:Int)(f8:Int)(t10:Int)(y9:Int):Nat→Int→List (Int×Int×Int×Int)→Option (List (Int×Int×Int×Int))
 |0,_,_=>none
 |n+1,u15,l16=>
  bif (leI u15 1) then
   (
    (some (!eqI (w64 ((w64 (t10*t10)) - (w64 ((w64 (y9*u15))*u15)))) 4)).bind fun t20=>
    bif t20 then
     (
      sI (w64 (u15+1)) fun u22=>
      jN f6 f7 f8 t10 y9 n u22 l16
     )
    else
     (
      sI (w64 (Int.tdiv (w64 (t10 - (w64 (f7*u15)))) 2)) fun f23=>
      sI (w64 ((w64 (0 - f8))*u15)) fun f24=>
      sI (w64 (f6*u15)) fun f25=>
      sI (w64 (Int.tdiv (w64 (t10+(w64 (f7*u15)))) 2)) fun f26=>
      (room (l16.length+([(f23,f24,f25,f26)]).length)).bind fun u27=>
      (zBF f23 f24 f25 f26 f6 f7 f8 t10 u15 y9 FU ((l16.length:Int)) (l16++([(f23,f24,f25,f26)]))).bind fun o31=>
      (getI o31.2 o31.1).bind fun e43=>
      (getI o31.2 o31.1).bind fun e44=>
      sI (w64 (u15+1)) fun u45=>
      jN f6 f7 f8 t10 y9 n u45 (o31.2.set (Int.toNat (o31.1)) ((f23,f24,f25,f26)))
     )
   )
  else
   (
    some l16
   )
def zAH(f6:Int)(f7:Int)(f8:Int)(y9:Int):Nat→Int→List (Int×Int×Int×Int)→Option (List (Int×Int×Int×Int))
 |0,_,_=>none
 |n+1,t10,l11=>
  bif (leI t10 2) then
   (
    (jN f6 f7 f8 t10 y9 FU (-1) l11).bind fun o18=>
    sI (w64 (t10+1)) fun t46=>
    zAH f6 f7 f8 y9 n t46 o18
   )
  else
   (
    some l11
   )
def zCP(f1:(Int×Int×Int)):Option (List (Int×Int×Int×Int)):=
 (zAT f1).bind fun y2=>
 (nz y2).bind fun z3=>
 (nz y2).bind fun z4=>
 (nz y2).bind fun z5=>
 sI (w64 (Int.tdiv f1.1 y2)) fun f6=>
 sI (w64 (Int.tdiv f1.2.1 y2)) fun f7=>
 sI (w64 (Int.tdiv f1.2.2 y2)) fun f8=>
 (qT ((f6,f7,f8))).bind fun y9=>
 (zAH f6 f7 f8 y9 FU (-2) (([]:List (Int×Int×Int×Int)))).bind fun o13=>
 some o13
def zCZ(cc1:((List Int)×Int×Int)):Option (Int×((List Int)×Int×Int)):=
 (zC cc1 10).bind fun y2=>
 bif (eqI y2.1 0) then
  (
   (jE y2.2 ([4,9,1000,1001,0,-3,5,997,1004,996,2,1099511627776])).bind fun y4=>
   some ((y4.1,y4.2))
  )
 else
  (
   (
    bif (eqI y2.1 1) then
     (
      some (eqI y2.1 1)
     )
    else
     (
      some (eqI y2.1 2)
     )
   ).bind fun j5=>
   bif j5 then
    (
     (jE y2.2 ([5,8,12,13,60,136,221,229,257,316,401,520,780,840,924])).bind fun y8=>
     some ((y8.1,y8.2))
    )
   else
    (
     (zC y2.2 240).bind fun y9=>
     sI (w64 (5+(w64 (4*y9.1)))) fun d10=>
     (zAC y9.2 2).bind fun y11=>
     bif y11.1 then
      (
       sI (w64 (d10 - 1)) fun d13=>
       some ((d13,y11.2))
      )
     else
      (
       some ((d10,y11.2))
      )
    )
  )
def zF5(vn1:Int):Option Bool:=
 bif (ltI vn1 0) then
  (
   some false
  )
 else
  (
   (zDO vn1).bind fun y3=>
   some (eqI (w64 (y3*y3)) vn1)
  )
def zEf(d1:Int):Option Bool:=
 (zAX d1 5 1000).bind fun y2=>
 (bif y2 then ((jI d1 4).bind fun y4=>some (ltI y4 2)) else some false).bind fun b5=>
 (bif b5 then ((zF5 d1).bind fun y7=>some (!y7)) else some false).bind fun b8=>
 some b8
def zMP(d1:Int):Option Bool:=
 (zAM d1).bind fun y2=>
 (bif y2 then ((jI d1 4).bind fun y4=>some (ltI y4 2)) else some false).bind fun b5=>
 (bif b5 then ((zF5 d1).bind fun y7=>some (!y7)) else some false).bind fun b8=>
 some b8
def zEw(d1:Int):Option ((Int×Int×Int)×Bool):=
 (zMP d1).bind fun y2=>
 bif (!y2) then
  (
   some (((0,0,0),false))
  )
 else
  (
   (jI d1 2).bind fun y4=>
   sI (w64 (Int.tdiv (w64 (y4 - d1)) 4)) fun f5=>
   some (((1,y4,f5),true))
  )
def zMQ(f1:(Int×Int×Int)):Option Bool:=
 (qT f1).bind fun y2=>
 (zDO y2).bind fun y3=>
 (zAk f1.1).bind fun y4=>
 sI (w64 (2*y4)) fun a5=>
 (some (bif (bif (bif (ltI 0 f1.2.1) then (leI f1.2.1 y3) else false) then (ltI (w64 (y3 - f1.2.1)) a5) else false) then (leI a5 (w64 (y3+f1.2.1))) else false)).bind fun t9=>
 some t9
def zJP(f1:(Int×Int×Int)):Option Bool:=
 (zDP f1).bind fun y2=>
 (bif y2 then ((qT f1).bind fun y4=>(zEf y4).bind fun y5=>some y5) else some false).bind fun b6=>
 some b6
def zGj(f1:(Int×Int×Int)):Option (Int×Int×Int×Int):=
 (qT f1).bind fun y2=>
 (zDO y2).bind fun y3=>
 (zAk f1.2.2).bind fun y4=>
 (
  bif (ltI y3 y4) then
   (
    some y4
   )
  else
   (
    some y3
   )
 ).bind fun j5=>
 (jI (w64 (j5+f1.2.1)) (w64 (2*y4))).bind fun y7=>
 sI (w64 (j5 - y7)) fun b8=>
 (nz (w64 (2*f1.2.2))).bind fun z9=>
 sI (w64 (Int.tdiv (w64 (f1.2.1+b8)) (w64 (2*f1.2.2)))) fun f10=>
 some ((0,-1,1,f10))
def zH4(f1:(Int×Int×Int)):Option ((Int×Int×Int)×(Int×Int×Int×Int)×Bool):=
 (zJP f1).bind fun y2=>
 bif (!y2) then
  (
   some (((0,0,0),(0,0,0,0),false))
  )
 else
  (
   (zGj f1).bind fun y4=>
   (zDJ f1 y4).bind fun y5=>
   (zDP y5).bind fun y6=>
   (bif (!y6) then some true else ((zCy y4).bind fun y8=>some (!y8))).bind fun b9=>
   bif b9 then
    (
     some (((0,0,0),(0,0,0,0),false))
    )
   else
    (
     some ((y5,y4,true))
    )
  )
def zFd:Nat→Int→Int→Int→Int→Int→Int→Int→Option ((Int×Int×Int×Int×Int×Int×Int) ⊕ ((Int×Int×Int)×(Int×Int×Int×Int)×Bool))
 |0,_,_,_,_,_,_,_=>none
 |n+1,f2,f3,f4,f5,f6,f7,f8=>
  (zMQ ((f6,f7,f8))).bind fun y11=>
  bif (!y11) then
   (
    (zH4 ((f6,f7,f8))).bind fun y13=>
    bif (!y13.2.2) then
     (
      some (.inr ((((0,0,0),(0,0,0,0),false))))
     )
    else
     (
      (zZ ((f2,f3,f4,f5)) y13.2.1).bind fun y15=>
      (zCy y15).bind fun y16=>
      bif (!y16) then
       (
        some (.inr ((((0,0,0),(0,0,0,0),false))))
       )
      else
       (
        zFd n y15.1 y15.2.1 y15.2.2.1 y15.2.2.2 y13.1.1 y13.1.2.1 y13.1.2.2
       )
     )
   )
  else
   (
    some (.inl (f2,f3,f4,f5,f6,f7,f8))
   )
def zH3(f1:(Int×Int×Int)):Option ((Int×Int×Int)×(Int×Int×Int×Int)×Bool):=
 (zFd FU 1 0 0 1 f1.1 f1.2.1 f1.2.2).bind fun qo10=>
 match qo10 with
 | .inr r=>some r
 | .inl o10=>some ((o10.2.2.2.2,(o10.1,o10.2.1,o10.2.2.1,o10.2.2.2.1),true))
def zIZ(x1:(Int×Int)):Option Bool:=
 (zAX x1.1 (-100000000) 100000000).bind fun y2=>
 (bif y2 then ((zAM x1.2).bind fun y4=>some y4) else some false).bind fun b5=>
 some b5
def zFz(y3:((Int×Int×Int)×(Int×Int×Int×Int)×Bool)):Nat→Int→Int→Int→Int→Int→Int→Int→Option ((Int×Int×Int×Int) ⊕ ((Int×Int)×Bool))
 |0,_,_,_,_,_,_,_=>none
 |n+1,f4,f5,f6,f7,f8,f9,f10=>
  (zGj ((f4,f5,f6))).bind fun y13=>
  (zDJ ((f4,f5,f6)) y13).bind fun y14=>
  (zZ ((f7,f8,f9,f10)) y13).bind fun y15=>
  (zAk y15.1).bind fun y16=>
  (bif (ltI 1000000000 y16) then some true else ((zAk y15.2.1).bind fun y18=>some (ltI 1000000000 y18))).bind fun b19=>
  (bif b19 then some true else ((zAk y15.2.2.1).bind fun y21=>some (ltI 1000000000 y21))).bind fun b22=>
  (bif b22 then some true else ((zAk y15.2.2.2).bind fun y24=>some (ltI 1000000000 y24))).bind fun b25=>
  bif b25 then
   (
    some (.inr ((((0,0),false))))
   )
  else
   (
    (some (((y14.1==y3.1.1)&&((y14.2.1==y3.1.2.1)&&(y14.2.2==y3.1.2.2))))).bind fun t27=>
    bif t27 then
     (
      some (.inl (y15.1,y15.2.1,y15.2.2.1,y15.2.2.2))
     )
    else
     (
      zFz y3 n y14.1 y14.2.1 y14.2.2 y15.1 y15.2.1 y15.2.2.1 y15.2.2.2
     )
   )
def zJM(d1:Int):Option ((Int×Int)×Bool):=
 (zEw d1).bind fun y2=>
 (zH3 y2.1).bind fun y3=>
 (zFz y3 FU y3.1.1 y3.1.2.1 y3.1.2.2 1 0 0 1).bind fun qo12=>
 match qo12 with
 | .inr r=>some r
 | .inl o12=>
  (zAk (w64 (o12.1+o12.2.2.2))).bind fun y29=>
  (nz y3.1.1).bind fun z30=>
  (zAk (w64 (Int.tdiv o12.2.2.1 y3.1.1))).bind fun y31=>
  (zIZ ((y29,y31))).bind fun y32=>
  some (((y29,y31),y32))
def zCT(d1:Int):Option ((Int×Int)×Bool):=
 (zEf d1).bind fun y2=>
 bif (!y2) then
  (
   some (((0,0),false))
  )
 else
  (
   (zJM d1).bind fun y4=>
   bif (!y4.2) then
    (
     some (((0,0),false))
    )
   else
    (
     some ((y4.1,true))
    )
  )
def qY(d1:Int):Option (qd×Bool):=
 (zCT d1).bind fun y2=>
 (bif (!y2.2) then some true else ((zAM y2.1.1).bind fun y4=>some (!y4))).bind fun b5=>
 bif b5 then
  (
   some (((⟨#[]⟩:qd),false))
  )
 else
  (
   (qQ d1).bind fun y7=>
   (qQ y2.1.1).bind fun y8=>
   (qQ y2.1.2).bind fun y9=>
   (zAs ([(⟨#[115,111,108,117,116,105,111,110]⟩:qd),y7,y8,y9])).bind fun y10=>
   some ((y10,true))
  )
def zEx(kind1:qd):Option qd:=
 (some (mPut ((⟨#[115,111,108,117,116,105,111,110]⟩:qd)) ((⟨#[110,110,110]⟩:qd)) (mPut ((⟨#[97,117,116,111,109,111,114,112,104]⟩:qd)) ((⟨#[102,109]⟩:qd)) (mPut ((⟨#[114,111,111,116]⟩:qd)) ((⟨#[110,110,110]⟩:qd)) (mPut ((⟨#[111,114,100,101,114]⟩:qd)) ((⟨#[102,110]⟩:qd)) (mPut ((⟨#[99,111,109,112,111,115,105,116,101]⟩:qd)) ((⟨#[102,102,102,110,110,110,110,110,110,110,110]⟩:qd)) (mPut ((⟨#[111,98,115,116,114,117,99,116,105,111,110]⟩:qd)) ((⟨#[110,110,110]⟩:qd)) (mPut ((⟨#[118,97,108,117,101]⟩:qd)) ((⟨#[102,110,110,110]⟩:qd)) (mPut ((⟨#[100,105,102,102,101,114,101,110,116]⟩:qd)) ((⟨#[102,109,102,102,109,102]⟩:qd)) (mPut ((⟨#[101,113,117,105,118,97,108,101,110,116]⟩:qd)) ((⟨#[102,102,109]⟩:qd)) (([]:List (qd×qd))))))))))))).bind fun l2=>
 some (mAt kind1 l2 qe)
def zCR(c1:Int):Option Bool:=
 (some (bif (!eqI c1 45) then (bif (ltI c1 48) then true else (ltI 57 c1)) else false)).bind fun t4=>
 some t4
def q8(y2:List qd):Nat→Int→List Int→Option (List Int ⊕ List Int)
 |0,_,_=>none
 |n+1,t3,l4=>
  bif (ltI t3 ((y2.length:Int))) then
   (
    (getI y2 t3).bind fun e8=>
    (getI y2 t3).bind fun e9=>
    (zBK e9).bind fun y10=>
    bif (!y10.2) then
     (
      some (.inr ((([]:List Int))))
     )
    else
     (
      (room (l4.length+([y10.1]).length)).bind fun u12=>
      sI (w64 (t3+1)) fun t13=>
      q8 y2 n t13 (l4++([y10.1]))
     )
   )
  else
   (
    some (.inl l4)
   )
def zAz(vs1:qd):Option (List Int):=
 (zBp (pOf zCR) vs1).bind fun y2=>
 (q8 y2 FU 0 (([]:List Int))).bind fun qo6=>
 match qo6 with
 | .inr r=>some r
 | .inl o6=>some o6
def zCi(list1:List Int):Nat→Int→Option (Unit ⊕ Bool)
 |0,_=>none
 |n+1,t2=>
  bif (ltI t2 ((list1.length:Int))) then
   (
    (getI list1 t2).bind fun e6=>
    bif (bif (ltI e6 (-1000000)) then true else (ltI 1000000 e6)) then
     (
      some (.inr false)
     )
    else
     (
      sI (w64 (t2+1)) fun t9=>
      zCi list1 n t9
     )
   )
  else
   (
    some (.inl ())
   )
def qS(list1:List Int):Option Bool:=
 (zCi list1 FU 0).bind fun qo4=>
 match qo4 with
 | .inr r=>some r
 | .inl o4=>some true
def zEg(f1:(Int×Int×Int)):Option Bool:=
 (qS ([f1.1,f1.2.1,f1.2.2])).bind fun y2=>
 some y2
def q9(f1:(Int×Int×Int)):Option qd:=
 (zR f1.1).bind fun y2=>
 (catR ((⟨#[40]⟩:qd)) y2).bind fun u3=>
 (catR (((⟨#[40]⟩:qd))++y2) ((⟨#[44]⟩:qd))).bind fun u4=>
 (zR f1.2.1).bind fun y5=>
 (catR ((((⟨#[40]⟩:qd))++y2)++((⟨#[44]⟩:qd))) y5).bind fun u6=>
 (catR (((((⟨#[40]⟩:qd))++y2)++((⟨#[44]⟩:qd)))++y5) ((⟨#[44]⟩:qd))).bind fun u7=>
 (zR f1.2.2).bind fun y8=>
 (catR ((((((⟨#[40]⟩:qd))++y2)++((⟨#[44]⟩:qd)))++y5)++((⟨#[44]⟩:qd))) y8).bind fun u9=>
 (catR (((((((⟨#[40]⟩:qd))++y2)++((⟨#[44]⟩:qd)))++y5)++((⟨#[44]⟩:qd)))++y8) ((⟨#[41]⟩:qd))).bind fun u10=>
 some ((((((((⟨#[40]⟩:qd))++y2)++((⟨#[44]⟩:qd)))++y5)++((⟨#[44]⟩:qd)))++y8)++((⟨#[41]⟩:qd)))
def zBs(vs1:qd):Option ((Int×Int×Int)×Bool):=
 (zAz vs1).bind fun y2=>
 bif (!eqI ((y2.length:Int)) 3) then
  (
   some (((0,0,0),false))
  )
 else
  (
   (getI y2 0).bind fun e4=>
   (getI y2 0).bind fun e5=>
   (getI y2 1).bind fun e6=>
   (getI y2 1).bind fun e7=>
   (getI y2 2).bind fun e8=>
   (getI y2 2).bind fun e9=>
   (zEg ((e5,e7,e9))).bind fun y10=>
   (bif (!y10) then some true else ((q9 ((e5,e7,e9))).bind fun y12=>some (!(y12.toList==vs1.toList)))).bind fun b13=>
   bif b13 then
    (
     some (((0,0,0),false))
    )
   else
    (
     some (((e5,e7,e9),true))
    )
  )
def zY(vm1:(Int×Int×Int×Int)):Option Bool:=
 (qS ([vm1.1,vm1.2.1,vm1.2.2.1,vm1.2.2.2])).bind fun y2=>
 some y2
def zAy(vm1:(Int×Int×Int×Int)):Option qd:=
 (zR vm1.1).bind fun y2=>
 (catR ((⟨#[91]⟩:qd)) y2).bind fun u3=>
 (catR (((⟨#[91]⟩:qd))++y2) ((⟨#[44]⟩:qd))).bind fun u4=>
 (zR vm1.2.1).bind fun y5=>
 (catR ((((⟨#[91]⟩:qd))++y2)++((⟨#[44]⟩:qd))) y5).bind fun u6=>
 (catR (((((⟨#[91]⟩:qd))++y2)++((⟨#[44]⟩:qd)))++y5) ((⟨#[59]⟩:qd))).bind fun u7=>
 (zR vm1.2.2.1).bind fun y8=>
 (catR ((((((⟨#[91]⟩:qd))++y2)++((⟨#[44]⟩:qd)))++y5)++((⟨#[59]⟩:qd))) y8).bind fun u9=>
 (catR (((((((⟨#[91]⟩:qd))++y2)++((⟨#[44]⟩:qd)))++y5)++((⟨#[59]⟩:qd)))++y8) ((⟨#[44]⟩:qd))).bind fun u10=>
 (zR vm1.2.2.2).bind fun y11=>
 (catR ((((((((⟨#[91]⟩:qd))++y2)++((⟨#[44]⟩:qd)))++y5)++((⟨#[59]⟩:qd)))++y8)++((⟨#[44]⟩:qd))) y11).bind fun u12=>
 (catR (((((((((⟨#[91]⟩:qd))++y2)++((⟨#[44]⟩:qd)))++y5)++((⟨#[59]⟩:qd)))++y8)++((⟨#[44]⟩:qd)))++y11) ((⟨#[93]⟩:qd))).bind fun u13=>
 some ((((((((((⟨#[91]⟩:qd))++y2)++((⟨#[44]⟩:qd)))++y5)++((⟨#[59]⟩:qd)))++y8)++((⟨#[44]⟩:qd)))++y11)++((⟨#[93]⟩:qd)))
def zBT(vs1:qd):Option ((Int×Int×Int×Int)×Bool):=
 (zAz vs1).bind fun y2=>
 bif (!eqI ((y2.length:Int)) 4) then
  (
   some (((0,0,0,0),false))
  )
 else
  (
   (getI y2 0).bind fun e4=>
   (getI y2 0).bind fun e5=>
   (getI y2 1).bind fun e6=>
   (getI y2 1).bind fun e7=>
   (getI y2 2).bind fun e8=>
   (getI y2 2).bind fun e9=>
   (getI y2 3).bind fun e10=>
   (getI y2 3).bind fun e11=>
   (zY ((e5,e7,e9,e11))).bind fun y12=>
   (bif (!y12) then some true else ((zAy ((e5,e7,e9,e11))).bind fun y14=>some (!(y14.toList==vs1.toList)))).bind fun b15=>
   bif b15 then
    (
     some (((0,0,0,0),false))
    )
   else
    (
     some (((e5,e7,e9,e11),true))
    )
  )
def zDB(w1:qd):Option (Int×Bool):=
 (zBK w1).bind fun y2=>
 (bif y2.2 then ((qS ([y2.1])).bind fun y4=>some y4) else some false).bind fun b5=>
 (bif b5 then ((zR y2.1).bind fun y7=>some (y7.toList==w1.toList)) else some false).bind fun b8=>
 some ((y2.1,b8))
def zAm(e4:qd)(t10:Int)(y2:List qd)(y5:qd):Nat→Int→List (Int×Int×Int)→List (Int×Int×Int×Int)→List Int→Option (((List Int)×(List (Int×Int×Int×Int))×(List (Int×Int×Int))) ⊕ ((qd×(List (Int×Int×Int))×(List (Int×Int×Int×Int))×(List Int))×Bool))
 |0,_,_,_,_=>none
 |n+1,t11,l12,l13,l14=>
  bif (ltI t11 t10) then
   (
    (getI (subl y2 1 ((y2.length:Int))) t11).bind fun e18=>
    (getB y5 t11).bind fun e19=>
    bif (eqI e19 102) then
     (
      (zBs e18).bind fun y21=>
      (room (l12.length+([y21.1]).length)).bind fun u22=>
      bif (!y21.2) then
       (
        some (.inr ((((qe,([]:List (Int×Int×Int)),([]:List (Int×Int×Int×Int)),([]:List Int)),false))))
       )
      else
       (
        sI (w64 (t11+1)) fun t24=>
        zAm e4 t10 y2 y5 n t24 (l12++([y21.1])) l13 l14
       )
     )
    else
     (
      bif (eqI e19 109) then
       (
        (zBT e18).bind fun y26=>
        (room (l13.length+([y26.1]).length)).bind fun u27=>
        bif (!y26.2) then
         (
          some (.inr ((((qe,([]:List (Int×Int×Int)),([]:List (Int×Int×Int×Int)),([]:List Int)),false))))
         )
        else
         (
          sI (w64 (t11+1)) fun t29=>
          zAm e4 t10 y2 y5 n t29 l12 (l13++([y26.1])) l14
         )
       )
      else
       (
        (zDB e18).bind fun y30=>
        (room (l14.length+([y30.1]).length)).bind fun u31=>
        bif (!y30.2) then
         (
          some (.inr ((((qe,([]:List (Int×Int×Int)),([]:List (Int×Int×Int×Int)),([]:List Int)),false))))
         )
        else
         (
          sI (w64 (t11+1)) fun t33=>
          zAm e4 t10 y2 y5 n t33 l12 l13 (l14++([y30.1]))
         )
       )
     )
   )
  else
   (
    some (.inl (l14,l13,l12))
   )
def zEG(vs1:qd):Option ((qd×(List (Int×Int×Int))×(List (Int×Int×Int×Int))×(List Int))×Bool):=
 (zCx vs1 ((⟨#[32]⟩:qd))).bind fun y2=>
 (getI y2 0).bind fun e3=>
 (getI y2 0).bind fun e4=>
 (zEx e4).bind fun y5=>
 (some (bif (y5.toList==((⟨#[]⟩:qd)).toList) then true else (!eqI ((y2.length:Int)) (w64 (((y5.size:Int))+1))))).bind fun t7=>
 bif t7 then
  (
   some (((qe,([]:List (Int×Int×Int)),([]:List (Int×Int×Int×Int)),([]:List Int)),false))
  )
 else
  (
   (slc y2.length 1 ((y2.length:Int))).bind fun u9=>
   sI (((subl y2 1 ((y2.length:Int))).length:Int)) fun t10=>
   (zAm e4 t10 y2 y5 FU 0 (([]:List (Int×Int×Int))) (([]:List (Int×Int×Int×Int))) (([]:List Int))).bind fun qo16=>
   match qo16 with
   | .inr r=>some r
   | .inl o16=>some (((e4,o16.2.2,o16.2.1,o16.1),true))
  )
def zBA(vm1:(Int×Int×Int×Int)):Option Int:=
 sI (w64 ((w64 (vm1.1*vm1.2.2.2)) - (w64 (vm1.2.1*vm1.2.2.1)))) fun t2=>
 some t2
def zBU(f1:(Int×Int×Int))(x2:Int)(y3:Int):Option Int:=
 sI (w64 ((w64 ((w64 ((w64 (f1.1*x2))*x2))+(w64 ((w64 (f1.2.1*x2))*y3))))+(w64 ((w64 (f1.2.2*y3))*y3)))) fun t4=>
 some t4
def zB8(f1:(Int×Int×Int))(x2:Int)(y3:Int)(u4:Int)(v5:Int):Option Int:=
 sI (w64 ((w64 ((w64 ((w64 ((w64 (2*f1.1))*x2))*u4))+(w64 (f1.2.1*(w64 ((w64 (x2*v5))+(w64 (y3*u4))))))))+(w64 ((w64 ((w64 (2*f1.2.2))*y3))*v5)))) fun t6=>
 some t6
def qE(f1:(Int×Int×Int))(vm2:(Int×Int×Int×Int)):Option (Int×Int×Int):=
 (zBU f1 vm2.1 vm2.2.2.1).bind fun y3=>
 (zB8 f1 vm2.1 vm2.2.2.1 vm2.2.1 vm2.2.2.2).bind fun y4=>
 (zBU f1 vm2.2.1 vm2.2.2.2).bind fun y5=>
 some ((y3,y4,y5))
def zBP(f1:(Int×Int×Int))(vm2:(Int×Int×Int×Int))(g3:(Int×Int×Int)):Option Bool:=
 (zBA vm2).bind fun y4=>
 (bif (eqI y4 1) then ((qE f1 vm2).bind fun y6=>some (((y6.1==g3.1)&&((y6.2.1==g3.2.1)&&(y6.2.2==g3.2.2))))) else some false).bind fun b7=>
 some b7
def qC(f1:(Int×Int×Int)):Option Int:=
 sI (w64 ((w64 (f1.2.1*f1.2.1)) - (w64 ((w64 (4*f1.1))*f1.2.2)))) fun t2=>
 some t2
def zI(f1:(Int×Int×Int)):Option Bool:=
 (zEg f1).bind fun y2=>
 (bif y2 then ((qC f1).bind fun y4=>some (ltI y4 0)) else some false).bind fun b5=>
 some (bif b5 then (ltI 0 f1.1) else false)
def qU(f1:(Int×Int×Int)):Option Bool:=
 (some (bif (ltI (w64 (0 - f1.1)) f1.2.1) then (leI f1.2.1 f1.1) else false)).bind fun t3=>
 some t3
def zX(f1:(Int×Int×Int)):Option Bool:=
 (qU f1).bind fun y2=>
 (some (bif y2 then (bif (ltI f1.1 f1.2.2) then true else (bif (eqI f1.1 f1.2.2) then (leI 0 f1.2.1) else false)) else false)).bind fun t6=>
 some t6
def zD5(vn1:Int):Option Int:=
 sI (mxI vn1 (w64 (0 - (mxI vn1 (-9223372036854775807))))) fun t2=>
 some t2
def zBf:Nat→Int→Int→Option Int
 |0,_,_=>none
 |n+1,a3,b4=>
  bif (!eqI b4 0) then
   (
    (nz b4).bind fun z8=>
    sI (Int.tmod a3 b4) fun b9=>
    zBf n b4 b9
   )
  else
   (
    some a3
   )
def zDx(a1:Int)(b2:Int):Option Int:=
 (zBf FU a1 b2).bind fun o6=>
 (zD5 o6).bind fun y10=>
 some y10
def zBO(a1:Int)(vm2:Int):Option Int:=
 (nz vm2).bind fun z3=>
 sI (Int.tmod a1 vm2) fun vr4=>
 bif (ltI vr4 0) then
  (
   sI (w64 (vr4+vm2)) fun vr6=>
   some vr6
  )
 else
  (
   some vr4
  )
def zAG(d1:Int):Option Bool:=
 (bif (bif (leI (-2000) d1) then (leI d1 (-3)) else false) then ((zBO d1 4).bind fun y4=>some (leI y4 1)) else some false).bind fun b5=>
 some b5
def zGD(vn1:Int):Nat→Int→Option (Unit ⊕ Bool)
 |0,_=>none
 |n+1,p3=>
  bif (leI (w64 (p3*p3)) vn1) then
   (
    (nz p3).bind fun z7=>
    bif (eqI (Int.tmod vn1 p3) 0) then
     (
      some (.inr false)
     )
    else
     (
      sI (w64 (p3+1)) fun p9=>
      zGD vn1 n p9
     )
   )
  else
   (
    some (.inl ())
   )
def zBR(vn1:Int):Option Bool:=
 bif (ltI vn1 2) then
  (
   some false
  )
 else
  (
   (zGD vn1 FU 2).bind fun qo5=>
   match qo5 with
   | .inr r=>some r
   | .inl o5=>some true
  )
def zEY(p2:Int):Nat→Int→Int→Option Int
 |0,_,_=>none
 |n+1,vn3,k4=>
  (nz p2).bind fun z7=>
  bif (eqI (Int.tmod vn3 p2) 0) then
   (
    sI (w64 (k4+1)) fun k9=>
    (nz p2).bind fun z10=>
    sI (w64 (Int.tdiv vn3 p2)) fun vn11=>
    zEY p2 n vn11 k9
   )
  else
   (
    some k4
   )
def zAD(vn1:Int)(p2:Int):Option Int:=
 (zEY p2 FU vn1 0).bind fun o6=>
 some o6
def zM(d1:Int)(vn2:Int):Nat→Int→List Int→Option (List Int)
 |0,_,_=>none
 |n+1,b3,l4=>
  bif (ltI b3 (w64 (2*vn2))) then
   (
    (nz (w64 (4*vn2))).bind fun z8=>
    (some (eqI (Int.tmod (w64 ((w64 (b3*b3)) - d1)) (w64 (4*vn2))) 0)).bind fun t9=>
    bif t9 then
     (
      (room (l4.length+([b3]).length)).bind fun u11=>
      sI (w64 (b3+1)) fun b12=>
      zM d1 vn2 n b12 (l4++([b3]))
     )
    else
     (
      sI (w64 (b3+1)) fun b13=>
      zM d1 vn2 n b13 l4
     )
   )
  else
   (
    some l4
   )
def qP(d1:Int)(vn2:Int):Option (List Int):=
 (zM d1 vn2 FU 0 (([]:List Int))).bind fun o6=>
 some o6
def zDs(d1:Int)(vn2:Int)(p3:Int):Option Bool:=
 (zAG d1).bind fun y4=>
 (bif (bif (bif y4 then (leI 1 vn2) else false) then (leI p3 2500) else false) then ((zBR p3).bind fun y8=>some y8) else some false).bind fun b9=>
 (bif b9 then ((zAD vn2 p3).bind fun y11=>some (eqI (Int.tmod y11 2) 1)) else some false).bind fun b12=>
 (bif b12 then ((qP d1 p3).bind fun y14=>some (eqI ((y14.length:Int)) 0)) else some false).bind fun b15=>
 some b15
def jF(f1:(Int×Int×Int)):Option Bool:=
 (zI f1).bind fun y2=>
 (bif y2 then ((qC f1).bind fun y4=>some (leI (-2000) y4)) else some false).bind fun b5=>
 some b5
def zB5(f1:(Int×Int×Int)):Option Int:=
 (zDx f1.2.1 f1.2.2).bind fun y2=>
 (zDx f1.1 y2).bind fun y3=>
 some y3
def qD(f1:(Int×Int×Int)):Option Bool:=
 (jF f1).bind fun y2=>
 (bif y2 then ((zB5 f1).bind fun y4=>some (eqI y4 1)) else some false).bind fun b5=>
 some b5
def zCh(f1:(Int×Int×Int))(g2:(Int×Int×Int)):Option Bool:=
 (qD f1).bind fun y3=>
 (bif y3 then ((qD g2).bind fun y5=>some y5) else some false).bind fun b6=>
 (bif b6 then ((qC f1).bind fun y8=>(qC g2).bind fun y9=>some (eqI y8 y9)) else some false).bind fun b10=>
 some b10
def zA9(p1:(Int×Int×Int×Int))(q2:(Int×Int×Int×Int)):Option ((Int×Int×Int)×(Int×Int×Int)×(Int×Int×Int)):=
 sI (w64 (0+(w64 (p1.1*q2.1)))) fun f5=>
 sI (w64 (0+(w64 (p1.1*q2.2.1)))) fun f7=>
 sI (w64 (0+(w64 (p1.1*q2.2.2.1)))) fun f9=>
 sI (w64 (0+(w64 (p1.1*q2.2.2.2)))) fun f11=>
 sI (w64 (f7+(w64 (p1.2.1*q2.1)))) fun f15=>
 sI (w64 (0+(w64 (p1.2.1*q2.2.1)))) fun f17=>
 sI (w64 (f11+(w64 (p1.2.1*q2.2.2.1)))) fun f19=>
 sI (w64 (0+(w64 (p1.2.1*q2.2.2.2)))) fun f21=>
 sI (w64 (f9+(w64 (p1.2.2.1*q2.1)))) fun f25=>
 sI (w64 (f19+(w64 (p1.2.2.1*q2.2.1)))) fun f27=>
 sI (w64 (0+(w64 (p1.2.2.1*q2.2.2.1)))) fun f29=>
 sI (w64 (0+(w64 (p1.2.2.1*q2.2.2.2)))) fun f31=>
 sI (w64 (f27+(w64 (p1.2.2.2*q2.1)))) fun f35=>
 sI (w64 (f21+(w64 (p1.2.2.2*q2.2.1)))) fun f37=>
 sI (w64 (f31+(w64 (p1.2.2.2*q2.2.2.1)))) fun f39=>
 sI (w64 (0+(w64 (p1.2.2.2*q2.2.2.2)))) fun f41=>
 some (((f5,f15,f17),(f25,f35,f37),(f29,f39,f41)))
def zBt(f1:(Int×Int×Int))(g2:(Int×Int×Int))(vh3:(Int×Int×Int))(k4:List Int):Option (Bool×Bool):=
 (zCh f1 g2).bind fun y5=>
 (bif (!y5) then some true else ((zCh f1 vh3).bind fun y7=>some (!y7))).bind fun b8=>
 (bif b8 then some true else ((zX vh3).bind fun y10=>some (!y10))).bind fun b11=>
 (bif (bif b11 then true else (!eqI ((k4.length:Int)) 8)) then some true else ((qS k4).bind fun y14=>some (!y14))).bind fun b15=>
 bif b15 then
  (
   some ((false,false))
  )
 else
  (
   (slc k4.length 0 4).bind fun u17=>
   (getI (subl k4 0 4) 0).bind fun e18=>
   (getI (subl k4 0 4) 1).bind fun e19=>
   (getI (subl k4 0 4) 2).bind fun e20=>
   (getI (subl k4 0 4) 3).bind fun e21=>
   (slc k4.length 4 ((k4.length:Int))).bind fun u22=>
   (getI (subl k4 4 ((k4.length:Int))) 0).bind fun e23=>
   (getI (subl k4 4 ((k4.length:Int))) 1).bind fun e24=>
   (getI (subl k4 4 ((k4.length:Int))) 2).bind fun e25=>
   (getI (subl k4 4 ((k4.length:Int))) 3).bind fun e26=>
   (zA9 ((e18,e19,e20,e21)) ((e18,e19,e20,e21))).bind fun y27=>
   (zA9 ((e18,e19,e20,e21)) ((e23,e24,e25,e26))).bind fun y28=>
   (zA9 ((e23,e24,e25,e26)) ((e23,e24,e25,e26))).bind fun y29=>
   (some (!eqI (w64 ((w64 ((w64 (vh3.1*y27.1.1))+(w64 (vh3.2.1*y28.1.1))))+(w64 (vh3.2.2*y29.1.1)))) (w64 (f1.1*g2.1)))).bind fun t32=>
   bif t32 then
    (
     some ((false,true))
    )
   else
    (
     (some (!eqI (w64 ((w64 ((w64 (vh3.1*y27.1.2.1))+(w64 (vh3.2.1*y28.1.2.1))))+(w64 (vh3.2.2*y29.1.2.1)))) (w64 (f1.1*g2.2.1)))).bind fun t35=>
     bif t35 then
      (
       some ((false,true))
      )
     else
      (
       (some (!eqI (w64 ((w64 ((w64 (vh3.1*y27.1.2.2))+(w64 (vh3.2.1*y28.1.2.2))))+(w64 (vh3.2.2*y29.1.2.2)))) (w64 (f1.1*g2.2.2)))).bind fun t38=>
       bif t38 then
        (
         some ((false,true))
        )
       else
        (
         (some (!eqI (w64 ((w64 ((w64 (vh3.1*y27.2.1.1))+(w64 (vh3.2.1*y28.2.1.1))))+(w64 (vh3.2.2*y29.2.1.1)))) (w64 (f1.2.1*g2.1)))).bind fun t43=>
         bif t43 then
          (
           some ((false,true))
          )
         else
          (
           (some (!eqI (w64 ((w64 ((w64 (vh3.1*y27.2.1.2.1))+(w64 (vh3.2.1*y28.2.1.2.1))))+(w64 (vh3.2.2*y29.2.1.2.1)))) (w64 (f1.2.1*g2.2.1)))).bind fun t46=>
           bif t46 then
            (
             some ((false,true))
            )
           else
            (
             (some (!eqI (w64 ((w64 ((w64 (vh3.1*y27.2.1.2.2))+(w64 (vh3.2.1*y28.2.1.2.2))))+(w64 (vh3.2.2*y29.2.1.2.2)))) (w64 (f1.2.1*g2.2.2)))).bind fun t49=>
             bif t49 then
              (
               some ((false,true))
              )
             else
              (
               (some (!eqI (w64 ((w64 ((w64 (vh3.1*y27.2.2.1))+(w64 (vh3.2.1*y28.2.2.1))))+(w64 (vh3.2.2*y29.2.2.1)))) (w64 (f1.2.2*g2.1)))).bind fun t54=>
               bif t54 then
                (
                 some ((false,true))
                )
               else
                (
                 (some (!eqI (w64 ((w64 ((w64 (vh3.1*y27.2.2.2.1))+(w64 (vh3.2.1*y28.2.2.2.1))))+(w64 (vh3.2.2*y29.2.2.2.1)))) (w64 (f1.2.2*g2.2.1)))).bind fun t57=>
                 bif t57 then
                  (
                   some ((false,true))
                  )
                 else
                  (
                   (some (!eqI (w64 ((w64 ((w64 (vh3.1*y27.2.2.2.2))+(w64 (vh3.2.1*y28.2.2.2.2))))+(w64 (vh3.2.2*y29.2.2.2.2)))) (w64 (f1.2.2*g2.2.2)))).bind fun t60=>
                   bif t60 then
                    (
                     some ((false,true))
                    )
                   else
                    (
                     some ((true,true))
                    )
                  )
                )
              )
            )
          )
        )
      )
    )
  )
def zDA:Option (Int×Int×Int×Int):=
 some ((1,0,0,1))
def zBl(a1:Int)(vm2:Int):Option Int:=
 (zBO a1 vm2).bind fun y3=>
 (nz vm2).bind fun z4=>
 sI (w64 (Int.tdiv (w64 (a1 - y3)) vm2)) fun t5=>
 some t5
def jH(f1:(Int×Int×Int)):Option (Int×Int×Int×Int):=
 (zX f1).bind fun y2=>
 bif y2 then
  (
   (zDA).bind fun y4=>
   some y4
  )
 else
  (
   (qU f1).bind fun y5=>
   bif (!y5) then
    (
     (zBl (w64 (f1.1 - f1.2.1)) (w64 (2*f1.1))).bind fun y7=>
     some ((1,y7,0,1))
    )
   else
    (
     some ((0,-1,1,0))
    )
  )
def zF(vm1:(Int×Int×Int×Int))(vn2:(Int×Int×Int×Int)):Option (Int×Int×Int×Int):=
 sI (w64 ((w64 (vm1.1*vn2.1))+(w64 (vm1.2.1*vn2.2.2.1)))) fun f3=>
 sI (w64 ((w64 (vm1.1*vn2.2.1))+(w64 (vm1.2.1*vn2.2.2.2)))) fun f4=>
 sI (w64 ((w64 (vm1.2.2.1*vn2.1))+(w64 (vm1.2.2.2*vn2.2.2.1)))) fun f5=>
 sI (w64 ((w64 (vm1.2.2.1*vn2.2.1))+(w64 (vm1.2.2.2*vn2.2.2.2)))) fun f6=>
 some ((f3,f4,f5,f6))
def zCI:Nat→Int→Int→Int→Int→Int→Int→Int→Option (Int×Int×Int×Int×Int×Int×Int)
 |0,_,_,_,_,_,_,_=>none
 |n+1,f3,f4,f5,f6,f7,f8,f9=>
  (zX ((f7,f8,f9))).bind fun y12=>
  bif (!y12) then
   (
    (jH ((f7,f8,f9))).bind fun y14=>
    (qE ((f7,f8,f9)) y14).bind fun y15=>
    (zF ((f3,f4,f5,f6)) y14).bind fun y16=>
    zCI n y16.1 y16.2.1 y16.2.2.1 y16.2.2.2 y15.1 y15.2.1 y15.2.2
   )
  else
   (
    some (f3,f4,f5,f6,f7,f8,f9)
   )
def zQ(f1:(Int×Int×Int)):Option ((Int×Int×Int)×(Int×Int×Int×Int)):=
 (zDA).bind fun y2=>
 (zCI FU y2.1 y2.2.1 y2.2.2.1 y2.2.2.2 f1.1 f1.2.1 f1.2.2).bind fun o11=>
 some ((o11.2.2.2.2,(o11.1,o11.2.1,o11.2.2.1,o11.2.2.2.1)))
def zAE(f1:(Int×Int×Int)):Option (Int×Int×Int):=
 (zQ f1).bind fun y2=>
 some y2.1
def zCf(d1:Int):Option (Int×Int×Int):=
 (zBO d1 2).bind fun y2=>
 sI (w64 (Int.tdiv (w64 (y2 - d1)) 4)) fun f3=>
 some ((1,y2,f3))
def zCs(f1:(Int×Int×Int)):Option Bool:=
 (zAE f1).bind fun y2=>
 (qC f1).bind fun y3=>
 (zCf y3).bind fun y4=>
 (zAE y4).bind fun y5=>
 (some (((y2.1==y5.1)&&((y2.2.1==y5.2.1)&&(y2.2.2==y5.2.2))))).bind fun t6=>
 some t6
def zC0(a2:Int)(g1:(Int×Int×Int))(size3:Int)(x6:Int):Nat→Int→Option (Unit ⊕ (Int×Int))
 |0,_=>none
 |n+1,y10=>
  bif (leI y10 size3) then
   (
    (bif (eqI (mxI x6 y10) size3) then ((zDx x6 y10).bind fun y15=>some (eqI y15 1)) else some false).bind fun b16=>
    (bif b16 then ((zBU g1 x6 y10).bind fun y18=>(zDx y18 a2).bind fun y19=>some (eqI y19 1)) else some false).bind fun b20=>
    bif b20 then
     (
      some (.inr (((x6,y10))))
     )
    else
     (
      sI (w64 (y10+1)) fun y22=>
      zC0 a2 g1 size3 x6 n y22
     )
   )
  else
   (
    some (.inl ())
   )
def zCg(a2:Int)(g1:(Int×Int×Int))(size3:Int):Nat→Int→Option (Unit ⊕ (Int×Int))
 |0,_=>none
 |n+1,x6=>
  bif (leI x6 size3) then
   (
    (zC0 a2 g1 size3 x6 FU 0).bind fun qo12=>
    match qo12 with
    | .inr r=>some (.inr r)
    | .inl o12=>
     sI (w64 (x6+1)) fun x23=>
     zCg a2 g1 size3 n x23
   )
  else
   (
    some (.inl ())
   )
def zBS(a2:Int)(g1:(Int×Int×Int)):Nat→Int→Option (Unit ⊕ (Int×Int))
 |0,_=>none
 |n+1,size3=>
  (zCg a2 g1 size3 FU 0).bind fun qo8=>
  match qo8 with
  | .inr r=>some (.inr r)
  | .inl o8=>
   sI (w64 (size3+1)) fun size24=>
   zBS a2 g1 n size24
def zDt(g1:(Int×Int×Int))(a2:Int):Option (Int×Int):=
 (zBS a2 g1 FU 0).bind fun qo5=>
 match qo5 with
 | .inr r=>some r
 | .inl _=>none
def zGE(vm2:Int):Nat→Int→Int→Int→Int→Option Int
 |0,_,_,_,_=>none
 |n+1,x4,y5,vr6,vs7=>
  bif (!eqI vs7 0) then
   (
    (nz vs7).bind fun z11=>
    sI (w64 (Int.tdiv vr6 vs7)) fun q12=>
    sI (w64 (vr6 - (w64 (q12*vs7)))) fun vs13=>
    sI (w64 (x4 - (w64 (q12*y5)))) fun y14=>
    zGE vm2 n y5 y14 vs7 vs13
   )
  else
   (
    some x4
   )
def zEy(a1:Int)(vm2:Int):Option Int:=
 (zBO a1 vm2).bind fun y3=>
 (zGE vm2 FU 1 0 y3 vm2).bind fun o9=>
 (zBO o9 vm2).bind fun y15=>
 some y15
def zBu(f1:(Int×Int×Int))(x2:Int)(y3:Int):Option ((Int×Int×Int)×(Int×Int×Int×Int)):=
 (
  bif (eqI y3 0) then
   (
    some (0,x2)
   )
  else
   (
    (zD5 y3).bind fun y6=>
    (zEy x2 y6).bind fun y7=>
    (nz y3).bind fun z8=>
    sI (w64 (Int.tdiv (w64 ((w64 (x2*y7)) - 1)) y3)) fun f9=>
    some (f9,y7)
   )
 ).bind fun j4=>
 (qE f1 ((x2,j4.1,y3,j4.2))).bind fun y10=>
 (zBl y10.2.1 (w64 (2*y10.1))).bind fun y11=>
 sI (w64 (0 - y11)) fun t12=>
 sI (w64 (j4.1+(w64 (t12*x2)))) fun f13=>
 sI (w64 (j4.2+(w64 (t12*y3)))) fun f14=>
 (qE f1 ((x2,f13,y3,f14))).bind fun y15=>
 some ((y15,(x2,f13,y3,f14)))
def zE9(f1:(Int×Int×Int))(y4:((Int×Int×Int)×(Int×Int×Int×Int))):Nat→Int→Option Int
 |0,_=>none
 |n+1,f6=>
  (zBO (w64 (f6 - y4.1.2.1)) (w64 (2*y4.1.1))).bind fun y9=>
  bif (!eqI y9 0) then
   (
    sI (w64 (f6+(w64 (2*f1.1)))) fun f11=>
    zE9 f1 y4 n f11
   )
  else
   (
    some f6
   )
def zDr(f1:(Int×Int×Int))(g2:(Int×Int×Int)):Option (Int×Int×Int×Int×(Int×Int×Int×Int)×(Int×Int×Int×Int)):=
 (zDt g2 f1.1).bind fun y3=>
 (zBu g2 y3.1 y3.2).bind fun y4=>
 (zBO f1.2.1 (w64 (2*f1.1))).bind fun y5=>
 (zE9 f1 y4 FU y5).bind fun o8=>
 (zBO o8 (w64 ((w64 (2*f1.1))*y4.1.1))).bind fun y12=>
 (qC f1).bind fun y13=>
 (nz (w64 ((w64 (4*f1.1))*y4.1.1))).bind fun z14=>
 sI (w64 (Int.tdiv (w64 ((w64 (y12*y12)) - y13)) (w64 ((w64 (4*f1.1))*y4.1.1)))) fun f15=>
 (nz (w64 (2*f1.1))).bind fun z16=>
 sI (w64 (Int.tdiv (w64 (y12 - f1.2.1)) (w64 (2*f1.1)))) fun f17=>
 (nz (w64 (2*y4.1.1))).bind fun z18=>
 (zF y4.2 ((1,w64 (Int.tdiv (w64 (y12 - y4.1.2.1)) (w64 (2*y4.1.1))),0,1))).bind fun y19=>
 some ((f1.1,y4.1.1,y12,f15,(1,f17,0,1),y19))
def zBI(u1:(Int×Int×Int×Int×(Int×Int×Int×Int)×(Int×Int×Int×Int))):Option (Int×Int×Int):=
 sI (w64 (u1.1*u1.2.1)) fun f2=>
 some ((f2,u1.2.2.1,u1.2.2.2.1))
def zD4(f1:(Int×Int×Int))(g2:(Int×Int×Int)):Option (Int×Int×Int):=
 (zAE f1).bind fun y3=>
 (zAE g2).bind fun y4=>
 (zDr y3 y4).bind fun y5=>
 (zBI y5).bind fun y6=>
 (zAE y6).bind fun y7=>
 some y7
def zCJ(f1:(Int×Int×Int)):Nat→Int→Int→Int→Int→Option Int
 |0,_,_,_,_=>none
 |n+1,k3,f4,f5,f6=>
  (zCs ((f4,f5,f6))).bind fun y9=>
  bif (!y9) then
   (
    sI (w64 (k3+1)) fun k11=>
    (zD4 ((f4,f5,f6)) f1).bind fun y12=>
    zCJ f1 n k11 y12.1 y12.2.1 y12.2.2
   )
  else
   (
    some k3
   )
def zD3(f1:(Int×Int×Int)):Option Int:=
 (zAE f1).bind fun y2=>
 (zCJ f1 FU 1 y2.1 y2.2.1 y2.2.2).bind fun o8=>
 some o8
def zFJ(f1:(Int×Int×Int))(vn2:Int):Option Bool:=
 (qD f1).bind fun y3=>
 (bif (bif y3 then (leI 1 vn2) else false) then ((zD3 f1).bind fun y6=>some (eqI y6 vn2)) else some false).bind fun b7=>
 some b7
def zT(cc1:(qd×(List (Int×Int×Int))×(List (Int×Int×Int×Int))×(List Int))):Option Bool:=
 (some (cc1.1.toList==((⟨#[101,113,117,105,118,97,108,101,110,116]⟩:qd)).toList)).bind fun t2=>
 bif t2 then
  (
   (getI cc1.2.1 0).bind fun e4=>
   (getI cc1.2.2.1 0).bind fun e5=>
   (getI cc1.2.1 1).bind fun e6=>
   (zBP e4 e5 e6).bind fun y7=>
   some y7
  )
 else
  (
   (some (cc1.1.toList==((⟨#[100,105,102,102,101,114,101,110,116]⟩:qd)).toList)).bind fun t8=>
   bif t8 then
    (
     (getI cc1.2.1 0).bind fun e10=>
     (zI e10).bind fun y11=>
     (bif y11 then ((getI cc1.2.1 2).bind fun e13=>(zI e13).bind fun y14=>some y14) else some false).bind fun b15=>
     (bif b15 then ((getI cc1.2.1 0).bind fun e17=>(getI cc1.2.2.1 0).bind fun e18=>(getI cc1.2.1 1).bind fun e19=>(zBP e17 e18 e19).bind fun y20=>some y20) else some false).bind fun b21=>
     (bif b21 then ((getI cc1.2.1 2).bind fun e23=>(getI cc1.2.2.1 1).bind fun e24=>(getI cc1.2.1 3).bind fun e25=>(zBP e23 e24 e25).bind fun y26=>some y26) else some false).bind fun b27=>
     (bif b27 then ((getI cc1.2.1 1).bind fun e29=>(zX e29).bind fun y30=>some y30) else some false).bind fun b31=>
     (bif b31 then ((getI cc1.2.1 3).bind fun e33=>(zX e33).bind fun y34=>some y34) else some false).bind fun b35=>
     (bif b35 then ((getI cc1.2.1 1).bind fun e37=>(getI cc1.2.1 3).bind fun e38=>some (!((e37.1==e38.1)&&((e37.2.1==e38.2.1)&&(e37.2.2==e38.2.2))))) else some false).bind fun b39=>
     some b39
    )
   else
    (
     (some (cc1.1.toList==((⟨#[118,97,108,117,101]⟩:qd)).toList)).bind fun t40=>
     bif t40 then
      (
       (getI cc1.2.1 0).bind fun e42=>
       (getI cc1.2.2.2 1).bind fun e43=>
       (getI cc1.2.2.2 2).bind fun e44=>
       (zBU e42 e43 e44).bind fun y45=>
       (getI cc1.2.2.2 0).bind fun e46=>
       (bif (eqI y45 e46) then ((getI cc1.2.2.2 1).bind fun e48=>(getI cc1.2.2.2 2).bind fun e49=>(zDx e48 e49).bind fun y50=>some (eqI y50 1)) else some false).bind fun b51=>
       some b51
      )
     else
      (
       (some (cc1.1.toList==((⟨#[111,98,115,116,114,117,99,116,105,111,110]⟩:qd)).toList)).bind fun t52=>
       bif t52 then
        (
         (getI cc1.2.2.2 0).bind fun e54=>
         (getI cc1.2.2.2 1).bind fun e55=>
         (getI cc1.2.2.2 2).bind fun e56=>
         (zDs e54 e55 e56).bind fun y57=>
         some y57
        )
       else
        (
         (some (cc1.1.toList==((⟨#[99,111,109,112,111,115,105,116,101]⟩:qd)).toList)).bind fun t58=>
         bif t58 then
          (
           (getI cc1.2.1 0).bind fun e60=>
           (getI cc1.2.1 1).bind fun e61=>
           (getI cc1.2.1 2).bind fun e62=>
           (zBt e60 e61 e62 cc1.2.2.2).bind fun y63=>
           some (bif y63.1 then y63.2 else false)
          )
         else
          (
           (some (cc1.1.toList==((⟨#[111,114,100,101,114]⟩:qd)).toList)).bind fun t65=>
           bif t65 then
            (
             (getI cc1.2.1 0).bind fun e67=>
             (getI cc1.2.2.2 0).bind fun e68=>
             (zFJ e67 e68).bind fun y69=>
             some y69
            )
           else
            (
             (some (cc1.1.toList==((⟨#[114,111,111,116]⟩:qd)).toList)).bind fun t70=>
             bif t70 then
              (
               (getI cc1.2.2.2 1).bind fun e72=>
               (bif (leI 1 e72) then ((getI cc1.2.2.2 2).bind fun e74=>(getI cc1.2.2.2 2).bind fun e75=>(getI cc1.2.2.2 0).bind fun e76=>(getI cc1.2.2.2 1).bind fun e77=>(nz (w64 (4*e77))).bind fun z78=>some (eqI (Int.tmod (w64 ((w64 (e74*e75)) - e76)) (w64 (4*e77))) 0)) else some false).bind fun b79=>
               some b79
              )
             else
              (
               (some (cc1.1.toList==((⟨#[97,117,116,111,109,111,114,112,104]⟩:qd)).toList)).bind fun t80=>
               bif t80 then
                (
                 (getI cc1.2.1 0).bind fun e82=>
                 (getI cc1.2.2.1 0).bind fun e83=>
                 (getI cc1.2.1 0).bind fun e84=>
                 (zBP e82 e83 e84).bind fun y85=>
                 some y85
                )
               else
                (
                 (getI cc1.2.2.2 1).bind fun e86=>
                 (getI cc1.2.2.2 1).bind fun e87=>
                 (getI cc1.2.2.2 0).bind fun e88=>
                 (getI cc1.2.2.2 2).bind fun e89=>
                 (getI cc1.2.2.2 2).bind fun e90=>
                 (zD5 (w64 ((w64 (e86*e87)) - (w64 ((w64 (e88*e89))*e90))))).bind fun y91=>
                 some (eqI y91 4)
                )
              )
            )
          )
        )
      )
    )
  )
def zG(vs1:qd):Option Int:=
 (zEG vs1).bind fun y2=>
 bif (!y2.2) then
  (
   some 0
  )
 else
  (
   (zT y2.1).bind fun y4=>
   bif y4 then
    (
     some 2
    )
   else
    (
     some 1
    )
  )
def zCo(vs1:qd):Nat→Int→Int→Option (Int ⊕ Int)
 |0,_,_=>none
 |n+1,vn8,i9=>
  bif (ltI i9 ((vs1.size:Int))) then
   (
    (getB vs1 i9).bind fun e13=>
    (bif (ltI e13 48) then some true else ((getB vs1 i9).bind fun e15=>some (ltI 57 e15))).bind fun b16=>
    bif b16 then
     (
      some (.inr ((-1)))
     )
    else
     (
      (getB vs1 i9).bind fun e18=>
      sI (w64 ((w64 (10*vn8))+(IntKind.i64.wrap (IntKind.u8.wrap (e18 - 48))))) fun vn19=>
      sI (w64 (i9+1)) fun i20=>
      zCo vs1 n vn19 i20
     )
   )
  else
   (
    some (.inl vn8)
   )
def zJN(vs1:qd):Option Int:=
 (zAX ((vs1.size:Int)) 1 10).bind fun y2=>
 (bif (!y2) then some true else ((getB vs1 0).bind fun e4=>some (bif (eqI e4 48) then (ltI 1 ((vs1.size:Int))) else false))).bind fun b6=>
 bif b6 then
  (
   some (-1)
  )
 else
  (
   (zCo vs1 FU 0 0).bind fun qo11=>
   match qo11 with
   | .inr r=>some r
   | .inl o11=>some o11
  )
def zGA(vs1:qd):Option (Int×Bool):=
 (bif (ltI 1 ((vs1.size:Int))) then ((getB vs1 0).bind fun e3=>some (eqI e3 45)) else some false).bind fun b4=>
 (
  bif b4 then
   (
    (slc vs1.size 1 ((vs1.size:Int))).bind fun u7=>
    some (vs1.extract (Int.toNat 1) (Int.toNat ((vs1.size:Int))))
   )
  else
   (
    some vs1
   )
 ).bind fun j5=>
 (zJN j5).bind fun y8=>
 (some (bif (bif (ltI y8 0) then true else (bif b4 then (eqI y8 0) else false)) then true else (ltI 1000000 y8))).bind fun t12=>
 bif t12 then
  (
   some ((0,false))
  )
 else
  (
   bif b4 then
    (
     sI (w64 (0 - y8)) fun t15=>
     some ((t15,true))
    )
   else
    (
     some ((y8,true))
    )
  )
def zBe(code1:List Int):Option ((Int×Int×Int)×(Int×Int×Int)):=
 (zAF ((code1,0,0))).bind fun y2=>
 (jO y2.1).bind fun y3=>
 (bif y3 then ((zAC y2.2 4).bind fun y5=>some ((!y5.1,y5.2))) else some ((false,y2.2))).bind fun b6=>
 bif b6.1 then
  (
   (jT b6.2 y2.1).bind fun y8=>
   some ((y2.1,y8.1))
  )
 else
  (
   (jO y2.1).bind fun y9=>
   (bif y9 then ((qT y2.1).bind fun y11=>(zC9 y11).bind fun y12=>some y12) else some false).bind fun b13=>
   bif b13 then
    (
     (qT y2.1).bind fun y15=>
     (j0 b6.2 y15).bind fun y16=>
     (jT y16.2 y16.1).bind fun y17=>
     some ((y2.1,y17.1))
    )
   else
    (
     (zAF b6.2).bind fun y18=>
     some ((y2.1,y18.1))
    )
  )
def jP(code1:List Int):Option ((Int×Int×Int)×(Int×Int×Int)):=
 (zAC ((code1,0,0)) 2).bind fun y2=>
 bif y2.1 then
  (
   (zBe code1).bind fun y4=>
   some ((y4.1,y4.2))
  )
 else
  (
   (zAb y2.2).bind fun y5=>
   some ((y5.1,y5.2.1))
  )
def jQ(f1:(Int×Int×Int)):Option ((Int×Int×Int)×(Int×Int×Int×Int)×Bool):=
 (zI f1).bind fun y2=>
 bif (!y2) then
  (
   some (((0,0,0),(0,0,0,0),false))
  )
 else
  (
   (zQ f1).bind fun y4=>
   (zY y4.2).bind fun y5=>
   bif (!y5) then
    (
     some (((0,0,0),(0,0,0,0),false))
    )
   else
    (
     some ((y4.1,y4.2,true))
    )
  )
def jG(kind1:qd)(words2:List qd):Option qd:=
 (catR kind1 ((⟨#[32]⟩:qd))).bind fun u3=>
 (zDZ words2 ((⟨#[32]⟩:qd))).bind fun y4=>
 (catR (kind1++((⟨#[32]⟩:qd))) y4).bind fun u5=>
 some ((kind1++((⟨#[32]⟩:qd)))++y4)
def qB(f1:(Int×Int×Int))(g2:(Int×Int×Int)):Option (qd×Bool):=
 (jQ f1).bind fun y3=>
 (jQ g2).bind fun y4=>
 (some (bif (bif (!y3.2.2) then true else (!y4.2.2)) then true else (((y3.1.1==y4.1.1)&&((y3.1.2.1==y4.1.2.1)&&(y3.1.2.2==y4.1.2.2)))))).bind fun t7=>
 bif t7 then
  (
   some (((⟨#[]⟩:qd),false))
  )
 else
  (
   (q9 f1).bind fun y9=>
   (zAy y3.2.1).bind fun y10=>
   (q9 y3.1).bind fun y11=>
   (q9 g2).bind fun y12=>
   (zAy y4.2.1).bind fun y13=>
   (q9 y4.1).bind fun y14=>
   (jG ((⟨#[100,105,102,102,101,114,101,110,116]⟩:qd)) ([y9,y10,y11,y12,y13,y14])).bind fun y15=>
   some ((y15,true))
  )
def zP(vm1:(Int×Int×Int×Int)):Option (Int×Int×Int×Int):=
 (zBA vm1).bind fun y2=>
 sI (w64 (y2*vm1.2.2.2)) fun f3=>
 sI (w64 ((w64 (0 - y2))*vm1.2.1)) fun f4=>
 sI (w64 ((w64 (0 - y2))*vm1.2.2.1)) fun f5=>
 sI (w64 (y2*vm1.1)) fun f6=>
 some ((f3,f4,f5,f6))
def zEH(vm1:(Int×Int×Int×Int)):Option ((Int×Int×Int×Int)×Bool):=
 (zY vm1).bind fun y2=>
 bif (!y2) then
  (
   some (((0,0,0,0),false))
  )
 else
  (
   some ((vm1,true))
  )
def qX(f1:(Int×Int×Int))(g2:(Int×Int×Int)):Option ((Int×Int×Int×Int)×Bool):=
 (zI f1).bind fun y3=>
 (bif (!y3) then some true else ((zI g2).bind fun y5=>some (!y5))).bind fun b6=>
 bif b6 then
  (
   some (((0,0,0,0),false))
  )
 else
  (
   (zQ f1).bind fun y8=>
   (zQ g2).bind fun y9=>
   (some (!((y8.1.1==y9.1.1)&&((y8.1.2.1==y9.1.2.1)&&(y8.1.2.2==y9.1.2.2))))).bind fun t10=>
   bif t10 then
    (
     some (((0,0,0,0),false))
    )
   else
    (
     (zP y9.2).bind fun y12=>
     (zF y8.2 y12).bind fun y13=>
     (zEH y13).bind fun y14=>
     some ((y14.1,y14.2))
    )
  )
def zU(f1:(Int×Int×Int))(g2:(Int×Int×Int)):Option (qd×Bool):=
 (qX f1 g2).bind fun y3=>
 bif (!y3.2) then
  (
   some (((⟨#[]⟩:qd),false))
  )
 else
  (
   (q9 f1).bind fun y5=>
   (q9 g2).bind fun y6=>
   (zAy y3.1).bind fun y7=>
   (jG ((⟨#[101,113,117,105,118,97,108,101,110,116]⟩:qd)) ([y5,y6,y7])).bind fun y8=>
   some ((y8,true))
  )
def zBv(f1:(Int×Int×Int))(g2:(Int×Int×Int)):Option (Bool×Bool):=
 (zI f1).bind fun y3=>
 (bif (!y3) then some true else ((zI g2).bind fun y5=>some (!y5))).bind fun b6=>
 bif b6 then
  (
   some ((false,false))
  )
 else
  (
   (zAE f1).bind fun y8=>
   (zAE g2).bind fun y9=>
   (some (((y8.1==y9.1)&&((y8.2.1==y9.2.1)&&(y8.2.2==y9.2.2))))).bind fun t10=>
   some ((t10,true))
  )
def zCF(code1:List Int):Option ((Int×Int×Int)×Int):=
 (zCQ ((code1,0,0))).bind fun y2=>
 some ((y2.1,y2.2.1))
def zAx(code1:List Int):Option ((Int×Int×Int)×Int):=
 (zCF code1).bind fun y2=>
 some ((y2.1,y2.2))
def zAY(vn1:Int):Option Bool:=
 some (bif (leI 1 vn1) then (leI vn1 10000) else false)
def zCH(vn1:Int):Nat→Int→Int→Option Int
 |0,_,_=>none
 |n+1,low2,high3=>
  bif (ltI low2 high3) then
   (
    sI (w64 (Int.tdiv (w64 ((w64 (low2+high3))+1)) 2)) fun vm7=>
    bif (leI (w64 (vm7*vm7)) vn1) then
     (
      zCH vn1 n vm7 high3
     )
    else
     (
      sI (w64 (vm7 - 1)) fun high9=>
      zCH vn1 n low2 high9
     )
   )
  else
   (
    some low2
   )
def zEK(vn1:Int):Option Int:=
 (zCH vn1 FU 0 3000000000).bind fun o5=>
 some o5
def zCU(vn1:Int):Option Bool:=
 (bif (leI 0 vn1) then ((zEK vn1).bind fun y3=>(zEK vn1).bind fun y4=>some (eqI (w64 (y3*y4)) vn1)) else some false).bind fun b5=>
 some b5
def zA7(f1:(Int×Int×Int))(vn2:Int)(y3:Int)(y5:Int):Nat→Int→List (Int×Int)→Option (List (Int×Int))
 |0,_,_=>none
 |n+1,x7,l8=>
  bif (leI x7 y5) then
   (
    sI (w64 ((w64 ((w64 (y3*x7))*x7))+(w64 ((w64 (4*f1.2.2))*vn2)))) fun square12=>
    (zCU square12).bind fun y13=>
    bif (!y13) then
     (
      sI (w64 (x7+1)) fun x15=>
      zA7 f1 vn2 y3 y5 n x15 l8
     )
    else
     (
      (zEK square12).bind fun y16=>
      (
       (nz (w64 (2*f1.2.2))).bind fun z18=>
       (some (eqI (Int.tmod (w64 ((w64 ((w64 (0 - f1.2.1))*x7)) - y16)) (w64 (2*f1.2.2))) 0)).bind fun t19=>
       bif t19 then
        (
         (nz (w64 (2*f1.2.2))).bind fun z21=>
         (room (l8.length+([(x7,w64 (Int.tdiv (w64 ((w64 ((w64 (0 - f1.2.1))*x7)) - y16)) (w64 (2*f1.2.2))))]).length)).bind fun u22=>
         (some (l8++([(x7,w64 (Int.tdiv (w64 ((w64 ((w64 (0 - f1.2.1))*x7)) - y16)) (w64 (2*f1.2.2))))]))).bind fun l23=>
         some l23
        )
       else
        (
         some l8
        )
      ).bind fun j17=>
      (bif (ltI 0 y16) then ((nz (w64 (2*f1.2.2))).bind fun z25=>some (eqI (Int.tmod (w64 ((w64 ((w64 (0 - f1.2.1))*x7))+y16)) (w64 (2*f1.2.2))) 0)) else some false).bind fun b26=>
      bif b26 then
       (
        (nz (w64 (2*f1.2.2))).bind fun z28=>
        (room (j17.length+([(x7,w64 (Int.tdiv (w64 ((w64 ((w64 (0 - f1.2.1))*x7))+y16)) (w64 (2*f1.2.2))))]).length)).bind fun u29=>
        (some (j17++([(x7,w64 (Int.tdiv (w64 ((w64 ((w64 (0 - f1.2.1))*x7))+y16)) (w64 (2*f1.2.2))))]))).bind fun l30=>
        sI (w64 (x7+1)) fun x31=>
        zA7 f1 vn2 y3 y5 n x31 l30
       )
      else
       (
        sI (w64 (x7+1)) fun x32=>
        zA7 f1 vn2 y3 y5 n x32 j17
       )
     )
   )
  else
   (
    some l8
   )
def zD6(f1:(Int×Int×Int))(vn2:Int):Option (List (Int×Int)):=
 (qC f1).bind fun y3=>
 (nz (w64 (0 - y3))).bind fun z4=>
 (zEK (w64 (Int.tdiv (w64 ((w64 (4*f1.2.2))*vn2)) (w64 (0 - y3))))).bind fun y5=>
 sI (w64 (0 - y5)) fun x6=>
 (zA7 f1 vn2 y3 y5 FU x6 (([]:List (Int×Int)))).bind fun o10=>
 some o10
def zB0(f1:(Int×Int×Int))(vn2:Int):Option ((List (Int×Int))×Bool):=
 (jF f1).bind fun y3=>
 (bif (!y3) then some true else ((zAY vn2).bind fun y5=>some (!y5))).bind fun b6=>
 bif b6 then
  (
   some ((([]:List (Int×Int)),false))
  )
 else
  (
   (zD6 f1 vn2).bind fun y8=>
   some ((y8,true))
  )
def jW(y3:((List (Int×Int))×Bool)):Nat→Int→List (Int×Int)→Option (List (Int×Int))
 |0,_,_=>none
 |n+1,t4,l5=>
  bif (ltI t4 ((y3.1.length:Int))) then
   (
    (getI y3.1 t4).bind fun e9=>
    (getI y3.1 t4).bind fun e10=>
    (zDx e10.1 e10.2).bind fun y11=>
    bif (eqI y11 1) then
     (
      (room (l5.length+([e10]).length)).bind fun u13=>
      sI (w64 (t4+1)) fun t14=>
      jW y3 n t14 (l5++([e10]))
     )
    else
     (
      sI (w64 (t4+1)) fun t15=>
      jW y3 n t15 l5
     )
   )
  else
   (
    some l5
   )
def jJ(f1:(Int×Int×Int))(vn2:Int):Option ((List (Int×Int))×Bool):=
 (zB0 f1 vn2).bind fun y3=>
 (jW y3 FU 0 (([]:List (Int×Int)))).bind fun o7=>
 some ((o7,y3.2))
def zAe(f1:(Int×Int×Int))(vn2:Int):Option (qd×Bool):=
 (jJ f1 vn2).bind fun y3=>
 bif (bif (!y3.2) then true else (eqI ((y3.1.length:Int)) 0)) then
  (
   some (((⟨#[]⟩:qd),false))
  )
 else
  (
   (q9 f1).bind fun y6=>
   (zR vn2).bind fun y7=>
   (getI y3.1 0).bind fun e8=>
   (getI y3.1 0).bind fun e9=>
   (zR e9.1).bind fun y10=>
   (getI y3.1 0).bind fun e11=>
   (getI y3.1 0).bind fun e12=>
   (zR e12.2).bind fun y13=>
   (jG ((⟨#[118,97,108,117,101]⟩:qd)) ([y6,y7,y10,y13])).bind fun y14=>
   some ((y14,true))
  )
def zAQ(code1:List Int):Option (Int×Int):=
 (zCq ((code1,0,0))).bind fun y2=>
 (zC y2.2 400).bind fun y3=>
 (zC y3.2 10000).bind fun y4=>
 (jE y4.2 ([w64 (1+y3.1),w64 (1+y4.1),0,10001,2503,9973])).bind fun y5=>
 some ((y2.1,y5.1))
def zFe(p3:Int):Nat→Int→List Int→Option (Int×(List Int))
 |0,_,_=>none
 |n+1,vn8,l9=>
  (nz p3).bind fun z12=>
  bif (eqI (Int.tmod vn8 p3) 0) then
   (
    (room (l9.length+([p3]).length)).bind fun u14=>
    (nz p3).bind fun z15=>
    sI (w64 (Int.tdiv vn8 p3)) fun vn16=>
    zFe p3 n vn16 (l9++([p3]))
   )
  else
   (
    some (vn8,l9)
   )
def zGF:Nat→Int→Int→List Int→Option (Int×(List Int))
 |0,_,_,_=>none
 |n+1,vn2,p3,l4=>
  bif (leI (w64 (p3*p3)) vn2) then
   (
    (zFe p3 FU vn2 l4).bind fun o11=>
    sI (w64 (p3+1)) fun p17=>
    zGF n o11.1 p17 o11.2
   )
  else
   (
    some (vn2,l4)
   )
def zI0(vn1:Int):Option (List Int):=
 (zGF FU vn1 2 (([]:List Int))).bind fun o6=>
 bif (ltI 1 o6.1) then
  (
   (room (o6.2.length+([o6.1]).length)).bind fun u19=>
   some (o6.2++([o6.1]))
  )
 else
  (
   some o6.2
  )
def zEX(y2:List Int):Nat→Int→List Int→Option (List Int)
 |0,_,_=>none
 |n+1,t3,l4=>
  bif (ltI t3 ((y2.length:Int))) then
   (
    (getI y2 t3).bind fun e8=>
    (getI y2 t3).bind fun e9=>
    (bif (eqI ((l4.length:Int)) 0) then some true else ((getI l4 (w64 (((l4.length:Int)) - 1))).bind fun e11=>(getI l4 (w64 (((l4.length:Int)) - 1))).bind fun e12=>some (!eqI e12 e9))).bind fun b13=>
    bif b13 then
     (
      (room (l4.length+([e9]).length)).bind fun u15=>
      sI (w64 (t3+1)) fun t16=>
      zEX y2 n t16 (l4++([e9]))
     )
    else
     (
      sI (w64 (t3+1)) fun t17=>
      zEX y2 n t17 l4
     )
   )
  else
   (
    some l4
   )
def zDj(vn1:Int):Option (List Int):=
 (zI0 vn1).bind fun y2=>
 (zEX y2 FU 0 (([]:List Int))).bind fun o6=>
 some o6
def zAf(d1:Int)(vn2:Int)(y8:List Int):Nat→Int→Option (Unit ⊕ (Int×Bool))
 |0,_=>none
 |n+1,t9=>
  bif (ltI t9 ((y8.length:Int))) then
   (
    (getI y8 t9).bind fun e13=>
    (getI y8 t9).bind fun e14=>
    (zAD vn2 e14).bind fun y15=>
    (bif (eqI (Int.tmod y15 2) 1) then ((qP d1 e14).bind fun y17=>some (eqI ((y17.length:Int)) 0)) else some false).bind fun b18=>
    bif b18 then
     (
      some (.inr (((e14,true))))
     )
    else
     (
      sI (w64 (t9+1)) fun t20=>
      zAf d1 vn2 y8 n t20
     )
   )
  else
   (
    some (.inl ())
   )
def zCK(d1:Int)(vn2:Int):Option (Int×Bool):=
 (zAG d1).bind fun y3=>
 (bif (!y3) then some true else ((zAY vn2).bind fun y5=>some (!y5))).bind fun b6=>
 bif b6 then
  (
   some ((0,false))
  )
 else
  (
   (zDj vn2).bind fun y8=>
   (zAf d1 vn2 y8 FU 0).bind fun qo11=>
   match qo11 with
   | .inr r=>some r
   | .inl o11=>some ((0,false))
  )
def jL(d1:Int)(vn2:Int):Option (qd×Bool):=
 (zCK d1 vn2).bind fun y3=>
 bif (bif (!y3.2) then true else (ltI 2500 y3.1)) then
  (
   some (((⟨#[]⟩:qd),false))
  )
 else
  (
   (zR d1).bind fun y6=>
   (zR vn2).bind fun y7=>
   (zR y3.1).bind fun y8=>
   (jG ((⟨#[111,98,115,116,114,117,99,116,105,111,110]⟩:qd)) ([y6,y7,y8])).bind fun y9=>
   some ((y9,true))
  )
def zA6(a2:Int)(d1:Int):Nat→Int→List (Int×Int×Int)→Option (List (Int×Int×Int))
 |0,_,_=>none
 |n+1,b8,l9=>
  bif (leI b8 a2) then
   (
    (nz (w64 (4*a2))).bind fun z13=>
    (some (!eqI (Int.tmod (w64 ((w64 (b8*b8)) - d1)) (w64 (4*a2))) 0)).bind fun t14=>
    bif t14 then
     (
      sI (w64 (b8+1)) fun b16=>
      zA6 a2 d1 n b16 l9
     )
    else
     (
      (nz (w64 (4*a2))).bind fun z17=>
      sI (w64 (Int.tdiv (w64 ((w64 (b8*b8)) - d1)) (w64 (4*a2)))) fun f18=>
      (zX ((a2,b8,f18))).bind fun y19=>
      bif y19 then
       (
        (room (l9.length+([(a2,b8,f18)]).length)).bind fun u21=>
        sI (w64 (b8+1)) fun b22=>
        zA6 a2 d1 n b22 (l9++([(a2,b8,f18)]))
       )
      else
       (
        sI (w64 (b8+1)) fun b23=>
        zA6 a2 d1 n b23 l9
       )
     )
   )
  else
   (
    some l9
   )
def zCj(d1:Int):Nat→Int→List (Int×Int×Int)→Option (List (Int×Int×Int))
 |0,_,_=>none
 |n+1,a2,l3=>
  bif (leI (w64 ((w64 (3*a2))*a2)) (w64 (0 - d1))) then
   (
    sI (w64 (1 - a2)) fun b7=>
    (zA6 a2 d1 FU b7 l3).bind fun o11=>
    sI (w64 (a2+1)) fun a24=>
    zCj d1 n a24 o11
   )
  else
   (
    some l3
   )
def zEn(d1:Int):Option (List (Int×Int×Int)):=
 (zCj d1 FU 1 (([]:List (Int×Int×Int)))).bind fun o5=>
 some o5
def zBc(forms1:List (Int×Int×Int)):Nat→Int→List (Int×Int×Int)→Option (List (Int×Int×Int))
 |0,_,_=>none
 |n+1,t2,l3=>
  bif (ltI t2 ((forms1.length:Int))) then
   (
    (getI forms1 t2).bind fun e7=>
    (zB5 e7).bind fun y8=>
    bif (eqI y8 1) then
     (
      (room (l3.length+([e7]).length)).bind fun u10=>
      sI (w64 (t2+1)) fun t11=>
      zBc forms1 n t11 (l3++([e7]))
     )
    else
     (
      sI (w64 (t2+1)) fun t12=>
      zBc forms1 n t12 l3
     )
   )
  else
   (
    some l3
   )
def zEW(forms1:List (Int×Int×Int)):Option (List (Int×Int×Int)):=
 (zBc forms1 FU 0 (([]:List (Int×Int×Int)))).bind fun o5=>
 some o5
def zDH(d1:Int):Option (List (Int×Int×Int)):=
 (zEn d1).bind fun y2=>
 (zEW y2).bind fun y3=>
 some y3
def zAV(vn2:Int)(y8:List (Int×Int×Int)):Nat→Int→List (Int×Int×Int)→Option (List (Int×Int×Int))
 |0,_,_=>none
 |n+1,t9,l10=>
  bif (ltI t9 ((y8.length:Int))) then
   (
    (getI y8 t9).bind fun e14=>
    (getI y8 t9).bind fun e15=>
    (jJ e15 vn2).bind fun y16=>
    bif (ltI 0 ((y16.1.length:Int))) then
     (
      (room (l10.length+([e15]).length)).bind fun u18=>
      sI (w64 (t9+1)) fun t19=>
      zAV vn2 y8 n t19 (l10++([e15]))
     )
    else
     (
      sI (w64 (t9+1)) fun t20=>
      zAV vn2 y8 n t20 l10
     )
   )
  else
   (
    some l10
   )
def zAt(d1:Int)(vn2:Int):Option ((List (Int×Int×Int))×Bool):=
 (zAG d1).bind fun y3=>
 (bif (!y3) then some true else ((zAY vn2).bind fun y5=>some (!y5))).bind fun b6=>
 bif b6 then
  (
   some ((([]:List (Int×Int×Int)),false))
  )
 else
  (
   (zDH d1).bind fun y8=>
   (zAV vn2 y8 FU 0 (([]:List (Int×Int×Int)))).bind fun o12=>
   some ((o12,true))
  )
def zA1(code1:List Int):Option ((Int×Int×Int)×(Int×Int×Int)):=
 (zAb ((code1,0,0))).bind fun y2=>
 some ((y2.1,y2.2.1))
def zCb(x1:Int)(y2:Int)(u3:Int)(v4:Int):Option (Int×Int×Int×Int):=
 sI (w64 (x1*u3)) fun f5=>
 sI (w64 (x1*v4)) fun f6=>
 sI (w64 (y2*u3)) fun f7=>
 sI (w64 (y2*v4)) fun f8=>
 some ((f5,f6,f7,f8))
def zW(b1:(Int×Int×Int×Int))(k2:Int)(cc3:(Int×Int×Int×Int)):Option (Int×Int×Int×Int):=
 sI (w64 (b1.1+(w64 (k2*cc3.1)))) fun f5=>
 sI (w64 (b1.2.1+(w64 (k2*cc3.2.1)))) fun f7=>
 sI (w64 (b1.2.2.1+(w64 (k2*cc3.2.2.1)))) fun f9=>
 sI (w64 (b1.2.2.2+(w64 (k2*cc3.2.2.2)))) fun f11=>
 some ((f5,f7,f9,f11))
def zAK(f1:(Int×Int×Int))(g2:(Int×Int×Int)):Option ((Int×Int×Int)×(List Int)×Bool):=
 (zCh f1 g2).bind fun y3=>
 bif (!y3) then
  (
   some (((0,0,0),([]:List Int),false))
  )
 else
  (
   (zQ f1).bind fun y5=>
   (zQ g2).bind fun y6=>
   (zDr y5.1 y6.1).bind fun y7=>
   (zF y5.2 y7.2.2.2.2.1).bind fun y8=>
   (zP y8).bind fun y9=>
   (zF y6.2 y7.2.2.2.2.2).bind fun y10=>
   (zP y10).bind fun y11=>
   (zBI y7).bind fun y12=>
   (zQ y12).bind fun y13=>
   (zP y13.2).bind fun y14=>
   (zCb y9.1 y9.2.1 y11.1 y11.2.1).bind fun y15=>
   (zCb y9.1 y9.2.1 y11.2.2.1 y11.2.2.2).bind fun y16=>
   (zCb y9.2.2.1 y9.2.2.2 y11.1 y11.2.1).bind fun y17=>
   (zCb y9.2.2.1 y9.2.2.2 y11.2.2.1 y11.2.2.2).bind fun y18=>
   (zW y15 (w64 (0 - y7.2.2.2.1)) y18).bind fun y19=>
   (zW ((0,0,0,0)) y7.1 y16).bind fun y20=>
   (zW y20 y7.2.1 y17).bind fun y21=>
   (zW y21 y7.2.2.1 y18).bind fun y22=>
   (zW ((0,0,0,0)) y14.1 y19).bind fun y23=>
   (zW y23 y14.2.1 y22).bind fun y24=>
   (zW ((0,0,0,0)) y14.2.2.1 y19).bind fun y25=>
   (zW y25 y14.2.2.2 y22).bind fun y26=>
   (room ((([]:List Int)).length+([y24.1,y24.2.1,y24.2.2.1,y24.2.2.2]).length)).bind fun u27=>
   (room (((([]:List Int))++([y24.1,y24.2.1,y24.2.2.1,y24.2.2.2])).length+([y26.1,y26.2.1,y26.2.2.1,y26.2.2.2]).length)).bind fun u28=>
   (some (((([]:List Int))++([y24.1,y24.2.1,y24.2.2.1,y24.2.2.2]))++([y26.1,y26.2.1,y26.2.2.1,y26.2.2.2]))).bind fun l29=>
   (qS l29).bind fun y30=>
   bif (!y30) then
    (
     some (((0,0,0),([]:List Int),false))
    )
   else
    (
     some ((y13.1,l29,true))
    )
  )
def zA3(y3:((Int×Int×Int)×(List Int)×Bool)):Nat→Int→List qd→Option (List qd)
 |0,_,_=>none
 |n+1,t8,l9=>
  bif (ltI t8 ((y3.2.1.length:Int))) then
   (
    (getI y3.2.1 t8).bind fun e13=>
    (getI y3.2.1 t8).bind fun e14=>
    (zR e14).bind fun y15=>
    (room (l9.length+([y15]).length)).bind fun u16=>
    sI (w64 (t8+1)) fun t17=>
    zA3 y3 n t17 (l9++([y15]))
   )
  else
   (
    some l9
   )
def qF(f1:(Int×Int×Int))(g2:(Int×Int×Int)):Option (qd×Bool):=
 (zAK f1 g2).bind fun y3=>
 bif (!y3.2.2) then
  (
   some (((⟨#[]⟩:qd),false))
  )
 else
  (
   (q9 f1).bind fun y5=>
   (q9 g2).bind fun y6=>
   (q9 y3.1).bind fun y7=>
   (zA3 y3 FU 0 ([y5,y6,y7])).bind fun o11=>
   (jG ((⟨#[99,111,109,112,111,115,105,116,101]⟩:qd)) o11).bind fun y18=>
   some ((y18,true))
  )
def zBg(f1:(Int×Int×Int)):Option (Int×Bool):=
 (qD f1).bind fun y2=>
 bif (!y2) then
  (
   some ((0,false))
  )
 else
  (
   (zD3 f1).bind fun y4=>
   some ((y4,true))
  )
def jR(f1:(Int×Int×Int)):Option (qd×Bool):=
 (zBg f1).bind fun y2=>
 bif (!y2.2) then
  (
   some (((⟨#[]⟩:qd),false))
  )
 else
  (
   (q9 f1).bind fun y4=>
   (zR y2.1).bind fun y5=>
   (jG ((⟨#[111,114,100,101,114]⟩:qd)) ([y4,y5])).bind fun y6=>
   some ((y6,true))
  )
def zCG(code1:List Int):Option Int:=
 (zCZ ((code1,0,0))).bind fun y2=>
 some y2.1
def zBN(code1:List Int):Option Int:=
 (zCG code1).bind fun y2=>
 some y2
def zA5(d1:Int):Option Bool:=
 (bif (bif (leI 5 d1) then (leI d1 1000) else false) then ((zBO d1 4).bind fun y4=>some (leI y4 1)) else some false).bind fun b5=>
 (bif b5 then ((zCU d1).bind fun y7=>some (!y7)) else some false).bind fun b8=>
 some b8
def zHC(x1:Nat):Option Nat:=
 (z2D x1).bind fun q2=>
 some q2
def zGC(vs1:(Int×Int)):Option Bool:=
 (zD5 vs1.1).bind fun y2=>
 (bif (leI y2 100000000) then ((qS ([vs1.2])).bind fun y4=>some y4) else some false).bind fun b5=>
 some b5
def zAJ(d1:Int)(most3:Int)(side2:Int):Nat→Int→Option (Unit ⊕ ((Int×Int)×Bool))
 |0,_=>none
 |n+1,u4=>
  bif (leI u4 most3) then
   (
    sI (w64 ((w64 ((w64 (d1*u4))*u4))+side2)) fun square8=>
    (zHC (floatOfInt .f64 (mxI square8 0))).bind fun y9=>
    (floatToIntVal .f64 y9 .i64).bind fun t10=>
    (some (bif (ltI 0 t10) then (eqI (w64 (t10*t10)) square8) else false)).bind fun t12=>
    bif t12 then
     (
      (zGC ((t10,u4))).bind fun y14=>
      some (.inr ((((t10,u4),y14))))
     )
    else
     (
      sI (w64 (u4+1)) fun u15=>
      zAJ d1 most3 side2 n u15
     )
   )
  else
   (
    some (.inl ())
   )
def zBQ(d1:Int)(side2:Int)(most3:Int):Option ((Int×Int)×Bool):=
 (zAJ d1 most3 side2 FU 1).bind fun qo6=>
 match qo6 with
 | .inr r=>some r
 | .inl o6=>some (((0,0),false))
def zDk(d1:Int):Option ((Int×Int)×Bool):=
 (zBQ d1 4 1000000).bind fun y2=>
 bif (!y2.2) then
  (
   some (((0,0),false))
  )
 else
  (
   some ((y2.1,true))
  )
def zAr(d1:Int):Option ((Int×Int)×Bool):=
 (zA5 d1).bind fun y2=>
 bif (!y2) then
  (
   some (((0,0),false))
  )
 else
  (
   (zDk d1).bind fun y4=>
   some ((y4.1,y4.2))
  )
def qJ(d1:Int):Option (qd×Bool):=
 (zAr d1).bind fun y2=>
 (bif (!y2.2) then some true else ((qS ([y2.1.1,y2.1.2])).bind fun y4=>some (!y4))).bind fun b5=>
 bif b5 then
  (
   some (((⟨#[]⟩:qd),false))
  )
 else
  (
   (zR d1).bind fun y7=>
   (zR y2.1.1).bind fun y8=>
   (zR y2.1.2).bind fun y9=>
   (jG ((⟨#[115,111,108,117,116,105,111,110]⟩:qd)) ([y7,y8,y9])).bind fun y10=>
   some ((y10,true))
  )
def zAO(f1:List ((Int×Int×Int×Int))):Nat→Int→List ((Int×Int×Int×Int))→Option (List ((Int×Int×Int×Int)))
 |0,_,_=>none
 |n+1,t3,l4=>
  bif (ltI t3 ((f1.length:Int))) then
   (
    (getI f1 t3).bind fun e8=>
    (room ((f1++l4).length+([(w64 (0 - e8.1),w64 (0 - e8.2.1),w64 (0 - e8.2.2.1),w64 (0 - e8.2.2.2))]).length)).bind fun u9=>
    sI (w64 (t3+1)) fun t11=>
    zAO f1 n t11 (l4++([(w64 (0 - e8.1),w64 (0 - e8.2.1),w64 (0 - e8.2.2.1),w64 (0 - e8.2.2.2))]))
   )
  else
   (
    some l4
   )
def zAZ(f1:(Int×Int×Int)):Option (List (Int×Int×Int×Int)):=
 (zDA).bind fun y2=>
 bif (bif (eqI f1.1 f1.2.2) then (eqI f1.2.1 0) else false) then
  (
   (room (([y2]).length+([(0,-1,1,0)]).length)).bind fun u5=>
   (zAO (([y2])++([(0,-1,1,0)])) FU 0 []).bind fun oV=>
   some ((([y2])++([(0,-1,1,0)]))++oV)
  )
 else
  (
   bif (bif (eqI f1.1 f1.2.2) then (eqI f1.2.1 f1.1) else false) then
    (
     (room (([y2]).length+([(0,-1,1,1),(1,1,-1,0)]).length)).bind fun u8=>
     (zAO (([y2])++([(0,-1,1,1),(1,1,-1,0)])) FU 0 []).bind fun oV=>
     some ((([y2])++([(0,-1,1,1),(1,1,-1,0)]))++oV)
    )
   else
    (
     (zAO ([y2]) FU 0 []).bind fun oV=>
     some (([y2])++oV)
    )
  )
def zEm(vm1:(Int×Int×Int×Int))(vn2:(Int×Int×Int×Int)):Option Bool:=
 bif (!eqI vm1.1 vn2.1) then
  (
   some (ltI vm1.1 vn2.1)
  )
 else
  (
   bif (!eqI vm1.2.1 vn2.2.1) then
    (
     some (ltI vm1.2.1 vn2.2.1)
    )
   else
    (
     bif (!eqI vm1.2.2.1 vn2.2.2.1) then
      (
       some (ltI vm1.2.2.1 vn2.2.2.1)
      )
     else
      (
       some (ltI vm1.2.2.2 vn2.2.2.2)
      )
    )
  )
def zAw(l7:List (Int×Int×Int×Int))(t6:Int)(y15:(Int×Int×Int×Int))(y4:((Int×Int×Int)×(Int×Int×Int×Int)))(y5:List (Int×Int×Int×Int)):Nat→Int→Option Int
 |0,_=>none
 |n+1,vat18=>
  (bif (ltI 0 vat18) then ((getI l7 (w64 (vat18 - 1))).bind fun e22=>(getI l7 (w64 (vat18 - 1))).bind fun e23=>(zEm y15 e23).bind fun y24=>some y24) else some false).bind fun b25=>
  bif b25 then
   (
    sI (w64 (vat18 - 1)) fun vat27=>
    zAw l7 t6 y15 y4 y5 n vat27
   )
  else
   (
    some vat18
   )
def zAA(y4:((Int×Int×Int)×(Int×Int×Int×Int)))(y5:List (Int×Int×Int×Int)):Nat→Int→List (Int×Int×Int×Int)→Option (List (Int×Int×Int×Int) ⊕ ((List (Int×Int×Int×Int))×Bool))
 |0,_,_=>none
 |n+1,t6,l7=>
  bif (ltI t6 ((y5.length:Int))) then
   (
    (getI y5 t6).bind fun e11=>
    (getI y5 t6).bind fun e12=>
    (zF y4.2 e12).bind fun y13=>
    (zP y4.2).bind fun y14=>
    (zF y13 y14).bind fun y15=>
    (zY y15).bind fun y16=>
    bif (!y16) then
     (
      some (.inr (((([]:List (Int×Int×Int×Int)),false))))
     )
    else
     (
      (zAw l7 t6 y15 y4 y5 FU ((l7.length:Int))).bind fun o20=>
      (room (l7.length+([(0,0,0,0)]).length)).bind fun u28=>
      (slc (l7++([(0,0,0,0)])).length (w64 (o20+1)) ((l7++([(0,0,0,0)])).length:Int)).bind fun u29=>
      (slc (l7++([(0,0,0,0)])).length o20 ((l7++([(0,0,0,0)])).length:Int)).bind fun u30=>
      (some (zLS (l7++([(0,0,0,0)])) (Int.toNat (w64 (o20+1))) (Int.toNat o20))).bind fun l31=>
      (getI l31 o20).bind fun e32=>
      (getI l31 o20).bind fun e33=>
      sI (w64 (t6+1)) fun t34=>
      zAA y4 y5 n t34 (l31.set (Int.toNat (o20)) y15)
     )
   )
  else
   (
    some (.inl l7)
   )
def zB9(f1:(Int×Int×Int)):Option ((List (Int×Int×Int×Int))×Bool):=
 (zI f1).bind fun y2=>
 bif (!y2) then
  (
   some ((([]:List (Int×Int×Int×Int)),false))
  )
 else
  (
   (zQ f1).bind fun y4=>
   (zAZ y4.1).bind fun y5=>
   (zAA y4 y5 FU 0 (([]:List (Int×Int×Int×Int)))).bind fun qo9=>
   match qo9 with
   | .inr r=>some r
   | .inl o9=>some ((o9,true))
  )
def jY(f1:(Int×Int×Int))(y2:((List (Int×Int×Int×Int))×Bool)):Nat→Int→List qd→Option (List qd)
 |0,_,_=>none
 |n+1,t3,l4=>
  bif (ltI t3 ((y2.1.length:Int))) then
   (
    (getI y2.1 t3).bind fun e8=>
    (getI y2.1 t3).bind fun e9=>
    (q9 f1).bind fun y10=>
    (zAy e9).bind fun y11=>
    (jG ((⟨#[97,117,116,111,109,111,114,112,104]⟩:qd)) ([y10,y11])).bind fun y12=>
    (room (l4.length+([y12]).length)).bind fun u13=>
    sI (w64 (t3+1)) fun t14=>
    jY f1 y2 n t14 (l4++([y12]))
   )
  else
   (
    some l4
   )
def jU(f1:(Int×Int×Int)):Option ((List qd)×Bool):=
 (zB9 f1).bind fun y2=>
 (jY f1 y2 FU 0 (([]:List qd))).bind fun o6=>
 some ((o6,y2.2))
def jX(f1:(Int×Int×Int))(y4:List (Int×Int×Int×Int)):Nat→Int→List qd→Option (List qd)
 |0,_,_=>none
 |n+1,t5,l6=>
  bif (ltI t5 ((y4.length:Int))) then
   (
    (getI y4 t5).bind fun e10=>
    (getI y4 t5).bind fun e11=>
    (zAN f1).bind fun y12=>
    (zAu e11).bind fun y13=>
    (zAs ([(⟨#[97,117,116,111,109,111,114,112,104]⟩:qd),y12,y13])).bind fun y14=>
    (room (l6.length+([y14]).length)).bind fun u15=>
    sI (w64 (t5+1)) fun t16=>
    jX f1 y4 n t16 (l6++([y14]))
   )
  else
   (
    some l6
   )
def zAU(f1:(Int×Int×Int)):Option ((List qd)×Bool):=
 (jO f1).bind fun y2=>
 bif (!y2) then
  (
   some ((([]:List qd),false))
  )
 else
  (
   (zCP f1).bind fun y4=>
   (jX f1 y4 FU 0 (([]:List qd))).bind fun o8=>
   some ((o8,true))
  )
theorem zWq:zBM=zBU:=rfl
theorem z3H:zEE=zB8:=rfl
theorem z6w:zDJ=qE:=rfl
theorem zNC:zZ=zF:=rfl
theorem z2N:zC6=zP:=rfl
theorem z0x(f:Int×Int×Int):zDn f=zX f:=by simp only[zDn,zX,qU,Option.bind_some]
theorem zHt(a m:Int):jI a m=zBO a m:=by simp only[jI,zBO,zO]
theorem z3I(a m:Int):((jI a m).bind fun y2=>(nz m).bind fun _=>sI (w64 (Int.tdiv (w64 (a - y2)) m)) fun t4=>some t4)=zBl a m:=by simp only[zBl,zHt]
theorem z0w(f:Int×Int×Int):zF4 f=zBl (w64 (f.1 - f.2.1)) (w64 (2*f.1)):=z3I _ _
theorem z3j{a m:Int}(hm:1≤m)(h:a.tmod m<0):a.tmod m+m=a % m:=by have e:=Int.tmod_eq_emod (a:=a) (b:=m);have h1:=zy a (b:=m) (by omega);have h2:=zz a (b:=m) (by omega);split at e<;>omega
theorem z3i{a m:Int}(hm:1≤m)(h:0≤a.tmod m):a.tmod m=a % m:=by have e:=Int.tmod_eq_emod (a:=a) (b:=m);have h1:=zy a (b:=m) (by omega);have h2:=zz a (b:=m) (by omega);split at e<;>omega
theorem zBz{a m:Int}(h1:1≤m)(h2:m≤9223372036854775807):zBO a m=some (a % m):=by
 have h3:=zy a (b:=m) (by omega);have h4:=zz a (b:=m) (by omega);have hz:nz m=some ():=by
  unfold nz;rw[zBD];have:(m==0)=false:=by rw[zr];omega
  rw[this];rfl
 simp only[zBO,hz,Option.bind_some,zO,zS];by_cases h:a.tmod m<0
 ·rw[zb h,za,z3j h1 h,zB (by omega)]
 ·rw[zc h,cond_false,z3i h1 (by omega)]
theorem zGk{a m:Int}(h1:1≤m)(h2:m≤4611686018427387904)(h3:-4611686018427387904≤a)(h4:a≤4611686018427387904):zBl a m=some (a / m):=by
 have e1:=zy a (b:=m) (by omega);have e2:=zz a (b:=m) (by omega);have hz:nz m=some ():=by
  unfold nz;rw[zBD];have:(m==0)=false:=by rw[zr];omega
  rw[this];rfl
 have e3:a - a % m=m*(a / m):=by have:=Int.emod_add_mul_ediv a m;omega
 have e4:Int.tdiv (a - a % m) m=a / m:=by rw[e3];exact Int.mul_tdiv_cancel_left _ (by omega)
 have e5:a / m≤4611686018427387904∧-4611686018427387904≤a / m:=by
  constructor
  ·rcases Int.lt_or_le a 0 with h|h
   ·have:=Int.ediv_neg_of_neg_of_pos h (show 0<m by omega);omega
   ·have:=Int.ediv_le_self m h;omega
  ·have:=Int.le_ediv_of_mul_le (c:=m) (a:=-4611686018427387904) (b:=a) (by omega) (by
    have:-4611686018427387904*m≤-4611686018427387904:=by omega
    omega)
   omega
 simp only[zBl,zBz h1 (by omega),hz,Option.bind_some,zO];rw[zB (n:=a - a % m) (by omega),e4,zB (by omega)]
theorem z4z{a b c:Int}(ha:1≤a)(haM:a≤2000000)(hb1:-2000000≤b)(hb2:b≤2000000)(hr:zX (a,b,c)=some false):zEe (a,b,c)=jH (a,b,c):=by
 have hf:=zGk (a:=a - b) (m:=2*a) (by omega) (by omega) (by omega) (by omega);have hn:qU (a,b,c)=some (decide (-a<b∧b≤a)):=by
  simp only[qU,Option.bind_some,zS,qK];rw[zB (by omega)];by_cases h1:-a<b<;>by_cases h2:b≤a<;>simp[h1,h2]
  all_goals omega
 have hq:(a - b) / (2*a)=0↔(-a<b∧b≤a):=by
  constructor
  ·intro h;have h1:=Int.emod_add_mul_ediv (a - b) (2*a);have h2:=zy (a - b) (b:=2*a) (by omega);have h3:=zz (a - b) (b:=2*a) (by omega);rw[h]at h1;omega
  ·rintro⟨h1,h2⟩;exact Int.ediv_eq_zero_of_lt (by omega) (by omega)
 simp only[zEe,jH,z0w,z0x,hr,Option.bind_some,hn];rw[zB (n:=a - b) (by omega),zB (n:=2*a) (by omega),hf];simp only[Option.bind_some,cond_false,zBD];by_cases h:(a - b) / (2*a)=0
 ·have h2:=hq.1 h;simp[h,h2]
 ·have h2:¬(-a<b∧b≤a):=fun x=>h (hq.2 x);have h3:((a - b) / (2*a)==0)=false:=by rw[zr];exact h
  simp[h3,h2]
theorem qH{n:Int}(h:n.natAbs≤9223372036854775807):w64 n=n:=zB (by omega)
theorem zN{x y:Int}{A B:Nat}(hx:x.natAbs≤A)(hy:y.natAbs≤B):(x*y).natAbs≤A*B:=by rw[Int.natAbs_mul];exact Nat.mul_le_mul hx hy
theorem zP9{a b c:Int}(ha:a.natAbs≤2000000)(hb:b.natAbs≤2000000)(hc:c.natAbs≤2000000):qE (a,b,c) (0,-1,1,0)=some (c,-b,a):=by simp only[qE,zBU,zB8,zO,Option.bind_some,Int.mul_zero,Int.zero_mul,Int.mul_one,Int.add_zero,Int.zero_add,Int.one_mul];rw[show w64 0=0 from rfl];simp only[Int.mul_zero,Int.zero_mul,Int.mul_one,Int.add_zero,Int.zero_add,Int.one_mul];rw[show w64 0=0 from rfl];simp only[Int.mul_zero,Int.zero_mul,Int.mul_one,Int.add_zero,Int.zero_add,Int.one_mul,Int.mul_neg,Int.neg_mul,Int.neg_neg];have e1:w64 c=c:=qH (by omega);have e2:w64 (-1)=-1:=rfl;have e3:w64 a=a:=qH (by omega);have e4:w64 (-a)=-a:=qH (by omega);have e5:w64 (-b)=-b:=qH (by omega);simp only[e1,e2,e3,e4,e5,Int.mul_neg,Int.neg_mul,Int.neg_neg,Int.mul_one,Int.one_mul,Int.add_zero,Int.zero_add,show w64 0=0 from rfl]
theorem zPa{a b c s:Int}(ha:a.natAbs≤2000000)(hb:b.natAbs≤2000000)(hc:c.natAbs≤2000000)(hs:s.natAbs≤2000000):qE (a,b,c) (1,s,0,1)=some (a,2*a*s+b,a*s*s+b*s+c):=by have m1:=zN ha hs;have m2:=zN hb hs;have m3:=zN m1 hs;have m4:(2*a*s).natAbs≤2*2000000*2000000:=zN (zN (x:=2) (A:=2) (by decide) ha) hs;simp only[qE,zBU,zB8,zO,Option.bind_some,Int.mul_zero,Int.zero_mul,Int.mul_one,Int.add_zero,Int.zero_add,Int.one_mul];have z:w64 0=0:=rfl;have o:w64 1=1:=rfl;have e1:w64 c=c:=qH (by omega);have e3:w64 a=a:=qH (by omega);have e4:w64 b=b:=qH (by omega);have e5:w64 (2*a)=2*a:=qH (by omega);have e6:w64 (2*a*s)=2*a*s:=qH (by omega);have e7:w64 (a*s)=a*s:=qH (by omega);have e8:w64 (a*s*s)=a*s*s:=qH (by omega);have e9:w64 (b*s)=b*s:=qH (by omega);have e10:w64 (a*s*s+b*s)=a*s*s+b*s:=qH (by omega);have e11:w64 (a*s*s+b*s+c)=a*s*s+b*s+c:=qH (by omega);have e12:w64 (2*a*s+b)=2*a*s+b:=qH (by omega);simp only[z,o,e1,e3,e4,e5,e6,e7,e8,e9,e10,e11,e12,Int.mul_one,Int.one_mul,Int.add_zero,Int.zero_add,Int.mul_zero,Int.zero_mul]
theorem zYa{n:Int}(h:n.natAbs≤9223372036854775806):zD5 n=some (n.natAbs:Int):=by
 simp only[zD5,zO,mxI,zS];by_cases h1:n< -9223372036854775807
 ·omega
 ·rw[zc h1,cond_false,zB (by omega)];by_cases h2:n<0 - n
  ·rw[zb h2,za];congr 1;omega
  ·rw[zc h2,cond_false];congr 1;omega
theorem zJp{n:Int}(h:n.natAbs≤9223372036854775806):zAk n=some (n.natAbs:Int):=by
 simp only[zAk,zCa,Option.bind_some,zS];rw[zB (by omega)];by_cases h2:0 - n<n
 ·rw[zb h2,za,Option.bind_some];congr 1;omega
 ·rw[zc h2,cond_false,Option.bind_some];congr 1;omega
theorem zFP{b:Int}(h:b≠0):nz b=some ():=by
 unfold nz;rw[zBD];have:(b==0)=false:=by rw[zr];exact h
 rw[this];rfl
theorem zDm{a b:Int}(h:a≠b):eqI a b=false:=by rw[zBD,zr];exact h
theorem zBy(a:Int):eqI a a=true:=by rw[zBD];exact beq_self_eq_true a
theorem zII(a b:Int):Int.gcd b (a.tmod b)=Int.gcd a b:=by unfold Int.gcd;rw[Int.natAbs_tmod,Nat.gcd_comm,←Nat.gcd_rec,Nat.gcd_comm]
theorem zYI{x y:Nat}(k:Nat)(hy:0<y)(hxy:y<x)(h:x<2 ^(k+1)):x % y<2 ^k:=by have h1:=Nat.mod_lt x hy;have h2:=Nat.div_add_mod x y;have h3:1≤x / y:=Nat.div_pos (Nat.le_of_lt hxy) hy;have h4:y*1≤y*(x / y):=Nat.mul_le_mul_left y h3;rw[Nat.pow_succ]at h;omega
theorem zYJ:∀(k n:Nat)(a b:Int),b.natAbs<2 ^k→2*k+1≤n→∃r,zBf n a b=some r∧r.natAbs=Int.gcd a b
 |k,0,a,b,_,hn=>by omega
 |0,n+1,a,b,hb,hn=>by
  have:b=0:=by simp at hb;omega
  subst this;unfold zBf;rw[zBy];exact⟨a,rfl,by simp⟩
 |k+1,n+1,a,b,hb,hn=>by
  unfold zBf;by_cases h0:b=0
  ·subst h0;rw[zBy];exact⟨a,rfl,by simp⟩
  ·rw[zDm h0,zFP h0];simp only[zf,za,Option.bind_some,zO];rw[←zII a b]
   match n,hn with
   |n+1,hn=>
    unfold zBf;by_cases h1:a.tmod b=0
    ·rw[h1,zBy];exact⟨b,rfl,by simp⟩
    ·rw[zDm h1,zFP h1];simp only[zf,za,Option.bind_some,zO];rw[←zII b (a.tmod b)];refine zYJ k n _ _ ?_ (by omega)
     rw[Int.natAbs_tmod];have h2:(a.tmod b).natAbs<b.natAbs:=by rw[Int.natAbs_tmod];exact Nat.mod_lt _ (by omega)
     exact zYI k (by omega) h2 hb
theorem zYf(k:Nat)(h:k≤1000000):k≤FU:=Nat.le_trans h (by decide)
theorem zUU{a b:Int}{M:Nat}(ha:a.natAbs≤M)(hb:b.natAbs≤M):Int.gcd a b≤M:=by
 by_cases h:b=0
 ·subst h;simpa using ha
 ·have:Int.gcd a b∣b.natAbs:=Nat.gcd_dvd_right _ _;exact Nat.le_trans (Nat.le_of_dvd (by omega) this) hb
theorem zNB{a b:Int}(ha:a.natAbs≤9223372036854775806)(hb:b.natAbs≤9223372036854775806):zDx a b=some (Int.gcd a b:Int):=by obtain⟨r,h1,h2⟩:=zYJ 64 FU a b (by omega) (zYf 129 (by decide));have h3:=zUU ha hb;simp only[zDx,h1,Option.bind_some,zYa (n:=r) (by omega),h2]
theorem zZD:∀(n:Nat)(a b:Int),jS n a b=zBf n a b
 |0,a,b=>rfl
 |n+1,a,b=>by unfold jS zBf;simp only[zO,zZD n]
theorem zJQ(a b:Int):Int.gcd (a.natAbs:Int) (b.natAbs:Int)=Int.gcd a b:=by unfold Int.gcd;simp
theorem z4U:∀(n:Nat)(a b r:Int),0≤a→0≤b→zBf n a b=some r→0≤r
 |0,a,b,r,_,_,h=>by cases h
 |n+1,a,b,r,ha,hb,h=>by
  unfold zBf at h;by_cases h0:b=0
  ·subst h0;rw[zBy]at h;have h:some a=some r:=h;injection h with h;omega
  ·rw[zDm h0,zFP h0]at h;simp only[zf,za,Option.bind_some,zO]at h;exact z4U n _ _ _ hb (Int.tmod_nonneg _ ha) h
theorem zJo{a b:Int}(ha:a.natAbs≤9223372036854775806)(hb:b.natAbs≤9223372036854775806):zAj a b=some (Int.gcd a b:Int):=by obtain⟨r,h1,h2⟩:=zYJ 64 FU (a.natAbs:Int) (b.natAbs:Int) (by omega) (zYf 129 (by decide));have h3:=z4U _ _ _ _ (by omega) (by omega) h1;rw[zJQ]at h2;simp only[zAj,zJp ha,zJp hb,Option.bind_some,zZD,h1];congr 1;omega
def inN(x:Int):Bool:=leI (-1000000) x&&leI x 1000000
theorem qO{x:Int}:inN x=true↔-1000000≤x∧x≤1000000:=by unfold inN;rw[qK,qK];simp
theorem z1s(l:List Int)(hl:l.length<1000000):∀(n i:Nat),i≤l.length→l.length - i<n→zCi l n (i:Int)=some (if (l.drop i).all inN then .inl () else .inr false)
 |0,i,_,h=>by omega
 |n+1,i,hi,h=>by
  unfold zCi;rw[zS];by_cases h1:(i:Int)<(l.length:Int)
  ·have h2:i<l.length:=by omega
   rw[zb h1,za];have h3:getI l (i:Int)=some l[i]:=by unfold getI;rw[qK,zb (by omega:(0:Int)≤(i:Int)),za];simp[h2]
   rw[h3,Option.bind_some,List.drop_eq_getElem_cons h2,List.all_cons];simp only[zS,inN,qK,zO];rw[zB (by omega)];have ih:=z1s l hl n (i+1) (by omega) (by omega);rw[show ((i:Int)+1)=((i+1:Nat):Int) by omega,ih];by_cases h4:l[i]< -1000000
   ·have h6:¬(-1000000≤l[i]):=by omega
    simp[h4,h6]
   ·by_cases h5:1000000<l[i]
    ·have h6:¬(l[i]≤1000000):=by omega
     simp[h4,h5,h6]
    ·have h6:-1000000≤l[i]:=by omega
     have h7:l[i]≤1000000:=by omega
     simp only[h4,h5,h6,h7,decide_true,decide_false,cond_false,za,Bool.and_true,Bool.true_and]
  ·rw[zc h1,cond_false,List.drop_eq_nil_of_le (by omega)];rfl
theorem zGH(l:List Int)(hl:l.length<1000000):qS l=some (l.all inN):=by have h:=z1s l hl FU 0 (Nat.zero_le _) (by (have:(1000000:Nat)≤FU:=by decide);omega);simp only[qS,show (0:Int)=((0:Nat):Int) from rfl,h,List.drop_zero];cases l.all inN<;>rfl
theorem zZn(n:Int):zAM n=some (inN n):=by simp only[zAM,zAX,Option.bind_some,inN];cases leI (-1000000) n<;>rfl
theorem zF1(f:Int×Int×Int):zEg f=some (inN f.1&&(inN f.2.1&&inN f.2.2)):=by simp only[zEg,zGH _ (show [f.1,f.2.1,f.2.2].length<1000000 by simp),Option.bind_some,List.all_cons,List.all_nil,Bool.and_true]
theorem zW6(f:Int×Int×Int):zDP f=some (inN f.1&&(inN f.2.1&&inN f.2.2)):=by simp only[zDP,zZn,Option.bind_some];cases inN f.1<;>cases inN f.2.1<;>cases inN f.2.2<;>rfl
theorem zGL:qT=qC:=rfl
theorem zPb{a b c:Int}(ha:inN a=true)(hb:inN b=true)(hc:inN c=true):qC (a,b,c)=some (b*b - 4*a*c):=by rw[qO]at ha hb hc;have m1:=zN (x:=b) (y:=b) (A:=1000000) (B:=1000000) (by omega) (by omega);have m2:=zN (x:=4*a) (y:=c) (A:=4000000) (B:=1000000) (by omega) (by omega);simp only[qC,zO];rw[qH (n:=b*b) (by omega),qH (n:=4*a) (by omega),qH (n:=4*a*c) (by omega),qH (by omega)]
theorem zND(f:Int×Int×Int):jO f=zI f:=by simp only[jO,zI,zF1,zW6,zGL]
theorem zJn(f:Int×Int×Int):zDw f=jF f:=by simp only[zDw,jF,zND,zGL]
theorem zHG{a b c:Int}(ha:inN a=true)(hb:inN b=true)(hc:inN c=true):zB5 (a,b,c)=some (Int.gcd a (Int.gcd b c):Int):=by rw[qO]at ha hb hc;have h:=zUU (a:=b) (b:=c) (M:=1000000) (by omega) (by omega);simp only[zB5,zNB (a:=b) (b:=c) (by omega) (by omega),Option.bind_some];rw[zNB (by omega) (by omega)];rfl
theorem zX8{a b c:Int}(ha:inN a=true)(hb:inN b=true)(hc:inN c=true):zAT (a,b,c)=some (Int.gcd a (Int.gcd b c):Int):=by rw[qO]at ha hb hc;have h:=zUU (a:=a) (b:=b) (M:=1000000) (by omega) (by omega);simp only[zAT,zJo (a:=a) (b:=b) (by omega) (by omega),Option.bind_some];rw[zJo (by omega) (by omega),Option.bind_some];congr 2;unfold Int.gcd;simp[Nat.gcd_assoc]
theorem zIQ{a b c:Int}(h:jF (a,b,c)=some true):inN a=true∧inN b=true∧inN c=true∧b*b - 4*a*c<0∧-2000≤b*b - 4*a*c∧0<a:=by
 simp only[jF,zI,zF1,Option.bind_some]at h;cases ha:inN a<;>cases hb:inN b<;>cases hc:inN c<;>simp only[ha,hb,hc,Bool.and_true,Bool.and_false,Bool.true_and,Bool.false_and,za,cond_false,Option.bind_some]at h
 all_goals first
  |(exfalso;exact absurd (zD h) (by decide))
  |skip
 rw[zPb ha hb hc]at h;simp only[Option.bind_some,zS,qK]at h;by_cases h1:b*b - 4*a*c<0<;>by_cases h2:0<a<;>by_cases h3:-2000≤b*b - 4*a*c<;>simp[h1,h2,h3]at h;exact⟨rfl,rfl,rfl,h1,h3,h2⟩
theorem zEb(f:Int×Int×Int):∃b,zI f=some b:=by simp only[zI,zF1,Option.bind_some,qC,zO];cases (inN f.1&&(inN f.2.1&&inN f.2.2))<;>exact⟨_,rfl⟩
theorem zIR(f:Int×Int×Int):∃b,jF f=some b:=by obtain⟨b,hb⟩:=zEb f;simp only[jF,hb,Option.bind_some,qC,zO];cases b<;>exact⟨_,rfl⟩
theorem zG8(f:Int×Int×Int):zDQ f=qD f:=by
 simp only[zDQ,qD,zJn];obtain⟨b,hb⟩:=zIR f;rw[hb];cases b with
 |false=>rfl
 |true=>obtain⟨a,b,c⟩:=f;obtain⟨ha,hb,hc,_⟩:=zIQ hb;simp only[Option.bind_some,za,zHG ha hb hc,zX8 ha hb hc]
theorem zI5(f:Int×Int×Int):∃b,qD f=some b:=by
 obtain⟨b,hb⟩:=zIR f;simp only[qD,hb,Option.bind_some];cases b with
 |false=>exact⟨_,rfl⟩
 |true=>obtain⟨a,b,c⟩:=f;obtain⟨ha,hb,hc,_⟩:=zIQ hb;simp only[Option.bind_some,za,zHG ha hb hc];exact⟨_,rfl⟩
theorem zD7{a b c:Int}(h:qD (a,b,c)=some true):inN a=true∧inN b=true∧inN c=true∧b*b - 4*a*c<0∧-2000≤b*b - 4*a*c∧0<a∧Int.gcd a (Int.gcd b c)=1:=by
 simp only[qD]at h;obtain⟨s,hs⟩:=zIR (a,b,c);rw[hs]at h;cases s with
 |false=>exfalso;exact absurd (zD h) (by decide)
 |true=>obtain⟨h1,h2,h3,h4,h5,h6⟩:=zIQ hs;simp only[Option.bind_some,za,zHG h1 h2 h3,zBD]at h;have h7:=zD h;refine⟨h1,h2,h3,h4,h5,h6,?_⟩;have:=eq_of_beq h7;omega
structure RedInv (a b c d g:Int):Prop where
  a1:1≤a
  aM:a≤1000000
  b1:-1900000≤b
  b2:b≤1900000
  c1:1≤c
  cM:c≤1250000
  dis:b*b - 4*a*c=d
  neg:d<0
  nrm:(-a<b∧b≤a)∨c≤1000000
  con:∀k:Int,(k∣a∧k∣b∧k∣c)↔k∣g
def zC2(a b c:Int):Prop:=(-a<b∧b≤a)∧(a<c∨(a=c∧0≤b))
instance (a b c:Int):Decidable (zC2 a b c):=inferInstanceAs (Decidable ((-a<b∧b≤a)∧(a<c∨(a=c∧0≤b))))
theorem zH1{a b c:Int}(ha:1≤a)(haM:a≤1000000):zX (a,b,c)=some (decide (zC2 a b c)):=by
 have hn:qU (a,b,c)=some (decide (-a<b∧b≤a)):=by
  simp only[qU,Option.bind_some,zS,qK];rw[zB (by omega)];by_cases h1:-a<b<;>by_cases h2:b≤a<;>simp[h1,h2]
  all_goals omega
 simp only[zX,hn,Option.bind_some,zS,qK,zBD];unfold zC2;by_cases h1:-a<b<;>by_cases h2:b≤a<;>by_cases h3:a<c<;>by_cases h4:a=c<;>by_cases h5:0≤b<;>simp[h1,h2,h3,h4,h5]
theorem zZV{a b c d g:Int}(h:RedInv a b c d g)(hr:¬zC2 a b c):∃m a2 b2 c2,jH (a,b,c)=some m∧qE (a,b,c) m=some (a2,b2,c2)∧RedInv a2 b2 c2 d g∧
  ((¬(-a<b∧b≤a)∧a2=a∧(-a2<b2∧b2≤a2))∨((-a<b∧b≤a)∧a2<a)∨((-a<b∧b≤a)∧zC2 a2 b2 c2∧a2≤a)):=by
 obtain⟨a1,aM,b1,b2,c1,cM,dis,neg,nrm,con⟩:=h;have hn:qU (a,b,c)=some (decide (-a<b∧b≤a)):=by
  simp only[qU,Option.bind_some,zS,qK];rw[zB (by omega)];by_cases h1:-a<b<;>by_cases h2:b≤a<;>simp[h1,h2]
  all_goals omega
 by_cases hN:-a<b∧b≤a
 ·have hst:jH (a,b,c)=some (0,-1,1,0):=by
   simp only[jH,zH1 a1 aM,hn,Option.bind_some,zc hr,zb hN];rfl
  refine⟨_,c,-b,a,hst,zP9 (by omega) (by omega) (by omega),?_,?_⟩
  ·have hca:c≤a:=by
    unfold zC2 at hr;have:¬(a<c∨(a=c∧0≤b)):=fun x=>hr ⟨hN,x⟩;omega
   exact⟨c1,by omega,by omega,by omega,a1,by omega,by grind,neg,.inr aM,fun k=>by rw[←con k,Int.dvd_neg];exact⟨fun h=>⟨h.2.2,h.2.1,h.1⟩,fun h=>⟨h.2.2,h.2.1,h.1⟩⟩⟩
  ·have h2:¬(a<c∨(a=c∧0≤b)):=fun x=>hr ⟨hN,x⟩;by_cases hac:a=c
   ·refine .inr (.inr ⟨hN,⟨?_,.inr ?_⟩,?_⟩)<;>omega
   ·exact .inr (.inl ⟨hN,by omega⟩)
 ·have hf:=zGk (a:=a - b) (m:=2*a) (by omega) (by omega) (by omega) (by omega);have e1:=zy (a - b) (b:=2*a) (by omega);have e2:=zz (a - b) (b:=2*a) (by omega);have e3:=Int.emod_add_mul_ediv (a - b) (2*a);generalize hs:(a - b) / (2*a)=s at*;generalize hq:(a - b) % (2*a)=q at*;have hs1:s≤1000000:=by
   rcases Int.lt_or_le 1000000 s with h|h
   ·have:2*a*1000001≤2*a*s:=zn (by omega) (by omega);omega
   ·exact h
  have hs2:-1000001≤s:=by
   rcases Int.lt_or_le s (-1000001) with h|h
   ·have:2*a*s≤2*a*(-1000002):=zn (by omega) (by omega);omega
   ·exact h
  have hst:jH (a,b,c)=some (1,s,0,1):=by simp only[jH,zH1 a1 aM,hn,Option.bind_some,zc hr,zc hN,cond_false,zf,za];rw[zB (n:=a - b) (by omega),zB (n:=2*a) (by omega),hf];rfl
  have hb:-a<2*a*s+b∧2*a*s+b≤a:=by omega
  have hid:4*a*(a*s*s+b*s+c)=(2*a*s+b)*(2*a*s+b) - d:=by grind
  have hsq:0≤(2*a*s+b)*(2*a*s+b):=by
   rcases Int.le_total 0 (2*a*s+b) with h|h
   ·exact Int.mul_nonneg h h
   ·exact Int.mul_nonneg_of_nonpos_of_nonpos h h
  have hsq2:(2*a*s+b)*(2*a*s+b)≤a*a:=by
   have:=zN (x:=2*a*s+b) (y:=2*a*s+b) (A:=a.natAbs) (B:=a.natAbs) (by omega) (by omega);have h2:((2*a*s+b)*(2*a*s+b)).natAbs≤(a*a).natAbs:=by rw[Int.natAbs_mul a a];exact this
   have h3:0≤a*a:=Int.mul_nonneg (by omega) (by omega);omega
  have hbb:0≤b*b:=by
   rcases Int.le_total 0 b with h|h
   ·exact Int.mul_nonneg h h
   ·exact Int.mul_nonneg_of_nonpos_of_nonpos h h
  have hc:1≤a*s*s+b*s+c:=by
   rcases Int.lt_or_le 0 (a*s*s+b*s+c) with h|h
   ·exact h
   ·have:4*a*(a*s*s+b*s+c)≤4*a*0:=zn h (by omega);omega
  have hcc:c≤1000000:=nrm.resolve_left hN;have hcM:a*s*s+b*s+c≤1250000:=by
   have h4:4*a*(a*s*s+b*s+c)≤a*a+4*a*c:=by omega
   have h5:a*a+4*a*c≤a*5000000:=by
    have:a*(a+4*c)≤a*5000000:=zn (by omega) (by omega);have e:a*(a+4*c)=a*a+4*a*c:=by grind
    omega
   rcases Int.lt_or_le 1250000 (a*s*s+b*s+c) with h|h
   ·have:4*a*1250001≤4*a*(a*s*s+b*s+c):=zn (by omega) (by omega);omega
   ·exact h
  have hcon:∀k:Int,(k∣a∧k∣2*a*s+b∧k∣a*s*s+b*s+c)↔k∣g:=by
   intro k;rw[←con k];constructor
   ·rintro⟨u1,u2,u3⟩;have v1:k∣b:=by
     have w1:k∣2*a*s:=Int.dvd_mul_of_dvd_left (Int.dvd_mul_of_dvd_right u1);exact (Int.dvd_add_right w1).1 u2
    have w2:k∣a*s*s+b*s:=Int.dvd_add (Int.dvd_mul_of_dvd_left (Int.dvd_mul_of_dvd_left u1)) (Int.dvd_mul_of_dvd_left v1);exact⟨u1,v1,(Int.dvd_add_right w2).1 u3⟩
   ·rintro⟨u1,u2,u3⟩;have w1:k∣2*a*s:=Int.dvd_mul_of_dvd_left (Int.dvd_mul_of_dvd_right u1);have w2:k∣a*s*s+b*s:=Int.dvd_add (Int.dvd_mul_of_dvd_left (Int.dvd_mul_of_dvd_left u1)) (Int.dvd_mul_of_dvd_left u2);exact⟨u1,Int.dvd_add w1 u2,Int.dvd_add w2 u3⟩
  refine⟨_,a,2*a*s+b,a*s*s+b*s+c,hst,zPa (by omega) (by omega) (by omega) (by omega),⟨a1,aM,by omega,by omega,hc,hcM,by grind,neg,.inl hb,hcon⟩,.inl ⟨hN,rfl,hb⟩⟩
theorem zSx(m n:Int×Int×Int×Int):∃y,zF m n=some y:=by simp only[zF,zO];exact⟨_,rfl⟩
theorem z1c:∀(n:Nat)(a b c d g p q r s:Int),RedInv a b c d g→4*a+(if -a<b∧b≤a then 0 else 2)+(if zC2 a b c then 0 else 1)≤(n:Int)→
  ∃m1 m2 m3 m4 a2 b2 c2,zCI n p q r s a b c=some (m1,m2,m3,m4,a2,b2,c2)∧zD0 n p q r s a b c=some (m1,m2,m3,m4,a2,b2,c2)∧RedInv a2 b2 c2 d g∧zC2 a2 b2 c2
 |0,a,b,c,d,g,p,q,r,s,h,hm=>by have:=h.a1;split at hm<;>split at hm<;>omega
 |n+1,a,b,c,d,g,p,q,r,s,h,hm=>by
  unfold zCI zD0;rw[z0x,zH1 h.a1 h.aM];by_cases hr:zC2 a b c
  ·refine⟨p,q,r,s,a,b,c,?_,?_,h,hr⟩<;>simp[hr]
  ·obtain⟨m,a2,b2,c2,h1,h2,h3,h4⟩:=zZV h hr;obtain⟨y,hy⟩:=zSx (p,q,r,s) m;obtain⟨y1,y2,y3,y4⟩:=y;have hstep:zEe (a,b,c)=jH (a,b,c):=z4z h.a1 (by have:=h.aM;omega) (by have:=h.b1;omega) (by have:=h.b2;omega) (by rw[zH1 h.a1 h.aM,zc hr]);have e1:(!decide (zC2 a b c))=true:=by simp[hr]
   simp only[Option.bind_some,hstep,h1,z6w,zNC,h2,hy,e1,za];refine z1c n a2 b2 c2 d g y1 y2 y3 y4 h3 ?_
   rcases h4 with⟨g1,g2,g3⟩|⟨g1,g2⟩|⟨g1,g2,g3⟩
   ·rw[if_neg g1,if_neg hr]at hm;rw[if_pos g3];split<;>omega
   ·rw[if_pos g1,if_neg hr]at hm;split<;>split<;>omega
   ·rw[if_pos g1,if_neg hr]at hm;rw[if_pos g2.1,if_pos g2];omega
theorem zTw{a b c d g:Int}(h:RedInv a b c d g):∃m a2 b2 c2,zQ (a,b,c)=some ((a2,b2,c2),m)∧qM (a,b,c)=some ((a2,b2,c2),m)∧RedInv a2 b2 c2 d g∧zC2 a2 b2 c2:=by
 obtain⟨m1,m2,m3,m4,a2,b2,c2,h1,h2,h3,h4⟩:=z1c FU a b c d g 1 0 0 1 h (by have e:((FU:Nat):Int)=1000000000:=rfl;rw[e];have:=h.aM;split<;>split<;>omega)
 refine⟨(m1,m2,m3,m4),a2,b2,c2,?_,?_,h3,h4⟩
 ·simp only[zQ,zDA,Option.bind_some,h1]
 ·simp only[qM,h2,Option.bind_some]
theorem zXu{a b c:Int}(h:qD (a,b,c)=some true):RedInv a b c (b*b - 4*a*c) 1:=by
 obtain⟨ha,hb,hc,hneg,hbig,hpos,hg⟩:=zD7 h;rw[qO]at ha hb hc;have hbb:0≤b*b:=by
  rcases Int.le_total 0 b with h|h
  ·exact Int.mul_nonneg h h
  ·exact Int.mul_nonneg_of_nonpos_of_nonpos h h
 have hc1:1≤c:=by
  rcases Int.lt_or_le 0 c with h|h
  ·exact h
  ·have:4*a*c≤4*a*0:=zn h (by omega);omega
 refine⟨by omega,by omega,by omega,by omega,hc1,by omega,rfl,hneg,.inr (by omega),fun k=>?_⟩;constructor
 ·rintro⟨u1,u2,u3⟩;have h1:k∣(Int.gcd b c:Int):=Int.dvd_coe_gcd u2 u3;have h2:k∣(Int.gcd a (Int.gcd b c):Int):=Int.dvd_coe_gcd u1 h1;rw[hg]at h2;exact h2
 ·intro h1;exact⟨Int.dvd_trans h1 (Int.one_dvd _),Int.dvd_trans h1 (Int.one_dvd _),Int.dvd_trans h1 (Int.one_dvd _)⟩
theorem FUge:1000000≤FU:=by decide
theorem nzOk{b:Int}(h:b≠0):nz b=some ():=by
 unfold nz;rw[zBD];have:(b==0)=false:=by rw[zr];exact h
 rw[this];rfl
theorem zGK(a:Int):eqI a a=true:=by rw[zBD];exact beq_self_eq_true a
theorem eqNe{a b:Int}(h:a≠b):eqI a b=false:=by rw[zBD,zr];exact h
theorem zCw{n:Nat}(h:n≤1000000000):room n=some ():=by unfold room;rw[Nat.ble_eq_true_of_le (by omega),za]
theorem zDz{α:Type}{l:List α}{k:Nat}(hk:k<l.length):getI l (k:Int)=some (l[k]'hk):=by unfold getI;rw[qK,zb (by omega),za];simp
theorem zEJ{k:Nat}(h:k<1000000000):w64 ((k:Int)+1)=((k+1:Nat):Int):=by rw[zB (by omega)];push_cast;omega
def bl(l:List UInt8):qd:=⟨l.toArray⟩
theorem zBV(a b:List UInt8):bl a++bl b=bl (a++b):=by apply ByteArray.ext;simp[bl]
theorem zGN(l:List UInt8):(bl l).size=l.length:=by simp[bl,ByteArray.size]
theorem zF7(l:List UInt8):(bl l).data.toList=l:=by simp[bl]
theorem zCl{a b:List UInt8}(h:a.length+b.length≤9223372036854775807):catR (bl a) (bl b)=some ():=by unfold catR;rw[if_pos (by rw[zGN,zGN];exact h)]
theorem zWx{d:Int}(h0:0≤d)(h1:d≤9):zHa [IntKind.u8.wrap (w64 (48+d))]=bl [UInt8.ofNat (48+d.toNat)]:=by
 rw[zB (by omega),IntKind.wrap_u8];have e:(48+d) % 256=48+d:=by omega
 have e2:(48+d).toNat=48+d.toNat:=by omega
 apply ByteArray.ext;simp only[zHa,List.foldl_cons,List.foldl_nil,e,e2];rfl
theorem zQg:∀(n k u:Nat),u<10 ^k→k≤18→k<n→zBk n (u:Int)=some (bl (Go.Lib.decDigits u))
 |0,k,u,_,_,h=>by omega
 |n+1,k,u,h1,h18,h2=>by
  rw[zBk,zS];by_cases hu:u<10
  ·rw[zb (by omega),za,zWx (by omega) (by omega),Go.Lib.decDigits_one hu];rfl
  ·have hk:k≠0:=by
    intro e;subst e;simp at h1;omega
   obtain⟨j,rfl⟩:∃j,k=j+1:=⟨k - 1,by omega⟩
   have h3:u / 10<10 ^j:=by rw[Nat.pow_succ]at h1;omega
   have hbig:10 ^(j+1)≤10 ^18:=Nat.pow_le_pow_right (by decide) h18;have hb2:u<1000000000000000000:=Nat.lt_of_lt_of_le h1 hbig;have e1:w64 (Int.tdiv (u:Int) 10)=((u / 10:Nat):Int):=by rw[show Int.tdiv (u:Int) 10=((u / 10:Nat):Int) from rfl,zB (by omega)]
   have e2:Int.tmod (u:Int) 10=((u % 10:Nat):Int):=rfl;rw[zc (by omega),cond_false,e1,zQg n j (u / 10) h3 (by omega) (by omega),e2];simp only[Option.bind_some];rw[zWx (by omega) (by omega)];have h4:Go.Lib.nDigits (u / 10)≤20:=by
    rcases Nat.lt_or_ge 20 (Go.Lib.nDigits (u / 10)) with h5|h5
    ·exfalso
     have h6:∀(m v:Nat),v<10 ^m→1≤m→Go.Lib.nDigits v≤m:=by
      intro m
      induction m with
      |zero=>intro v hv h;omega
      |succ m ih=>
       intro v hv _;by_cases hv10:v<10
       ·rw[Go.Lib.nDigits_small hv10];omega
       ·rw[Go.Lib.nDigits_big hv10];have:m≠0:=by intro e;subst e;simp at hv;omega
        have:=ih (v / 10) (by rw[Nat.pow_succ]at hv;omega) (by omega);omega
     have:=h6 20 (u / 10) (by omega) (by omega);omega
    ·exact h5
   rw[zCl (by rw[Go.Lib.decDigits_length];simp;omega),Option.bind_some,zBV];have e3:Go.Lib.decDigits u=Go.Lib.decDigits (u / 10)++[UInt8.ofNat (48+u % 10)]:=by rw[Go.Lib.decDigits,dif_neg hu]
   rw[e3];rfl
theorem zP0:∀(m v:Nat),v<10 ^m→1≤m→Go.Lib.nDigits v≤m
 |0,v,hv,h=>by omega
 |m+1,v,hv,_=>by
  by_cases hv10:v<10
  ·rw[Go.Lib.nDigits_small hv10];omega
  ·rw[Go.Lib.nDigits_big hv10];have:m≠0:=by intro e;subst e;simp at hv;omega
   have:=zP0 m (v / 10) (by rw[Nat.pow_succ]at hv;omega) (by omega);omega
def sm18(n:Int):Prop:=-1000000000000000000<n∧n<1000000000000000000
theorem qR{n:Int}(h:sm18 n):(Go.Lib.itoa n).length≤19:=by
 obtain⟨h0,h1⟩:=h;unfold Go.Lib.itoa;split
 ·rw[ze,Go.Lib.decDigits_length];have:=zP0 18 n.natAbs (by omega) (by omega);omega
 ·rw[Go.Lib.decDigits_length];have:=zP0 18 n.toNat (by omega) (by omega);omega
theorem zC1{n:Int}(h:sm18 n):qQ n=some (bl (Go.Lib.itoa n)):=by
 have hl:=qR h;obtain⟨h0,h1⟩:=h;have hF:=FUge;unfold qQ;unfold Go.Lib.itoa at hl ⊢;rw[zS];by_cases hn:n<0
 ·rw[zb hn,za,if_pos hn];rw[if_pos hn]at hl;have e1:w64 (0 - n)=((n.natAbs:Nat):Int):=by rw[zB (by omega)];omega
  rw[e1,zQg FU 18 n.natAbs (by omega) (by omega) (by omega)];have e2:(⟨#[45]⟩:qd)=bl [45]:=rfl;simp only[Option.bind_some];rw[e2,zCl (by simp at hl ⊢;omega),Option.bind_some,zBV];rfl
 ·rw[zc hn,cond_false,if_neg hn];have e1:n=((n.toNat:Nat):Int):=by omega
  rw[e1,zQg FU 18 n.toNat (by omega) (by omega) (by omega)];rfl
theorem zBa{n:Int}(h:sm18 n):zR n=some (bl (Go.Lib.itoa n)):=by obtain⟨h0,h1⟩:=h;unfold zR;rw[if_pos (by omega)];rfl
theorem zSz(ls:List (List UInt8))(h:∀x∈ls,x.length≤1000):(Go.Lib.joinTail [32] ls).length≤1001*ls.length:=by
 induction ls with
 |nil=>simp[Go.Lib.joinTail]
 |cons x r ih=>have h1:=ih fun y hy=>h y (zl _ hy);have h2:=h x zk;simp only[Go.Lib.joinTail,List.map_cons,List.flatten_cons,zd,ze,List.length_nil]at h1 ⊢;omega
theorem zQF(x:List UInt8)(r:List (List UInt8)):Go.Lib.joinTail [32] (x::r)=32::(x++Go.Lib.joinTail [32] r):=by simp[Go.Lib.joinTail]
theorem zTz(ls:List (List UInt8))(hN:ls.length≤100)(hL:∀x∈ls,x.length≤1000):∀(n k:Nat)(out:List UInt8),1≤k→k≤ls.length→ls.length - k<n→out.length≤2000*k→
  zBq (ls.map bl) n (bl out) (k:Int)=some (bl (out++Go.Lib.joinTail [32] (ls.drop k)))
 |0,k,out,_,_,h,_=>by omega
 |n+1,k,out,h1,h0,h,ho=>by
  unfold zBq;rw[zS,List.length_map];by_cases hk:k<ls.length
  ·have e3:ls.drop k=ls[k]::ls.drop (k+1):=List.drop_eq_getElem_cons hk;have hx:=hL (ls[k]) (zt hk);rw[zb (by omega),za,zDz (by rw[List.length_map];exact hk)];simp only[Option.bind_some,List.getElem_map];rw[zS,zb (by omega),za];have e2:(⟨#[32]⟩:qd)=bl [32]:=rfl;rw[e2,zCl (by simp;omega),Option.bind_some,zBV,zCl (by simp;omega),Option.bind_some,zBV,zO,zEJ (by omega)];rw[zTz ls hN hL n (k+1) _ (by omega) (by omega) (by omega) (by simp;omega),e3,zQF];simp
  ·have e:k=ls.length:=by omega
   rw[zc (by omega),cond_false,e,List.drop_length];simp[Go.Lib.joinTail]
theorem zFj(x:List UInt8)(r:List (List UInt8))(hN:r.length≤99)(hL:∀y∈x::r,y.length≤1000):zAs (bl x::r.map bl)=some (bl (x++Go.Lib.joinTail [32] r)):=by
 have hF:=FUge;obtain⟨m,hm⟩:∃m,FU=m+1:=⟨FU - 1,by omega⟩
 have hx:=hL x zk;have key:zBq (bl x::r.map bl) FU (bl []) 0=some (bl (x++Go.Lib.joinTail [32] r)):=by rw[hm];unfold zBq;have e1:getI (bl x::r.map bl) 0=some (bl x):=rfl;have e2:=zEJ (k:=0) (by omega);rw[zS,zb (by simp only[ze];omega),za,e1];simp only[Option.bind_some];rw[zS,zc (by omega),cond_false,zCl (by simp;omega),Option.bind_some,zBV,zO];have e3:w64 (0+1)=((0+1:Nat):Int):=e2;rw[e3];have:=zTz (x::r) (by simp;omega) hL m 1 ([]++x) (by omega) (by simp) (by simp only[ze];omega) (by simp;omega);simpa using this
 unfold zAs;have e0:(⟨#[]⟩:qd)=bl []:=rfl;rw[e0,key];rfl
theorem zEo(x:List UInt8)(r:List (List UInt8))(hr:r≠[])(hN:r.length≤99)(hL:∀y∈x::r,y.length≤1000):jG (bl x) (r.map bl)=some (bl (x++Go.Lib.joinTail [32] r)):=by
 have hx:=hL x zk;have ht:=zSz r fun y hy=>hL y (zl _ hy);have e2:(⟨#[32]⟩:qd)=bl [32]:=rfl;have e4:(r.map bl).map (fun b:qd=>b.data.toList)=r:=by
  rw[List.map_map]
  conv=>rhs;rw[←List.map_id r]
  exact List.map_congr_left fun y _=>zF7 y
 have e5:Go.Lib.joinTail [32] r=32::Go.Lib.join r [32]:=by
  cases r with
  |nil=>exact absurd rfl hr
  |cons y s=>rw[zQF,Go.Lib.join_cons]
 have e6:(Go.Lib.join r [32]).length≤1001*r.length:=by rw[e5]at ht;simp at ht;omega
 have hj:zDZ (r.map bl) (bl [32])=some (bl (Go.Lib.join r [32])):=by unfold zDZ;rw[e4,zF7,if_pos ⟨by rw[List.length_map];omega,by omega⟩];rfl
 unfold jG;rw[e2,zCl (by simp;omega),Option.bind_some,hj,Option.bind_some,zBV,zCl (by simp;omega),Option.bind_some,zBV,e5];simp
def upz:Nat→Int→List Int
 |0,_=>[]
 |f+1,y=>y::upz f (y+1)
theorem zYD:∀(f:Nat)(y z:Int),z∈upz f y↔y≤z∧z<y+f
 |0,y,z=>by simp[upz]
 |f+1,y,z=>by rw[upz,zj,zYD f (y+1) z];push_cast;omega
theorem z0S:∀(f:Nat)(y:Int),(upz f y).Pairwise (·<·)
 |0,y=>List.Pairwise.nil
 |f+1,y=>by rw[upz,List.pairwise_cons];refine⟨fun z hz=>?_,z0S f (y+1)⟩;have:=(zYD f (y+1) z).1 hz;omega
theorem zXK:∀(f:Nat)(y:Int),(upz f y).length=f
 |0,y=>rfl
 |f+1,y=>by rw[upz,ze,zXK f (y+1)]
theorem z6S{a b c:Int}(ha:1≤a)(haM:a≤1000000):zDn (a,b,c)=some (decide (zC2 a b c)):=by rw[z0x];exact zH1 ha haM
def cfR(d a b:Int):Int×Int×Int:=(a,b,Int.tdiv (b*b - d) (4*a))
def okR(d:Int)(f:Int×Int×Int):Bool:=eqI (f.2.1*f.2.1 - 4*f.1*f.2.2) d&&decide (zC2 f.1 f.2.1 f.2.2)
def rowR(d a:Int)(n:Nat)(b:Int):List (Int×Int×Int):=((upz n b).map (cfR d a)).filter (okR d)
theorem zJy{d a b:Int}{n:Nat}{f:Int×Int×Int}(h:f∈rowR d a n b):f.1=a:=by unfold rowR at h;obtain⟨b',_,hb⟩:=List.mem_map.1 (List.mem_filter.1 h).1;rw[←hb];rfl
theorem z1R{x m:Int}(hm:1≤m):(Int.tdiv x m).natAbs≤x.natAbs:=by rw[Int.natAbs_tdiv];exact Nat.div_le_self _ _
theorem zPV{d a:Int}(ha1:1≤a)(ha:a≤1000)(hd1:-2000≤d)(hd2:d≤-3):∀(m fu:Nat)(b:Int)(acc:List (Int×Int×Int)),b+m=a+1→-1000≤b→m<fu→acc.length+m≤100000000→
  zC4 a d fu b acc=some (acc++rowR d a m b)
 |m,0,b,acc,_,_,h,_=>by omega
 |0,fu+1,b,acc,hb,hb0,hf,hl=>by rw[zC4,qK,zc (by omega),cond_false];simp[rowR,upz]
 |m+1,fu+1,b,acc,hb,hb0,hf,hl=>by
  rw[zC4,qK,zb (by omega),za];have b1:=zN (x:=b) (y:=b) (A:=1000) (B:=1000) (by omega) (by omega);have e4:w64 (4*a)=4*a:=zB (by omega);have e5:w64 (w64 (b*b) - d)=b*b - d:=by rw[qH (n:=b*b) (by omega),qH (by omega)]
  have q1:=z1R (x:=b*b - d) (m:=4*a) (by omega);generalize hc:Int.tdiv (b*b - d) (4*a)=c at q1;have b2:=zN (x:=4*a) (y:=c) (A:=4000) (B:=1002000) (by omega) (by omega);have ed:qT (a,b,c)=some (b*b - 4*a*c):=by simp only[qT,zO];rw[qH (n:=b*b) (by omega),e4,qH (n:=4*a*c) (by omega),qH (by omega)]
  have ew:w64 (b+1)=b+1:=zB (by omega);have hcf:cfR d a b=(a,b,c):=by unfold cfR;rw[hc]
  rw[e4,nzOk (by omega),e5,hc,qH (n:=c) (by omega)];simp only[Option.bind_some,zO,ed,z6S ha1 (show a≤1000000 by omega),ew];have hrow:rowR d a (m+1) b=(if okR d (a,b,c) then [(a,b,c)] else [])++rowR d a m (b+1):=by unfold rowR;rw[upz,List.map_cons,List.filter_cons,hcf];cases okR d (a,b,c)<;>simp
  rw[hrow];unfold okR;dsimp only;cases h1:eqI (b*b - 4*a*c) d with
  |true=>
   rw[za];simp only[Option.bind_some,Bool.true_and];cases h2:decide (zC2 a b c) with
   |true=>rw[za,zCw (by simp;omega)];simp only[Option.bind_some];rw[zPV ha1 ha hd1 hd2 m fu (b+1) _ (by omega) (by omega) (by omega) (by simp;omega)];simp
   |false=>rw[cond_false];rw[zPV ha1 ha hd1 hd2 m fu (b+1) _ (by omega) (by omega) (by omega) (by omega)];simp
  |false=>rw[cond_false];simp only[Option.bind_some,Bool.false_and,cond_false];rw[zPV ha1 ha hd1 hd2 m fu (b+1) _ (by omega) (by omega) (by omega) (by omega)];simp
theorem zIk{a b:Int}(h0:0≤a)(h:a≤b):a*a≤b*b:=Int.mul_le_mul h h h0 (by omega)
theorem z0H{d:Int}(hd1:-2000≤d)(hd2:d≤-3):∀(m fu:Nat)(a:Int)(acc:List (Int×Int×Int)),1≤a→a+m=27→m<fu→(acc.length:Int)≤1000*a→
  ∃L,zE6 d fu a acc=some (acc++L)∧(L.length:Int)+1000*a≤28000∧(∀f,f∈L↔a≤f.1∧3*f.1*f.1≤-d∧f∈rowR d f.1 (2*f.1).toNat (1 - f.1))∧∃asq:List Int,asq.Pairwise (·<·)∧(∀x∈asq,a≤x∧x≤26)∧L=asq.flatMap fun a=>rowR d a (2*a).toNat (1 - a)
 |m,0,a,acc,_,_,h,_=>by omega
 |m,fu+1,a,acc,ha,hm,hf,hl=>by
  have b1:=zN (x:=3*a) (y:=a) (A:=81) (B:=27) (by omega) (by omega);have e1:w64 (w64 (3*a)*a)=3*a*a:=by rw[zB (n:=3*a) (by omega),qH (by omega)]
  have e2:w64 (0 - d)=-d:=by rw[zB (by omega)];omega
  rw[zE6,e1,e2,qK];by_cases h:3*a*a≤-d
  ·have ha2:a≤26:=by
    rcases Int.lt_or_le 26 a with h2|h2
    ·have h3:=zIk (a:=27) (b:=a) (by omega) (by omega);have e:3*a*a=3*(a*a):=by grind
     omega
    ·exact h2
   obtain⟨m',rfl⟩:∃m',m=m'+1:=⟨m - 1,by omega⟩
   have hF:=FUge;rw[zb h,za,zB (n:=1 - a) (by omega),zB (n:=a+1) (by omega)];simp only[zO];rw[zPV ha (by omega) hd1 hd2 (2*a).toNat FU (1 - a) acc (by omega) (by omega) (by omega) (by omega)];simp only[Option.bind_some];have hrl:(rowR d a (2*a).toNat (1 - a)).length≤(2*a).toNat:=by
    unfold rowR;refine Nat.le_trans (List.length_filter_le _ _) ?_
    rw[List.length_map,zXK];exact Nat.le_refl _
   obtain⟨L,k1,k2,k3,asq,k4,k5,k6⟩:=z0H hd1 hd2 m' fu (a+1) (acc++rowR d a (2*a).toNat (1 - a)) (by omega) (by omega) (by omega) (by rw[zd];omega);refine⟨rowR d a (2*a).toNat (1 - a)++L,by rw[k1,List.append_assoc],by rw[zd];omega,fun f=>?_,a::asq,?_,?_,?_⟩
   ·rw[zm,k3];constructor
    ·rintro (h1|⟨h1,h2,h3⟩)
     ·rw[zJy h1];exact⟨Int.le_refl _,h,h1⟩
     ·exact⟨by omega,h2,h3⟩
    ·rintro⟨h1,h2,h3⟩;by_cases hfa:f.1=a
     ·rw[hfa]at h3;exact .inl h3
     ·exact .inr ⟨by omega,h2,h3⟩
   ·rw[List.pairwise_cons];exact⟨fun x hx=>by have:=k5 x hx;omega,k4⟩
   ·intro x hx;rcases List.mem_cons.1 hx with e|e
    ·omega
    ·have:=k5 x e;omega
   ·rw[List.flatMap_cons,k6]
  ·rw[zc h,cond_false];refine⟨[],by simp,by simp;omega,fun f=>?_,[],List.Pairwise.nil,fun x hx=>(by cases hx),rfl⟩;refine⟨fun hf=>(by cases hf),fun hf=>?_⟩;obtain⟨h1,h2,h3⟩:=hf
   exfalso
   have h4:=zIk (a:=a) (b:=f.1) (by omega) h1;have e3:3*a*a=3*(a*a):=by grind
   have e4:3*f.1*f.1=3*(f.1*f.1):=by grind
   omega
theorem zYt:∀(k n:Nat)(a b:Int),0≤a→0≤b→b.natAbs<2 ^k→2*k+1≤n→∃r,jS n a b=some r∧r.natAbs=Int.gcd a b∧0≤r
 |k,0,a,b,_,_,_,hn=>by omega
 |0,n+1,a,b,ha,hb0,hb,hn=>by
  have:b=0:=by simp at hb;omega
  subst this;unfold jS;rw[zBy];exact⟨a,rfl,by simp,ha⟩
 |k+1,n+1,a,b,ha,hb0,hb,hn=>by
  unfold jS;by_cases h0:b=0
  ·subst h0;rw[zBy];exact⟨a,rfl,by simp,ha⟩
  ·rw[zDm h0,zFP h0];simp only[zf,za,Option.bind_some,zO];rw[←zII a b]
   match n,hn with
   |n+1,hn=>
    unfold jS;by_cases h1:a.tmod b=0
    ·rw[h1,zBy];exact⟨b,rfl,by simp,hb0⟩
    ·rw[zDm h1,zFP h1];simp only[zf,za,Option.bind_some,zO];rw[←zII b (a.tmod b)];refine zYt k n _ _ (Int.tmod_nonneg _ ha) (Int.tmod_nonneg _ hb0) ?_ (by omega)
     rw[Int.natAbs_tmod];have h2:(a.tmod b).natAbs<b.natAbs:=by rw[Int.natAbs_tmod];exact Nat.mod_lt _ (by omega)
     exact zYI k (by omega) h2 hb
theorem zYs{a b:Int}(ha:a.natAbs≤9223372036854775806)(hb:b.natAbs≤9223372036854775806):zAj a b=some (Int.gcd a b:Int):=by obtain⟨r,h1,h2,h3⟩:=zYt 64 FU (a.natAbs:Int) (b.natAbs:Int) (by omega) (by omega) (by omega) (zYf 129 (by decide));rw[zJQ]at h2;simp only[zAj,zJp ha,zJp hb,Option.bind_some,h1];congr 1;omega
theorem zXL{a b c:Int}(ha:inN a=true)(hb:inN b=true)(hc:inN c=true):zAT (a,b,c)=some (Int.gcd a (Int.gcd b c):Int):=by rw[qO]at ha hb hc;have h:=zUU (a:=a) (b:=b) (M:=1000000) (by omega) (by omega);simp only[zAT,zYs (a:=a) (b:=b) (by omega) (by omega),Option.bind_some];rw[zYs (by omega) (by omega),Option.bind_some];congr 2;unfold Int.gcd;simp[Nat.gcd_assoc]
theorem zMO{l:List (Int×Int×Int)}(hl:l.length≤1000000)(hb:∀f∈l,inN f.1=true∧inN f.2.1=true∧inN f.2.2=true):∀(fu k:Nat)(acc:List (Int×Int×Int)),k≤l.length→l.length - k<fu→acc.length≤k→
  zDT l fu (k:Int) acc=some (acc++(l.drop k).filter fun f=>eqI (Int.gcd f.1 (Int.gcd f.2.1 f.2.2):Int) 1)
 |0,k,acc,h0,h1,h2=>by omega
 |fu+1,k,acc,h0,h1,h2=>by
  rw[zDT];rw[zS];by_cases hk:k<l.length
  ·obtain⟨c1,c2,c3⟩:=hb (l[k]) (zt hk);have hcon:zAT l[k]=some (Int.gcd l[k].1 (Int.gcd l[k].2.1 l[k].2.2):Int):=zXL c1 c2 c3;rw[zb (by omega),za,zDz hk,List.drop_eq_getElem_cons hk,List.filter_cons];simp only[Option.bind_some,hcon,zO,zEJ (show k<1000000000 by omega)];cases eqI (Int.gcd l[k].1 (Int.gcd l[k].2.1 l[k].2.2):Int) 1 with
   |true=>rw[za,zCw (by simp;omega),if_pos rfl];simp only[Option.bind_some];rw[zMO hl hb fu (k+1) _ (by omega) (by omega) (by simp;omega)];simp
   |false=>rw[cond_false,if_neg (by simp)];exact zMO hl hb fu (k+1) acc (by omega) (by omega) (by omega)
  ·rw[zc (by omega),cond_false,List.drop_eq_nil_of_le (by omega)];simp
def PrR(d:Int)(f:Int×Int×Int):Prop:=1≤f.1∧zC2 f.1 f.2.1 f.2.2∧f.2.1*f.2.1 - 4*f.1*f.2.2=d∧Int.gcd f.1 (Int.gcd f.2.1 f.2.2)=1
theorem z0a{a b c d:Int}(ha:1≤a)(h:zC2 a b c)(hd:b*b - 4*a*c=d):3*a*a≤-d:=by
 have h1:b*b≤a*a:=by
  obtain⟨⟨h2,h3⟩,_⟩:=h;rcases Int.le_total 0 b with h4|h4
  ·exact zIk h4 h3
  ·have:=zIk (a:=-b) (b:=a) (by omega) (by omega);have e:(-b)*(-b)=b*b:=by grind
   omega
 have h5:a≤c:=by obtain⟨_,h6⟩:=h;omega
 have h7:4*a*a≤4*a*c:=zn h5 (by omega);have e:4*a*a=4*(a*a):=by grind
 have e2:3*a*a=3*(a*a):=by grind
 omega
theorem zSf{d:Int}{f:Int×Int×Int}(hd1:-2000≤d)(hd2:d≤-3):(1≤f.1∧3*f.1*f.1≤-d∧f∈rowR d f.1 (2*f.1).toNat (1 - f.1))↔(1≤f.1∧zC2 f.1 f.2.1 f.2.2∧f.2.1*f.2.1 - 4*f.1*f.2.2=d):=by
 obtain⟨a,b,c⟩:=f;unfold rowR;rw[List.mem_filter,List.mem_map];constructor
 ·rintro⟨h1,h2,⟨b',h3,h4⟩,h5⟩;unfold okR at h5;rw[zh,decide_eq_true_eq,zBD,beq_iff_eq]at h5;exact⟨h1,h5.2,h5.1⟩
 ·rintro⟨h1,h2,h3⟩;have h1':1≤a:=h1;have h2':zC2 a b c:=h2;have h3':b*b - 4*a*c=d:=h3;refine⟨h1,z0a h1' h2' h3',⟨b,(zYD _ _ _).2 ⟨?_,?_⟩,?_⟩,?_⟩
  ·obtain⟨⟨h4,h5⟩,_⟩:=h2';show 1 - a≤b;omega
  ·obtain⟨⟨h4,h5⟩,_⟩:=h2';show b<1 - a+((2*a).toNat:Int);omega
  ·unfold cfR;have e:b*b - d=4*a*c:=by omega
   show (a,b,Int.tdiv (b*b - d) (4*a))=(a,b,c)
   rw[e,Int.mul_tdiv_cancel_left _ (by omega)]
  ·unfold okR;rw[zh,decide_eq_true_eq,zBD,beq_iff_eq];exact⟨h3,h2⟩
theorem z09{d:Int}(hd1:-2000≤d)(hd2:d≤-3):∃L,zFZ d=some L∧L.length≤27000∧(∀f,f∈L↔PrR d f)∧L.Nodup:=by
 have hF:=FUge;obtain⟨L,k1,k2,k3,asq,k4,k5,k6⟩:=z0H hd1 hd2 26 FU 1 [] (by omega) (by omega) (by omega) (by simp);rw[zq]at k1;have hLl:L.length≤27000:=by omega
 have hmem:∀f∈L,1≤f.1∧zC2 f.1 f.2.1 f.2.2∧f.2.1*f.2.1 - 4*f.1*f.2.2=d:=fun f hf=>(zSf hd1 hd2).1 ((k3 f).1 hf);have hbd:∀f∈L,inN f.1=true∧inN f.2.1=true∧inN f.2.2=true:=by
  intro f hf;obtain⟨h1,h2,h3⟩:=hmem f hf;have h4:=z0a h1 h2 h3;obtain⟨⟨h5,h6⟩,h7⟩:=h2;have ha:f.1≤26:=by
   rcases Int.lt_or_le 26 f.1 with h8|h8
   ·have:=zIk (a:=27) (b:=f.1) (by omega) (by omega);have e:3*f.1*f.1=3*(f.1*f.1):=by grind
    omega
   ·exact h8
  have hb:=zN (x:=f.2.1) (y:=f.2.1) (A:=26) (B:=26) (by omega) (by omega);have hc:f.2.2≤1000:=by
   have h9:4*1*f.2.2≤4*f.1*f.2.2:=by have:4*1*f.2.2≤(4*f.1)*f.2.2:=Int.mul_le_mul_of_nonneg_right (by omega) (by omega);exact this
   omega
  rw[qO,qO,qO];omega
 have h2:=zMO (l:=L) (by omega) hbd FU 0 [] (by omega) (by omega) (by simp);rw[zq,List.drop_zero]at h2;refine⟨_,by simp only[zFZ,zHr,k1,Option.bind_some];exact congrArg (fun z=>z.bind fun o=>some o) h2,Nat.le_trans (List.length_filter_le _ _) hLl,fun f=>?_,?_⟩
 ·rw[List.mem_filter,k3,zSf hd1 hd2,zBD,beq_iff_eq];unfold PrR;constructor
  ·rintro⟨⟨a1,a2,a3⟩,a4⟩;exact⟨a1,a2,a3,by omega⟩
  ·rintro⟨a1,a2,a3,a4⟩;exact⟨⟨a1,a2,a3⟩,by omega⟩
 ·refine List.Pairwise.filter _ ?_
  rw[k6];have hrow:∀a:Int,(rowR d a (2*a).toNat (1 - a)).Nodup:=by
   intro a;unfold rowR;refine List.Pairwise.filter _ ?_
   rw[List.pairwise_map];refine (z0S (2*a).toNat (1 - a)).imp ?_
   intro x y hxy e;have:=congrArg (fun f:Int×Int×Int=>f.2.1) e;simp only[cfR]at this;omega
  rw[List.pairwise_flatMap];refine⟨fun a _=>hrow a,k4.imp ?_⟩;intro x y hxy f hf g hg e;have fx:=zJy hf;have gy:=zJy hg;rw[e]at fx;omega
theorem z4J{d:Int}(hd1:-2000≤d)(hd2:d≤-3)(h4:d % 4≤1):PrR d (1,d % 2,(d % 2 - d) / 4):=by
 have e:(d % 2)*(d % 2)=d % 2:=by rcases (by omega:d % 2=0∨d % 2=1) with h|h<;>rw[h]<;>rfl
 refine⟨Int.le_refl 1,⟨⟨?_,?_⟩,?_⟩,?_,?_⟩
 ·show -1<d % 2;omega
 ·show d % 2≤1;omega
 ·show 1<(d % 2 - d) / 4∨(1=(d % 2 - d) / 4∧0≤d % 2)
  omega
 ·show d % 2*(d % 2) - 4*1*((d % 2 - d) / 4)=d;rw[e];omega
 ·simp
structure CurB (k:Nat) (c:List Int×Int×Int):Prop where
  lo:0≤c.2.1
  hi:c.2.1≤(k:Int)
  len:c.1.length≤1048576
  by8:∀x∈c.1,0≤x∧x≤255
theorem CurB.up{k k2:Nat}{c:List Int×Int×Int}(h:CurB k c)(hk:k≤k2):CurB k2 c:=⟨h.lo,by have:=h.hi;omega,h.len,h.by8⟩
theorem CurB.start{code:List Int}(h1:code.length≤1048576)(h2:∀x∈code,0≤x∧x≤255):CurB 0 (code,0,0):=⟨Int.le_refl _,Int.le_refl _,h1,h2⟩
theorem z7H{code more:List Int}:zEU code more=some (decide (1048576<code.length∨1048576 - (code.length:Int)<more.length))∨1048576<code.length∧zEU code more=some true:=by
 by_cases h:1048576<code.length
 ·right;refine⟨h,?_⟩;simp only[zEU,Option.bind_some,zS,zb (show (1048576:Int)<(code.length:Int) by omega),za]
 ·left;simp only[zEU,Option.bind_some,zS,zc (show ¬(1048576:Int)<(code.length:Int) by omega),cond_false];rw[zB (by omega)];congr 1;simp only[decide_eq_decide];omega
theorem z3S(code more:List Int):zEU code more=some true∨(zEU code more=some false∧code.length≤1048576∧more.length≤1048576):=by
 rcases z7H (code:=code) (more:=more) with h|h
 ·by_cases h1:1048576<code.length∨1048576 - (code.length:Int)<more.length
  ·exact .inl (by rw[h,zb h1])
  ·refine .inr ⟨by rw[h,zc h1],?_,?_⟩<;>omega
 ·exact .inl h.2
theorem wrap_u8{x:Int}(h:0≤x∧x≤255):IntKind.i64.wrap x=x:=zMr (by omega)
theorem z5Z(a:Int):0≤IntKind.i64.wrap (andI .u64 a 255)∧IntKind.i64.wrap (andI .u64 a 255)≤255:=by
 have h:0≤andI .u64 a 255∧andI .u64 a 255≤255:=by
  unfold andI;have h1:(BitVec.ofInt IntKind.u64.bits a&&& BitVec.ofInt IntKind.u64.bits 255).toNat≤255:=by rw[BitVec.toNat_and];exact Nat.and_le_right
  generalize (BitVec.ofInt IntKind.u64.bits a&&& BitVec.ofInt IntKind.u64.bits 255).toNat=q at h1;rw[show IntKind.u64.wrap (q:Int)=(q:Int) by show (q:Int) % 18446744073709551616=q;omega]
  omega
 rw[wrap_u8 h];exact h
theorem z1t{k:Nat}{c:List Int×Int×Int}(h:CurB k c)(hk:k≤1099511627776):∃b c',zCp c=some (b,c')∧0≤b∧b≤255∧CurB (k+1) c':=by
 obtain⟨xs,p,q⟩:=c;obtain⟨h1,h2,h3,h4⟩:=h;simp only at h1 h2 h3 h4;have e1:w64 (p+1)=p+1:=zB (by omega);have nextB:∀q',CurB (k+1) (xs,p+1,q'):=fun q'=>⟨by show 0≤p+1;omega,by show p+1≤((k+1:Nat):Int);omega,h3,h4⟩
 simp only[zCp,zO,zS,qK,e1];by_cases hp:p<(xs.length:Int)
 ·have hi:p.toNat<xs.length:=by omega
  have hg:getI xs p=some xs[p.toNat]:=by unfold getI;rw[qK,zb h1,za];simp[hi]
  have hb:=h4 xs[p.toNat] (zt hi);simp only[zb hp,za,hg,Option.bind_some,wrap_u8 hb];by_cases hl:p+1≤(xs.length:Int)
  ·simp only[zb hl,za];exact⟨_,_,rfl,hb.1,hb.2,nextB _⟩
  ·omega
 ·simp only[zc hp,cond_false,Option.bind_some];simp only[zc (show ¬p+1≤(xs.length:Int) by omega),cond_false];exact⟨_,_,rfl,(z5Z _).1,(z5Z _).2,nextB _⟩
theorem zSw{x n:Int}(hx:0≤x)(hn:0<n):0≤x.tmod n∧x.tmod n<n:=⟨Int.tmod_nonneg _ hx,Int.tmod_lt_of_pos _ hn⟩
theorem qW{k:Nat}{c:List Int×Int×Int}(n:Int)(h:CurB k c)(hk:k≤1000000000000):∃x c',zC c n=some (x,c')∧0≤x∧(n≤1→x=0)∧(1<n→x<n)∧CurB (k+2) c':=by
 simp only[zC,qK,zS];by_cases h1:n≤1
 ·rw[zb h1,za];exact⟨0,c,rfl,Int.le_refl _,fun _=>rfl,fun h2=>by omega,h.up (by omega)⟩
 ·rw[zc h1,cond_false];obtain⟨b,c1,e1,b1,b2,hc1⟩:=z1t h (by omega);rw[e1,Option.bind_some];by_cases h2:200<n
  ·obtain⟨d,c2,e2,d1,d2,hc2⟩:=z1t hc1 (by omega);simp only[zb h2,za,e2,Option.bind_some,zO,zFP (show n≠0 by omega)];rw[zB (n:=b*256) (by omega),zB (n:=b*256+d) (by omega)];have:=zSw (x:=b*256+d) (n:=n) (by omega) (by omega);exact⟨_,_,rfl,this.1,fun h3=>absurd h3 h1,fun _=>this.2,hc2⟩
  ·simp only[zc h2,cond_false,Option.bind_some,zO,zFP (show n≠0 by omega)];have:=zSw (x:=b) (n:=n) b1 (by omega);exact⟨_,_,rfl,this.1,fun h3=>absurd h3 h1,fun _=>this.2,hc1.up (by omega)⟩
theorem z2B{α:Type}{l:List α}{x:Int}(h1:0≤x)(h2:x<(l.length:Int)):∃y,getI l x=some y∧y∈l:=by
 have hi:x.toNat<l.length:=by omega
 refine⟨l[x.toNat],?_,zt hi⟩;unfold getI;rw[qK,zb h1,za];simp[hi]
theorem zGP{k:Nat}{c:List Int×Int×Int}{l:List Int}(hl:l≠[])(h:CurB k c)(hk:k≤1000000000000):∃x c',jE c l=some (x,c')∧x∈l∧CurB (k+2) c':=by
 obtain⟨x,c1,e1,x1,x2,x3,hc1⟩:=qW (l.length:Int) h hk;have hp:=List.length_pos_iff.2 hl;obtain⟨y,e2,hy⟩:=z2B (l:=l) x1 (by
  rcases Nat.lt_or_ge 1 l.length with h1|h1
  ·exact x3 (by omega)
  ·have:=x2 (by omega);omega)
 simp only[jE,e1,Option.bind_some,e2];exact⟨y,c1,rfl,hy,hc1⟩
theorem z2P{k:Nat}{c:List Int×Int×Int}(h:CurB k c)(hk:k≤100000000000):∃d c',zCq c=some (d,c')∧CurB (k+4) c':=by
 obtain⟨y,c1,e1,_,_,_,h1⟩:=qW 16 h (by omega);simp only[zCq,e1,Option.bind_some];cases eqI y 0 with
 |true=>obtain⟨x,c2,e2,_,h2⟩:=zGP (l:=[-3,-4,-2000,-1999,-1996,-1995,-163,-2001,-2003,-2004,0,1,5,-1,-2,-5,-9223372036854775808]) (by simp) h1 (by omega);simp only[za,e2,Option.bind_some];exact⟨x,c2,rfl,h2⟩
 |false=>
  rw[cond_false];generalize hj:(bif eqI y 1 then some (eqI y 1) else some (eqI y 2))=j;have hj2:∃b,j=some b:=by subst hj;cases eqI y 1<;>exact⟨_,rfl⟩
  obtain⟨b,rfl⟩:=hj2;simp only[Option.bind_some];cases b with
  |true=>
   obtain⟨x,c2,e2,x1,_,x3,h2⟩:=qW 1998 h1 (by omega);have x4:=x3 (by omega);simp only[za,e2,Option.bind_some,zO,zHt];rw[zB (n:=-3 - x) (by omega),zBz (by omega) (by omega)];simp only[Option.bind_some];cases ltI 1 ((-3 - x) % 4) with
   |true=>
    simp only[za,zCa];cases ltI (w64 (-3 - x - 2)) (-2000) with
    |true=>exact⟨_,c2,rfl,h2⟩
    |false=>exact⟨_,c2,rfl,h2⟩
   |false=>exact⟨_,c2,rfl,h2⟩
  |false=>
   rw[cond_false];generalize hj3:(bif eqI y 3 then some (eqI y 3) else bif eqI y 4 then some (eqI y 4) else some (eqI y 5))=j3;have hj4:∃b,j3=some b:=by subst hj3;cases eqI y 3<;>cases eqI y 4<;>exact⟨_,rfl⟩
   obtain⟨b,rfl⟩:=hj4;simp only[Option.bind_some];cases b with
   |true=>obtain⟨x,c2,e2,_,h2⟩:=zGP (l:=[-84,-420,-231,-260,-455,-520,-660,-1155,-1320,-1380,-1428,-1540,-399,-1092,-1560,-1785]) (by simp) h1 (by omega);simp only[za,e2,Option.bind_some];exact⟨x,c2,rfl,h2⟩
   |false=>
    rw[cond_false];generalize hj5:(bif eqI y 6 then some (eqI y 6) else some (eqI y 7))=j5;have hj6:∃b,j5=some b:=by subst hj5;cases eqI y 6<;>exact⟨_,rfl⟩
    obtain⟨b,rfl⟩:=hj6;simp only[Option.bind_some];cases b with
    |true=>obtain⟨x,c2,e2,_,_,_,h2⟩:=qW 60 h1 (by omega);simp only[za,e2,Option.bind_some,zO];exact⟨_,c2,rfl,h2⟩
    |false=>obtain⟨x,c2,e2,_,_,_,h2⟩:=qW 50 h1 (by omega);simp only[cond_false,e2,Option.bind_some,zO];exact⟨_,c2,rfl,h2⟩
theorem zXt{a b c:Int}(h:jF (a,b,c)=some true):RedInv a b c (b*b - 4*a*c) (Int.gcd a (Int.gcd b c):Int):=by
 obtain⟨ha,hb,hc,hneg,hbig,hpos⟩:=zIQ h;rw[qO]at ha hb hc;have hbb:0≤b*b:=by
  rcases Int.le_total 0 b with h|h
  ·exact Int.mul_nonneg h h
  ·exact Int.mul_nonneg_of_nonpos_of_nonpos h h
 have hc1:1≤c:=by
  rcases Int.lt_or_le 0 c with h|h
  ·exact h
  ·have:4*a*c≤4*a*0:=zn h (by omega);omega
 refine⟨by omega,by omega,by omega,by omega,hc1,by omega,rfl,hneg,.inr (by omega),fun k=>?_⟩;constructor
 ·rintro⟨u1,u2,u3⟩;exact Int.dvd_coe_gcd u1 (Int.dvd_coe_gcd u2 u3)
 ·intro h1;have h2:(Int.gcd a (Int.gcd b c):Int)∣a:=Int.gcd_dvd_left _ _;have h3:(Int.gcd a (Int.gcd b c):Int)∣(Int.gcd b c:Int):=Int.gcd_dvd_right _ _;exact⟨Int.dvd_trans h1 h2,Int.dvd_trans (Int.dvd_trans h1 h3) (Int.gcd_dvd_left _ _),Int.dvd_trans (Int.dvd_trans h1 h3) (Int.gcd_dvd_right _ _)⟩
theorem zOK{k:Nat}{c:List Int×Int×Int}(n:Int)(h:CurB k c)(hk:k≤100000000000):∃b c',zAC c n=some (b,c')∧CurB (k+2) c':=by obtain⟨x,c',e,_,_,_,h1⟩:=qW n h (by omega);exact⟨eqI x 0,c',by simp only[zAC,e,Option.bind_some],h1⟩
theorem zOO(m n:Int×Int×Int×Int):∃y,zZ m n=some y:=by simp only[zZ,zO];exact⟨_,rfl⟩
theorem z0o(f:Int×Int×Int)(m:Int×Int×Int×Int):∃y,zDJ f m=some y:=by simp only[zDJ,zBM,zEE,zO,Option.bind_some];exact⟨_,rfl⟩
theorem zKp:∀(m fu k:Nat)(t:Int)(a b c d:Int)(cu:List Int×Int×Int),CurB k cu→k+4*m≤100000000000→t≤m→m<fu→
  ∃p q r s c',zAI fu t a b c d cu.1 cu.2.1 cu.2.2=some (p,q,r,s,c')∧CurB (k+4*m) c'
 |m,0,k,t,a,b,c,d,cu,_,_,_,h=>by omega
 |0,fu+1,k,t,a,b,c,d,cu,hc,hk,ht,hf=>by rw[zAI,zS,zc (by omega),cond_false];exact⟨_,_,_,_,_,rfl,hc⟩
 |m+1,fu+1,k,t,a,b,c,d,cu,hc,hk,ht,hf=>by
  rw[zAI,zS];by_cases h0:0<t
  ·obtain⟨x,c1,e1,_,_,_,h1⟩:=qW 9 hc (by omega);obtain⟨y,c2,e2,_,_,_,h2⟩:=qW 3 h1 (by omega);have e1':zC (cu.1,cu.2.1,cu.2.2) 9=some (x,c1):=e1;rw[zb h0,za,e1'];simp only[Option.bind_some,zO,e2];have hw:w64 (t - 1)≤(m:Int):=by rw[zB (by omega)];omega
   cases eqI y 0 with
   |true=>obtain⟨z,hz⟩:=zOO (a,b,c,d) (1,w64 (x - 4),0,1);rw[za,hz,Option.bind_some];obtain⟨p,q,r,s,c',g1,g2⟩:=zKp m fu (k+4) (w64 (t - 1)) z.1 z.2.1 z.2.2.1 z.2.2.2 c2 (h2.up (by omega)) (by omega) hw (by omega);exact⟨p,q,r,s,c',g1,g2.up (by omega)⟩
   |false=>
    rw[cond_false];cases eqI y 1 with
    |true=>obtain⟨z,hz⟩:=zOO (a,b,c,d) (1,0,w64 (x - 4),1);rw[za,hz,Option.bind_some];obtain⟨p,q,r,s,c',g1,g2⟩:=zKp m fu (k+4) (w64 (t - 1)) z.1 z.2.1 z.2.2.1 z.2.2.2 c2 (h2.up (by omega)) (by omega) hw (by omega);exact⟨p,q,r,s,c',g1,g2.up (by omega)⟩
    |false=>obtain⟨z,hz⟩:=zOO (a,b,c,d) (0,-1,1,0);rw[cond_false,hz,Option.bind_some];obtain⟨p,q,r,s,c',g1,g2⟩:=zKp m fu (k+4) (w64 (t - 1)) z.1 z.2.1 z.2.2.1 z.2.2.2 c2 (h2.up (by omega)) (by omega) hw (by omega);exact⟨p,q,r,s,c',g1,g2.up (by omega)⟩
  ·rw[zc h0,cond_false];exact⟨_,_,_,_,_,rfl,hc.up (by omega)⟩
theorem z2s{k:Nat}{c:List Int×Int×Int}(h:CurB k c)(hk:k≤10000000000):∃m c',zDG c=some (m,c')∧CurB (k+26) c':=by obtain⟨x,c1,e1,x0,_,x2,h1⟩:=qW 6 h (by omega);have x3:=x2 (by omega);have hF:=FUge;obtain⟨p,q,r,s,c',g1,g2⟩:=zKp 6 FU (k+2) x 1 0 0 1 c1 h1 (by omega) (by omega) (by omega);exact⟨(p,q,r,s),c',by simp only[zDG,e1,Option.bind_some,g1],g2.up (by omega)⟩
theorem zJz{k:Nat}{c:List Int×Int×Int}(f:Int×Int×Int)(h:CurB k c)(hk:k≤10000000000):∃g c',jT c f=some (g,c')∧CurB (k+26) c':=by
 obtain⟨m,c1,e1,h1⟩:=z2s h hk;obtain⟨y,hy⟩:=z0o f m;simp only[jT,e1,Option.bind_some,hy,zW6];cases (inN y.1&&(inN y.2.1&&inN y.2.2)) with
 |true=>exact⟨_,c1,rfl,h1⟩
 |false=>exact⟨_,c1,rfl,h1⟩
def OkD(d:Int):Prop:=-2000≤d∧d≤-3∧d % 4≤1
instance (d:Int):Decidable (OkD d):=inferInstanceAs (Decidable (-2000≤d∧d≤-3∧d % 4≤1))
theorem z1q(d:Int):zC9 d=some (decide (OkD d)):=by
 simp only[zC9,zAX,Option.bind_some,qK];by_cases h1:-2000≤d
 ·by_cases h2:d≤-3
  ·rw[zb h1,zb h2,za,za,zHt,zBz (by omega) (by omega)];simp only[Option.bind_some,zS];congr 1;rw[Bool.eq_iff_iff,qa,qa];unfold OkD;omega
  ·rw[zb h1,zc h2,zc (show ¬OkD d from fun h=>h2 h.2.1)];rfl
 ·rw[zc h1,zc (show ¬OkD d from fun h=>h1 h.1)];rfl
theorem zIq{k:Nat}{c:List Int×Int×Int}(h:CurB k c)(hk:k≤10000000000):∃d c',zA4 c=some (d,c')∧OkD d∧CurB (k+4) c':=by
 obtain⟨d,c1,e1,h1⟩:=z2P h (by omega);simp only[zA4,e1,Option.bind_some,z1q];by_cases hd:OkD d
 ·rw[zb hd];exact⟨d,c1,rfl,hd,h1⟩
 ·rw[zc hd];exact⟨-23,c1,rfl,⟨by decide,by decide,by decide⟩,h1⟩
theorem zG3{k:Nat}{c:List Int×Int×Int}{d:Int}(hd:OkD d)(h:CurB k c)(hk:k≤100000000000):∃f c',j0 c d=some (f,c')∧PrR d f∧CurB (k+2) c':=by
 obtain⟨L,h1,h2,h3,_⟩:=z09 hd.1 hd.2.1;have hp:=(h3 _).2 (z4J hd.1 hd.2.1 hd.2.2);have hL:0<L.length:=List.length_pos_of_mem hp;obtain⟨x,c1,e1,x0,x1,x2,g1⟩:=qW (L.length:Int) h (by omega);have hx:x<(L.length:Int):=by
  rcases Int.lt_or_le 1 (L.length:Int) with h5|h5
  ·exact x2 h5
  ·have:=x1 h5;omega
 obtain⟨f,e2,hf⟩:=z2B x0 hx;simp only[j0,h1,Option.bind_some,e1,e2];exact⟨f,c1,rfl,(h3 f).1 hf,g1⟩
theorem bif3{α:Type}(a b c:Bool):∃x,(bif a then some b else some c:Option Bool)=some x:=by cases a<;>exact⟨_,rfl⟩
theorem zQc{k:Nat}{c:List Int×Int×Int}(h:CurB k c)(hk:k≤100000000000):∃v c',zB4 c=some (v,c')∧CurB (k+8) c':=by
 obtain⟨y,c1,e1,_,_,_,h1⟩:=qW 12 h (by omega);simp only[zB4,e1,Option.bind_some];cases eqI y 0 with
 |true=>obtain⟨x,c2,e2,_,h2⟩:=zGP (l:=[0,1,-1,1000000,-1000000,1000001,-1000001,-9223372036854775808,9223372036854775807,999983,999999,1000]) (by simp) h1 (by omega);simp only[za,e2,Option.bind_some];exact⟨x,c2,rfl,h2.up (by omega)⟩
 |false=>
  rw[cond_false];obtain⟨j,hj⟩:=bif3 (α:=Int) (eqI y 1) (eqI y 1) (eqI y 2);rw[hj];simp only[Option.bind_some];cases j with
  |true=>obtain⟨x1,c2,e2,_,_,_,h2⟩:=qW 50000 h1 (by omega);obtain⟨x2,c3,e3,_,_,_,h3⟩:=qW 20 h2 (by omega);obtain⟨x3,c4,e4,_,_,_,h4⟩:=qW 2 h3 (by omega);simp only[za,e2,e3,e4,Option.bind_some,zO];exact⟨_,c4,rfl,h4.up (by omega)⟩
  |false=>
   rw[cond_false];obtain⟨j,hj⟩:=bif3 (α:=Int) (eqI y 3) (eqI y 3) (eqI y 4);rw[hj];simp only[Option.bind_some];cases j with
   |true=>obtain⟨x1,c2,e2,_,_,_,h2⟩:=qW 2000 h1 (by omega);simp only[za,e2,Option.bind_some];exact⟨_,c2,rfl,h2.up (by omega)⟩
   |false=>obtain⟨x1,c2,e2,_,_,_,h2⟩:=qW 121 h1 (by omega);simp only[cond_false,e2,Option.bind_some,zO];exact⟨_,c2,rfl,h2.up (by omega)⟩
theorem z6n{k:Nat}{c:List Int×Int×Int}(h:CurB k c)(hk:k≤10000000000):∃v c',zDo c=some (v,c')∧CurB (k+30) c':=by
 obtain⟨y,c1,e1,_,_,_,h1⟩:=qW 14 h (by omega);simp only[zDo,e1,Option.bind_some];cases eqI y 0 with
 |true=>obtain⟨x1,c2,e2,h2⟩:=zQc h1 (by omega);obtain⟨x2,c3,e3,h3⟩:=zQc h2 (by omega);obtain⟨x3,c4,e4,h4⟩:=zQc h3 (by omega);simp only[za,e2,e3,e4,Option.bind_some];exact⟨_,c4,rfl,h4.up (by omega)⟩
 |false=>
  rw[cond_false];cases eqI y 1 with
  |true=>obtain⟨x0,c2,e2,_,h2⟩:=zGP (l:=[2,3,-1,0,1000]) (by simp) h1 (by omega);obtain⟨x1,c3,e3,_,_,_,h3⟩:=qW 20 h2 (by omega);obtain⟨x2,c4,e4,_,_,_,h4⟩:=qW 21 h3 (by omega);obtain⟨x3,c5,e5,_,_,_,h5⟩:=qW 20 h4 (by omega);simp only[za,e2,e3,e4,e5,Option.bind_some,zO];exact⟨_,c5,rfl,h5.up (by omega)⟩
  |false=>
   rw[cond_false];cases eqI y 2 with
   |true=>obtain⟨x1,c3,e3,_,_,_,h3⟩:=qW 2000 h1 (by omega);obtain⟨x2,c4,e4,_,_,_,h4⟩:=qW 3000 h3 (by omega);obtain⟨x3,c5,e5,_,_,_,h5⟩:=qW 2000 h4 (by omega);simp only[za,e3,e4,e5,Option.bind_some,zO];exact⟨_,c5,rfl,h5.up (by omega)⟩
   |false=>
    rw[cond_false];cases eqI y 3 with
    |true=>obtain⟨x1,c3,e3,_,_,_,h3⟩:=qW 21 h1 (by omega);obtain⟨x2,c4,e4,_,_,_,h4⟩:=qW 21 h3 (by omega);obtain⟨x3,c5,e5,_,_,_,h5⟩:=qW 21 h4 (by omega);simp only[za,e3,e4,e5,Option.bind_some,zO];exact⟨_,c5,rfl,h5.up (by omega)⟩
    |false=>obtain⟨x1,c3,e3,p0,_,p2,h3⟩:=qW 25 h1 (by omega);have p3:=p2 (by omega);obtain⟨x2,c4,e4,_,_,_,h4⟩:=qW 40 h3 (by omega);have ea:w64 (1+x1)=1+x1:=zB (by omega);obtain⟨x3,c5,e5,_,_,_,h5⟩:=qW (w64 (2*(1+x1))) h4 (by omega);have hz:nz (w64 (4*(1+x1)))=some ():=nzOk (by rw[zB (by omega)];omega);simp only[cond_false,e3,e4,ea,e5,hz,Option.bind_some,zO];exact⟨_,c5,rfl,h5.up (by omega)⟩
theorem zM1{k:Nat}{c:List Int×Int×Int}(h:CurB k c)(hk:k≤1000000000):∃v c',zAF c=some (v,c')∧CurB (k+40) c':=by
 obtain⟨y,c1,e1,_,_,_,h1⟩:=qW 12 h (by omega);simp only[zAF,e1,Option.bind_some];cases eqI y 0 with
 |true=>obtain⟨x1,c2,e2,h2⟩:=z6n h1 (by omega);simp only[za,e2,Option.bind_some];exact⟨_,c2,rfl,h2.up (by omega)⟩
 |false=>
  rw[cond_false];cases eqI y 1 with
  |true=>obtain⟨d,c2,e2,hd,h2⟩:=zIq h1 (by omega);obtain⟨f,c3,e3,_,h3⟩:=zG3 hd h2 (by omega);obtain⟨x,c4,e4,_,_,_,h4⟩:=qW 5 h3 (by omega);obtain⟨g,c5,e5,h5⟩:=zJz (w64 (w64 (1+x)*f.1),w64 (w64 (1+x)*f.2.1),w64 (w64 (1+x)*f.2.2)) h4 (by omega);simp only[za,e2,e3,e4,e5,Option.bind_some,zO];exact⟨_,c5,rfl,h5.up (by omega)⟩
  |false=>
   rw[cond_false];cases eqI y 2 with
   |true=>obtain⟨x1,c3,e3,_,_,_,h3⟩:=qW 1000000 h1 (by omega);obtain⟨x2,c4,e4,_,_,_,h4⟩:=qW 1000001 h3 (by omega);obtain⟨x3,c5,e5,_,_,_,h5⟩:=qW 750001 h4 (by omega);simp only[za,e3,e4,e5,Option.bind_some,zO];exact⟨_,c5,rfl,h5.up (by omega)⟩
   |false=>obtain⟨d,c2,e2,hd,h2⟩:=zIq h1 (by omega);obtain⟨f,c3,e3,_,h3⟩:=zG3 hd h2 (by omega);obtain⟨g,c5,e5,h5⟩:=zJz f h3 (by omega);simp only[cond_false,e2,e3,e5,Option.bind_some];exact⟨_,c5,rfl,h5.up (by omega)⟩
theorem class_some'{f:Int×Int×Int}(h:jF f=some true):∃g,zBL f=some g:=by obtain⟨a,b,c⟩:=f;obtain⟨m,a2,b2,c2,_,h2,_,_⟩:=zTw (zXt h);exact⟨(a2,b2,c2),by simp only[zBL,h2,Option.bind_some]⟩
theorem shown_ok'{k:Nat}{c:List Int×Int×Int}(f:Int×Int×Int)(h:CurB k c)(hk:k≤1000000000):∃v c',zC5 c f=some (v,c')∧CurB (k+12) c':=by
 obtain⟨y,c1,e1,_,_,_,h1⟩:=qW 8 h (by omega);simp only[zC5,e1,Option.bind_some];cases eqI y 0 with
 |true=>obtain⟨x0,c2,e2,_,h2⟩:=zGP (l:=[0,1,-1,10000,10001,4611686018427387904]) (by simp) h1 (by omega);simp only[za,e2,Option.bind_some];exact⟨_,c2,rfl,h2.up (by omega)⟩
 |false=>
  rw[cond_false];obtain⟨j,hj⟩:=bif3 (α:=Int) (eqI y 1) (eqI y 1) (eqI y 2);rw[hj];simp only[Option.bind_some];cases j with
  |true=>obtain⟨x1,c2,e2,_,_,_,h2⟩:=qW 200 h1 (by omega);simp only[za,e2,Option.bind_some,zO];exact⟨_,c2,rfl,h2.up (by omega)⟩
  |false=>
   rw[cond_false];cases eqI y 3 with
   |true=>obtain⟨x1,c2,e2,_,_,_,h2⟩:=qW 10000 h1 (by omega);simp only[za,e2,Option.bind_some,zO];exact⟨_,c2,rfl,h2.up (by omega)⟩
   |false=>
    rw[cond_false,zJn];obtain⟨b,hb⟩:=zIR f;rw[hb];simp only[Option.bind_some];cases b with
    |false=>obtain⟨x1,c2,e2,_,_,_,h2⟩:=qW 50 h1 (by omega);simp only[zf,za,e2,Option.bind_some,zO];exact⟨_,c2,rfl,h2.up (by omega)⟩
    |true=>
     obtain⟨g,hg⟩:=class_some' hb;obtain⟨x1,c2,e2,_,_,_,h2⟩:=qW 13 h1 (by omega);obtain⟨x2,c3,e3,_,_,_,h3⟩:=qW 13 h2 (by omega);obtain⟨b4,c4,e4,h4⟩:=zOK 4 h3 (by omega);simp only[Bool.not_true,cond_false,hg,e2,e3,e4,Option.bind_some,zO,zBM];cases b4 with
     |true=>obtain⟨x0,c5,e5,_,h5⟩:=zGP (l:=[4,9,25,2,3]) (by simp) h4 (by omega);simp only[za,e5,Option.bind_some];exact⟨_,c5,rfl,h5.up (by omega)⟩
     |false=>exact⟨_,c4,rfl,h4.up (by omega)⟩
theorem z2j{k:Nat}{c:List Int×Int×Int}(h:CurB k c)(hk:k≤100000000):∃f v c',zCQ c=some (f,v,c')∧CurB (k+100) c':=by
 obtain⟨d,c1,e1,hd,h1⟩:=zIq h (by omega);obtain⟨f,c2,e2,_,h2⟩:=zG3 hd h1 (by omega);obtain⟨g,c3,e3,h3⟩:=zJz f h2 (by omega);obtain⟨y,c4,e4,_,_,_,h4⟩:=qW 12 h3 (by omega);simp only[zCQ,e1,e2,e3,e4,Option.bind_some];have fin:∀(z:Int×Int×Int)(c5:List Int×Int×Int),CurB (k+86) c5→∃v c',zC5 c5 z=some (v,c')∧CurB (k+100) c':=fun z c5 h5=>by obtain⟨v,c6,e6,h6⟩:=shown_ok' z h5 (by omega);exact⟨v,c6,e6,h6.up (by omega)⟩
 cases eqI y 0 with
 |true=>obtain⟨z,c5,e5,h5⟩:=zM1 h4 (by omega);obtain⟨v,c6,e6,h6⟩:=fin z c5 (h5.up (by omega));simp only[za,e5,Option.bind_some,e6];exact⟨_,_,_,rfl,h6⟩
 |false=>
  rw[cond_false];cases eqI y 1 with
  |true=>obtain⟨x,c5,e5,_,_,_,h5⟩:=qW 4 h4 (by omega);obtain⟨v,c6,e6,h6⟩:=fin (3,x,3) c5 (h5.up (by omega));simp only[za,e5,Option.bind_some,e6];exact⟨_,_,_,rfl,h6⟩
  |false=>
   rw[cond_false];cases eqI y 2 with
   |true=>obtain⟨x,c5,e5,_,_,_,h5⟩:=qW 2 h4 (by omega);obtain⟨x2,c6,e6,_,_,_,h6⟩:=qW 2 h5 (by omega);obtain⟨v,c7,e7,h7⟩:=fin (w64 (1+x),0,w64 (1+x2)) c6 (h6.up (by omega));simp only[za,e5,e6,Option.bind_some,zO,e7];exact⟨_,_,_,rfl,h7⟩
   |false=>obtain⟨v,c7,e7,h7⟩:=fin g c4 (h4.up (by omega));simp only[cond_false,Option.bind_some,e7];exact⟨_,_,_,rfl,h7⟩
def fB(f:Int×Int×Int):List UInt8:=((((([40]++Go.Lib.itoa f.1)++[44])++Go.Lib.itoa f.2.1)++[44])++Go.Lib.itoa f.2.2)++[41]
theorem zDC{f:Int×Int×Int}(h1:sm18 f.1)(h2:sm18 f.2.1)(h3:sm18 f.2.2):(fB f).length≤100:=by have a1:=qR h1;have a2:=qR h2;have a3:=qR h3;simp[fB];omega
theorem zDl{f:Int×Int×Int}(h1:sm18 f.1)(h2:sm18 f.2.1)(h3:sm18 f.2.2):zAN f=some (bl (fB f)):=by have a1:=qR h1;have a2:=qR h2;have a3:=qR h3;have e1:(⟨#[40]⟩:qd)=bl [40]:=rfl;have e2:(⟨#[44]⟩:qd)=bl [44]:=rfl;have e3:(⟨#[41]⟩:qd)=bl [41]:=rfl;unfold zAN;rw[zC1 h1,Option.bind_some,e1,e2,e3,zCl (by simp;omega),Option.bind_some,zBV,zCl (by simp;omega),Option.bind_some,zBV,zC1 h2,Option.bind_some,zCl (by simp;omega),Option.bind_some,zBV,zCl (by simp;omega),Option.bind_some,zBV,zC1 h3,Option.bind_some,zCl (by simp;omega),Option.bind_some,zBV,zCl (by simp;omega),Option.bind_some,zBV];rfl
theorem jA{f:Int×Int×Int}(h1:sm18 f.1)(h2:sm18 f.2.1)(h3:sm18 f.2.2):q9 f=some (bl (fB f)):=by have a1:=qR h1;have a2:=qR h2;have a3:=qR h3;have e1:(⟨#[40]⟩:qd)=bl [40]:=rfl;have e2:(⟨#[44]⟩:qd)=bl [44]:=rfl;have e3:(⟨#[41]⟩:qd)=bl [41]:=rfl;unfold q9;rw[zBa h1,Option.bind_some,e1,e2,e3,zCl (by simp;omega),Option.bind_some,zBV,zCl (by simp;omega),Option.bind_some,zBV,zBa h2,Option.bind_some,zCl (by simp;omega),Option.bind_some,zBV,zCl (by simp;omega),Option.bind_some,zBV,zBa h3,Option.bind_some,zCl (by simp;omega),Option.bind_some,zBV,zCl (by simp;omega),Option.bind_some,zBV];rfl
def mB(m:Int×Int×Int×Int):List UInt8:=((((((([91]++Go.Lib.itoa m.1)++[44])++Go.Lib.itoa m.2.1)++[59])++Go.Lib.itoa m.2.2.1)++[44])++Go.Lib.itoa m.2.2.2)++[93]
theorem zQf{m:Int×Int×Int×Int}(h1:sm18 m.1)(h2:sm18 m.2.1)(h3:sm18 m.2.2.1)(h4:sm18 m.2.2.2):(mB m).length≤100:=by have a1:=qR h1;have a2:=qR h2;have a3:=qR h3;have a4:=qR h4;simp[mB];omega
theorem zKv{m:Int×Int×Int×Int}(h1:sm18 m.1)(h2:sm18 m.2.1)(h3:sm18 m.2.2.1)(h4:sm18 m.2.2.2):zAu m=some (bl (mB m)):=by have a1:=qR h1;have a2:=qR h2;have a3:=qR h3;have a4:=qR h4;have e1:(⟨#[91]⟩:qd)=bl [91]:=rfl;have e2:(⟨#[44]⟩:qd)=bl [44]:=rfl;have e3:(⟨#[59]⟩:qd)=bl [59]:=rfl;have e4:(⟨#[93]⟩:qd)=bl [93]:=rfl;unfold zAu;rw[zC1 h1,Option.bind_some,e1,e2,e3,e4,zCl (by simp;omega),Option.bind_some,zBV,zCl (by simp;omega),Option.bind_some,zBV,zC1 h2,Option.bind_some,zCl (by simp;omega),Option.bind_some,zBV,zCl (by simp;omega),Option.bind_some,zBV,zC1 h3,Option.bind_some,zCl (by simp;omega),Option.bind_some,zBV,zCl (by simp;omega),Option.bind_some,zBV,zC1 h4,Option.bind_some,zCl (by simp;omega),Option.bind_some,zBV,zCl (by simp;omega),Option.bind_some,zBV];rfl
theorem zEZ{m:Int×Int×Int×Int}(h1:sm18 m.1)(h2:sm18 m.2.1)(h3:sm18 m.2.2.1)(h4:sm18 m.2.2.2):zAy m=some (bl (mB m)):=by have a1:=qR h1;have a2:=qR h2;have a3:=qR h3;have a4:=qR h4;have e1:(⟨#[91]⟩:qd)=bl [91]:=rfl;have e2:(⟨#[44]⟩:qd)=bl [44]:=rfl;have e3:(⟨#[59]⟩:qd)=bl [59]:=rfl;have e4:(⟨#[93]⟩:qd)=bl [93]:=rfl;unfold zAy;rw[zBa h1,Option.bind_some,e1,e2,e3,e4,zCl (by simp;omega),Option.bind_some,zBV,zCl (by simp;omega),Option.bind_some,zBV,zBa h2,Option.bind_some,zCl (by simp;omega),Option.bind_some,zBV,zCl (by simp;omega),Option.bind_some,zBV,zBa h3,Option.bind_some,zCl (by simp;omega),Option.bind_some,zBV,zCl (by simp;omega),Option.bind_some,zBV,zBa h4,Option.bind_some,zCl (by simp;omega),Option.bind_some,zBV,zCl (by simp;omega),Option.bind_some,zBV];rfl
def OkO{α:Type}(x:Option α)(Q:α→Prop):Prop:=∃a,x=some a∧Q a
theorem OkO.bind{α β:Type}{x:Option α}{f:α→Option β}{Q:α→Prop}{R:β→Prop}(h:OkO x Q)(hf:∀a,Q a→OkO (f a) R):OkO (x.bind f) R:=by obtain⟨a,rfl,h1⟩:=h;exact hf a h1
theorem OkO.cond{α:Type}{b:Bool}{x y:Option α}{Q:α→Prop}(h1:b=true→OkO x Q)(h2:b=false→OkO y Q):OkO (bif b then x else y) Q:=by
 cases b with
 |true=>exact h1 rfl
 |false=>exact h2 rfl
theorem OkO.some{α:Type}{a:α}{Q:α→Prop}(h:Q a):OkO (some a) Q:=⟨a,rfl,h⟩
theorem OkO.mono{α:Type}{x:Option α}{Q R:α→Prop}(h:OkO x Q)(hr:∀a,Q a→R a):OkO x R:=by obtain⟨a,h1,h2⟩:=h;exact⟨a,h1,hr a h2⟩
theorem OkO.sI{α:Type}{e:Int}{f:Int→Option α}{Q:α→Prop}(h:OkO (f e) Q):OkO (sI e f) Q:=by rw[zO];exact h
abbrev Cur3:=List Int×Int×Int
theorem z8A{k:Nat}{c:Cur3}(n:Int)(h:CurB k c)(hk:k≤100000000000):OkO (zAC c n) (fun y=>CurB (k+2) y.2):=by obtain⟨x,c',e,h1⟩:=zOK n h hk;exact⟨_,e,h1⟩
theorem zIF(x:Int):0≤x*x:=by
 rcases Int.le_total 0 x with h|h
 ·exact Int.mul_nonneg h h
 ·exact Int.mul_nonneg_of_nonpos_of_nonpos h h
theorem zXC{x:Int}{M N:Nat}(h:x*x≤(N:Int))(hM:N<(M+1)*(M+1)):x.natAbs≤M:=by
 rcases Nat.lt_or_ge M x.natAbs with h1|h1
 ·have h2:(M+1)*(M+1)≤x.natAbs*x.natAbs:=Nat.mul_le_mul h1 h1;have h3:x*x=((x.natAbs*x.natAbs:Nat):Int):=Int.natAbs_mul_self.symm;omega
 ·exact h1
theorem z6Y{A B C d x y v:Int}(hd:B*B - 4*A*C=d)(hv:A*x*x+B*x*y+C*y*y=v):(-d)*(x*x)+(2*C*y+B*x)*(2*C*y+B*x)=4*C*v:=by subst hd hv;grind
theorem z4u{A B C d x y v:Int}(hd:B*B - 4*A*C=d)(hv:A*x*x+B*x*y+C*y*y=v):(-d)*(x*x)≤4*C*v:=by have h1:=z6Y hd hv;have h2:=zIF (2*C*y+B*x);omega
theorem zYO{A B C d x y v:Int}(hd:B*B - 4*A*C=d)(hneg:d<0)(hC1:1≤C)(hC:C≤1000000)(hv:A*x*x+B*x*y+C*y*y=v)(hv2:v≤1250000):x.natAbs≤2300000:=by have h1:=z4u hd hv;have h2:1*(x*x)≤(-d)*(x*x):=Int.mul_le_mul_of_nonneg_right (by omega) (zIF x);have h3:4*C*v≤4*C*1250000:=zn hv2 (by omega);exact zXC (N:=5000000000000) (by omega) (by decide)
structure MatInv (A B C p q r s a b c:Int):Prop where
  e1:A*p*p+B*p*r+C*r*r=a
  e2:2*A*p*q+B*(p*s+q*r)+2*C*r*s=b
  e3:A*q*q+B*q*s+C*s*s=c
  dt:p*s - q*r=1
theorem MatInv.swap{A B C p q r s a b c:Int}(h:MatInv A B C p q r s a b c):MatInv A B C q (-p) s (-r) c (-b) a:=by obtain⟨e1,e2,e3,dt⟩:=h;exact⟨e3,by grind,by grind,by grind⟩
theorem MatInv.norm{A B C p q r s a b c:Int}(t:Int)(h:MatInv A B C p q r s a b c):MatInv A B C p (p*t+q) r (r*t+s) a (2*a*t+b) (a*t*t+b*t+c):=by obtain⟨e1,e2,e3,dt⟩:=h;exact⟨e1,by grind,by grind,by grind⟩
theorem z04{a b c d g:Int}(h:RedInv a b c d g)(hr:¬zC2 a b c):jH (a,b,c)=some (0,-1,1,0)∨∃t,-1000001≤t∧t≤1000000∧jH (a,b,c)=some (1,t,0,1):=by
 obtain⟨a1,aM,b1,b2,c1,cM,dis,neg,nrm,con⟩:=h;have hn:qU (a,b,c)=some (decide (-a<b∧b≤a)):=by
  simp only[qU,Option.bind_some,zS,qK];rw[zB (by omega)];by_cases h1:-a<b<;>by_cases h2:b≤a<;>simp[h1,h2]
  all_goals omega
 by_cases hN:-a<b∧b≤a
 ·left;simp only[jH,zH1 a1 aM,hn,Option.bind_some,zc hr,zb hN];rfl
 ·right;have hf:=zGk (a:=a - b) (m:=2*a) (by omega) (by omega) (by omega) (by omega);have e1:=zy (a - b) (b:=2*a) (by omega);have e2:=zz (a - b) (b:=2*a) (by omega);have e3:=Int.emod_add_mul_ediv (a - b) (2*a);generalize hs:(a - b) / (2*a)=s at*;generalize hq:(a - b) % (2*a)=q at*;have hs1:s≤1000000:=by
   rcases Int.lt_or_le 1000000 s with h|h
   ·have:2*a*1000001≤2*a*s:=zn (by omega) (by omega);omega
   ·exact h
  have hs2:-1000001≤s:=by
   rcases Int.lt_or_le s (-1000001) with h|h
   ·have:2*a*s≤2*a*(-1000002):=zn (by omega) (by omega);omega
   ·exact h
  refine⟨s,hs2,hs1,?_⟩;simp only[jH,zH1 a1 aM,hn,Option.bind_some,zc hr,zc hN,cond_false,zf,za];rw[zB (n:=a - b) (by omega),zB (n:=2*a) (by omega),hf];rfl
theorem z0X{p q r s:Int}(hp:p.natAbs≤2300000)(hq:q.natAbs≤2300000)(hr:r.natAbs≤2300000)(hs:s.natAbs≤2300000):zF (p,q,r,s) (0,-1,1,0)=some (q,-p,s,-r):=by
 simp only[zF,zO,Int.mul_zero,Int.mul_one];have e:∀x:Int,x*-1=-x:=fun x=>by omega
 rw[e p,e r,zB (n:=0) (by omega),zB (n:=q) (by omega),zB (n:=-p) (by omega),zB (n:=s) (by omega),zB (n:=-r) (by omega),zB (n:=0+q) (by omega),zB (n:=-p+0) (by omega),zB (n:=0+s) (by omega),zB (n:=-r+0) (by omega)];simp
theorem z0Y{p q r s t:Int}(hp:p.natAbs≤2300000)(hq:q.natAbs≤2300000)(hr:r.natAbs≤2300000)(hs:s.natAbs≤2300000)(ht:t.natAbs≤1000001):zF (p,q,r,s) (1,t,0,1)=some (p,p*t+q,r,r*t+s):=by have m1:=zN hp ht;have m2:=zN hr ht;simp only[zF,zO,Int.mul_zero,Int.mul_one];rw[zB (n:=0) (by omega),zB (n:=q) (by omega),zB (n:=p) (by omega),zB (n:=s) (by omega),zB (n:=r) (by omega),zB (n:=p*t) (by omega),zB (n:=r*t) (by omega),zB (n:=p+0) (by omega),zB (n:=p*t+q) (by omega),zB (n:=r+0) (by omega),zB (n:=r*t+s) (by omega)];simp
theorem zP3{A B C:Int}(hA1:1≤A)(hA:A≤1000000)(hC1:1≤C)(hC:C≤1000000):∀(n:Nat)(a b c d g p q r s:Int),B*B - 4*A*C=d→RedInv a b c d g→MatInv A B C p q r s a b c→4*a+(if -a<b∧b≤a then 0 else 2)+(if zC2 a b c then 0 else 1)≤(n:Int)→
  ∃m1 m2 m3 m4 a2 b2 c2,zCI n p q r s a b c=some (m1,m2,m3,m4,a2,b2,c2)∧RedInv a2 b2 c2 d g∧zC2 a2 b2 c2∧MatInv A B C m1 m2 m3 m4 a2 b2 c2
 |0,a,b,c,d,g,p,q,r,s,hd,h,hv,hm=>by have:=h.a1;split at hm<;>split at hm<;>omega
 |n+1,a,b,c,d,g,p,q,r,s,hd,h,hv,hm=>by
  unfold zCI;rw[zH1 h.a1 h.aM];by_cases hr:zC2 a b c
  ·refine⟨p,q,r,s,a,b,c,?_,h,hr,hv⟩;simp[hr]
  ·obtain⟨m,a2,b2,c2,h1,h2,h3,h4⟩:=zZV h hr;have hdS:B*B - 4*C*A=d:=by rw[←hd];grind
   have bp:=zYO hd h.neg hC1 hC hv.e1 (by have:=h.aM;omega);have bq:=zYO hd h.neg hC1 hC hv.e3 h.cM;have br:=zYO (A:=C) (C:=A) (x:=r) (y:=p) hdS h.neg hA1 hA (v:=a) (by have:=hv.e1;grind) (by have:=h.aM;omega);have bs:=zYO (A:=C) (C:=A) (x:=s) (y:=q) hdS h.neg hA1 hA (v:=c) (by have:=hv.e3;grind) h.cM;have e1:(!decide (zC2 a b c))=true:=by simp[hr]
   have hmeas:4*a2+(if -a2<b2∧b2≤a2 then 0 else 2)+(if zC2 a2 b2 c2 then 0 else 1)≤(n:Int):=by
    rcases h4 with⟨g1,g2,g3⟩|⟨g1,g2⟩|⟨g1,g2,g3⟩
    ·rw[if_neg g1,if_neg hr]at hm;rw[if_pos g3];split<;>omega
    ·rw[if_pos g1,if_neg hr]at hm;split<;>split<;>omega
    ·rw[if_pos g1,if_neg hr]at hm;rw[if_pos g2.1,if_pos g2];omega
   have ha:=h.a1;have hb1:=h.b1;have hb2:=h.b2;have haM:=h.aM;have hc1:=h.c1;have hcM:=h.cM;rcases z04 h hr with hs|⟨t,t1,t2,hs⟩
   ·rw[hs]at h1;have hm0:=zD h1;subst hm0;have hsub:=zP9 (a:=a) (b:=b) (c:=c) (by omega) (by omega) (by omega);rw[hsub]at h2;obtain⟨ea,hbc⟩:=Prod.mk.inj (zD h2);obtain⟨eb,ec⟩:=Prod.mk.inj hbc;rw[←ea,←eb,←ec]at h3 hmeas;simp only[Option.bind_some,hs,hsub,z0X bp bq br bs,e1,za];exact zP3 hA1 hA hC1 hC n _ _ _ d g _ _ _ _ hd h3 hv.swap hmeas
   ·rw[hs]at h1;have hm0:=zD h1;subst hm0;have hsub:=zPa (a:=a) (b:=b) (c:=c) (s:=t) (by omega) (by omega) (by omega) (by omega);rw[hsub]at h2;obtain⟨ea,hbc⟩:=Prod.mk.inj (zD h2);obtain⟨eb,ec⟩:=Prod.mk.inj hbc;rw[←ea,←eb,←ec]at h3 hmeas;simp only[Option.bind_some,hs,hsub,z0Y bp bq br bs (t:=t) (by omega),e1,za];exact zP3 hA1 hA hC1 hC n _ _ _ d g _ _ _ _ hd h3 (hv.norm t) hmeas
theorem zDe{A B C d x y v a b c:Int}(hd:B*B - 4*A*C=d)(hC1:1≤C)(hC:C≤1000000)(hdis:b*b - 4*a*c=d)(hred:zC2 a b c)(ha:1≤a)(hv:A*x*x+B*x*y+C*y*y=v)(hv2:v=a∨v=c):x.natAbs≤2000:=by
 have h1:=z4u hd hv;obtain⟨⟨b1,b2⟩,hr⟩:=hred;have hac:a≤c:=by omega
 have hbb:b*b≤a*a:=by
  have:=zN (x:=b) (y:=b) (A:=a.natAbs) (B:=a.natAbs) (by omega) (by omega);have h2:(b*b).natAbs≤(a*a).natAbs:=by rw[Int.natAbs_mul a a];exact this
  have h3:=zIF a;have h4:=zIF b;omega
 have haa:a*a≤a*c:=zn hac (by omega);have hD:3*(a*c)≤-d:=by
  have:4*a*c=4*(a*c):=by rw[zw]
  omega
 have hxx:=zIF x;have h5:3*(a*c)*(x*x)≤(-d)*(x*x):=Int.mul_le_mul_of_nonneg_right hD hxx;have h6:4*C*v≤4000000*v:=Int.mul_le_mul_of_nonneg_right (by omega) (by omega);have h7:3*(a*c)*(x*x)≤4000000*v:=by omega
 -- divide by v
 have h8:3*(x*x)≤4000000:=by
  rcases Int.lt_or_le 4000000 (3*(x*x)) with h|h
  ·exfalso
   rcases hv2 with rfl|rfl
   ·have h9:v*(3*(x*x))≤v*(3*(c*(x*x))):=zn (by
     have:1*(x*x)≤c*(x*x):=Int.mul_le_mul_of_nonneg_right (by omega) hxx;omega) (by omega)
    have h10:v*(3*(c*(x*x)))=3*(v*c)*(x*x):=by grind
    have h11:v*4000001≤v*(3*(x*x)):=zn (by omega) (by omega);omega
   ·have h9:v*(3*(x*x))≤v*(3*(a*(x*x))):=zn (by
     have:1*(x*x)≤a*(x*x):=Int.mul_le_mul_of_nonneg_right (by omega) hxx;omega) (by omega)
    have h10:v*(3*(a*(x*x)))=3*(a*v)*(x*x):=by grind
    have h11:v*4000001≤v*(3*(x*x)):=zn (by omega) (by omega);omega
  ·exact h
 exact zXC (N:=1333334) (by omega) (by decide)
theorem zOH{a b c:Int}(h:zI (a,b,c)=some true):∃g,RedInv a b c (b*b - 4*a*c) g∧c≤1000000:=by
 have hin:inN a=true∧inN b=true∧inN c=true:=by
  simp only[zI,zF1,Option.bind_some]at h;cases ha:inN a with
  |false=>rw[ha]at h;simp at h
  |true=>
   cases hb:inN b with
   |false=>rw[ha,hb]at h;simp at h
   |true=>
    cases hc:inN c with
    |false=>rw[ha,hb,hc]at h;simp at h
    |true=>exact⟨rfl,rfl,rfl⟩
 obtain⟨ha,hb,hc⟩:=hin;have hd:=zPb ha hb hc;simp only[zI,zF1,ha,hb,hc,Bool.and_self,Option.bind_some,za,hd,zS]at h;rw[qO]at ha hb hc;have hneg:b*b - 4*a*c<0:=by
  rcases Int.lt_or_le (b*b - 4*a*c) 0 with h1|h1
  ·exact h1
  ·rw[zc (by omega)]at h;cases h
 have hpos:0<a:=by
  rw[zb hneg]at h;rcases Int.lt_or_le 0 a with h1|h1
  ·exact h1
  ·rw[zc (by omega)]at h;cases h
 have hbb:=zIF b;have hc1:1≤c:=by
  rcases Int.lt_or_le 0 c with h|h
  ·exact h
  ·have:4*a*c≤4*a*0:=zn h (by omega);omega
 refine⟨(Int.gcd a (Int.gcd b c):Int),⟨by omega,by omega,by omega,by omega,hc1,by omega,rfl,hneg,.inr (by omega),fun k=>?_⟩,by omega⟩;constructor
 ·rintro⟨u1,u2,u3⟩;exact Int.dvd_coe_gcd u1 (Int.dvd_coe_gcd u2 u3)
 ·intro hk;have k1:k∣a:=Int.dvd_trans hk (Int.gcd_dvd_left ..);have k2:k∣(Int.gcd b c:Int):=Int.dvd_trans hk (Int.gcd_dvd_right ..);exact⟨k1,Int.dvd_trans k2 (Int.gcd_dvd_left ..),Int.dvd_trans k2 (Int.gcd_dvd_right ..)⟩
theorem z1e{a b c g:Int}(hi:RedInv a b c (b*b - 4*a*c) g)(hcM:c≤1000000):∃m1 m2 m3 m4 a2 b2 c2,zQ (a,b,c)=some ((a2,b2,c2),(m1,m2,m3,m4))∧RedInv a2 b2 c2 (b*b - 4*a*c) g∧zC2 a2 b2 c2∧MatInv a b c m1 m2 m3 m4 a2 b2 c2∧m1.natAbs≤2000∧m2.natAbs≤2000∧m3.natAbs≤2000∧m4.natAbs≤2000:=by
 obtain⟨m1,m2,m3,m4,a3,b3,c3,q1,q2,q3,q4⟩:=zP3 (B:=b) hi.a1 hi.aM hi.c1 hcM FU a b c _ g 1 0 0 1 rfl hi ⟨by grind,by grind,by grind,by decide⟩ (by have e:((FU:Nat):Int)=1000000000:=rfl;rw[e];have:=hi.aM;split<;>split<;>omega)
 have k1':zQ (a,b,c)=some ((a3,b3,c3),(m1,m2,m3,m4)):=by simp only[zQ,zDA,Option.bind_some,q1]
 have hdS:b*b - 4*c*a=b*b - 4*a*c:=by grind
 have s1:=zDe (A:=a) (B:=b) (C:=c) (x:=m1) (y:=m3) rfl hi.c1 hcM q2.dis q3 q2.a1 q4.e1 (.inl rfl);have s2:=zDe (A:=a) (B:=b) (C:=c) (x:=m2) (y:=m4) rfl hi.c1 hcM q2.dis q3 q2.a1 q4.e3 (.inr rfl);have s3:=zDe (A:=c) (B:=b) (C:=a) (x:=m3) (y:=m1) (v:=a3) hdS hi.a1 hi.aM q2.dis q3 q2.a1 (by have:=q4.e1;grind) (.inl rfl);have s4:=zDe (A:=c) (B:=b) (C:=a) (x:=m4) (y:=m2) (v:=c3) hdS hi.a1 hi.aM q2.dis q3 q2.a1 (by have:=q4.e3;grind) (.inr rfl);exact⟨m1,m2,m3,m4,a3,b3,c3,k1',q2,q3,q4,s1,s2,s3,s4⟩
theorem z4G{a b c g:Int}(hi:RedInv a b c (b*b - 4*a*c) g)(hcM:c≤1000000):∃m1 m2 m3 m4 a2 b2 c2,zQ (a,b,c)=some ((a2,b2,c2),(m1,m2,m3,m4))∧qM (a,b,c)=some ((a2,b2,c2),(m1,m2,m3,m4))∧RedInv a2 b2 c2 (b*b - 4*a*c) g∧zC2 a2 b2 c2∧MatInv a b c m1 m2 m3 m4 a2 b2 c2∧m1.natAbs≤2000∧m2.natAbs≤2000∧m3.natAbs≤2000∧m4.natAbs≤2000:=by
 obtain⟨m,a2,b2,c2,k1,k2,k3,k4⟩:=zTw hi;obtain⟨m1,m2,m3,m4,a3,b3,c3,q1,q2,q3,q4⟩:=zP3 (B:=b) hi.a1 hi.aM hi.c1 hcM FU a b c _ g 1 0 0 1 rfl hi ⟨by grind,by grind,by grind,by decide⟩ (by have e:((FU:Nat):Int)=1000000000:=rfl;rw[e];have:=hi.aM;split<;>split<;>omega)
 have k1':zQ (a,b,c)=some ((a3,b3,c3),(m1,m2,m3,m4)):=by simp only[zQ,zDA,Option.bind_some,q1]
 rw[k1]at k1';have e:=zD k1';obtain⟨e1,rfl⟩:=Prod.mk.inj e;obtain⟨rfl,e2⟩:=Prod.mk.inj e1;obtain⟨rfl,rfl⟩:=Prod.mk.inj e2;have hdS:b*b - 4*c*a=b*b - 4*a*c:=by grind
 have s1:=zDe (A:=a) (B:=b) (C:=c) (x:=m1) (y:=m3) rfl hi.c1 hcM q2.dis q3 q2.a1 q4.e1 (.inl rfl);have s2:=zDe (A:=a) (B:=b) (C:=c) (x:=m2) (y:=m4) rfl hi.c1 hcM q2.dis q3 q2.a1 q4.e3 (.inr rfl);have s3:=zDe (A:=c) (B:=b) (C:=a) (x:=m3) (y:=m1) (v:=a2) hdS hi.a1 hi.aM q2.dis q3 q2.a1 (by have:=q4.e1;grind) (.inl rfl);have s4:=zDe (A:=c) (B:=b) (C:=a) (x:=m4) (y:=m2) (v:=c2) hdS hi.a1 hi.aM q2.dis q3 q2.a1 (by have:=q4.e3;grind) (.inr rfl);exact⟨m1,m2,m3,m4,a2,b2,c2,k1,k2,q2,q3,q4,s1,s2,s3,s4⟩
theorem zU8{f:Int×Int×Int}(h:zI f=some true):∃m f2,zQ f=some (f2,m)∧qM f=some (f2,m)∧inN m.1=true∧inN m.2.1=true∧inN m.2.2.1=true∧inN m.2.2.2=true∧
  (-10000000≤f2.1∧f2.1≤10000000)∧(-10000000≤f2.2.1∧f2.2.1≤10000000)∧(-10000000≤f2.2.2∧f2.2.2≤10000000)∧zC2 f2.1 f2.2.1 f2.2.2∧(∃g,RedInv f2.1 f2.2.1 f2.2.2 (f.2.1*f.2.1 - 4*f.1*f.2.2) g):=by
 obtain⟨a,b,c⟩:=f;obtain⟨g,hi,hcM⟩:=zOH h;obtain⟨m,a2,b2,c2,k1,k2,k3,k4⟩:=zTw hi;obtain⟨m1,m2,m3,m4,a3,b3,c3,q1,q2,q3,q4⟩:=zP3 (B:=b) hi.a1 hi.aM hi.c1 hcM FU a b c _ g 1 0 0 1 rfl hi ⟨by grind,by grind,by grind,by decide⟩ (by have e:((FU:Nat):Int)=1000000000:=rfl;rw[e];have:=hi.aM;split<;>split<;>omega)
 have k1':zQ (a,b,c)=some ((a3,b3,c3),(m1,m2,m3,m4)):=by simp only[zQ,zDA,Option.bind_some,q1]
 rw[k1]at k1';have e:=zD k1';obtain⟨e1,rfl⟩:=Prod.mk.inj e;obtain⟨rfl,e2⟩:=Prod.mk.inj e1;obtain⟨rfl,rfl⟩:=Prod.mk.inj e2;have hdS:b*b - 4*c*a=b*b - 4*a*c:=by grind
 have s1:=zDe (A:=a) (B:=b) (C:=c) (x:=m1) (y:=m3) rfl hi.c1 hcM q2.dis q3 q2.a1 q4.e1 (.inl rfl);have s2:=zDe (A:=a) (B:=b) (C:=c) (x:=m2) (y:=m4) rfl hi.c1 hcM q2.dis q3 q2.a1 q4.e3 (.inr rfl);have s3:=zDe (A:=c) (B:=b) (C:=a) (x:=m3) (y:=m1) (v:=a2) hdS hi.a1 hi.aM q2.dis q3 q2.a1 (by have:=q4.e1;grind) (.inl rfl);have s4:=zDe (A:=c) (B:=b) (C:=a) (x:=m4) (y:=m2) (v:=c2) hdS hi.a1 hi.aM q2.dis q3 q2.a1 (by have:=q4.e3;grind) (.inr rfl);have r1:=q2.a1;have r2:=q2.aM;have r3:=q2.b1;have r4:=q2.b2;have r5:=q2.c1;have r6:=q2.cM;refine⟨_,_,k1,k2,qO.2 (by show -1000000≤m1∧m1≤1000000;omega),qO.2 (by show -1000000≤m2∧m2≤1000000;omega),qO.2 (by show -1000000≤m3∧m3≤1000000;omega),qO.2 (by show -1000000≤m4∧m4≤1000000;omega),by show -10000000≤a2∧a2≤10000000;omega,by show -10000000≤b2∧b2≤10000000;omega,by show -10000000≤c2∧c2≤10000000;omega,q3,g,q2⟩
def bv(x:Int):BitVec 64:=BitVec.ofInt 64 x
theorem z0R(x:Int):w64 x=(bv x).toInt:=by rw[zNj,bv,BitVec.toInt_ofInt,IntKind.wrap_i64,Int.bmod_def];omega
theorem zFT(x:Int):bv (w64 x)=bv x:=by rw[z0R];unfold bv;rw[BitVec.ofInt_toInt]
theorem zAa{x y:Int}(h:bv x=bv y):w64 x=w64 y:=by rw[z0R,z0R,h]
theorem zHb(x y:Int):bv (x+y)=bv x+bv y:=BitVec.ofInt_add x y
theorem zJ1(x y:Int):bv (x*y)=bv x*bv y:=BitVec.ofInt_mul x y
theorem zMb(x y:Int):bv (x - y)=bv x - bv y:=by rw[Int.sub_eq_add_neg,zHb];unfold bv;rw[BitVec.ofInt_neg,BitVec.sub_eq_add_neg]
theorem wml(x y:Int):w64 (w64 x*y)=w64 (x*y):=zAa (by rw[zJ1,zJ1,zFT])
theorem wmr(x y:Int):w64 (x*w64 y)=w64 (x*y):=zAa (by rw[zJ1,zJ1,zFT])
theorem wal(x y:Int):w64 (w64 x+y)=w64 (x+y):=zAa (by rw[zHb,zHb,zFT])
theorem war(x y:Int):w64 (x+w64 y)=w64 (x+y):=zAa (by rw[zHb,zHb,zFT])
theorem wsl(x y:Int):w64 (w64 x - y)=w64 (x - y):=zAa (by rw[zMb,zMb,zFT])
theorem wsr(x y:Int):w64 (x - w64 y)=w64 (x - y):=zAa (by rw[zMb,zMb,zFT])
theorem at_w(a b c x y:Int):zBU (a,b,c) x y=some (w64 (a*x*x+b*x*y+c*y*y)):=by simp only[zBU,zO,wml,wmr,wal,war,wsl,wsr]
theorem z1n(a b c x y u v:Int):zB8 (a,b,c) x y u v=some (w64 (2*a*x*u+b*(x*v+y*u)+2*c*y*v)):=by simp only[zB8,zO,wml,wmr,wal,war,wsl,wsr]
theorem z7v(a b c p q r s:Int):qE (a,b,c) (p,q,r,s)=some (w64 (a*p*p+b*p*r+c*r*r),w64 (2*a*p*q+b*(p*s+r*q)+2*c*r*s),w64 (a*q*q+b*q*s+c*s*s)):=by simp only[qE,at_w,z1n,Option.bind_some]
theorem zK0(p q r s p' q' r' s':Int):zF (p,q,r,s) (p',q',r',s')=some (w64 (p*p'+q*r'),w64 (p*q'+q*s'),w64 (r*p'+s*r'),w64 (r*q'+s*s')):=by simp only[zF,zO,wml,wmr,wal,war,wsl,wsr]
theorem zU5(a b c:Int):qC (a,b,c)=some (w64 (b*b - 4*a*c)):=by simp only[qC,zO,wml,wmr,wal,war,wsl,wsr]
end Go.Proofs.YtnjhhbcccgbbnaaGreatDoor
namespace Go.Proofs.YtnjhhbcccgbbnaaGreatDoor
def ptG(a A B C x y:Nat):Bool:=Nat.beq (Nat.gcd (Nat.add (Nat.add (Nat.mul A (Nat.mul x x)) (Nat.mul B (Nat.mul x y))) (Nat.mul C (Nat.mul y y))) a) 1
def ptA(a A B C:Nat):Bool:=bif ptG a A B C 0 1 then true else bif ptG a A B C 1 0 then true else bif ptG a A B C 1 1 then true else bif ptG a A B C 1 2 then true else bif ptG a A B C 2 1 then true else bif ptG a A B C 1 3 then true else bif ptG a A B C 2 3 then true else bif ptG a A B C 3 1 then true else ptG a A B C 3 2
def ptC(a A B:Nat):Nat→Bool
 |0=>true
 |k+1=>bif (bif Nat.beq (Nat.gcd (Nat.gcd A B) (Nat.gcd k a)) 1 then ptA a A B k else true) then ptC a A B k else false
def ptB(a A:Nat):Nat→Bool
 |0=>true
 |k+1=>bif ptC a A k a then ptB a A k else false
def ptD(a:Nat):Nat→Bool
 |0=>true
 |k+1=>bif ptB a k a then ptD a k else false
def ptE:Nat→Bool
 |0=>true
 |k+1=>bif ptD (Nat.succ k) (Nat.succ k) then ptE k else false
theorem z81:ptE 25=true:=by decide+kernel
theorem zSp{a b:Bool}(h:(bif a then b else false)=true):a=true∧b=true:=by cases a<;>simp_all
theorem z1k{a A B:Nat}:∀k,ptC a A B k=true→∀C,C<k→Nat.gcd (Nat.gcd A B) (Nat.gcd C a)=1→ptA a A B C=true
 |0,_,C,hC,_=>by omega
 |k+1,h,C,hC,hg=>by
  obtain⟨h1,h2⟩:=zSp h;by_cases e:C=k
  ·subst e;have:Nat.beq (Nat.gcd (Nat.gcd A B) (Nat.gcd C a)) 1=true:=by rw[Nat.beq_eq];exact hg
   rw[this,za]at h1;exact h1
  ·exact z1k k h2 C (by omega) hg
theorem z1l{a A:Nat}:∀k,ptB a A k=true→∀B,B<k→ptC a A B a=true
 |0,_,C,hC=>by omega
 |k+1,h,C,hC=>by
  obtain⟨h1,h2⟩:=zSp h;by_cases e:C=k
  ·subst e;exact h1
  ·exact z1l k h2 C (by omega)
theorem z1j{a:Nat}:∀k,ptD a k=true→∀A,A<k→ptB a A a=true
 |0,_,C,hC=>by omega
 |k+1,h,C,hC=>by
  obtain⟨h1,h2⟩:=zSp h;by_cases e:C=k
  ·subst e;exact h1
  ·exact z1j k h2 C (by omega)
theorem z1i:∀k,ptE k=true→∀a,a<k→ptD (a+1) (a+1)=true
 |0,_,C,hC=>by omega
 |k+1,h,C,hC=>by
  obtain⟨h1,h2⟩:=zSp h;by_cases e:C=k
  ·subst e;exact h1
  ·exact z1i k h2 C (by omega)
theorem z8Y{a A B C:Nat}(h1:1≤a)(h2:a≤25)(hA:A<a)(hB:B<a)(hC:C<a)(hg:Nat.gcd (Nat.gcd A B) (Nat.gcd C a)=1):ptA a A B C=true:=by have e:=z1i 25 z81 (a - 1) (by omega);rw[show a - 1+1=a by omega]at e;exact z1k a (z1l a (z1j a e A hA) B hB) C hC hg
def ptL:List (Int×Int):=[(0,1),(1,0),(1,1),(1,2),(2,1),(1,3),(2,3),(3,1),(3,2)]
theorem gcd_of'{g x y:Int}(h:∀c:Int,c∣g→(c∣x↔c∣y)):Int.gcd g x=Int.gcd g y:=by
 refine Nat.dvd_antisymm ?_ ?_<;>apply Int.natCast_dvd_natCast.1
 ·exact Int.dvd_coe_gcd (Int.gcd_dvd_left _ _) ((h _ (Int.gcd_dvd_left _ _)).1 (Int.gcd_dvd_right _ _))
 ·exact Int.dvd_coe_gcd (Int.gcd_dvd_left _ _) ((h _ (Int.gcd_dvd_left _ _)).2 (Int.gcd_dvd_right _ _))
theorem z6k{v a:Int}{n:Nat}(ha:1≤a)(hn:a∣v - (n:Int)):Int.gcd v a=Nat.gcd n a.toNat:=by
 obtain⟨k,hk⟩:=hn;have e:v=(n:Int)+a*k:=by omega
 rw[e,Int.gcd_comm,gcd_of' (y:=(n:Int)) (fun c hc=>by
  obtain⟨j,hj⟩:=hc;constructor
  ·rintro⟨i,hi⟩;exact⟨i - j*k,by rw[Int.mul_sub,←zw,←hj];omega⟩
  ·rintro⟨i,hi⟩;exact⟨i+j*k,by rw[Int.mul_add,←zw,←hj];omega⟩),Int.gcd_comm]
 unfold Int.gcd;rw[Int.natAbs_natCast];congr 1;omega
theorem zU2{x a:Int}(ha:1≤a):a∣x - ((x % a).toNat:Int)∧(x % a).toNat<a.toNat:=by have h1:=zy x (b:=a) (by omega);have h2:=zz x (b:=a) (by omega);have h3:=Int.emod_add_mul_ediv x a;exact⟨⟨x / a,by omega⟩,by omega⟩
theorem pt_ex{a A B C:Int}(h1:1≤a)(h2:a≤25)(hp:∀k:Int,k∣A→k∣B→k∣C→k∣1):∃p,p∈ptL∧Int.gcd (A*p.1*p.1+B*p.1*p.2+C*p.2*p.2) a=1:=by
 obtain⟨a1,a2⟩:=zU2 (x:=A) h1;obtain⟨b1,b2⟩:=zU2 (x:=B) h1;obtain⟨c1,c2⟩:=zU2 (x:=C) h1;generalize (A % a).toNat=A' at*;generalize (B % a).toNat=B' at*;generalize (C % a).toNat=C' at*;have hg:Nat.gcd (Nat.gcd A' B') (Nat.gcd C' a.toNat)=1:=by
  generalize hG:Nat.gcd (Nat.gcd A' B') (Nat.gcd C' a.toNat)=G;have g1:G∣A':=hG▸Nat.dvd_trans (Nat.gcd_dvd_left _ _) (Nat.gcd_dvd_left _ _);have g2:G∣B':=hG▸Nat.dvd_trans (Nat.gcd_dvd_left _ _) (Nat.gcd_dvd_right _ _);have g3:G∣C':=hG▸Nat.dvd_trans (Nat.gcd_dvd_right _ _) (Nat.gcd_dvd_left _ _);have g4:G∣a.toNat:=hG▸Nat.dvd_trans (Nat.gcd_dvd_right _ _) (Nat.gcd_dvd_right _ _);have g5:(G:Int)∣a:=by
   have:((a.toNat:Nat):Int)=a:=by omega
   rw[←this];exact Int.natCast_dvd_natCast.2 g4
  have up:∀{X:Int}{X':Nat},a∣X - (X':Int)→G∣X'→(G:Int)∣X:=by intro X X' u1 u2;obtain⟨i,hi⟩:=Int.dvd_trans g5 u1;obtain⟨j,hj⟩:=Int.natCast_dvd_natCast.2 u2;exact⟨i+j,by rw[Int.mul_add];omega⟩
  have h:=hp G (up a1 g1) (up b1 g2) (up c1 g3);have:=Int.natCast_dvd_natCast.1 (show (G:Int)∣((1:Nat):Int) from h);exact Nat.dvd_one.1 this
 have k:=z8Y (by omega) (by omega) a2 b2 c2 hg;have fin:∀x y:Nat,((x:Int),(y:Int))∈ptL→ptG a.toNat A' B' C' x y=true→∃p,p∈ptL∧Int.gcd (A*p.1*p.1+B*p.1*p.2+C*p.2*p.2) a=1:=by
  intro x y hm hG;refine⟨_,hm,?_⟩;have e:=Nat.eq_of_beq_eq_true hG;rw[←e];refine z6k h1 ?_
  obtain⟨i,hi⟩:=a1;obtain⟨j,hj⟩:=b1;obtain⟨l,hl⟩:=c1;refine⟨i*(x*x)+j*(x*y)+l*(y*y),?_⟩;have eA:A=a*i+A':=by omega
  have eB:B=a*j+B':=by omega
  have eC:C=a*l+C':=by omega
  have e3:((((A'.mul (x.mul x)).add (B'.mul (x.mul y))).add (C'.mul (y.mul y)):Nat):Int)=A'*(x*x)+B'*(x*y)+C'*(y*y):=by simp only[Nat.add_eq,Nat.mul_eq,Int.natCast_add,Int.natCast_mul]
  rw[e3,eA,eB,eC];simp only[];grind
 unfold ptA at k;by_cases e1:ptG a.toNat A' B' C' 0 1=true;· exact fin 0 1 (by decide) e1
 by_cases e2:ptG a.toNat A' B' C' 1 0=true;· exact fin 1 0 (by decide) e2
 by_cases e3:ptG a.toNat A' B' C' 1 1=true;· exact fin 1 1 (by decide) e3
 by_cases e4:ptG a.toNat A' B' C' 1 2=true;· exact fin 1 2 (by decide) e4
 by_cases e5:ptG a.toNat A' B' C' 2 1=true;· exact fin 2 1 (by decide) e5
 by_cases e6:ptG a.toNat A' B' C' 1 3=true;· exact fin 1 3 (by decide) e6
 by_cases e7:ptG a.toNat A' B' C' 2 3=true;· exact fin 2 3 (by decide) e7
 by_cases e8:ptG a.toNat A' B' C' 3 1=true;· exact fin 3 1 (by decide) e8
 rw[Bool.not_eq_true]at e1 e2 e3 e4 e5 e6 e7 e8;rw[e1,e2,e3,e4,e5,e6,e7,e8]at k;simp only[cond_false]at k;exact fin 3 2 (by decide) k
end Go.Proofs.YtnjhhbcccgbbnaaGreatDoor
namespace Go.Proofs.YtnjhhbcccgbbnaaGreatDoor
structure Rb (A B C:Int):Prop where
  a1:1≤A
  a2:A≤26
  b1:-26≤B
  b2:B≤26
  c1:1≤C
  c2:C≤1000
def Vl(A B C x y:Int):Int:=A*x*x+B*x*y+C*y*y
def Gd(a A B C s x y:Int):Prop:=mxI x y=s∧Int.gcd x y=1∧Int.gcd (Vl A B C x y) a=1
theorem z8q(x y:Int):mxI x y=max x y:=by
 unfold mxI;rw[zS];by_cases h:x<y
 ·rw[zb h,za];omega
 ·rw[zc h,cond_false];omega
theorem z68(x y:Int):zCa x y=some (mxI x y):=by
 unfold zCa mxI;rw[zS,zS];by_cases h:x<y
 ·rw[zb h,zc (show ¬y<x by omega)];rfl
 ·rw[zc h];by_cases h2:y<x
  ·rw[zb h2];rfl
  ·rw[zc h2,show x=y by omega];rfl
theorem z7s{A B C x y:Int}(h:Rb A B C)(hx:0≤x)(hx2:x≤3)(hy:0≤y)(hy2:y≤3):(Vl A B C x y).natAbs≤10000:=by obtain⟨a1,a2,b1,b2,c1,c2⟩:=h;have m1:(A*x*x).natAbs≤26*3*3:=zN (zN (by omega) (by omega)) (by omega);have m2:(B*x*y).natAbs≤26*3*3:=zN (zN (by omega) (by omega)) (by omega);have m3:(C*y*y).natAbs≤1000*3*3:=zN (zN (by omega) (by omega)) (by omega);unfold Vl;omega
theorem fp11{a A B C s x:Int}(h:Rb A B C)(ha:1≤a)(ha2:a≤100)(hx:0≤x)(hxs:x≤s)(hs:s≤3):∀(n:Nat)(y:Int),0≤y→y≤s+1→(s+1 - y).toNat<n→
  ∃r,zC0 a (A,B,C) s x n y=some r∧zD1 a (A,B,C) s x n y=some r∧(r=.inl ()→∀y',y≤y'→y'≤s→¬Gd a A B C s x y')∧(∀p,r=.inr p→p.1=x∧0≤p.2∧p.2≤s∧Gd a A B C s x p.2)
 |0,y,h0,h1,hn=>by omega
 |n+1,y,h0,h1,hn=>by
  rw[zC0,zD1,qK];by_cases hy:y≤s
  ·rw[zb hy,za,za];have hb:=z7s (x:=x) (y:=y) h hx (by omega) h0 (by omega);have hv:w64 (A*x*x+B*x*y+C*y*y)=Vl A B C x y:=qH (by unfold Vl at hb;omega);have e1:zBM (A,B,C) x y=some (Vl A B C x y):=by rw[zWq,at_w,hv]
   rw[at_w,hv,e1,z68];simp only[Option.bind_some];rw[zNB (a:=x) (b:=y) (by omega) (by omega),zJo (a:=x) (b:=y) (by omega) (by omega),zNB (b:=a) (by omega) (by omega),zJo (b:=a) (by omega) (by omega)];simp only[Option.bind_some];by_cases hG:Gd a A B C s x y
   ·obtain⟨g1,g2,g3⟩:=hG;rw[g1,g2,g3,zBy];simp only[za,Int.natCast_one,zBy,Option.bind_some];refine⟨_,rfl,rfl,fun e=>(by cases e),fun p e=>?_⟩;cases e;exact⟨rfl,h0,hy,g1,g2,g3⟩
   ·have hc:∀{α:Type}(u v:Option α),((bif eqI (mxI x y) s then some (eqI ((Int.gcd x y:Nat):Int) 1) else some false).bind fun b16=>(bif b16 then some (eqI ((Int.gcd (Vl A B C x y) a:Nat):Int) 1) else some false).bind fun b20=>bif b20 then u else v)=v:=by
     intro α u v;by_cases g1:mxI x y=s
     ·rw[g1,zBy,za,Option.bind_some];by_cases g2:Int.gcd x y=1
      ·rw[g2,show ((1:Nat):Int)=1 from rfl,zBy,za,Option.bind_some];have g3:¬Int.gcd (Vl A B C x y) a=1:=fun g3=>hG ⟨g1,g2,g3⟩;rw[zDm (show ((Int.gcd (Vl A B C x y) a:Nat):Int)≠1 by omega),cond_false]
      ·rw[zDm (show ((Int.gcd x y:Nat):Int)≠1 by omega),cond_false,Option.bind_some,cond_false]
     ·rw[zDm g1,cond_false,Option.bind_some,cond_false,Option.bind_some,cond_false]
    rw[hc,hc];simp only[zO];rw[zB (n:=y+1) (by omega)];obtain⟨r,k1,k2,k3,k4⟩:=fp11 h ha ha2 hx hxs hs n (y+1) (by omega) (by omega) (by omega);refine⟨r,k1,k2,fun e y' u1 u2=>?_,k4⟩;by_cases e2:y'=y
    ·rw[e2];exact hG
    ·exact k3 e y' (by omega) u2
  ·rw[zc hy,cond_false,cond_false];refine⟨_,rfl,rfl,fun _ y' u1 u2=>by omega,fun p e=>by cases e⟩
theorem fp7{a A B C s:Int}(h:Rb A B C)(ha:1≤a)(ha2:a≤100)(hs0:0≤s)(hs:s≤3):∀(n:Nat)(x:Int),0≤x→x≤s+1→(s+1 - x).toNat<n→
  ∃r,zCg a (A,B,C) s n x=some r∧zDp a (A,B,C) s n x=some r∧(r=.inl ()→∀x' y',x≤x'→x'≤s→0≤y'→y'≤s→¬Gd a A B C s x' y')∧(∀p,r=.inr p→0≤p.1∧p.1≤s∧0≤p.2∧p.2≤s∧Gd a A B C s p.1 p.2)
 |0,x,h0,h1,hn=>by omega
 |n+1,x,h0,h1,hn=>by
  have hF:=FUge;rw[zCg,zDp,qK];by_cases hx:x≤s
  ·rw[zb hx,za,za];obtain⟨r,k1,k2,k3,k4⟩:=fp11 h ha ha2 h0 hx hs FU 0 (by omega) (by omega) (by omega);rw[k1,k2];simp only[Option.bind_some];cases r with
   |inr p=>obtain⟨q1,q2,q3,q4⟩:=k4 p rfl;refine⟨_,rfl,rfl,fun e=>(by cases e),fun p' e=>?_⟩;cases e;rw[q1];exact⟨h0,hx,q2,q3,q4⟩
   |inl u=>
    simp only[zO];rw[zB (n:=x+1) (by omega)];obtain⟨r,j1,j2,j3,j4⟩:=fp7 h ha ha2 hs0 hs n (x+1) (by omega) (by omega) (by omega);refine⟨r,j1,j2,fun e x' y' u1 u2 u3 u4=>?_,j4⟩;by_cases e2:x'=x
    ·rw[e2];exact k3 rfl y' u3 u4
    ·exact j3 e x' y' (by omega) u2 u3 u4
  ·rw[zc hx,cond_false,cond_false];refine⟨_,rfl,rfl,fun _ x' y' u1 u2=>by omega,fun p e=>by cases e⟩
theorem fp4{a A B C:Int}(h:Rb A B C)(ha:1≤a)(ha2:a≤100){t x0 y0:Int}(ht:t≤3)(hG:Gd a A B C t x0 y0)(hx0:0≤x0)(hx1:x0≤t)(hy0:0≤y0)(hy1:y0≤t):∀(m n n':Nat)(s:Int),0≤s→s≤t→(t - s).toNat≤m→m<n→m<n'→
  ∃p,zBS a (A,B,C) n s=some (.inr p)∧zDq a (A,B,C) n' s=some (.inr p)∧∃s',s'≤3∧0≤p.1∧p.1≤s'∧0≤p.2∧p.2≤s'∧Gd a A B C s' p.1 p.2
 |m,0,n',s,h0,h1,hm,hn,hn'=>by omega
 |m,n+1,0,s,h0,h1,hm,hn,hn'=>by omega
 |m,n+1,n'+1,s,h0,h1,hm,hn,hn'=>by
  have hF:=FUge;rw[zBS,zDq,qK,zb (show s≤100 by omega),za];obtain⟨r,k1,k2,k3,k4⟩:=fp7 h ha ha2 h0 (by omega) FU 0 (by omega) (by omega) (by omega);rw[k1,k2];simp only[Option.bind_some];cases r with
  |inr p=>obtain⟨q1,q2,q3,q4,q5⟩:=k4 p rfl;exact⟨p,rfl,rfl,s,by omega,q1,q2,q3,q4,q5⟩
  |inl u=>
   have hne:s≠t:=by intro e;rw[e]at k3;exact k3 rfl x0 y0 hx0 hx1 hy0 hy1 hG
   obtain⟨m',rfl⟩:∃m',m=m'+1:=⟨m - 1,by omega⟩
   simp only[zO];rw[zB (n:=s+1) (by omega)];exact fp4 h ha ha2 ht hG hx0 hx1 hy0 hy1 m' n n' (s+1) (by omega) (by omega) (by omega) (by omega) (by omega)
theorem z8Z{x y s:Int}(hs:s≤3)(h1:0≤x)(h2:x≤s)(h3:0≤y)(h4:y≤s)(hg:Int.gcd x y=1):(x,y)∈ptL:=by
 have e1:x=0∨x=1∨x=2∨x=3:=by omega
 have e2:y=0∨y=1∨y=2∨y=3:=by omega
 rcases e1 with rfl|rfl|rfl|rfl<;>rcases e2 with rfl|rfl|rfl|rfl<;>first|decide|(exfalso;revert hg;decide)
theorem z0d{a A B C:Int}(h:Rb A B C)(ha:1≤a)(ha2:a≤25)(hp:∀k:Int,k∣A→k∣B→k∣C→k∣1):∃p,zDt (A,B,C) a=some p∧zD2 (A,B,C) a=some p∧p∈ptL∧Int.gcd (Vl A B C p.1 p.2) a=1:=by
 have hF:=FUge;obtain⟨⟨x,y⟩,hm,hg⟩:=pt_ex ha ha2 hp;have hr:0≤x∧x≤3∧0≤y∧y≤3∧Int.gcd x y=1∧1≤max x y:=by simp only[ptL,zj,Prod.mk.injEq,zo,or_false]at hm;rcases hm with⟨rfl,rfl⟩|⟨rfl,rfl⟩|⟨rfl,rfl⟩|⟨rfl,rfl⟩|⟨rfl,rfl⟩|⟨rfl,rfl⟩|⟨rfl,rfl⟩|⟨rfl,rfl⟩|⟨rfl,rfl⟩<;>decide
 obtain⟨r1,r2,r3,r4,r5,r6⟩:=hr;have hG:Gd a A B C (max x y) x y:=⟨z8q x y,r5,hg⟩
 obtain⟨p,k1,k2,s',u1,u2,u3,u4,u5,u6⟩:=fp4 h ha (by omega) (show max x y≤3 by omega) hG r1 (by omega) r3 (by omega) 3 (FU - 1) FU 1 (by omega) (by omega) (by omega) (by omega) (by omega);have z:zBS a (A,B,C) FU 0=some (.inr p):=by
  obtain⟨r,j1,j2,j3,j4⟩:=fp7 h ha (by omega) (s:=0) (by omega) (by omega) FU 0 (by omega) (by omega) (by omega);rw[show FU=(FU - 1)+1 from rfl,zBS,j1,Option.bind_some];cases r with
  |inr q=>
   obtain⟨w1,w2,w3,w4,w5,w6,w7⟩:=j4 q rfl;have e1:q.1=0:=by omega
   have e2:q.2=0:=by omega
   rw[e1,e2]at w6;exact absurd w6 (by decide)
  |inl u=>simp only[zO];rw[show w64 (0+1)=1 from rfl];exact k1
 refine⟨p,?_,?_,z8Z u1 u2 u3 u4 u5 u6.2.1,u6.2.2⟩
 ·simp only[zDt,z,Option.bind_some]
 ·simp only[zD2,k2,Option.bind_some]
end Go.Proofs.YtnjhhbcccgbbnaaGreatDoor
namespace Go.Proofs.YtnjhhbcccgbbnaaGreatDoor
theorem z9F{b x d y k:Int}(hk:0≤k)(hy:1≤y)(M:Int)(h:(x.natAbs:Int)*d+(b.natAbs:Int)*y≤M):((b - k*x).natAbs:Int)*y+(x.natAbs:Int)*(d - k*y)≤M∧((x.natAbs:Int)*(d - k*y)≥0→((b - k*x).natAbs:Int)≤M):=by
 have h1:((b - k*x).natAbs:Int)≤(b.natAbs:Int)+k*(x.natAbs:Int):=by
  have h2:(b - k*x).natAbs≤b.natAbs+(k*x).natAbs:=Int.natAbs_sub_le b (k*x);have h3:(((k*x).natAbs:Nat):Int)=k*(x.natAbs:Int):=by rw[Int.natAbs_mul,Int.natCast_mul,Int.natAbs_of_nonneg hk]
  omega
 have h4:((b - k*x).natAbs:Int)*y≤((b.natAbs:Int)+k*(x.natAbs:Int))*y:=Int.mul_le_mul_of_nonneg_right h1 (by omega);have e:((b.natAbs:Int)+k*(x.natAbs:Int))*y+(x.natAbs:Int)*(d - k*y)=(x.natAbs:Int)*d+(b.natAbs:Int)*y:=by grind
 have h5:((b - k*x).natAbs:Int)*1≤((b - k*x).natAbs:Int)*y:=zn hy (by omega);constructor
 ·omega
 ·intro h6;omega
theorem z8S{d y:Int}(hd:0≤d)(hy:1≤y):0≤Int.tdiv d y∧Int.tdiv d y≤d∧0≤d - Int.tdiv d y*y∧d - Int.tdiv d y*y<y:=by
 have h1:=Int.tmod_add_mul_tdiv d y;have h2:0≤d.tmod y∧d.tmod y<y:=⟨Int.tmod_nonneg _ hd,Int.tmod_lt_of_pos _ (by omega)⟩
 have h3:=Int.tdiv_nonneg hd (show 0≤y by omega);have e:Int.tdiv d y*y=y*Int.tdiv d y:=Int.mul_comm _ _;have h4:Int.tdiv d y*1≤Int.tdiv d y*y:=zn hy h3;refine⟨h3,by omega,by omega,by omega⟩
theorem bigk{k x:Int}{K M:Nat}(h1:k.natAbs≤K)(h2:x.natAbs≤M)(hKM:K*M≤9000000000000):w64 (k*x)=k*x∧(k*x).natAbs≤K*M:=by have:=zN h1 h2;exact⟨qH (by omega),this⟩
theorem tz{z g:Int}(hg:g≠0):eqI (Int.tmod z g) 0=decide (g∣z):=by rw[zBD,Bool.eq_iff_iff,beq_iff_eq,qa];exact⟨Int.dvd_of_tmod_eq_zero,Int.tmod_eq_zero_of_dvd⟩
theorem tdv{a b c:Int}(hb:b≠0)(h:b*c=a):Int.tdiv a b=c:=by rw[←h,Int.mul_tdiv_cancel_left _ hb]
theorem z1z{n m:Int}:∀(k fu:Nat)(r nx x y:Int),0≤nx→nx≤k→k<fu→1≤r→r≤100000→nx≤100000→(y.natAbs:Int)*r+(x.natAbs:Int)*nx≤100000→x.natAbs≤100000→y.natAbs≤100000→n∣r - x*m→n∣nx - y*m→(∀c:Int,c∣r→c∣nx→c∣1)→
  ∃z,zDF n fu r nx x y=some (1,z)∧n∣1 - z*m∧z.natAbs≤100000
 |k,0,r,nx,x,y,_,_,hf,_,_,_,_,_,_,_,_,_=>by omega
 |k,fu+1,r,nx,x,y,h0,hk,hf,hr,hr2,hn2,hS,hx,hy,d1,d2,hc=>by
  rw[zDF];by_cases hz:nx=0
  ·subst hz;have h1:r=1:=Int.eq_one_of_dvd_one (by omega) (hc r ⟨1,by omega⟩ ⟨0,by omega⟩);subst h1;rw[zGK,Bool.not_true,cond_false];exact⟨x,rfl,d1,hx⟩
  ·have hn1:1≤nx:=by omega
   obtain⟨k',rfl⟩:∃k',k=k'+1:=⟨k - 1,by omega⟩
   obtain⟨q0,q1,q2,q3⟩:=z8S (d:=r) (y:=nx) (by omega) hn1;obtain⟨s1,s2⟩:=z9F (b:=x) (x:=y) (d:=r) (y:=nx) (k:=Int.tdiv r nx) q0 hn1 100000 hS;have s4:=s2 (Int.mul_nonneg (by omega) q2);generalize hq:Int.tdiv r nx=q at*;obtain⟨w1,w2⟩:=bigk (k:=q) (x:=nx) (K:=100000) (M:=100000) (by omega) (by omega) (by decide);obtain⟨w3,w4⟩:=bigk (k:=q) (x:=y) (K:=100000) (M:=100000) (by omega) hy (by decide);have hne:(!eqI nx 0)=true:=by rw[eqNe hz];rfl
   rw[hne,za];simp only[nzOk hz,Option.bind_some,zO,hq];rw[zB (n:=q) (by omega),w1,w3,zB (n:=r - q*nx) (by omega),zB (n:=x - q*y) (by omega)];refine z1z k' fu nx (r - q*nx) y (x - q*y) q2 (by omega) (by omega) hn1 hn2 (by omega) (by omega) hy (by omega) d2 ?_ fun c c1 c2=>hc c ?_ c1
   ·obtain⟨u,hu⟩:=d1;obtain⟨v,hv⟩:=d2;exact⟨u - q*v,by grind⟩
   ·obtain⟨u,hu⟩:=c1;obtain⟨v,hv⟩:=c2;exact⟨v+q*u,by grind⟩
theorem z6h{n m:Int}(hn:1≤n)(hn2:n≤100000)(hm:m.natAbs≤100000)(hc:∀c:Int,c∣n→c∣m→c∣1):∃v,zDV m n=some v∧n∣1 - v*m∧0≤v∧v<n:=by
 have hF:=FUge;have m1:=zy m (b:=n) (by omega);have m2:=zz m (b:=n) (by omega);have em:=Int.emod_add_mul_ediv m n;obtain⟨z,e1,e2,e3⟩:=z1z (n:=n) (m:=m) 100000 FU n (m % n) 0 1 m1 (by omega) (by omega) hn hn2 (by omega) (by simp;omega) (by decide) (by decide) ⟨1,by omega⟩ ⟨-(m / n),by grind⟩ fun c c1 c2=>hc c c1 (by obtain⟨u,hu⟩:=c1;obtain⟨v,hv⟩:=c2;exact⟨v+u*(m / n),by grind⟩)
 have z1:=zy z (b:=n) (by omega);have z2:=zz z (b:=n) (by omega);have ez:=Int.emod_add_mul_ediv z n;refine⟨z % n,?_,?_,z1,z2⟩
 ·simp only[zDV,zHt,zBz hn (show n≤9223372036854775807 by omega),Option.bind_some,e1,zGK,Bool.not_true,cond_false]
 ·obtain⟨u,hu⟩:=e2;exact⟨u+(z / n)*m,by grind⟩
end Go.Proofs.YtnjhhbcccgbbnaaGreatDoor
namespace Go.Proofs.YtnjhhbcccgbbnaaGreatDoor
theorem inv9{x y:Int}(h:(x,y)∈ptL):∃q s:Int,(bif eqI y 0 then some (0,x) else (zD5 y).bind fun y6=>(zEy x y6).bind fun y7=>(nz y).bind fun z8=>sI (w64 (Int.tdiv (w64 ((w64 (x*y7)) - 1)) y)) fun f9=>some (f9,y7))=some (q,s)∧zE7 x y=some (1,s,-q)∧x*s - q*y=1∧q.natAbs≤3∧s.natAbs≤3∧0≤x∧x≤3∧0≤y∧y≤3:=by
 simp only[ptL,zj,Prod.mk.injEq,zo,or_false]at h;rcases h with⟨rfl,rfl⟩|⟨rfl,rfl⟩|⟨rfl,rfl⟩|⟨rfl,rfl⟩|⟨rfl,rfl⟩|⟨rfl,rfl⟩|⟨rfl,rfl⟩|⟨rfl,rfl⟩|⟨rfl,rfl⟩
 ·exact⟨-1,0,by decide+kernel,by decide+kernel,by decide⟩
 ·exact⟨0,1,by decide+kernel,by decide+kernel,by decide⟩
 ·exact⟨-1,0,by decide+kernel,by decide+kernel,by decide⟩
 ·exact⟨0,1,by decide+kernel,by decide+kernel,by decide⟩
 ·exact⟨-1,0,by decide+kernel,by decide+kernel,by decide⟩
 ·exact⟨0,1,by decide+kernel,by decide+kernel,by decide⟩
 ·exact⟨1,2,by decide+kernel,by decide+kernel,by decide⟩
 ·exact⟨-1,0,by decide+kernel,by decide+kernel,by decide⟩
 ·exact⟨1,1,by decide+kernel,by decide+kernel,by decide⟩
structure Cmp (A B C D x y v q0 s0 B0 Q Bh C1:Int):Prop where
  hv:A*x*x+B*x*y+C*y*y=v
  v1:1≤v
  v2:v≤10000
  hB0:2*A*x*q0+B*(x*s0+y*q0)+2*C*y*s0=B0
  b0:B0.natAbs≤20000
  hQ:B0 / (2*v)=Q
  q:Q.natAbs≤20001
  m6:(-Q*x).natAbs≤60003
  m7:(-Q*y).natAbs≤60003
  hBh:B0 % (2*v)=Bh
  e1:B0+2*v*-Q=Bh
  t1:0≤Bh
  t2:Bh<2*v
  e2:2*A*x*(q0+-Q*x)+B*(x*(s0+-Q*y)+y*(q0+-Q*x))+2*C*y*(s0+-Q*y)=Bh
  hC1:A*(q0+-Q*x)*(q0+-Q*x)+B*(q0+-Q*x)*(s0+-Q*y)+C*(s0+-Q*y)*(s0+-Q*y)=C1
  em:MatInv A B C x (q0+-Q*x) y (s0+-Q*y) v Bh C1
  dis:Bh*Bh - 4*v*C1=D
  bb:Bh*Bh≤400000000
  c1:C1.natAbs≤20000
theorem z9N(A B C x y q0 s0 Q:Int):2*A*x*(q0+-Q*x)+B*(x*(s0+-Q*y)+y*(q0+-Q*x))+2*C*y*(s0+-Q*y)=(2*A*x*q0+B*(x*s0+y*q0)+2*C*y*s0)+2*(A*x*x+B*x*y+C*y*y)*-Q:=by grind
theorem z9O(x s0 Q y q0:Int):x*(s0+-Q*y) - (q0+-Q*x)*y=x*s0 - q0*y:=by grind
theorem z9M(v:Int):4*v*(v+2001)=2*v*(2*v)+8004*v:=by grind
theorem zSo{A B C p q r s a b c:Int}(h:MatInv A B C p q r s a b c):b*b - 4*a*c=B*B - 4*A*C:=by
 obtain⟨f1,f2,f3,f4⟩:=h;have:b*b - 4*a*c=(B*B - 4*A*C)*((p*s - q*r)*(p*s - q*r)):=by rw[←f1,←f2,←f3];grind
 rw[this,f4];omega
theorem cmp_b{A B C x y q0 s0:Int}(h:Rb A B C)(i4:q0.natAbs≤3)(i5:s0.natAbs≤3)(i6:0≤x)(i7:x≤3)(i8:0≤y)(i9:y≤3):(2*A*x*q0+B*(x*s0+y*q0)+2*C*y*s0).natAbs≤20000:=by obtain⟨a1,a2,b1,b2,c1,c2⟩:=h;have m1:(2*A*x*q0).natAbs≤2*26*3*3:=zN (zN (zN (by omega) (by omega)) (by omega)) (by omega);have m2:(x*s0).natAbs≤3*3:=zN (by omega) (by omega);have m3:(y*q0).natAbs≤3*3:=zN (by omega) (by omega);have m4:(B*(x*s0+y*q0)).natAbs≤26*18:=zN (by omega) (by omega);have m5:(2*C*y*s0).natAbs≤2*1000*3*3:=zN (zN (zN (by omega) (by omega)) (by omega)) (by omega);omega
theorem cmp_q{v B0:Int}(v1:1≤v)(hB:B0.natAbs≤20000):(B0 / (2*v)).natAbs≤20001∧B0+2*v*-(B0 / (2*v))=B0 % (2*v)∧0≤B0 % (2*v)∧B0 % (2*v)<2*v:=by
 have t1:=zy B0 (b:=2*v) (by omega);have t2:=zz B0 (b:=2*v) (by omega);have t3:=Int.emod_add_mul_ediv B0 (2*v);generalize hQ:B0 / (2*v)=Q at*;refine⟨?_,by rw[Int.mul_neg];omega,t1,t2⟩;rcases Int.lt_or_le 20001 Q with h|h
 ·have:2*v*20002≤2*v*Q:=zn (by omega) (by omega);omega
 ·rcases Int.lt_or_le Q (-20001) with h'|h'
  ·have:2*v*Q≤2*v*(-20002):=zn (by omega) (by omega);omega
  ·omega
theorem cmp_c{v Bh C1 D:Int}(v1:1≤v)(v2:v≤10000)(hD1:-2000≤D)(hD2:D≤0)(t1:0≤Bh)(t2:Bh<2*v)(hdis:Bh*Bh - 4*v*C1=D):Bh*Bh≤400000000∧C1.natAbs≤20000:=by
 have hBB:Bh*Bh≤2*v*(2*v):=Int.mul_le_mul (by omega) (by omega) t1 (by omega);have hBB0:0≤Bh*Bh:=Int.mul_nonneg t1 t1;have hBB4:2*v*(2*v)≤20000*20000:=Int.mul_le_mul (by omega) (by omega) (by omega) (by omega);have hCu:C1≤v+2000:=by
  rcases Int.lt_or_le (v+2000) C1 with h|h
  ·have k1:4*v*(v+2001)≤4*v*C1:=zn (by omega) (by omega);have k2:=z9M v;omega
  ·exact h
 have hCl:-2000≤C1:=by
  rcases Int.lt_or_le C1 (-2000) with h|h
  ·have k1:4*v*C1≤4*v*(-2001):=zn (by omega) (by omega);omega
  ·exact h
 omega
theorem z7A{A B C x y v q0 s0 Q Bh:Int}(hv:A*x*x+B*x*y+C*y*y=v)(i3:x*s0 - q0*y=1)(e2:2*A*x*(q0+-Q*x)+B*(x*(s0+-Q*y)+y*(q0+-Q*x))+2*C*y*(s0+-Q*y)=Bh):MatInv A B C x (q0+-Q*x) y (s0+-Q*y) v Bh (A*(q0+-Q*x)*(q0+-Q*x)+B*(q0+-Q*x)*(s0+-Q*y)+C*(s0+-Q*y)*(s0+-Q*y)):=by
 refine⟨hv,?_,rfl,?_⟩
 ·rw[←e2,Int.mul_comm (q0+-Q*x) y]
 ·rw[z9O x s0 Q y q0,i3]
theorem z9L{A B C D x y v q0 s0:Int}(h:Rb A B C)(hD:B*B - 4*A*C=D)(hD1:-2000≤D)(hD2:D≤0)(hv:Vl A B C x y=v)(hv1:1≤v)(i3:x*s0 - q0*y=1)(i4:q0.natAbs≤3)(i5:s0.natAbs≤3)(i6:0≤x)(i7:x≤3)(i8:0≤y)(i9:y≤3):∃B0 Q Bh C1,Cmp A B C D x y v q0 s0 B0 Q Bh C1:=by have hvb:=z7s h i6 i7 i8 i9;rw[hv]at hvb;unfold Vl at hv;have hB0b:=cmp_b h i4 i5 i6 i7 i8 i9;have ee:=z9N A B C x y q0 s0;rw[hv]at ee;obtain⟨hQb,e1,t1,t2⟩:=cmp_q (v:=v) hv1 hB0b;have e2:=(ee ((2*A*x*q0+B*(x*s0+y*q0)+2*C*y*s0) / (2*v))).trans e1;have em:=z7A hv i3 e2;have hdis:=(zSo em).trans hD;obtain⟨hBB,hC⟩:=cmp_c hv1 (by omega) hD1 hD2 t1 t2 hdis;exact⟨_,_,_,_,hv,hv1,by omega,rfl,hB0b,rfl,hQb,zN (A:=20001) (B:=3) (by omega) (by omega),zN (A:=20001) (B:=3) (by omega) (by omega),rfl,e1,t1,t2,e2,rfl,em,hdis,hBB,hC⟩
theorem z5H{A B C D x y v q0 s0 B0 Q Bh C1:Int}(h:Cmp A B C D x y v q0 s0 B0 Q Bh C1)(i4:q0.natAbs≤3)(i5:s0.natAbs≤3)(i1:(bif eqI y 0 then some (0,x) else (zD5 y).bind fun y6=>(zEy x y6).bind fun y7=>(nz y).bind fun z8=>sI (w64 (Int.tdiv (w64 ((w64 (x*y7)) - 1)) y)) fun f9=>some (f9,y7))=some (q0,s0)):zBu (A,B,C) x y=some ((v,Bh,C1),(x,q0+-Q*x,y,s0+-Q*y)):=by obtain⟨hv,v1,v2,hB0,b0,hQ,q,m6,m7,hBh,e1,t1,t2,e2,hC1,em,dis,bb,c1⟩:=h;unfold zBu;rw[i1];simp only[Option.bind_some,z7v];rw[hv,hB0,zB (n:=B0) (by omega),zB (n:=v) (by omega),zB (n:=2*v) (by omega),zGk (by omega) (by omega) (by omega) (by omega),hQ];simp only[Option.bind_some,zO];rw[zB (n:=0 - Q) (by omega),show (0 - Q)=-Q by omega,zB (n:=-Q*x) (by omega),zB (n:=-Q*y) (by omega),zB (n:=q0+-Q*x) (by omega),zB (n:=s0+-Q*y) (by omega)];rw[e2,hC1,zB (n:=C1) (by omega),zB (n:=Bh) (by omega)]
theorem z5G{A B C D x y v q0 s0 B0 Q Bh C1:Int}(h:Cmp A B C D x y v q0 s0 B0 Q Bh C1)(hD:B*B - 4*A*C=D)(hD1:-2000≤D)(hD2:D≤0)(i4:q0.natAbs≤3)(i5:s0.natAbs≤3)(i2:zE7 x y=some (1,s0,-q0)):zB6 (A,B,C) x y=some ((v,Bh,C1),(x,q0+-Q*x,y,s0+-Q*y)):=by obtain⟨hv,v1,v2,hB0,b0,hQ,q,m6,m7,hBh,e1,t1,t2,e2,hC1,em,dis,bb,c1⟩:=h;unfold zB6;rw[i2];simp only[Option.bind_some];rw[zWq,at_w,hv,zB (n:=v) (by omega)];simp only[Option.bind_some,zO];rw[show w64 (0 - -q0)=q0 by rw[zB (by omega)];omega,z3H,z1n,hB0,zB (n:=B0) (by omega)];simp only[Option.bind_some];rw[zHt,zB (n:=2*v) (by omega),zBz (by omega) (by omega),hBh];simp only[Option.bind_some];rw[zFP (show 2*v≠0 by omega),zB (n:=Bh - B0) (by omega),tdv (c:=-Q) (by omega) (by omega)];simp only[Option.bind_some];have x1:x*-Q=-Q*x:=Int.mul_comm _ _;have y1:y*-Q=-Q*y:=Int.mul_comm _ _;rw[zB (n:=-Q) (by omega),x1,y1,zB (n:=-Q*x) (by omega),zB (n:=-Q*y) (by omega),zB (n:=q0+-Q*x) (by omega),zB (n:=s0+-Q*y) (by omega),zB (n:=2*v*-Q) (by omega),e1,zB (n:=Bh) (by omega),zGL,zU5,hD,zB (n:=D) (by omega)];simp only[Option.bind_some];rw[zB (n:=4*v) (by omega),zFP (show 4*v≠0 by omega)];have hBB0:0≤Bh*Bh:=Int.mul_nonneg t1 t1;simp only[Option.bind_some];rw[zB (n:=Bh*Bh) (by omega),zB (n:=Bh*Bh - D) (by omega),tdv (b:=4*v) (c:=C1) (by omega) (by omega),zB (n:=C1) (by omega)]
theorem zWD{A B C D x y v:Int}(h:Rb A B C)(hD:B*B - 4*A*C=D)(hD1:-2000≤D)(hD2:D≤0)(hm:(x,y)∈ptL)(hv:Vl A B C x y=v)(hv1:1≤v):
  ∃q s Bh Ch,zBu (A,B,C) x y=some ((v,Bh,Ch),(x,q,y,s))∧zB6 (A,B,C) x y=some ((v,Bh,Ch),(x,q,y,s))∧MatInv A B C x q y s v Bh Ch∧0≤Bh∧Bh<2*v∧v≤10000∧q.natAbs≤100000∧s.natAbs≤100000∧0≤x∧x≤3∧0≤y∧y≤3:=by
 obtain⟨q0,s0,i1,i2,i3,i4,i5,i6,i7,i8,i9⟩:=inv9 hm;obtain⟨B0,Q,Bh,C1,k⟩:=z9L h hD hD1 hD2 hv hv1 i3 i4 i5 i6 i7 i8 i9;have k1:=z5H k i4 i5 i1;have k2:=z5G k hD hD1 hD2 i4 i5 i2;obtain⟨hv,v1,v2,hB0,b0,hQ,q,m6,m7,hBh,e1,t1,t2,e2,hC1,em,dis,bb,c1⟩:=k;exact⟨_,_,Bh,C1,k1,k2,em,t1,t2,v2,by omega,by omega,i6,i7,i8,i9⟩
abbrev El:=Int×Int
def eM(D:Int)(x y:El):El:=(x.1*y.1+D*x.2*y.2,x.1*y.2+x.2*y.1)
def eA(x y:El):El:=(x.1+y.1,x.2+y.2)
def eS(x y:El):El:=(x.1 - y.1,x.2 - y.2)
def eK(k:Int)(x:El):El:=(k*x.1,k*x.2)
def eN(D:Int)(x:El):Int:=x.1*x.1 - D*x.2*x.2
def eT(D:Int)(x y:El):Int:=x.1*y.1 - D*x.2*y.2
def eW(x y:El):Int:=x.1*y.2 - x.2*y.1
def Sp(L:List El)(x:El):Prop:=∀P:El→Prop,P (0,0)→(∀a b,P a→P b→P (eS a b))→(∀l,l∈L→P l)→P x
theorem zKa(L:List El):Sp L (0,0):=fun P h _ _=>h
theorem zLy{L:List El}{x y:El}(h1:Sp L x)(h2:Sp L y):Sp L (eS x y):=fun P a b c=>b _ _ (h1 P a b c) (h2 P a b c)
theorem zDX{L:List El}{x:El}(h:x∈L):Sp L x:=fun P a b c=>c _ h
theorem jK{x y:El}(h1:x.1=y.1)(h2:x.2=y.2):x=y:=Prod.ext h1 h2
theorem z3q{L:List El}{x:El}(h:Sp L x):Sp L (eK (-1) x):=by
 have:=zLy (zKa L) h;have e:eS (0,0) x=eK (-1) x:=jK (by simp[eS,eK]) (by simp[eS,eK])
 rwa [e]at this
theorem zNu{L:List El}{x y:El}(h1:Sp L x)(h2:Sp L y):Sp L (eA x y):=by
 have:=zLy h1 (z3q h2);have e:eS x (eK (-1) y)=eA x y:=jK (by simp[eS,eK,eA]) (by simp[eS,eK,eA])
 rwa [e]at this
theorem z3r{L:List El}{x:El}(h:Sp L x)(n:Nat):Sp L (eK n x):=by
 induction n with
 |zero=>(have e:eK ((0:Nat):Int) x=(0,0):=jK (by simp[eK]) (by simp[eK]));rw[e];exact zKa L
 |succ n ih=>have e:eK ((n+1:Nat):Int) x=eA (eK n x) x:=jK (by simp[eK,eA,Int.add_mul]) (by simp[eK,eA,Int.add_mul]);rw[e];exact zNu ih h
theorem zJF{L:List El}{x:El}(h:Sp L x)(k:Int):Sp L (eK k x):=by
 rcases Int.le_total 0 k with hk|hk
 ·have e:k=(k.toNat:Int):=by omega
  rw[e];exact z3r h _
 ·have e:eK k x=eK (-1) (eK ((-k).toNat:Nat) x):=by
   have e1:(((-k).toNat:Nat):Int)=-k:=by omega
   rw[e1];exact jK (by simp only[eK];grind) (by simp only[eK];grind)
  rw[e];exact z3q (z3r h _)
theorem z7w{L M:List El}(h:∀l,l∈L→Sp M l){x:El}(hx:Sp L x):Sp M x:=hx (Sp M) (zKa M) (fun _ _=>zLy) h
theorem z3p{u v x:El}(h:Sp [u,v] x):∃p q:Int,x=eA (eK p u) (eK q v):=by
 refine h (fun x=>∃p q:Int,x=eA (eK p u) (eK q v)) ⟨0,0,jK (by simp[eA,eK]) (by simp[eA,eK])⟩ ?_ ?_
 ·rintro a b ⟨p,q,e1⟩ ⟨p',q',e2⟩;refine⟨p - p',q - q',?_⟩;subst e1 e2;exact jK (by simp only[eS,eA,eK];grind) (by simp only[eS,eA,eK];grind)
 ·intro l hl;simp only[zj,zo,or_false]at hl;rcases hl with e|e
  ·exact⟨1,0,by subst e;exact jK (by simp[eA,eK]) (by simp[eA,eK])⟩
  ·exact⟨0,1,by subst e;exact jK (by simp[eA,eK]) (by simp[eA,eK])⟩
theorem zX7{u v:El}(p q:Int):Sp [u,v] (eA (eK p u) (eK q v)):=zNu (zJF (zDX (by simp)) p) (zJF (zDX (by simp)) q)
def eL(D:Int)(a:El)(L:List El):List El:=L.map (eM D a)
def eP(D:Int)(L M:List El):List El:=L.flatMap fun l=>M.map (eM D l)
theorem zYS(D:Int)(x y:El):eM D x y=eM D y x:=jK (by simp only[eM];grind) (by simp only[eM];grind)
theorem zKF(D:Int)(x y z:El):eM D (eM D x y) z=eM D x (eM D y z):=jK (by simp only[eM];grind) (by simp only[eM];grind)
theorem z0v(D:Int)(x y z:El):eM D x (eS y z)=eS (eM D x y) (eM D x z):=jK (by simp only[eM,eS];grind) (by simp only[eM,eS];grind)
theorem z6v(D:Int)(x y z:El):eM D (eS x y) z=eS (eM D x z) (eM D y z):=jK (by simp only[eM,eS];grind) (by simp only[eM,eS];grind)
theorem zYR(D:Int)(x:El):eM D x (0,0)=(0,0):=jK (by simp[eM]) (by simp[eM])
theorem z4w(D:Int)(x:El):eM D (0,0) x=(0,0):=jK (by simp[eM]) (by simp[eM])
theorem zU3(D:Int)(x y:El):eN D (eM D x y)=eN D x*eN D y:=by simp only[eN,eM];grind
theorem zYQ{D:Int}(hD:D<0){x:El}(hx:x≠(0,0)):0<eN D x:=by
 simp only[eN];have h1:0≤x.1*x.1:=by rcases Int.le_total 0 x.1 with h|h;exact Int.mul_nonneg h h;exact Int.mul_nonneg_of_nonpos_of_nonpos h h
 have h2:0≤x.2*x.2:=by rcases Int.le_total 0 x.2 with h|h;exact Int.mul_nonneg h h;exact Int.mul_nonneg_of_nonpos_of_nonpos h h
 have h3:0≤(-D)*(x.2*x.2):=Int.mul_nonneg (by omega) h2;have e:D*x.2*x.2=-((-D)*(x.2*x.2)):=by grind
 rw[e];rcases Decidable.em (x.1=0) with h|h
 ·have h4:x.2≠0:=fun h5=>hx (jK h h5);have h5:x.2*x.2≠0:=fun h6=>by rcases Int.mul_eq_zero.1 h6 with h7|h7<;>exact h4 h7
  have h6:0<(-D)*(x.2*x.2):=Int.mul_pos (by omega) (by omega);omega
 ·have h5:x.1*x.1≠0:=fun h6=>by rcases Int.mul_eq_zero.1 h6 with h7|h7<;>exact h h7
  omega
theorem z2L{D:Int}(hD:D<0){x y:El}(hx:x≠(0,0))(hy:y≠(0,0)):eM D x y≠(0,0):=by intro h;have h1:=Int.mul_pos (zYQ hD hx) (zYQ hD hy);rw[←zU3,h]at h1;simp[eN]at h1
theorem zGu{D:Int}{a:El}{L:List El}{x:El}:Sp (eL D a L) x↔∃y,Sp L y∧x=eM D a y:=by
 constructor
 ·intro h;refine h (fun x=>∃y,Sp L y∧x=eM D a y) ⟨(0,0),zKa L,(zYR D a).symm⟩ ?_ ?_
  ·rintro x y ⟨x',h1,e1⟩ ⟨y',h2,e2⟩;exact⟨eS x' y',zLy h1 h2,by rw[e1,e2,z0v]⟩
  ·intro l hl;obtain⟨m,hm,e⟩:=List.mem_map.1 hl;exact⟨m,zDX hm,e.symm⟩
 ·rintro⟨y,hy,e⟩;subst e;refine hy (fun y=>Sp (eL D a L) (eM D a y)) (by rw[zYR];exact zKa _) ?_ ?_
  ·intro x y h1 h2;rw[z0v];exact zLy h1 h2
  ·exact fun l hl=>zDX (List.mem_map.2 ⟨l,hl,rfl⟩)
theorem zFf{D:Int}{L M:List El}{x:El}:x∈eP D L M↔∃l,l∈L∧∃m,m∈M∧x=eM D l m:=by
 simp only[eP,List.mem_flatMap,List.mem_map];constructor
 ·rintro⟨l,hl,m,hm,e⟩;exact⟨l,hl,m,hm,e.symm⟩
 ·rintro⟨l,hl,m,hm,e⟩;exact⟨l,hl,m,hm,e.symm⟩
theorem zZC{D:Int}{L M:List El}{x y:El}(hx:Sp L x)(hy:Sp M y):Sp (eP D L M) (eM D x y):=by
 refine hx (fun x=>Sp (eP D L M) (eM D x y)) (by rw[z4w];exact zKa _) ?_ ?_
 ·intro a b h1 h2;rw[z6v];exact zLy h1 h2
 ·intro l hl;refine hy (fun y=>Sp (eP D L M) (eM D l y)) (by rw[zYR];exact zKa _) ?_ ?_
  ·intro a b h1 h2;rw[z0v];exact zLy h1 h2
  ·exact fun m hm=>zDX (zFf.2 ⟨l,hl,m,hm,rfl⟩)
def Cl(D:Int)(L M:List El):Prop:=∃a b:El,a≠(0,0)∧b≠(0,0)∧∀x,Sp (eL D a L) x↔Sp (eL D b M) x
theorem z7B(D:Int)(L:List El):Cl D L L:=⟨(1,0),(1,0),by simp,by simp,fun _=>Iff.rfl⟩
theorem zYV{D:Int}{L M:List El}(h:Cl D L M):Cl D M L:=by obtain⟨a,b,h1,h2,h3⟩:=h;exact⟨b,a,h2,h1,fun x=>(h3 x).symm⟩
theorem z2M{D:Int}{c a b:El}{L M:List El}(h:∀x,Sp (eL D a L) x↔Sp (eL D b M) x)(x:El):Sp (eL D (eM D c a) L) x↔Sp (eL D (eM D c b) M) x:=by
 simp only[zGu]at h ⊢;constructor
 ·rintro⟨y,hy,e⟩;obtain⟨z,hz,e2⟩:=(h (eM D a y)).1 ⟨y,hy,rfl⟩;exact⟨z,hz,by rw[e,zKF,e2,zKF]⟩
 ·rintro⟨y,hy,e⟩;obtain⟨z,hz,e2⟩:=(h (eM D b y)).2 ⟨y,hy,rfl⟩;exact⟨z,hz,by rw[e,zKF,e2,zKF]⟩
theorem zM3{D:Int}(hD:D<0){L M N:List El}(h1:Cl D L M)(h2:Cl D M N):Cl D L N:=by obtain⟨a,b,ha,hb,h⟩:=h1;obtain⟨c,d,hc,hd,k⟩:=h2;refine⟨eM D c a,eM D b d,z2L hD hc ha,z2L hD hb hd,fun x=>?_⟩;rw[z2M h x,zYS D c b,z2M k x]
theorem zZy{D:Int}{L M:List El}(h:∀x,Sp L x↔Sp M x):Cl D L M:=by
 refine⟨(1,0),(1,0),by simp,by simp,fun x=>?_⟩;rw[zGu,zGu];constructor
 ·rintro⟨y,hy,e⟩;exact⟨y,(h y).1 hy,e⟩
 ·rintro⟨y,hy,e⟩;exact⟨y,(h y).2 hy,e⟩
theorem z05{L M:List El}(h1:∀l,l∈L→Sp M l)(h2:∀l,l∈M→Sp L l)(x:El):Sp L x↔Sp M x:=⟨z7w h1,z7w h2⟩
theorem zZz{D:Int}{a b:El}{L M:List El}(ha:a≠(0,0))(hb:b≠(0,0))(h1:∀l,l∈L→Sp (eL D b M) (eM D a l))(h2:∀m,m∈M→Sp (eL D a L) (eM D b m)):Cl D L M:=by
 refine⟨a,b,ha,hb,z05 ?_ ?_⟩
 ·intro l hl;obtain⟨m,hm,e⟩:=List.mem_map.1 hl;rw[←e];exact h1 m hm
 ·intro l hl;obtain⟨m,hm,e⟩:=List.mem_map.1 hl;rw[←e];exact h2 m hm
theorem zPg{D:Int}{a b c d:El}{L L' M M':List El}(h:∀x,Sp (eL D a L) x↔Sp (eL D b L') x)(k:∀x,Sp (eL D c M) x↔Sp (eL D d M') x):∀l,l∈eP D L M→Sp (eL D (eM D b d) (eP D L' M')) (eM D (eM D a c) l):=by
 intro l hl;obtain⟨l1,h1,m1,h2,e⟩:=zFf.1 hl;obtain⟨y,hy,e1⟩:=zGu.1 ((h (eM D a l1)).1 (zGu.2 ⟨l1,zDX h1,rfl⟩));obtain⟨z,hz,e2⟩:=zGu.1 ((k (eM D c m1)).1 (zGu.2 ⟨m1,zDX h2,rfl⟩));refine zGu.2 ⟨eM D y z,zZC hy hz,?_⟩;have e3:eM D (eM D a c) l=eM D (eM D a l1) (eM D c m1):=by rw[e];exact jK (by simp only[eM];grind) (by simp only[eM];grind)
 rw[e3,e1,e2];exact jK (by simp only[eM];grind) (by simp only[eM];grind)
theorem z2U{D:Int}(hD:D<0){L L' M M':List El}(h1:Cl D L L')(h2:Cl D M M'):Cl D (eP D L M) (eP D L' M'):=by obtain⟨a,b,ha,hb,h⟩:=h1;obtain⟨c,d,hc,hd,k⟩:=h2;exact zZz (z2L hD ha hc) (z2L hD hb hd) (zPg h k) (zPg (fun x=>(h x).symm) (fun x=>(k x).symm))
theorem z7C(D:Int)(L M:List El):Cl D (eP D L M) (eP D M L):=by
 refine zZy (z05 ?_ ?_)
 ·intro l hl;obtain⟨x,hx,y,hy,e⟩:=zFf.1 hl;rw[e,zYS];exact zDX (zFf.2 ⟨y,hy,x,hx,rfl⟩)
 ·intro l hl;obtain⟨x,hx,y,hy,e⟩:=zFf.1 hl;rw[e,zYS];exact zDX (zFf.2 ⟨y,hy,x,hx,rfl⟩)
theorem z5R(D:Int)(L M N:List El):Cl D (eP D (eP D L M) N) (eP D L (eP D M N)):=by
 refine zZy (z05 ?_ ?_)
 ·intro l hl;obtain⟨x,hx,y,hy,e⟩:=zFf.1 hl;obtain⟨z,hz,w,hw,e2⟩:=zFf.1 hx;rw[e,e2,zKF];exact zDX (zFf.2 ⟨z,hz,_,zFf.2 ⟨w,hw,y,hy,rfl⟩,rfl⟩)
 ·intro l hl;obtain⟨x,hx,y,hy,e⟩:=zFf.1 hl;obtain⟨z,hz,w,hw,e2⟩:=zFf.1 hy;rw[e,e2,←zKF];exact zDX (zFf.2 ⟨_,zFf.2 ⟨x,hx,z,hz,rfl⟩,w,hw,rfl⟩)
def fL(f:Int×Int×Int):List El:=[(2*f.1,0),(f.2.1,1)]
def fD(f:Int×Int×Int):Int:=f.2.1*f.2.1 - 4*f.1*f.2.2
def Eqf(f g:Int×Int×Int):Prop:=∃p q r s:Int,p*s - q*r=1∧f.1=g.1*p*p+g.2.1*p*r+g.2.2*r*r∧f.2.1=2*g.1*p*q+g.2.1*(p*s+q*r)+2*g.2.2*r*s∧f.2.2=g.1*q*q+g.2.1*q*s+g.2.2*s*s
theorem z4s{f g:Int×Int×Int}(h:Eqf f g):fD f=fD g:=by
 obtain⟨p,q,r,s,hdet,e1,e2,e3⟩:=h;simp only[fD];have:p*s=1+q*r:=by omega
 rw[e1,e2,e3];grind
theorem z3P{f g:Int×Int×Int}(hf:0<f.1)(hg:0<g.1)(h:Eqf f g):Cl (fD g) (fL f) (fL g):=by
 have hd:=z4s h;obtain⟨p,q,r,s,hdet,e1,e2,e3⟩:=h;obtain⟨a,b,c⟩:=f;obtain⟨a',b',c'⟩:=g;simp only[fD]at hd hf hg e1 e2 e3 ⊢;have hps:p*s=1+q*r:=by omega
 have hne:((2*a'*p+b'*r,r):El)≠(0,0):=by
  intro h0;have h1:r=0:=congrArg Prod.snd h0;have h2:2*a'*p+b'*r=0:=congrArg Prod.fst h0;subst h1;have h3:p=0:=by
   have:2*a'*p=0:=by omega
   rcases Int.mul_eq_zero.1 this with h4|h4
   ·omega
   ·exact h4
  subst h3;omega
 have hne2:((2*a,0):El)≠(0,0):=by intro h0;have h1:2*a=0:=congrArg Prod.fst h0;omega
 have k1:eM (b'*b' - 4*a'*c') (2*a'*p+b'*r,r) (2*a,0)=eM (b'*b' - 4*a'*c') (2*a,0) (eA (eK p (2*a',0)) (eK r (b',1))):=jK (by simp only[eM,eA,eK];grind) (by simp only[eM,eA,eK];grind);have k2:eM (b'*b' - 4*a'*c') (2*a'*p+b'*r,r) (b,1)=eM (b'*b' - 4*a'*c') (2*a,0) (eA (eK q (2*a',0)) (eK s (b',1))):=by
  refine jK ?_ ?_
  ·simp only[eM,eA,eK];rw[e1,e2];have:(2*a'*p+b'*r)*(2*a'*p*q+b'*(p*s+q*r)+2*c'*r*s)+(b'*b' - 4*a'*c')*r*1 - (2*(a'*p*p+b'*p*r+c'*r*r)*(q*(2*a')+s*b')+(b'*b' - 4*a'*c')*0*(q*0+s*1))=(b'*b' - 4*a'*c')*r*(1 - (p*s - q*r)):=by grind
   rw[hdet]at this;omega
  ·simp only[eM,eA,eK];rw[e1,e2];have:(2*a'*p+b'*r)*1+r*(2*a'*p*q+b'*(p*s+q*r)+2*c'*r*s) - (2*(a'*p*p+b'*p*r+c'*r*r)*(q*0+s*1)+0*(q*(2*a')+s*b'))=(2*a'*p+b'*r)*(1 - (p*s - q*r)):=by grind
   rw[hdet]at this;omega
 refine zZz hne hne2 ?_ ?_
 ·intro l hl;simp only[fL,zj,zo,or_false]at hl;rcases hl with e|e
  ·subst e;rw[k1];exact zGu.2 ⟨_,zX7 p r,rfl⟩
  ·subst e;rw[k2];exact zGu.2 ⟨_,zX7 q s,rfl⟩
 ·intro l hl;have j1:eA (eK s (eA (eK p (2*a',0)) (eK r (b',1)))) (eK (-r) (eA (eK q (2*a',0)) (eK s (b',1))))=((2*a',0):El):=by
   refine jK ?_ ?_
   ·simp only[eA,eK];have:s*(p*(2*a')+r*b')+-r*(q*(2*a')+s*b')=2*a'*(p*s - q*r):=by grind
    rw[hdet]at this;omega
   ·simp only[eA,eK];grind
  have j2:eA (eK (-q) (eA (eK p (2*a',0)) (eK r (b',1)))) (eK p (eA (eK q (2*a',0)) (eK s (b',1))))=((b',1):El):=by
   refine jK ?_ ?_
   ·simp only[eA,eK];have:-q*(p*(2*a')+r*b')+p*(q*(2*a')+s*b')=b'*(p*s - q*r):=by grind
    rw[hdet]at this;omega
   ·simp only[eA,eK];grind
  have m1:∀x y:Int,eM (b'*b' - 4*a'*c') (2*a,0) (eA (eK x (eA (eK p (2*a',0)) (eK r (b',1)))) (eK y (eA (eK q (2*a',0)) (eK s (b',1)))))=eA (eK x (eM (b'*b' - 4*a'*c') (2*a,0) (eA (eK p (2*a',0)) (eK r (b',1))))) (eK y (eM (b'*b' - 4*a'*c') (2*a,0) (eA (eK q (2*a',0)) (eK s (b',1))))):=by intro x y;exact jK (by simp only[eM,eA,eK];grind) (by simp only[eM,eA,eK];grind)
  have m2:∀x y:Int,Sp (eL (b'*b' - 4*a'*c') (2*a'*p+b'*r,r) (fL (a,b,c))) (eA (eK x (eM (b'*b' - 4*a'*c') (2*a,0) (eA (eK p (2*a',0)) (eK r (b',1))))) (eK y (eM (b'*b' - 4*a'*c') (2*a,0) (eA (eK q (2*a',0)) (eK s (b',1)))))):=by intro x y;rw[←k1,←k2];exact zNu (zJF (zGu.2 ⟨_,zDX (by simp[fL]),rfl⟩) x) (zJF (zGu.2 ⟨_,zDX (by simp[fL]),rfl⟩) y)
  simp only[fL,zj,zo,or_false]at hl;rcases hl with e|e
  ·subst e;rw[←j1,m1];exact m2 _ _
  ·subst e;rw[←j2,m1];exact m2 _ _
theorem z2K(D:Int)(p r:Int)(u v:El):eN D (eA (eK p u) (eK r v))=p*p*eN D u+2*p*r*eT D u v+r*r*eN D v:=by simp only[eN,eA,eK,eT];grind
theorem z6u(D:Int)(p r q s:Int)(u v:El):eT D (eA (eK p u) (eK r v)) (eA (eK q u) (eK s v))=p*q*eN D u+(p*s+q*r)*eT D u v+r*s*eN D v:=by simp only[eN,eA,eK,eT];grind
theorem z2J(p r q s:Int)(u v:El):eW (eA (eK p u) (eK r v)) (eA (eK q u) (eK s v))=(p*s - q*r)*eW u v:=by simp only[eW,eA,eK];grind
theorem z4v(D:Int)(a x y:El):eT D (eM D a x) (eM D a y)=eN D a*eT D x y:=by simp only[eN,eM,eT];grind
theorem zYP(D:Int)(a x y:El):eW (eM D a x) (eM D a y)=eN D a*eW x y:=by simp only[eN,eM,eW];grind
theorem z3G{f g:Int×Int×Int}(hf:0<f.1)(hg:0<g.1)(hD:fD g<0)(hd:fD f=fD g)(h:Cl (fD g) (fL f) (fL g)):Eqf f g:=by
 obtain⟨α,β,hα,hβ,hs⟩:=h;have hNα:=zYQ hD hα;have hNβ:=zYQ hD hβ;have half:∀{f g:Int×Int×Int}{α β:El},(∀x,Sp (eL (fD g) α (fL f)) x↔Sp (eL (fD g) β (fL g)) x)→∃p q r s:Int,eM (fD g) α (2*f.1,0)=eM (fD g) β (eA (eK p (2*g.1,0)) (eK r (g.2.1,1)))∧eM (fD g) α (f.2.1,1)=eM (fD g) β (eA (eK q (2*g.1,0)) (eK s (g.2.1,1))):=by intro f g α β hs;obtain⟨y,hy,e1⟩:=zGu.1 ((hs _).1 (zGu.2 ⟨(2*f.1,0),zDX (by simp[fL]),rfl⟩));obtain⟨z,hz,e2⟩:=zGu.1 ((hs _).1 (zGu.2 ⟨(f.2.1,1),zDX (by simp[fL]),rfl⟩));obtain⟨p,r,e3⟩:=z3p hy;obtain⟨q,s,e4⟩:=z3p hz;exact⟨p,q,r,s,by rw[e1,e3],by rw[e2,e4]⟩
 obtain⟨p,q,r,s,e1,e2⟩:=half hs;obtain⟨p',q',r',s',e3,e4⟩:=half (f:=g) (g:=f) (by rw[hd];exact fun x=>(hs x).symm);rw[hd]at e3 e4;have w1:eN (fD g) α*(2*f.1)=eN (fD g) β*((p*s - q*r)*(2*g.1)):=by have h1:=zYP (fD g) α (2*f.1,0) (f.2.1,1);rw[e1,e2,zYP,z2J]at h1;simpa [eW] using h1.symm
 have w2:eN (fD g) β*(2*g.1)=eN (fD g) α*((p'*s' - q'*r')*(2*f.1)):=by have h1:=zYP (fD g) β (2*g.1,0) (g.2.1,1);rw[e3,e4,zYP,z2J]at h1;simpa [eW] using h1.symm
 have hX:0<eN (fD g) α*(2*f.1):=Int.mul_pos hNα (by omega);have hY:0<eN (fD g) β*(2*g.1):=Int.mul_pos hNβ (by omega);have hdet:p*s - q*r=1:=by
  have x1:eN (fD g) α*(2*f.1)=(eN (fD g) β*(2*g.1))*(p*s - q*r):=by rw[w1];grind
  have x2:eN (fD g) β*(2*g.1)=(eN (fD g) α*(2*f.1))*(p'*s' - q'*r'):=by
   have:eN (fD g) α*((p'*s' - q'*r')*(2*f.1))=(eN (fD g) α*(2*f.1))*(p'*s' - q'*r'):=by grind
   rw[←this];exact w2
  generalize hXX:eN (fD g) α*(2*f.1)=X at*;generalize hYY:eN (fD g) β*(2*g.1)=Y at*;generalize p*s - q*r=t at*;generalize p'*s' - q'*r'=t' at*;have ht:0<t:=by
   rcases Int.lt_or_le 0 t with h|h
   ·exact h
   ·have:Y*t≤0:=Int.mul_nonpos_of_nonneg_of_nonpos (by omega) h;omega
  have ht':0<t':=by
   rcases Int.lt_or_le 0 t' with h|h
   ·exact h
   ·have:X*t'≤0:=Int.mul_nonpos_of_nonneg_of_nonpos (by omega) h;omega
  have h1:X*1=X*(t'*t):=by
   have:X=X*t'*t:=by rw[←x2];exact x1
   rw[Int.mul_one,←zw];exact this
  have h2:1=t'*t:=Int.eq_of_mul_eq_mul_left (by omega) h1;have h3:1*t≤t'*t:=Int.mul_le_mul_of_nonneg_right (by omega) (by omega);omega
 have key:eN (fD g) α*f.1=eN (fD g) β*g.1:=by
  rw[hdet]at w1;have:2*(eN (fD g) α*f.1)=2*(eN (fD g) β*g.1):=by grind
  omega
 have hK:0<eN (fD g) α*f.1:=Int.mul_pos hNα hf;have n1:eN (fD g) (2*g.1,0)=4*g.1*g.1:=by simp only[eN];grind
 have n2:eN (fD g) (g.2.1,1)=4*g.1*g.2.2:=by simp only[eN,fD];grind
 have n3:eT (fD g) (2*g.1,0) (g.2.1,1)=2*g.1*g.2.1:=by simp only[eT];grind
 have m1:eN (fD g) (2*f.1,0)=4*f.1*f.1:=by simp only[eN];grind
 have m2:eN (fD g) (f.2.1,1)=4*f.1*f.2.2:=by rw[←hd];simp only[eN,fD];grind
 have m3:eT (fD g) (2*f.1,0) (f.2.1,1)=2*f.1*f.2.1:=by simp only[eT];grind
 have v1:eN (fD g) α*(4*f.1*f.1)=eN (fD g) β*(p*p*(4*g.1*g.1)+2*p*r*(2*g.1*g.2.1)+r*r*(4*g.1*g.2.2)):=by rw[←m1,←n1,←n2,←n3,←z2K,←zU3,←zU3,e1]
 have v2:eN (fD g) α*(4*f.1*f.2.2)=eN (fD g) β*(q*q*(4*g.1*g.1)+2*q*s*(2*g.1*g.2.1)+s*s*(4*g.1*g.2.2)):=by rw[←m2,←n1,←n2,←n3,←z2K,←zU3,←zU3,e2]
 have v3:eN (fD g) α*(2*f.1*f.2.1)=eN (fD g) β*(p*q*(4*g.1*g.1)+(p*s+q*r)*(2*g.1*g.2.1)+r*s*(4*g.1*g.2.2)):=by rw[←m3,←n1,←n2,←n3,←z6u,←z4v,←z4v,e1,e2]
 have canc:∀x y:Int,(eN (fD g) α*f.1)*x=(eN (fD g) β*g.1)*y→x=y:=by intro x y h;rw[←key]at h;exact Int.eq_of_mul_eq_mul_left (by omega) h
 generalize eN (fD g) α=A at*;generalize eN (fD g) β=B at*;refine⟨p,q,r,s,hdet,canc _ _ ?_,canc _ _ ?_,canc _ _ ?_⟩
 ·have e1:4*(A*f.1*f.1)=A*(4*f.1*f.1):=by grind
  have e2:4*(B*g.1*(g.1*p*p+g.2.1*p*r+g.2.2*r*r))=B*(p*p*(4*g.1*g.1)+2*p*r*(2*g.1*g.2.1)+r*r*(4*g.1*g.2.2)):=by grind
  omega
 ·have e1:2*(A*f.1*f.2.1)=A*(2*f.1*f.2.1):=by grind
  have e2:2*(B*g.1*(2*g.1*p*q+g.2.1*(p*s+q*r)+2*g.2.2*r*s))=B*(p*q*(4*g.1*g.1)+(p*s+q*r)*(2*g.1*g.2.1)+r*s*(4*g.1*g.2.2)):=by grind
  omega
 ·have e1:4*(A*f.1*f.2.2)=A*(4*f.1*f.2.2):=by grind
  have e2:4*(B*g.1*(g.1*q*q+g.2.1*q*s+g.2.2*s*s))=B*(q*q*(4*g.1*g.1)+2*q*s*(2*g.1*g.2.1)+s*s*(4*g.1*g.2.2)):=by grind
  omega
end Go.Proofs.YtnjhhbcccgbbnaaGreatDoor
namespace Go.Proofs.YtnjhhbcccgbbnaaGreatDoor
theorem z0i{D:Int}{a b a' b':Int}{x:El}{c c':Int}(h:x∈eP D (fL (a,b,c)) (fL (a',b',c'))):x=(4*a*a',0)∨x=(2*a*b',2*a)∨x=(2*a'*b,2*a')∨x=(b*b'+D,b+b'):=by
 obtain⟨l,hl,m,hm,e⟩:=zFf.1 h;simp only[fL,zj,zo,or_false]at hl hm;rcases hl with e1|e1<;>rcases hm with e2|e2<;>subst e1 e2
 ·left;rw[e];exact jK (by simp only[eM];grind) (by simp only[eM];grind)
 ·right;left;rw[e];exact jK (by simp only[eM];grind) (by simp only[eM];grind)
 ·right;right;left;rw[e];exact jK (by simp only[eM];grind) (by simp only[eM];grind)
 ·right;right;right;rw[e];exact jK (by simp only[eM];grind) (by simp only[eM];grind)
theorem fP_1(D a b c a' b' c':Int):Sp (eP D (fL (a,b,c)) (fL (a',b',c'))) (4*a*a',0):=by have:eM D (2*a,0) (2*a',0)=(4*a*a',0):=jK (by simp only[eM];grind) (by simp only[eM];grind);rw[←this];exact zZC (zDX (by simp[fL])) (zDX (by simp[fL]))
theorem fP_2(D a b c a' b' c':Int):Sp (eP D (fL (a,b,c)) (fL (a',b',c'))) (2*a*b',2*a):=by have:eM D (2*a,0) (b',1)=(2*a*b',2*a):=jK (by simp only[eM];grind) (by simp only[eM];grind);rw[←this];exact zZC (zDX (by simp[fL])) (zDX (by simp[fL]))
theorem fP_3(D a b c a' b' c':Int):Sp (eP D (fL (a,b,c)) (fL (a',b',c'))) (2*a'*b,2*a'):=by have:eM D (b,1) (2*a',0)=(2*a'*b,2*a'):=jK (by simp only[eM];grind) (by simp only[eM];grind);rw[←this];exact zZC (zDX (by simp[fL])) (zDX (by simp[fL]))
theorem fP_4(D a b c a' b' c':Int):Sp (eP D (fL (a,b,c)) (fL (a',b',c'))) (b*b'+D,b+b'):=by have:eM D (b,1) (b',1)=(b*b'+D,b+b'):=jK (by simp only[eM];grind) (by simp only[eM];grind);rw[←this];exact zZC (zDX (by simp[fL])) (zDX (by simp[fL]))
theorem z1X{L:List El}{x y:El}(h:Sp L x)(e:x=y):Sp L y:=e▸h
theorem eM_k(D k:Int)(x:El):eM D (k,0) x=eK k x:=jK (by simp only[eM,eK];grind) (by simp only[eM,eK];grind)
theorem fS(a b c:Int)(p q x y:Int)(hx:x=2*a*p+b*q)(hy:y=q):Sp (fL (a,b,c)) (x,y):=by have:=zX7 (u:=(2*a,0)) (v:=(b,1)) p q;exact z1X this (jK (by simp only[eA,eK];rw[hx];grind) (by simp only[eA,eK];rw[hy];grind))
theorem zEh{D k:Int}{L:List El}{x y:El}(h:Sp L x)(e:eK k x=y):Sp (eL D (k,0) L) y:=zGu.2 ⟨x,h,by rw[eM_k];exact e.symm⟩
theorem z3O{D a e b c s t:Int}(hD:D=b*b - 4*a*e*c)(hst:s*a+t*e=1):Cl D (eP D (fL (a,b,e*c)) (fL (e,b,a*c))) (fL (a*e,b,c)):=by
 refine zZz (a:=(1,0)) (b:=(2,0)) (by simp) (by simp) ?_ ?_
 ·intro l hl;rw[eM_k];rcases z0i hl with h|h|h|h
  ·subst h;exact zEh (fS _ _ _ 1 0 (2*a*e) 0 (by grind) rfl) (jK (by simp only[eK];grind) (by simp only[eK];grind))
  ·subst h;exact zEh (fS _ _ _ 0 a (a*b) a (by grind) rfl) (jK (by simp only[eK];grind) (by simp only[eK];grind))
  ·subst h;exact zEh (fS _ _ _ 0 e (e*b) e (by grind) rfl) (jK (by simp only[eK];grind) (by simp only[eK];grind))
  ·subst h;exact zEh (fS _ _ _ (-c) b (b*b - 2*a*e*c) b (by grind) rfl) (jK (by simp only[eK];grind) (by simp only[eK];grind))
 ·intro l hl;rw[eM_k];simp only[fL,zj,zo,or_false]at hl;rcases hl with h|h
  ·subst h;exact zEh (fP_1 D a b (e*c) e b (a*c)) (jK (by simp only[eK];grind) (by simp only[eK];grind))
  ·subst h;refine zEh (zNu (zJF (fP_2 D a b (e*c) e b (a*c)) s) (zJF (fP_3 D a b (e*c) e b (a*c)) t)) (jK ?_ ?_)
   ·simp only[eK,eA];have:1*(s*(2*a*b)+t*(2*e*b))=2*b*(s*a+t*e):=by grind
    rw[this,hst];omega
   ·simp only[eK,eA];have:1*(s*(2*a)+t*(2*e))=2*(s*a+t*e):=by grind
    rw[this,hst];try omega
theorem z9P{D a b c p c0 m:Int}(hD:D=b*b - 4*a*c)(hm:b+p=2*m):Cl D (eP D (fL (1,p,c0)) (fL (a,b,c))) (fL (a,b,c)):=by
 refine zZz (a:=(1,0)) (b:=(2,0)) (by simp) (by simp) ?_ ?_
 ·intro l hl;rw[eM_k];rcases z0i hl with h|h|h|h
  ·subst h;exact zEh (fS _ _ _ 1 0 (2*a) 0 (by grind) rfl) (jK (by simp only[eK];grind) (by simp only[eK];grind))
  ·subst h;exact zEh (fS _ _ _ 0 1 b 1 (by grind) rfl) (jK (by simp only[eK];grind) (by simp only[eK];grind))
  ·subst h;exact zEh (fS _ _ _ (p - m) a (a*p) a (by grind) rfl) (jK (by simp only[eK];grind) (by simp only[eK];grind))
  ·subst h;exact zEh (fS _ _ _ (-c) m (b*m - 2*a*c) m (by grind) rfl) (jK (by simp only[eK];grind) (by simp only[eK];grind))
 ·intro l hl;rw[eM_k];simp only[fL,zj,zo,or_false]at hl;rcases hl with h|h
  ·subst h;exact zEh (fP_1 D 1 p c0 a b c) (jK (by simp only[eK];grind) (by simp only[eK];grind))
  ·subst h;exact zEh (fP_2 D 1 p c0 a b c) (jK (by simp only[eK];grind) (by simp only[eK];grind))
theorem z9Q{D a b c p c0 m x y z:Int}(ha:0<a)(hD:D=b*b - 4*a*c)(hm:b+p=2*m)(hx:x*a+y*b+z*c=1):Cl D (eP D (fL (a,b,c)) (fL (a,-b,c))) (fL (1,p,c0)):=by
 refine zZz (a:=(1,0)) (b:=(2*a,0)) (by simp) (by intro h;have h0:2*a=0:=congrArg Prod.fst h;omega) ?_ ?_
 ·intro l hl;rw[eM_k];rcases z0i hl with h|h|h|h
  ·subst h;exact zEh (fS _ _ _ a 0 (2*a) 0 (by grind) rfl) (jK (by simp only[eK];grind) (by simp only[eK];grind))
  ·subst h;exact zEh (fS _ _ _ (-m) 1 (-b) 1 (by grind) rfl) (jK (by simp only[eK];grind) (by simp only[eK];grind))
  ·subst h;exact zEh (fS _ _ _ (m - p) 1 b 1 (by grind) rfl) (jK (by simp only[eK];grind) (by simp only[eK];grind))
  ·subst h;exact zEh (fS _ _ _ (-c) 0 (-2*c) 0 (by grind) rfl) (jK (by simp only[eK];grind) (by simp only[eK];grind))
 ·intro l hl;rw[eM_k];have k1:Sp (eP D (fL (a,b,c)) (fL (a,-b,c))) (4*a*a,0):=fP_1 D a b c a (-b) c;have k2:Sp (eP D (fL (a,b,c)) (fL (a,-b,c))) (2*a*b,2*a):=fP_3 D a b c a (-b) c;have k3:Sp (eP D (fL (a,b,c)) (fL (a,-b,c))) (-(4*a*c),0):=z1X (fP_4 D a b c a (-b) c) (jK (by simp only[];grind) (by simp only[];omega));have k4:Sp (eP D (fL (a,b,c)) (fL (a,-b,c))) (4*a*b,0):=z1X (zLy k2 (fP_2 D a b c a (-b) c)) (jK (by simp only[eS];grind) (by simp only[eS];omega));have k5:Sp (eP D (fL (a,b,c)) (fL (a,-b,c))) (4*a,0):=by
   refine z1X (zNu (zNu (zJF k1 x) (zJF k4 y)) (zJF k3 (-z))) (jK ?_ (by simp only[eA,eK];grind));simp only[eA,eK];have:x*(4*a*a)+y*(4*a*b)+-z*-(4*a*c)=4*a*(x*a+y*b+z*c):=by grind
   rw[this,hx];omega
  simp only[fL,zj,zo,or_false]at hl;rcases hl with h|h
  ·subst h;exact zEh k5 (jK (by simp only[eK];grind) (by simp only[eK];grind))
  ·subst h;exact zEh (zNu k2 (zJF k5 (p - m))) (jK (by simp only[eK,eA];grind) (by simp only[eK,eA];grind))
theorem zJA{x y z:Int}(hx:0≤x)(h:y≤z):x*y≤x*z:=zn h hx
theorem uq_c{a b c x y:Int}(ha:1≤a)(hb1:-a≤b)(hb2:b≤a)(hc:a≤c)(hy:y≠0):c≤a*x*x+b*x*y+c*y*y:=by
 have key:∀x y:Int,0≤x→1≤y→∀b,-a≤b→b≤a→c≤a*x*x+b*x*y+c*y*y:=by
  intro x y hx hy b hb1 hb2;have hxy:0≤x*y:=Int.mul_nonneg hx (by omega);have h1:-(a*(x*y))≤b*(x*y):=by have:(-a)*(x*y)≤b*(x*y):=Int.mul_le_mul_of_nonneg_right hb1 hxy;have e:(-a)*(x*y)=-(a*(x*y)):=Int.neg_mul ..;omega
  have e1:a*x*x+b*x*y+c*y*y=a*(x*x)+b*(x*y)+c*(y*y):=by grind
  rw[e1];rcases Int.le_total y x with h|h
  ·have h2:a*(x*y)≤a*(x*x):=zJA (by omega) (zJA hx h);have h3:c*(1*1)≤c*(y*y):=zJA (by omega) (Int.mul_le_mul hy hy (by omega) (by omega));omega
  ·by_cases h0:x=0
   ·subst h0;have h3:c*(1*1)≤c*(y*y):=zJA (by omega) (Int.mul_le_mul hy hy (by omega) (by omega));simp only[Int.zero_mul,Int.mul_zero]at*;omega
   ·have h2:a*(x*(y - x))≤c*(x*(y - x)):=Int.mul_le_mul_of_nonneg_right hc (Int.mul_nonneg hx (by omega));have h4:x*(y - x)≤(y - 1)*y:=by
     rcases Int.lt_or_le x y with h5|h5
     ·have:x*(y - x)≤(y - 1)*(y - x):=Int.mul_le_mul_of_nonneg_right (by omega) (by omega);have:(y - 1)*(y - x)≤(y - 1)*y:=zJA (by omega) (by omega);omega
     ·have e:y - x=0:=by omega
      rw[e,Int.mul_zero];exact Int.mul_nonneg (by omega) (by omega)
    have h6:c*(x*(y - x))≤c*((y - 1)*y):=zJA (by omega) h4;have e2:a*(x*(y - x))=a*(x*y) - a*(x*x):=by grind
    have e3:c*((y - 1)*y)=c*(y*y) - c*y:=by grind
    have h7:c*1≤c*y:=zJA (by omega) hy;omega
 have e2:a*x*x+b*x*y+c*y*y=a*(-x)*(-x)+(-b)*(-x)*y+c*y*y:=by grind
 have e3:a*x*x+b*x*y+c*y*y=a*x*x+(-b)*x*(-y)+c*(-y)*(-y):=by grind
 have e4:a*x*x+b*x*y+c*y*y=a*(-x)*(-x)+b*(-x)*(-y)+c*(-y)*(-y):=by grind
 rcases Int.lt_or_le 0 y with h1|h1<;>rcases Int.le_total 0 x with h2|h2
 ·exact key x y h2 h1 b hb1 hb2
 ·rw[e2];exact key (-x) y (by omega) h1 (-b) (by omega) (by omega)
 ·rw[e3];exact key x (-y) h2 (by omega) (-b) (by omega) (by omega)
 ·rw[e4];exact key (-x) (-y) (by omega) (by omega) b hb1 hb2
theorem uq_a{a b c x y:Int}(ha:1≤a)(hb1:-a≤b)(hb2:b≤a)(hc:a≤c)(h:x≠0∨y≠0):a≤a*x*x+b*x*y+c*y*y:=by
 by_cases hy:y=0
 ·subst hy;have hx:x≠0:=by omega
  have h1:1≤x*x:=by
   have h2:0<x*x:=by
    rcases Int.lt_or_le 0 x with h3|h3
    ·exact Int.mul_pos h3 h3
    ·exact Int.mul_pos_of_neg_of_neg (by omega) (by omega)
   omega
  have h2:a*1≤a*(x*x):=zJA (by omega) h1;have e:a*x*x+b*x*0+c*0*0=a*(x*x):=by grind
  omega
 ·have:=uq_c (x:=x) ha hb1 hb2 hc hy;omega
theorem z7t{a b c a' b' c' p q r s:Int}(ha:1≤a)(h1:zC2 a b c)(ha':1≤a')(h2:zC2 a' b' c')(hdet:p*s - q*r=1)(e1:a'=a*p*p+b*p*r+c*r*r):a≤a'∧(r≠0→c≤a'):=by
 obtain⟨⟨i1,i2⟩,i3⟩:=h1;have hac:a≤c:=by omega
 have hpr:p≠0∨r≠0:=by
  rcases Decidable.em (p=0) with h|h
  ·right;intro hr;rw[h,hr]at hdet;simp at hdet
  ·exact .inl h
 refine⟨by rw[e1];exact uq_a ha (by omega) i2 hac hpr,fun hr=>by rw[e1];exact uq_c ha (by omega) i2 hac hr⟩
theorem z4E{a b c a' b' c' p q r s:Int}(ha:1≤a)(h1:zC2 a b c)(ha':1≤a')(h2:zC2 a' b' c')(hdet:p*s - q*r=1)(e1:a'=a*p*p+b*p*r+c*r*r)(e2:b'=2*a*p*q+b*(p*s+q*r)+2*c*r*s)(e3:c'=a*q*q+b*q*s+c*s*s):a=a'∧b=b'∧c=c':=by
 have f1:a=a'*s*s+b'*s*(-r)+c'*(-r)*(-r):=by rw[e1,e2,e3];grind
 have hdet2:s*p - (-q)*(-r)=1:=by grind
 obtain⟨k1,k2⟩:=z7t ha h1 ha' h2 hdet e1;obtain⟨k3,k4⟩:=z7t ha' h2 ha h1 hdet2 f1;have hd:b*b - 4*a*c=b'*b' - 4*a'*c':=by rw[e1,e2,e3];grind
 have haa:a=a':=by omega
 obtain⟨⟨i1,i2⟩,i3⟩:=h1;obtain⟨⟨j1,j2⟩,j3⟩:=h2;have fin:b=b'→a=a'∧b=b'∧c=c':=by
  intro hb;refine⟨haa,hb,?_⟩;subst haa hb;have:4*a*c=4*a*c':=by omega
  exact Int.eq_of_mul_eq_mul_left (by omega) this
 by_cases hr:r=0
 ·subst hr;have hps:p*s=1:=by omega
  have hd1:p.natAbs∣1:=⟨s.natAbs,by rw[←Int.natAbs_mul,hps];rfl⟩
  have hp:p=1∨p=-1:=by have:=Nat.dvd_one.1 hd1;omega
  have small:∀t:Int,-(2*a)<2*a*t→2*a*t<2*a→t=0:=by
   intro t h3 h4;rcases Int.lt_trichotomy t 0 with h|h|h
   ·have:2*a*t≤2*a*(-1):=zJA (by omega) (by omega);omega
   ·exact h
   ·have:2*a*1≤2*a*t:=zJA (by omega) (by omega);omega
  rcases hp with h|h
  ·subst h;have hs:s=1:=by omega
   subst hs;have e4:b'=2*a*q+b:=by rw[e2];grind
   have hq:=small q (by omega) (by omega);rw[hq]at e4;exact fin (by omega)
  ·subst h;have hs:s=-1:=by omega
   subst hs;have e4:b'=2*a*(-q)+b:=by rw[e2];grind
   have hq:=small (-q) (by omega) (by omega);rw[hq]at e4;exact fin (by omega)
 ·have m1:=k2 hr;have m2:=k4 (by omega);have hcc:c=c':=by omega
  subst haa hcc;have hb:b=b':=by
   have hsq:(b - b')*(b+b')=0:=by grind
   rcases Int.mul_eq_zero.1 hsq with h|h<;>omega
  exact fin hb
end Go.Proofs.YtnjhhbcccgbbnaaGreatDoor
