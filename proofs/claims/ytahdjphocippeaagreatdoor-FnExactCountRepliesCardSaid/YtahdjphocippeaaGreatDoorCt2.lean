/-
  Rules of walks, plain functions and their laws, part 2.
  Conditions: none.
-/
import GoSem.Core.Utf8
import Derived.Test.YtahdjphocippeaaGreatDoorCt1
set_option linter.unusedSimpArgs false
set_option linter.unusedVariables false
namespace Go.Proofs.YtahdjphocippeaaGreatDoor
def zA5 (b2:Int) (vs1:ByteArray):Nat→Int→Int→List ByteArray→Option (Int×(List ByteArray))
 |0,_,_,_=>none
 |n+1,vfrom3,i4,l5=>
  bif (ltI i4 ((vs1.size:Int))) then
   (
    (getB vs1 i4).bind fun e9=>
    bif (eqI e9 b2) then
     (
      (slc vs1.size vfrom3 i4).bind fun u11=>
      (room (l5.length+([vs1.extract (Int.toNat vfrom3) (Int.toNat i4)]).length)).bind fun u12=>
      sI (w64 (i4+1)) fun vfrom13=>
      sI (w64 (i4+1)) fun i14=>
      zA5 b2 vs1 n vfrom13 i14 (l5++([vs1.extract (Int.toNat vfrom3) (Int.toNat i4)]))
     )
    else
     (
      sI (w64 (i4+1)) fun i15=>
      zA5 b2 vs1 n vfrom3 i15 l5
     )
   )
  else
   (
    some (vfrom3,l5)
   )
def zAd (vs1:ByteArray) (b2:Int):Option (List ByteArray):=
 (zA5 b2 vs1 FU 0 0 (([]:List ByteArray))).bind fun o7=>
 (slc vs1.size o7.1 ((vs1.size:Int))).bind fun u16=>
 (room (o7.2.length+([vs1.extract (Int.toNat o7.1) (Int.toNat ((vs1.size:Int)))]).length)).bind fun u17=>
 (some (o7.2++([vs1.extract (Int.toNat o7.1) (Int.toNat ((vs1.size:Int)))]))).bind fun l18=>
 some l18
def zD0 (vs1:ByteArray) (bytes2:Int) (most3:Int):Option ((List ByteArray)×Bool):=
 (bif (ltI bytes2 ((vs1.size:Int))) then some true else ((bif (!(vs1.toList==((⟨#[]⟩:ByteArray)).toList)) then ((getB vs1 (w64 (((vs1.size:Int)) - 1))).bind fun e6=>some (!eqI e6 10)) else some false).bind fun b7=>some b7)).bind fun b8=>
 bif b8 then
  (
   some ((([]:List ByteArray),false))
  )
 else
  (
   (zAd vs1 10).bind fun y10=>
   (slc y10.length 0 (w64 (((y10.length:Int)) - 1))).bind fun u11=>
   (some (leI (((subl y10 0 (w64 (((y10.length:Int)) - 1))).length:Int)) most3)).bind fun t12=>
   some ((subl y10 0 (w64 (((y10.length:Int)) - 1)),t12))
  )
def zEf:Option ((Int×ByteArray×(List (Int×Int×Int)))×(List (Int×ByteArray×(List (Int×Int×Int))))):=
 some (((-23,ByteArray.empty,([]:List (Int×Int×Int))),([]:List (Int×ByteArray×(List (Int×Int×Int))))))
def zCm (word1:ByteArray):Option (ByteArray×Bool):=
 (some (word1.toList==((⟨#[100,105,115,99]⟩:ByteArray)).toList)).bind fun t2=>
 bif t2 then
  (
   some (((⟨#[110]⟩:ByteArray),true))
  )
 else
  (
   bif (word1.toList==((⟨#[115,101,116]⟩:ByteArray)).toList) then
    (
     some (((⟨#[108,102]⟩:ByteArray),true))
    )
   else
    (
     (
      (some (word1.toList==((⟨#[112,114,105,109,101]⟩:ByteArray)).toList)).bind fun t6=>
      bif t6 then
       (
        some t6
       )
      else
       (
        (some (word1.toList==((⟨#[118,97,108,117,101]⟩:ByteArray)).toList)).bind fun t8=>
        some t8
       )
     ).bind fun j5=>
     bif j5 then
      (
       some (((⟨#[108,110]⟩:ByteArray),true))
      )
     else
      (
       bif (word1.toList==((⟨#[109,117,108]⟩:ByteArray)).toList) then
        (
         some (((⟨#[108,108,108]⟩:ByteArray),true))
        )
       else
        (
         bif (word1.toList==((⟨#[112,111,119]⟩:ByteArray)).toList) then
          (
           some (((⟨#[108,108,110]⟩:ByteArray),true))
          )
         else
          (
           (some (word1.toList==((⟨#[115,97,109,101]⟩:ByteArray)).toList)).bind fun t12=>
           bif t12 then
            (
             some (((⟨#[108,108]⟩:ByteArray),true))
            )
           else
            (
             (
              (some (word1.toList==((⟨#[102,114,101,101]⟩:ByteArray)).toList)).bind fun t15=>
              bif t15 then
               (
                some t15
               )
              else
               (
                (some (word1.toList==((⟨#[115,104,111,119]⟩:ByteArray)).toList)).bind fun t17=>
                bif t17 then
                 (
                  some t17
                 )
                else
                 (
                  (some (word1.toList==((⟨#[105,110,100,101,120]⟩:ByteArray)).toList)).bind fun t19=>
                  bif t19 then
                   (
                    some t19
                   )
                  else
                   (
                    (some (word1.toList==((⟨#[111,114,100,101,114]⟩:ByteArray)).toList)).bind fun t21=>
                    bif t21 then
                     (
                      some t21
                     )
                    else
                     (
                      (some (word1.toList==((⟨#[103,101,110,117,115]⟩:ByteArray)).toList)).bind fun t23=>
                      some t23
                     )
                   )
                 )
               )
             ).bind fun j14=>
             bif j14 then
              (
               some (((⟨#[108]⟩:ByteArray),true))
              )
             else
              (
               (some (word1.toList==((⟨#[110,97,109,101,115]⟩:ByteArray)).toList)).bind fun t25=>
               bif t25 then
                (
                 bif t25 then
                  (
                   some (((⟨#[]⟩:ByteArray),true))
                  )
                 else
                  (
                   some (((⟨#[]⟩:ByteArray),false))
                  )
                )
               else
                (
                 (some (word1.toList==((⟨#[117,110,100,111]⟩:ByteArray)).toList)).bind fun t28=>
                 bif t28 then
                  (
                   some (((⟨#[]⟩:ByteArray),true))
                  )
                 else
                  (
                   some (((⟨#[]⟩:ByteArray),false))
                  )
                )
              )
            )
          )
        )
      )
    )
  )
def j0 (w1:ByteArray):Option Bool:=
 (bif (eqI ((w1.size:Int)) 1) then ((getB w1 0).bind fun e3=>some (leI 97 e3)) else some false).bind fun b4=>
 (bif b4 then ((getB w1 0).bind fun e6=>some (leI e6 122)) else some false).bind fun b7=>
 some b7
def zBT (vs1:ByteArray) (first2:Int) (last3:Int):Option (ByteArray×Bool):=
 (bif (ltI ((vs1.size:Int)) 2) then some true else ((getB vs1 0).bind fun e5=>some (!eqI e5 first2))).bind fun b6=>
 (bif b6 then some true else ((getB vs1 (w64 (((vs1.size:Int)) - 1))).bind fun e8=>some (!eqI e8 last3))).bind fun b9=>
 bif b9 then
  (
   some (((⟨#[]⟩:ByteArray),false))
  )
 else
  (
   (slc vs1.size 1 (w64 (((vs1.size:Int)) - 1))).bind fun u11=>
   some ((vs1.extract (Int.toNat 1) (Int.toNat (w64 (((vs1.size:Int)) - 1))),true))
  )
def zAu (vn1:Int) (lo2:Int) (hi3:Int):Option Bool:=
 some (bif (leI lo2 vn1) then (leI vn1 hi3) else false)
def zBH (vs1:ByteArray):Nat→Int→Int→Option (Int ⊕ Int)
 |0,_,_=>none
 |n+1,vn8,i9=>
  bif (ltI i9 ((vs1.size:Int))) then
   (
    (getB vs1 i9).bind fun e13=>
    (bif (ltI e13 48) then some true else ((getB vs1 i9).bind fun e15=>some (ltI 57 e15))).bind fun b16=>
    bif b16 then
     (
      some (.inr ((-1)))
     )
    else
     (
      (getB vs1 i9).bind fun e18=>
      sI (w64 ((w64 (10*vn8))+(IntKind.i64.wrap (IntKind.u8.wrap (e18 - 48))))) fun vn19=>
      sI (w64 (i9+1)) fun i20=>
      zBH vs1 n vn19 i20
     )
   )
  else
   (
    some (.inl vn8)
   )
def zFP (vs1:ByteArray):Option Int:=
 (zAu ((vs1.size:Int)) 1 10).bind fun y2=>
 (bif (!y2) then some true else ((getB vs1 0).bind fun e4=>some (bif (eqI e4 48) then (ltI 1 ((vs1.size:Int))) else false))).bind fun b6=>
 bif b6 then
  (
   some (-1)
  )
 else
  (
   (zBH vs1 FU 0 0).bind fun qo11=>
   match qo11 with
   | .inr r=>some r
   | .inl o11=>
    some o11
  )
def zBJ (vs1:ByteArray):Option (Int×Bool):=
 (bif (ltI 1 ((vs1.size:Int))) then ((getB vs1 0).bind fun e3=>some (eqI e3 45)) else some false).bind fun b4=>
 (
  bif b4 then
   (
    (slc vs1.size 1 ((vs1.size:Int))).bind fun u7=>
    some (vs1.extract (Int.toNat 1) (Int.toNat ((vs1.size:Int))))
   )
  else
   (
    some vs1
   )
 ).bind fun j5=>
 (zFP j5).bind fun y8=>
 (some (bif (bif (ltI y8 0) then true else (bif b4 then (eqI y8 0) else false)) then true else (ltI 1000000 y8))).bind fun t12=>
 bif t12 then
  (
   some ((0,false))
  )
 else
  (
   bif b4 then
    (
     sI (w64 (0 - y8)) fun t15=>
     some ((t15,true))
    )
   else
    (
     some ((y8,true))
    )
  )
def zAY (y4:List ByteArray):Nat→Int→List Int→Option (List Int ⊕ List Int)
 |0,_,_=>none
 |n+1,t6,l7=>
  bif (ltI t6 ((y4.length:Int))) then
   (
    (getI y4 t6).bind fun e11=>
    (getI y4 t6).bind fun e12=>
    (zBJ e12).bind fun y13=>
    bif (!y13.2) then
     (
      some (.inr ((([]:List Int))))
     )
    else
     (
      (room (l7.length+([y13.1]).length)).bind fun u15=>
      sI (w64 (t6+1)) fun t16=>
      zAY y4 n t16 (l7++([y13.1]))
     )
   )
  else
   (
    some (.inl l7)
   )
def zBb (vs1:ByteArray) (b2:Int) (count3:Int):Option (List Int):=
 (zAd vs1 b2).bind fun y4=>
 bif (!eqI ((y4.length:Int)) count3) then
  (
   some (([]:List Int))
  )
 else
  (
   (zAY y4 FU 0 (([]:List Int))).bind fun qo9=>
   match qo9 with
   | .inr r=>some r
   | .inl o9=>
    some o9
  )
def zBa (vs1:ByteArray):Option ((Int×Int×Int)×Bool):=
 (zBT vs1 40 41).bind fun y2=>
 (zBb y2.1 44 3).bind fun y3=>
 bif (bif (!y2.2) then true else (!eqI ((y3.length:Int)) 3)) then
  (
   some (((0,0,0),false))
  )
 else
  (
   (getI y3 0).bind fun e6=>
   (getI y3 0).bind fun e7=>
   (getI y3 1).bind fun e8=>
   (getI y3 1).bind fun e9=>
   (getI y3 2).bind fun e10=>
   (getI y3 2).bind fun e11=>
   some (((e7,e9,e11),true))
  )
def qZ (y2:List ByteArray) (y5:(ByteArray×Bool)):Nat→Bool→Int→List ByteArray→Int→Int→Int→Int→Option (Bool×(List ByteArray)×Int×Int×Int×Int)
 |0,_,_,_,_,_,_,_=>none
 |n+1,ok9,i10,l11,f12,f13,f14,f15=>
  bif (ltI i10 ((y5.1.size:Int))) then
   (
    (getI y2 (w64 (i10+1))).bind fun e19=>
    (getI y2 (w64 (i10+1))).bind fun e20=>
    (j0 e20).bind fun y21=>
    (getB y5.1 i10).bind fun e22=>
    bif (eqI e22 108) then
     (
      (getI y2 (w64 (i10+1))).bind fun e24=>
      (getI y2 (w64 (i10+1))).bind fun e25=>
      (room (l11.length+([e25]).length)).bind fun u26=>
      sI (w64 (i10+1)) fun i28=>
      qZ y2 y5 n (bif ok9 then y21 else false) i28 (l11++([e25])) f12 f13 f14 f15
     )
    else
     (
      bif (eqI e22 102) then
       (
        (getI y2 (w64 (i10+1))).bind fun e30=>
        (getI y2 (w64 (i10+1))).bind fun e31=>
        (zBa e31).bind fun y32=>
        sI (w64 (i10+1)) fun i34=>
        qZ y2 y5 n (bif ok9 then y32.2 else false) i34 l11 y32.1.1 y32.1.2.1 y32.1.2.2 f15
       )
      else
       (
        (getI y2 (w64 (i10+1))).bind fun e35=>
        (getI y2 (w64 (i10+1))).bind fun e36=>
        (zBJ e36).bind fun y37=>
        sI (w64 (i10+1)) fun i39=>
        qZ y2 y5 n (bif ok9 then y37.2 else false) i39 l11 f12 f13 f14 y37.1
       )
     )
   )
  else
   (
    some (ok9,l11,f12,f13,f14,f15)
   )
def qF (t1:ByteArray):Option (ByteArray×((List ByteArray)×(Int×Int×Int)×Int)×Bool):=
 (zAd t1 32).bind fun y2=>
 (getI y2 0).bind fun e3=>
 (getI y2 0).bind fun e4=>
 (zCm e4).bind fun y5=>
 (some (bif (!y5.2) then true else (!eqI ((y2.length:Int)) (w64 (((y5.1.size:Int))+1))))).bind fun t7=>
 bif t7 then
  (
   some (((⟨#[]⟩:ByteArray),(([]:List ByteArray),(0,0,0),0),false))
  )
 else
  (
   (qZ y2 y5 FU y5.2 0 (([]:List ByteArray)) 0 0 0 0).bind fun o17=>
   (getI y2 0).bind fun e40=>
   (getI y2 0).bind fun e41=>
   some ((e41,(o17.2.1,(o17.2.2.1,o17.2.2.2.1,o17.2.2.2.2.1),o17.2.2.2.2.2),o17.1))
  )
def jH (a1:Int) (vm2:Int):Option Int:=
 (nz vm2).bind fun z3=>
 sI (Int.tmod a1 vm2) fun vr4=>
 bif (ltI vr4 0) then
  (
   sI (w64 (vr4+vm2)) fun vr6=>
   some vr6
  )
 else
  (
   some vr4
  )
def zCF (d1:Int):Option Bool:=
 (zAu d1 (-2000) (-3)).bind fun y2=>
 (bif y2 then ((jH d1 4).bind fun y4=>some (ltI y4 2)) else some false).bind fun b5=>
 some b5
def jF (x1:((Int×ByteArray×(List (Int×Int×Int)))×(List (Int×ByteArray×(List (Int×Int×Int)))))) (vs2:(Int×ByteArray×(List (Int×Int×Int)))):Option (ByteArray×((Int×ByteArray×(List (Int×Int×Int)))×(List (Int×ByteArray×(List (Int×Int×Int)))))):=
 (room (x1.2.length+([x1.1]).length)).bind fun u3=>
 some (((⟨#[111,107]⟩:ByteArray),(vs2,x1.2++([x1.1]))))
def zAc (vn1:Int):Option Bool:=
 (zAu vn1 (-1000000) 1000000).bind fun y2=>
 some y2
def zED (f1:(Int×Int×Int)):Option Bool:=
 (zAc f1.1).bind fun y2=>
 (bif y2 then ((zAc f1.2.1).bind fun y4=>some y4) else some false).bind fun b5=>
 (bif b5 then ((zAc f1.2.2).bind fun y7=>some y7) else some false).bind fun b8=>
 some b8
def qN (f1:(Int×Int×Int)):Option Int:=
 sI (w64 ((w64 (f1.2.1*f1.2.1)) - (w64 ((w64 (4*f1.1))*f1.2.2)))) fun t2=>
 some t2
def zAH (f1:(Int×Int×Int)):Option Bool:=
 (zED f1).bind fun y2=>
 (bif y2 then ((qN f1).bind fun y4=>some (ltI y4 0)) else some false).bind fun b5=>
 some (bif b5 then (ltI 0 f1.1) else false)
def zCe (f1:(Int×Int×Int)):Option Bool:=
 (zAH f1).bind fun y2=>
 (bif y2 then ((qN f1).bind fun y4=>some (leI (-2000) y4)) else some false).bind fun b5=>
 some b5
def zCf (a1:Int) (b2:Int):Option Int:=
 bif (ltI b2 a1) then
  (
   some a1
  )
 else
  (
   some b2
  )
def zCu (vn1:Int):Option Int:=
 (zCf vn1 (w64 (0 - vn1))).bind fun y2=>
 some y2
def zAm:Nat→Int→Int→Option Int
 |0,_,_=>none
 |n+1,a5,b6=>
  bif (!eqI b6 0) then
   (
    (nz b6).bind fun z10=>
    sI (Int.tmod a5 b6) fun b11=>
    zAm n b6 b11
   )
  else
   (
    some a5
   )
def zAX (a1:Int) (b2:Int):Option Int:=
 (zCu a1).bind fun y3=>
 (zCu b2).bind fun y4=>
 (zAm FU y3 y4).bind fun o8=>
 some o8
def jQ (f1:(Int×Int×Int)):Option Int:=
 (zAX f1.1 f1.2.1).bind fun y2=>
 (zAX y2 f1.2.2).bind fun y3=>
 some y3
def zDN (f1:(Int×Int×Int)):Option Bool:=
 (zCe f1).bind fun y2=>
 (bif y2 then ((jQ f1).bind fun y4=>some (eqI y4 1)) else some false).bind fun b5=>
 some b5
def zC5 (f1:(Int×Int×Int)):Option Bool:=
 (some (bif (bif (ltI (w64 (0 - f1.1)) f1.2.1) then (leI f1.2.1 f1.1) else false) then (bif (ltI f1.1 f1.2.2) then true else (bif (eqI f1.1 f1.2.2) then (leI 0 f1.2.1) else false)) else false)).bind fun t6=>
 some t6
def zEI (f1:(Int×Int×Int)):Option Int:=
 (jH (w64 (f1.1 - f1.2.1)) (w64 (2*f1.1))).bind fun y2=>
 (nz (w64 (2*f1.1))).bind fun z3=>
 sI (w64 (Int.tdiv (w64 ((w64 (f1.1 - f1.2.1)) - y2)) (w64 (2*f1.1)))) fun t4=>
 some t4
def zDL (f1:(Int×Int×Int)):Option (Int×Int×Int×Int):=
 (zEI f1).bind fun y2=>
 bif (!eqI y2 0) then
  (
   some ((1,y2,0,1))
  )
 else
  (
   (zC5 f1).bind fun y4=>
   bif y4 then
    (
     some ((1,0,0,1))
    )
   else
    (
     some ((0,-1,1,0))
    )
  )
def zBI (f1:(Int×Int×Int)) (x2:Int) (y3:Int):Option Int:=
 sI (w64 ((w64 ((w64 ((w64 (f1.1*x2))*x2))+(w64 ((w64 (f1.2.1*x2))*y3))))+(w64 ((w64 (f1.2.2*y3))*y3)))) fun t4=>
 some t4
def zD4 (f1:(Int×Int×Int)) (x2:Int) (y3:Int) (u4:Int) (v5:Int):Option Int:=
 sI (w64 ((w64 ((w64 ((w64 ((w64 (2*f1.1))*x2))*u4))+(w64 (f1.2.1*(w64 ((w64 (x2*v5))+(w64 (y3*u4))))))))+(w64 ((w64 ((w64 (2*f1.2.2))*y3))*v5)))) fun t6=>
 some t6
def zFy (f1:(Int×Int×Int)) (vm2:(Int×Int×Int×Int)):Option (Int×Int×Int):=
 (zBI f1 vm2.1 vm2.2.2.1).bind fun y3=>
 (zD4 f1 vm2.1 vm2.2.2.1 vm2.2.1 vm2.2.2.2).bind fun y4=>
 (zBI f1 vm2.2.1 vm2.2.2.2).bind fun y5=>
 some ((y3,y4,y5))
def qP (vm1:(Int×Int×Int×Int)) (vn2:(Int×Int×Int×Int)):Option (Int×Int×Int×Int):=
 sI (w64 ((w64 (vm1.1*vn2.1))+(w64 (vm1.2.1*vn2.2.2.1)))) fun f3=>
 sI (w64 ((w64 (vm1.1*vn2.2.1))+(w64 (vm1.2.1*vn2.2.2.2)))) fun f4=>
 sI (w64 ((w64 (vm1.2.2.1*vn2.1))+(w64 (vm1.2.2.2*vn2.2.2.1)))) fun f5=>
 sI (w64 ((w64 (vm1.2.2.1*vn2.2.1))+(w64 (vm1.2.2.2*vn2.2.2.2)))) fun f6=>
 some ((f3,f4,f5,f6))
def zCO:Nat→Int→Int→Int→Int→Int→Int→Int→Option (Int×Int×Int×Int×Int×Int×Int)
 |0,_,_,_,_,_,_,_=>none
 |n+1,f2,f3,f4,f5,f6,f7,f8=>
  (zC5 ((f6,f7,f8))).bind fun y11=>
  bif (!y11) then
   (
    (zDL ((f6,f7,f8))).bind fun y13=>
    (zFy ((f6,f7,f8)) y13).bind fun y14=>
    (qP ((f2,f3,f4,f5)) y13).bind fun y15=>
    zCO n y15.1 y15.2.1 y15.2.2.1 y15.2.2.2 y14.1 y14.2.1 y14.2.2
   )
  else
   (
    some (f2,f3,f4,f5,f6,f7,f8)
   )
def qD (f1:(Int×Int×Int)):Option ((Int×Int×Int)×(Int×Int×Int×Int)):=
 (zCO FU 1 0 0 1 f1.1 f1.2.1 f1.2.2).bind fun o10=>
 some ((o10.2.2.2.2,(o10.1,o10.2.1,o10.2.2.1,o10.2.2.2.1)))
def jG (f1:(Int×Int×Int)):Option (Int×Int×Int):=
 (qD f1).bind fun y2=>
 some y2.1
def jX (name2:ByteArray) (vs1:(Int×ByteArray×(List (Int×Int×Int)))):Nat→Int→Option (Unit ⊕ Int)
 |0,_=>none
 |n+1,i3=>
  bif (ltI i3 ((vs1.2.1.size:Int))) then
   (
    (getB vs1.2.1 i3).bind fun e7=>
    (getB name2 0).bind fun e8=>
    bif (eqI e7 e8) then
     (
      some (.inr i3)
     )
    else
     (
      sI (w64 (i3+1)) fun i10=>
      jX name2 vs1 n i10
     )
   )
  else
   (
    some (.inl ())
   )
def zA2 (vs1:(Int×ByteArray×(List (Int×Int×Int)))) (name2:ByteArray):Option Int:=
 (jX name2 vs1 FU 0).bind fun qo5=>
 match qo5 with
 | .inr r=>some r
 | .inl o5=>
  some (-1)
def zAV (f3:(Int×Int×Int)) (vn2:ByteArray) (x1:((Int×ByteArray×(List (Int×Int×Int)))×(List (Int×ByteArray×(List (Int×Int×Int)))))):Nat→Int→Option Int
 |0,_=>none
 |n+1,k13=>
  (bif (ltI k13 ((x1.1.2.1.size:Int))) then ((getB x1.1.2.1 k13).bind fun e17=>(getB vn2 0).bind fun e18=>some (ltI e17 e18)) else some false).bind fun b19=>
  bif b19 then
   (
    sI (w64 (k13+1)) fun k21=>
    zAV f3 vn2 x1 n k21
   )
  else
   (
    some k13
   )
def jL (x1:((Int×ByteArray×(List (Int×Int×Int)))×(List (Int×ByteArray×(List (Int×Int×Int)))))) (vn2:ByteArray) (f3:(Int×Int×Int)):Option (ByteArray×((Int×ByteArray×(List (Int×Int×Int)))×(List (Int×ByteArray×(List (Int×Int×Int)))))):=
 (room ((([]:List (Int×Int×Int))).length+x1.1.2.2.length)).bind fun u4=>
 (zA2 x1.1 vn2).bind fun y5=>
 bif (leI 0 y5) then
  (
   (getI ((([]:List (Int×Int×Int)))++x1.1.2.2) y5).bind fun e7=>
   (getI ((([]:List (Int×Int×Int)))++x1.1.2.2) y5).bind fun e8=>
   (some (((([]:List (Int×Int×Int)))++x1.1.2.2).set (Int.toNat (y5)) f3)).bind fun l9=>
   (jF x1 ((x1.1.1,x1.1.2.1,l9))).bind fun y10=>
   some ((y10.1,y10.2))
  )
 else
  (
   (some (leI 8 ((((([]:List (Int×Int×Int)))++x1.1.2.2).length:Int)))).bind fun t11=>
   bif t11 then
    (
     some (((⟨#[110,111]⟩:ByteArray),x1))
    )
   else
    (
     (zAV f3 vn2 x1 FU 0).bind fun o15=>
     (slc ((([]:List (Int×Int×Int)))++x1.1.2.2).length 0 o15).bind fun u22=>
     (slc x1.1.2.2.length o15 ((x1.1.2.2.length:Int))).bind fun u23=>
     (room (([f3]).length+(subl x1.1.2.2 o15 ((x1.1.2.2.length:Int))).length)).bind fun u24=>
     (room ((subl ((([]:List (Int×Int×Int)))++x1.1.2.2) 0 o15).length+(([f3])++(subl x1.1.2.2 o15 ((x1.1.2.2.length:Int)))).length)).bind fun u25=>
     (some ((subl ((([]:List (Int×Int×Int)))++x1.1.2.2) 0 o15)++(([f3])++(subl x1.1.2.2 o15 ((x1.1.2.2.length:Int)))))).bind fun l26=>
     (slc x1.1.2.1.size 0 o15).bind fun u27=>
     (catR (x1.1.2.1.extract (Int.toNat 0) (Int.toNat o15)) vn2).bind fun u28=>
     (slc x1.1.2.1.size o15 ((x1.1.2.1.size:Int))).bind fun u29=>
     (catR ((x1.1.2.1.extract (Int.toNat 0) (Int.toNat o15))++vn2) (x1.1.2.1.extract (Int.toNat o15) (Int.toNat ((x1.1.2.1.size:Int))))).bind fun u30=>
     (jF x1 ((x1.1.1,((x1.1.2.1.extract (Int.toNat 0) (Int.toNat o15))++vn2)++(x1.1.2.1.extract (Int.toNat o15) (Int.toNat ((x1.1.2.1.size:Int)))),l26))).bind fun y31=>
     some ((y31.1,y31.2))
    )
  )
def zC6 (vn1:Int):Nat→Int→Option (Unit ⊕ Bool)
 |0,_=>none
 |n+1,d3=>
  bif (leI (w64 (d3*d3)) vn1) then
   (
    (nz d3).bind fun z7=>
    bif (eqI (Int.tmod vn1 d3) 0) then
     (
      some (.inr false)
     )
    else
     (
      sI (w64 (d3+1)) fun d9=>
      zC6 vn1 n d9
     )
   )
  else
   (
    some (.inl ())
   )
def zD1 (vn1:Int):Option Bool:=
 bif (ltI vn1 2) then
  (
   some false
  )
 else
  (
   (zC6 vn1 FU 2).bind fun qo5=>
   match qo5 with
   | .inr r=>some r
   | .inl o5=>
    some true
  )
def zEh (p1:Int):Option Bool:=
 (zAu p1 2 10000).bind fun y2=>
 (bif y2 then ((zD1 p1).bind fun y4=>some y4) else some false).bind fun b5=>
 some b5
def zCn (d1:Int) (p2:Int):Nat→Int→Option (Unit ⊕ ((Int×Int×Int)×Bool))
 |0,_=>none
 |n+1,b3=>
  bif (leI b3 p2) then
   (
    (nz (w64 (4*p2))).bind fun z7=>
    bif (eqI (Int.tmod (w64 ((w64 (b3*b3)) - d1)) (w64 (4*p2))) 0) then
     (
      (nz (w64 (4*p2))).bind fun z9=>
      sI (w64 (Int.tdiv (w64 ((w64 (b3*b3)) - d1)) (w64 (4*p2)))) fun f10=>
      (jQ ((p2,b3,f10))).bind fun y11=>
      some (.inr ((((p2,b3,f10),eqI y11 1))))
     )
    else
     (
      sI (w64 (b3+1)) fun b12=>
      zCn d1 p2 n b12
     )
   )
  else
   (
    some (.inl ())
   )
def zFQ (d1:Int) (p2:Int):Option ((Int×Int×Int)×Bool):=
 (zCn d1 p2 FU 0).bind fun qo5=>
 match qo5 with
 | .inr r=>some r
 | .inl o5=>
  some (((0,0,0),false))
def zC9 (d1:Int) (p2:Int):Option ((Int×Int×Int)×Bool):=
 (zCF d1).bind fun y3=>
 (bif (!y3) then some true else ((zEh p2).bind fun y5=>some (!y5))).bind fun b6=>
 bif b6 then
  (
   some (((0,0,0),false))
  )
 else
  (
   (zFQ d1 p2).bind fun y8=>
   bif (!y8.2) then
    (
     some (((0,0,0),false))
    )
   else
    (
     (jG y8.1).bind fun y10=>
     some ((y10,true))
    )
  )
def zAq (x1:((Int×ByteArray×(List (Int×Int×Int)))×(List (Int×ByteArray×(List (Int×Int×Int)))))) (vn2:ByteArray):Option (ByteArray×((Int×ByteArray×(List (Int×Int×Int)))×(List (Int×ByteArray×(List (Int×Int×Int)))))):=
 (zA2 x1.1 vn2).bind fun y3=>
 bif (ltI y3 0) then
  (
   some (((⟨#[110,111]⟩:ByteArray),x1))
  )
 else
  (
   (slc x1.1.2.2.length 0 y3).bind fun u5=>
   (room ((([]:List (Int×Int×Int))).length+(subl x1.1.2.2 0 y3).length)).bind fun u6=>
   (slc x1.1.2.2.length (w64 (y3+1)) ((x1.1.2.2.length:Int))).bind fun u7=>
   (room (((([]:List (Int×Int×Int)))++(subl x1.1.2.2 0 y3)).length+(subl x1.1.2.2 (w64 (y3+1)) ((x1.1.2.2.length:Int))).length)).bind fun u8=>
   (some (((([]:List (Int×Int×Int)))++(subl x1.1.2.2 0 y3))++(subl x1.1.2.2 (w64 (y3+1)) ((x1.1.2.2.length:Int))))).bind fun l9=>
   (slc x1.1.2.1.size 0 y3).bind fun u10=>
   (slc x1.1.2.1.size (w64 (y3+1)) ((x1.1.2.1.size:Int))).bind fun u11=>
   (catR (x1.1.2.1.extract (Int.toNat 0) (Int.toNat y3)) (x1.1.2.1.extract (Int.toNat (w64 (y3+1))) (Int.toNat ((x1.1.2.1.size:Int))))).bind fun u12=>
   (jF x1 ((x1.1.1,(x1.1.2.1.extract (Int.toNat 0) (Int.toNat y3))++(x1.1.2.1.extract (Int.toNat (w64 (y3+1))) (Int.toNat ((x1.1.2.1.size:Int)))),l9))).bind fun y13=>
   some ((y13.1,y13.2))
  )
def zBZ (x1:((Int×ByteArray×(List (Int×Int×Int)))×(List (Int×ByteArray×(List (Int×Int×Int)))))):Option (ByteArray×((Int×ByteArray×(List (Int×Int×Int)))×(List (Int×ByteArray×(List (Int×Int×Int)))))):=
 bif (eqI ((x1.2.length:Int)) 0) then
  (
   some (((⟨#[110,111]⟩:ByteArray),x1))
  )
 else
  (
   (getI x1.2 (w64 (((x1.2.length:Int)) - 1))).bind fun e3=>
   (getI x1.2 (w64 (((x1.2.length:Int)) - 1))).bind fun e4=>
   (slc x1.2.length 0 (w64 (((x1.2.length:Int)) - 1))).bind fun u5=>
   some (((⟨#[111,107]⟩:ByteArray),(e4,subl x1.2 0 (w64 (((x1.2.length:Int)) - 1)))))
  )
def zCQ (a2:Int) (g1:(Int×Int×Int)) (k3:Int) (x7:Int):Nat→Int→Option (Unit ⊕ (Int×Int))
 |0,_=>none
 |n+1,y11=>
  bif (leI y11 k3) then
   (
    (zCf x7 y11).bind fun y15=>
    (bif (eqI y15 k3) then ((zAX x7 y11).bind fun y17=>some (eqI y17 1)) else some false).bind fun b18=>
    (bif b18 then ((zBI g1 x7 y11).bind fun y20=>(zAX y20 a2).bind fun y21=>some (eqI y21 1)) else some false).bind fun b22=>
    bif b22 then
     (
      some (.inr (((x7,y11))))
     )
    else
     (
      sI (w64 (y11+1)) fun y24=>
      zCQ a2 g1 k3 x7 n y24
     )
   )
  else
   (
    some (.inl ())
   )
def zC7 (a2:Int) (g1:(Int×Int×Int)) (k3:Int):Nat→Int→Option (Unit ⊕ (Int×Int))
 |0,_=>none
 |n+1,x7=>
  bif (leI x7 k3) then
   (
    (zCQ a2 g1 k3 x7 FU 0).bind fun qo13=>
    match qo13 with
    | .inr r=>some (.inr r)
    | .inl o13=>
     sI (w64 (x7+1)) fun x25=>
     zC7 a2 g1 k3 n x25
   )
  else
   (
    some (.inl ())
   )
def zC8 (a2:Int) (g1:(Int×Int×Int)):Nat→Int→Option (Unit ⊕ (Int×Int))
 |0,_=>none
 |n+1,k3=>
  bif (leI k3 100) then
   (
    (zC7 a2 g1 k3 FU 0).bind fun qo9=>
    match qo9 with
    | .inr r=>some (.inr r)
    | .inl o9=>
     sI (w64 (k3+1)) fun k26=>
     zC8 a2 g1 n k26
   )
  else
   (
    some (.inl ())
   )
def zCR (g1:(Int×Int×Int)) (a2:Int):Option (Int×Int):=
 (zC8 a2 g1 FU 1).bind fun qo5=>
 match qo5 with
 | .inr r=>some r
 | .inl o5=>
  some ((1,0))
def zGz (vn1:Int):Option Int:=
 bif (ltI 0 vn1) then
  (
   some 1
  )
 else
  (
   bif (ltI vn1 0) then
    (
     some (-1)
    )
   else
    (
     some 0
    )
  )
def zBv (vm2:Int):Nat→Int→Int→Int→Int→Option (Int×Int)
 |0,_,_,_,_=>none
 |n+1,vr4,next5,x6,y7=>
  bif (!eqI next5 0) then
   (
    (nz next5).bind fun z11=>
    sI (w64 (Int.tdiv vr4 next5)) fun q12=>
    sI (w64 (vr4 - (w64 (q12*next5)))) fun next13=>
    sI (w64 (x6 - (w64 (q12*y7)))) fun y14=>
    zBv vm2 n next5 next13 y7 y14
   )
  else
   (
    some (vr4,x6)
   )
def zCI (a1:Int) (vm2:Int):Option Int:=
 (jH a1 vm2).bind fun y3=>
 (zBv vm2 FU vm2 y3 0 1).bind fun o9=>
 bif (!eqI o9.1 1) then
  (
   some (-1)
  )
 else
  (
   (jH o9.2 vm2).bind fun y16=>
   some y16
  )
def zDG (a1:Int) (b2:Int):Option (Int×Int×Int):=
 (zAX a1 b2).bind fun y3=>
 bif (eqI b2 0) then
  (
   (zGz a1).bind fun y5=>
   some ((y3,y5,0))
  )
 else
  (
   (nz y3).bind fun z6=>
   (zCu b2).bind fun y7=>
   (nz y3).bind fun z8=>
   (zCI (w64 (Int.tdiv a1 y3)) (w64 (Int.tdiv y7 y3))).bind fun y9=>
   (nz b2).bind fun z10=>
   sI (w64 (Int.tdiv (w64 (y3 - (w64 (a1*y9)))) b2)) fun t11=>
   some ((y3,y9,t11))
  )
def zA4 (f1:(Int×Int×Int)) (x2:Int) (y3:Int):Option ((Int×Int×Int)×(Int×Int×Int×Int)):=
 (zDG x2 y3).bind fun y4=>
 (zBI f1 x2 y3).bind fun y5=>
 sI (w64 (0 - y4.2.2)) fun q6=>
 (zD4 f1 x2 y3 q6 y4.2.1).bind fun y7=>
 (jH y7 (w64 (2*y5))).bind fun y8=>
 (nz (w64 (2*y5))).bind fun z9=>
 sI (w64 (Int.tdiv (w64 (y8 - y7)) (w64 (2*y5)))) fun t10=>
 sI (w64 (q6+(w64 (x2*t10)))) fun f11=>
 sI (w64 (y4.2.1+(w64 (y3*t10)))) fun f12=>
 sI (w64 (y7+(w64 ((w64 (2*y5))*t10)))) fun b13=>
 (qN f1).bind fun y14=>
 (nz (w64 (4*y5))).bind fun z15=>
 sI (w64 (Int.tdiv (w64 ((w64 (b13*b13)) - y14)) (w64 (4*y5)))) fun f16=>
 some (((y5,b13,f16),(x2,f11,y3,f12)))
def zC0 (a1:Int) (vm2:Int) (b3:Int) (vn4:Int):Option (Int×Int×Bool):=
 (zAX vm2 vn4).bind fun y5=>
 (nz y5).bind fun z6=>
 bif (!eqI (Int.tmod (w64 (b3 - a1)) y5) 0) then
  (
   some ((0,0,false))
  )
 else
  (
   (nz y5).bind fun z8=>
   (nz y5).bind fun z9=>
   (nz y5).bind fun z10=>
   (zCI (w64 (Int.tdiv vm2 y5)) (w64 (Int.tdiv vn4 y5))).bind fun y11=>
   (nz y5).bind fun z12=>
   (jH (w64 ((w64 (Int.tdiv (w64 (b3 - a1)) y5))*y11)) (w64 (Int.tdiv vn4 y5))).bind fun y13=>
   (nz y5).bind fun z14=>
   sI (w64 ((w64 (Int.tdiv vm2 y5))*vn4)) fun all15=>
   (jH (w64 (a1+(w64 (vm2*y13)))) all15).bind fun y16=>
   some ((y16,all15,true))
  )
def zD5 (t1:Int):Option (Int×Int×Int×Int):=
 some ((1,t1,0,1))
def zCP (f1:(Int×Int×Int)) (g2:(Int×Int×Int)):Option ((Int×Int×Int)×(Int×Int×Int)×(Int×Int×Int×Int)×(Int×Int×Int×Int)):=
 (qD f1).bind fun y3=>
 (qD g2).bind fun y4=>
 (zCR y4.1 y3.1.1).bind fun y5=>
 (zA4 y4.1 y5.1 y5.2).bind fun y6=>
 (qP y4.2 y6.2).bind fun y7=>
 (jH y3.1.2.1 (w64 (2*y3.1.1))).bind fun y8=>
 (zC0 y8 (w64 (2*y3.1.1)) y6.1.2.1 (w64 (2*y6.1.1))).bind fun y9=>
 (nz (w64 (2*y3.1.1))).bind fun z10=>
 (zD5 (w64 (Int.tdiv (w64 (y9.1 - y3.1.2.1)) (w64 (2*y3.1.1))))).bind fun y11=>
 (qP y3.2 y11).bind fun y12=>
 (nz (w64 (2*y6.1.1))).bind fun z13=>
 (zD5 (w64 (Int.tdiv (w64 (y9.1 - y6.1.2.1)) (w64 (2*y6.1.1))))).bind fun y14=>
 (qP y7 y14).bind fun y15=>
 (qN y3.1).bind fun y16=>
 (nz (w64 ((w64 (4*y3.1.1))*y6.1.1))).bind fun z17=>
 sI (w64 (Int.tdiv (w64 ((w64 (y9.1*y9.1)) - y16)) (w64 ((w64 (4*y3.1.1))*y6.1.1)))) fun cc18=>
 sI (w64 (y3.1.1*cc18)) fun f19=>
 sI (w64 (y6.1.1*cc18)) fun f20=>
 some (((y3.1.1,y9.1,f20),(y6.1.1,y9.1,f19),y12,y15))
def zEJ (a1:(Int×Int×Int)) (e2:(Int×Int×Int)):Option (Int×Int×Int):=
 (nz e2.1).bind fun z3=>
 sI (w64 (a1.1*e2.1)) fun f4=>
 sI (w64 (Int.tdiv a1.2.2 e2.1)) fun f5=>
 some ((f4,a1.2.1,f5))
def zAI (f1:(Int×Int×Int)) (g2:(Int×Int×Int)):Option (Int×Int×Int):=
 (zCP f1 g2).bind fun y3=>
 (zEJ y3.1 y3.2.1).bind fun y4=>
 (jG y4).bind fun y5=>
 some y5
def zDS (f1:(Int×Int×Int)):Option (Int×Int×Int):=
 sI (w64 (0 - f1.2.1)) fun f2=>
 some ((f1.1,f2,f1.2.2))
def zCp (f1:(Int×Int×Int)):Option (Int×Int×Int):=
 (zDS f1).bind fun y2=>
 (jG y2).bind fun y3=>
 some y3
def zDk (d1:Int):Option (Int×Int×Int):=
 (jH d1 2).bind fun y2=>
 sI (w64 (Int.tdiv (w64 (y2 - d1)) 4)) fun f3=>
 some ((1,y2,f3))
def zB1:Nat→Int→Int→Int→Int→Int→Int→Int→Option (Int×Int×Int)
 |0,_,_,_,_,_,_,_=>none
 |n+1,k10,f11,f12,f13,f14,f15,f16=>
  bif (ltI 0 k10) then
   (
    (
     bif (eqI (Int.tmod k10 2) 1) then
      (
       (zAI ((f11,f12,f13)) ((f14,f15,f16))).bind fun y22=>
       some (y22.1,y22.2.1,y22.2.2)
      )
     else
      (
       some (f11,f12,f13)
      )
    ).bind fun j20=>
    (zAI ((f14,f15,f16)) ((f14,f15,f16))).bind fun y23=>
    sI (w64 (Int.tdiv k10 2)) fun k24=>
    zB1 n k24 j20.1 j20.2.1 j20.2.2 y23.1 y23.2.1 y23.2.2
   )
  else
   (
    some (f11,f12,f13)
   )
def zCo (f1:(Int×Int×Int)) (k2:Int):Option (Int×Int×Int):=
 (jG f1).bind fun y3=>
 (
  bif (ltI k2 0) then
   (
    (zCp y3).bind fun y6=>
    sI (w64 (0 - k2)) fun k7=>
    some (k7,y6.1,y6.2.1,y6.2.2)
   )
  else
   (
    some (k2,y3.1,y3.2.1,y3.2.2)
   )
 ).bind fun j4=>
 (qN j4.2).bind fun y8=>
 (zDk y8).bind fun y9=>
 (zB1 FU j4.1 y9.1 y9.2.1 y9.2.2 j4.2.1 j4.2.2.1 j4.2.2.2).bind fun o18=>
 some o18
def zAG:Nat→Int→Option ByteArray
 |0,_=>none
 |n+1,vn1=>
  bif (ltI vn1 10) then
   (
    some (zDB ([IntKind.u8.wrap (w64 (48+vn1))]))
   )
  else
   (
    (zAG n (w64 (Int.tdiv vn1 10))).bind fun y3=>
    (catR y3 (zDB ([IntKind.u8.wrap (w64 (48+(Int.tmod vn1 10)))]))).bind fun u4=>
    some (y3++(zDB ([IntKind.u8.wrap (w64 (48+(Int.tmod vn1 10)))])))
   )
def zAn (vn1:Int):Option ByteArray:=
 bif (ltI vn1 0) then
  (
   (zAG FU (w64 (0 - vn1))).bind fun y3=>
   (catR ((⟨#[45]⟩:ByteArray)) y3).bind fun u4=>
   some (((⟨#[45]⟩:ByteArray))++y3)
  )
 else
  (
   (zAG FU vn1).bind fun y5=>
   some y5
  )
def zAe (f1:(Int×Int×Int)):Option ByteArray:=
 (zAn f1.1).bind fun y2=>
 (catR ((⟨#[40]⟩:ByteArray)) y2).bind fun u3=>
 (catR (((⟨#[40]⟩:ByteArray))++y2) ((⟨#[44]⟩:ByteArray))).bind fun u4=>
 (zAn f1.2.1).bind fun y5=>
 (catR ((((⟨#[40]⟩:ByteArray))++y2)++((⟨#[44]⟩:ByteArray))) y5).bind fun u6=>
 (catR (((((⟨#[40]⟩:ByteArray))++y2)++((⟨#[44]⟩:ByteArray)))++y5) ((⟨#[44]⟩:ByteArray))).bind fun u7=>
 (zAn f1.2.2).bind fun y8=>
 (catR ((((((⟨#[40]⟩:ByteArray))++y2)++((⟨#[44]⟩:ByteArray)))++y5)++((⟨#[44]⟩:ByteArray))) y8).bind fun u9=>
 (catR (((((((⟨#[40]⟩:ByteArray))++y2)++((⟨#[44]⟩:ByteArray)))++y5)++((⟨#[44]⟩:ByteArray)))++y8) ((⟨#[41]⟩:ByteArray))).bind fun u10=>
 some ((((((((⟨#[40]⟩:ByteArray))++y2)++((⟨#[44]⟩:ByteArray)))++y5)++((⟨#[44]⟩:ByteArray)))++y8)++((⟨#[41]⟩:ByteArray)))
def zB0 (a2:Int) (d1:Int):Nat→Int→List (Int×Int×Int)→Option (List (Int×Int×Int))
 |0,_,_=>none
 |n+1,b8,l9=>
  bif (leI b8 a2) then
   (
    (nz (w64 (4*a2))).bind fun z13=>
    sI (w64 (Int.tdiv (w64 ((w64 (b8*b8)) - d1)) (w64 (4*a2)))) fun f14=>
    (qN ((a2,b8,f14))).bind fun y15=>
    (bif (eqI y15 d1) then ((zC5 ((a2,b8,f14))).bind fun y17=>some y17) else some false).bind fun b18=>
    bif b18 then
     (
      (room (l9.length+([(a2,b8,f14)]).length)).bind fun u20=>
      sI (w64 (b8+1)) fun b21=>
      zB0 a2 d1 n b21 (l9++([(a2,b8,f14)]))
     )
    else
     (
      sI (w64 (b8+1)) fun b22=>
      zB0 a2 d1 n b22 l9
     )
   )
  else
   (
    some l9
   )
def zBr (d1:Int):Nat→Int→List (Int×Int×Int)→Option (List (Int×Int×Int))
 |0,_,_=>none
 |n+1,a2,l3=>
  bif (leI (w64 ((w64 (3*a2))*a2)) (w64 (0 - d1))) then
   (
    sI (w64 (1 - a2)) fun b7=>
    (zB0 a2 d1 FU b7 l3).bind fun o11=>
    sI (w64 (a2+1)) fun a23=>
    zBr d1 n a23 o11
   )
  else
   (
    some l3
   )
def zEg (d1:Int):Option (List (Int×Int×Int)):=
 (zBr d1 FU 1 (([]:List (Int×Int×Int)))).bind fun o5=>
 some o5
def zAW (y2:List (Int×Int×Int)):Nat→Int→List (Int×Int×Int)→Option (List (Int×Int×Int))
 |0,_,_=>none
 |n+1,t3,l4=>
  bif (ltI t3 ((y2.length:Int))) then
   (
    (getI y2 t3).bind fun e8=>
    (getI y2 t3).bind fun e9=>
    (jQ e9).bind fun y10=>
    bif (eqI y10 1) then
     (
      (room (l4.length+([e9]).length)).bind fun u12=>
      sI (w64 (t3+1)) fun t13=>
      zAW y2 n t13 (l4++([e9]))
     )
    else
     (
      sI (w64 (t3+1)) fun t14=>
      zAW y2 n t14 l4
     )
   )
  else
   (
    some l4
   )
def zCE (d1:Int):Option (List (Int×Int×Int)):=
 (zEg d1).bind fun y2=>
 (zAW y2 FU 0 (([]:List (Int×Int×Int)))).bind fun o6=>
 some o6
def zBi (f2:(Int×Int×Int)) (l1:List (Int×Int×Int)):Nat→Int→Option (Unit ⊕ Int)
 |0,_=>none
 |n+1,t3=>
  bif (ltI t3 ((l1.length:Int))) then
   (
    (getI l1 t3).bind fun e7=>
    (some (((e7.1==f2.1)&&((e7.2.1==f2.2.1)&&(e7.2.2==f2.2.2))))).bind fun t8=>
    bif t8 then
     (
      some (.inr t3)
     )
    else
     (
      sI (w64 (t3+1)) fun t10=>
      zBi f2 l1 n t10
     )
   )
  else
   (
    some (.inl ())
   )
def zD3 (l1:List (Int×Int×Int)) (f2:(Int×Int×Int)):Option Int:=
 (zBi f2 l1 FU 0).bind fun qo5=>
 match qo5 with
 | .inr r=>some r
 | .inl o5=>
  some (-1)
def zBj (y2:(Int×Int×Int)):Nat→Int→Int→Int→Int→Option Int
 |0,_,_,_,_=>none
 |n+1,k3,f4,f5,f6=>
  (qN y2).bind fun y9=>
  (zDk y9).bind fun y10=>
  bif (!((f4==y10.1)&&((f5==y10.2.1)&&(f6==y10.2.2)))) then
   (
    (zAI ((f4,f5,f6)) y2).bind fun y12=>
    sI (w64 (k3+1)) fun k13=>
    zBj y2 n k13 y12.1 y12.2.1 y12.2.2
   )
  else
   (
    some k3
   )
def zD6 (f1:(Int×Int×Int)):Option Int:=
 (jG f1).bind fun y2=>
 (zBj y2 FU 1 y2.1 y2.2.1 y2.2.2).bind fun o8=>
 some o8
def zEP (f1:(Int×Int×Int)) (vr3:Int) (x6:Int) (y2:Int):Nat→Int→Option (Unit ⊕ Int)
 |0,_=>none
 |n+1,y10=>
  bif (leI y10 vr3) then
   (
    (zBI f1 x6 y10).bind fun y14=>
    (bif (bif (eqI x6 vr3) then true else (eqI y10 vr3)) then ((zAX y14 (w64 (2*y2))).bind fun y17=>some (eqI y17 1)) else some false).bind fun b18=>
    bif b18 then
     (
      some (.inr y14)
     )
    else
     (
      sI (w64 (y10+1)) fun y20=>
      zEP f1 vr3 x6 y2 n y20
     )
   )
  else
   (
    some (.inl ())
   )
def zEi (f1:(Int×Int×Int)) (vr3:Int) (y2:Int):Nat→Int→Option (Unit ⊕ Int)
 |0,_=>none
 |n+1,x6=>
  bif (leI x6 vr3) then
   (
    (zEP f1 vr3 x6 y2 FU 0).bind fun qo12=>
    match qo12 with
    | .inr r=>some (.inr r)
    | .inl o12=>
     sI (w64 (x6+1)) fun x21=>
     zEi f1 vr3 y2 n x21
   )
  else
   (
    some (.inl ())
   )
def zEj (f1:(Int×Int×Int)) (y2:Int):Nat→Int→Option (Unit ⊕ Int)
 |0,_=>none
 |n+1,vr3=>
  (zEi f1 vr3 y2 FU 0).bind fun qo8=>
  match qo8 with
  | .inr r=>some (.inr r)
  | .inl o8=>
   sI (w64 (vr3+1)) fun vr22=>
   zEj f1 y2 n vr22
def zGR (f1:(Int×Int×Int)):Option Int:=
 (qN f1).bind fun y2=>
 (zEj f1 y2 FU 1).bind fun qo5=>
 match qo5 with
 | .inr r=>some r
 | .inl _=>none
def zD2 (d3:Int):Nat→Int→List Int→Option (Int×(List Int))
 |0,_,_=>none
 |n+1,vn8,l9=>
  (nz d3).bind fun z12=>
  bif (eqI (Int.tmod vn8 d3) 0) then
   (
    (room (l9.length+([d3]).length)).bind fun u14=>
    (nz d3).bind fun z15=>
    sI (w64 (Int.tdiv vn8 d3)) fun vn16=>
    zD2 d3 n vn16 (l9++([d3]))
   )
  else
   (
    some (vn8,l9)
   )
def zDx:Nat→Int→Int→List Int→Option (Int×(List Int))
 |0,_,_,_=>none
 |n+1,vn2,d3,l4=>
  bif (leI (w64 (d3*d3)) vn2) then
   (
    (zD2 d3 FU vn2 l4).bind fun o11=>
    sI (w64 (d3+1)) fun d17=>
    zDx n o11.1 d17 o11.2
   )
  else
   (
    some (vn2,l4)
   )
def zFJ (vn1:Int):Option (List Int):=
 (zDx FU vn1 2 (([]:List Int))).bind fun o6=>
 bif (ltI 1 o6.1) then
  (
   (room (o6.2.length+([o6.1]).length)).bind fun u19=>
   some (o6.2++([o6.1]))
  )
 else
  (
   some o6.2
  )
def zFh (l1:List Int) (vn2:Int):Nat→Int→Option Int
 |0,_=>none
 |n+1,k3=>
  (bif (ltI k3 ((l1.length:Int))) then ((getI l1 k3).bind fun e7=>some (ltI e7 vn2)) else some false).bind fun b8=>
  bif b8 then
   (
    sI (w64 (k3+1)) fun k10=>
    zFh l1 vn2 n k10
   )
  else
   (
    some k3
   )
def zHk (l1:List Int) (vn2:Int):Option (List Int):=
 (zFh l1 vn2 FU 0).bind fun o5=>
 (bif (ltI o5 ((l1.length:Int))) then ((getI l1 o5).bind fun e12=>some (eqI e12 vn2)) else some false).bind fun b13=>
 bif b13 then
  (
   some l1
  )
 else
  (
   (slc l1.length 0 o5).bind fun u15=>
   (room ((([]:List Int)).length+(subl l1 0 o5).length)).bind fun u16=>
   (room (((([]:List Int))++(subl l1 0 o5)).length+([vn2]).length)).bind fun u17=>
   (slc l1.length o5 ((l1.length:Int))).bind fun u18=>
   (room ((((([]:List Int))++(subl l1 0 o5))++([vn2])).length+(subl l1 o5 ((l1.length:Int))).length)).bind fun u19=>
   (some ((((([]:List Int))++(subl l1 0 o5))++([vn2]))++(subl l1 o5 ((l1.length:Int))))).bind fun l20=>
   some l20
  )
def zEO (y2:List Int):Nat→List Int→Int→Option (List Int)
 |0,_,_=>none
 |n+1,out3,t4=>
  bif (ltI t4 ((y2.length:Int))) then
   (
    (getI y2 t4).bind fun e8=>
    (getI y2 t4).bind fun e9=>
    (zHk out3 e9).bind fun y10=>
    sI (w64 (t4+1)) fun t11=>
    zEO y2 n y10 t11
   )
  else
   (
    some out3
   )
def zFg (vn1:Int):Option (List Int):=
 (zFJ vn1).bind fun y2=>
 (zEO y2 FU (([]:List Int)) 0).bind fun o6=>
 some o6
def zEK (d1:Int) (y2:List Int):Nat→Int→List (Int×Int)→Option (List (Int×Int))
 |0,_,_=>none
 |n+1,t3,l4=>
  bif (ltI t3 ((y2.length:Int))) then
   (
    (getI y2 t3).bind fun e8=>
    bif (ltI 2 e8) then
     (
      (room (l4.length+([(1,e8)]).length)).bind fun u10=>
      sI (w64 (t3+1)) fun t11=>
      zEK d1 y2 n t11 (l4++([(1,e8)]))
     )
    else
     (
      sI (w64 (t3+1)) fun t12=>
      zEK d1 y2 n t12 l4
     )
   )
  else
   (
    some l4
   )
def zHm (d1:Int):Option (List (Int×Int)):=
 (zFg (w64 (0 - d1))).bind fun y2=>
 (zEK d1 y2 FU 0 (([]:List (Int×Int)))).bind fun o6=>
 bif (!eqI (Int.tmod d1 2) 0) then
  (
   some o6
  )
 else
  (
   sI (w64 (Int.tdiv (w64 (0 - d1)) 4)) fun vn14=>
   bif (eqI (Int.tmod vn14 4) 3) then
    (
     some o6
    )
   else
    (
     (some (bif (eqI (Int.tmod vn14 4) 1) then true else (eqI (Int.tmod vn14 8) 4))).bind fun t17=>
     bif t17 then
      (
       (room (o6.length+([(2,0)]).length)).bind fun u19=>
       some (o6++([(2,0)]))
      )
     else
      (
       bif (eqI (Int.tmod vn14 8) 2) then
        (
         (room (o6.length+([(4,0)]).length)).bind fun u21=>
         some (o6++([(4,0)]))
        )
       else
        (
         bif (eqI (Int.tmod vn14 8) 6) then
          (
           (room (o6.length+([(3,0)]).length)).bind fun u23=>
           some (o6++([(3,0)]))
          )
         else
          (
           (room (o6.length+([(2,0),(3,0)]).length)).bind fun u24=>
           some (o6++([(2,0),(3,0)]))
          )
        )
      )
    )
  )
def zHj (vs1:(Int×Int×Int)):Option Bool:=
 some (bif (eqI vs1.1 0) then true else (eqI vs1.1 1))
def zFx (a1:Int):Option Int:=
 (jH a1 8).bind fun y2=>
 bif (eqI y2 1) then
  (
   bif (eqI y2 1) then
    (
     some 1
    )
   else
    (
     bif (eqI y2 3) then
      (
       bif (eqI y2 3) then
        (
         some (-1)
        )
       else
        (
         some 0
        )
      )
     else
      (
       bif (eqI y2 5) then
        (
         some (-1)
        )
       else
        (
         some 0
        )
      )
    )
  )
 else
  (
   bif (eqI y2 7) then
    (
     some 1
    )
   else
    (
     bif (eqI y2 3) then
      (
       bif (eqI y2 3) then
        (
         some (-1)
        )
       else
        (
         some 0
        )
      )
     else
      (
       bif (eqI y2 5) then
        (
         some (-1)
        )
       else
        (
         some 0
        )
      )
    )
  )
def zEM (vs1:(Int×Int×Int)):Option (Int×Int×Int):=
 (zAu vs1.1 0 (w64 (vs1.2.1 - 1))).bind fun y2=>
 bif (!y2) then
  (
   (jH vs1.1 vs1.2.1).bind fun y4=>
   some ((y4,vs1.2.1,vs1.2.2))
  )
 else
  (
   bif (eqI (Int.tmod vs1.1 2) 0) then
    (
     sI (w64 (Int.tdiv vs1.1 2)) fun f6=>
     (zFx vs1.2.1).bind fun y7=>
     sI (w64 (vs1.2.2*y7)) fun f8=>
     some ((f6,vs1.2.1,f8))
    )
   else
    (
     (
      (some (bif (eqI (Int.tmod vs1.1 4) 3) then (eqI (Int.tmod vs1.2.1 4) 3) else false)).bind fun t11=>
      bif t11 then
       (
        sI (w64 (0 - vs1.2.2)) fun f13=>
        some f13
       )
      else
       (
        some vs1.2.2
       )
     ).bind fun j9=>
     some ((vs1.2.1,vs1.1,j9))
    )
  )
def zEN:Nat→Int→Int→Int→Option (Int×Int×Int)
 |0,_,_,_=>none
 |n+1,f3,f4,f5=>
  (zHj ((f3,f4,f5))).bind fun y8=>
  bif (!y8) then
   (
    (zEM ((f3,f4,f5))).bind fun y10=>
    zEN n y10.1 y10.2.1 y10.2.2
   )
  else
   (
    some (f3,f4,f5)
   )
def zFf (a1:Int) (vn2:Int):Option Int:=
 (zEN FU a1 vn2 1).bind fun o7=>
 bif (bif (eqI o7.1 0) then (ltI 1 o7.2.1) else false) then
  (
   some 0
  )
 else
  (
   some o7.2.2
  )
def zIm (x1:(Int×Int)) (vn2:Int):Option Int:=
 bif (eqI x1.1 1) then
  (
   (zFf vn2 x1.2).bind fun y4=>
   some y4
  )
 else
  (
   bif (eqI (Int.tmod vn2 2) 0) then
    (
     some 0
    )
   else
    (
     (jH vn2 4).bind fun y6=>
     (zFx vn2).bind fun y7=>
     sI (w64 (2 - y6)) fun delta8=>
     bif (eqI x1.1 2) then
      (
       some delta8
      )
     else
      (
       bif (eqI x1.1 3) then
        (
         some y7
        )
       else
        (
         sI (w64 (delta8*y7)) fun t11=>
         some t11
        )
      )
    )
  )
def zFK (vn2:Int) (y3:List (Int×Int)):Nat→Int→List Int→Option (List Int)
 |0,_,_=>none
 |n+1,t4,l5=>
  bif (ltI t4 ((y3.length:Int))) then
   (
    (getI y3 t4).bind fun e9=>
    (getI y3 t4).bind fun e10=>
    (zIm e10 vn2).bind fun y11=>
    (room (l5.length+([y11]).length)).bind fun u12=>
    sI (w64 (t4+1)) fun t13=>
    zFK vn2 y3 n t13 (l5++([y11]))
   )
  else
   (
    some l5
   )
def zHA (d1:Int) (vn2:Int):Option (List Int):=
 (zHm d1).bind fun y3=>
 (zFK vn2 y3 FU 0 (([]:List Int))).bind fun o7=>
 some o7
def zE1 (f1:(Int×Int×Int)):Option (List Int):=
 (qN f1).bind fun y2=>
 (jG f1).bind fun y3=>
 (zGR y3).bind fun y4=>
 (zHA y2 y4).bind fun y5=>
 some y5
def zEe (vn1:Int):Option Bool:=
 (zAu vn1 1 10000).bind fun y2=>
 some y2
def zCH (vn1:Int):Nat→Int→Int→Option Int
 |0,_,_=>none
 |n+1,lo2,hi3=>
  bif (ltI lo2 hi3) then
   (
    sI (w64 (Int.tdiv (w64 ((w64 (lo2+hi3))+1)) 2)) fun mid7=>
    bif (leI (w64 (mid7*mid7)) vn1) then
     (
      zCH vn1 n mid7 hi3
     )
    else
     (
      sI (w64 (mid7 - 1)) fun hi9=>
      zCH vn1 n lo2 hi9
     )
   )
  else
   (
    some lo2
   )
def zEC (vn1:Int):Option Int:=
 (zCH vn1 FU 0 1000000000).bind fun o5=>
 some o5
def zCZ (l1:List (Int×Int)) (p2:(Int×Int)):Nat→Int→Option (Unit ⊕ Bool)
 |0,_=>none
 |n+1,t3=>
  bif (ltI t3 ((l1.length:Int))) then
   (
    (getI l1 t3).bind fun e7=>
    bif (((e7.1==p2.1)&&(e7.2==p2.2))) then
     (
      some (.inr true)
     )
    else
     (
      sI (w64 (t3+1)) fun t9=>
      zCZ l1 p2 n t9
     )
   )
  else
   (
    some (.inl ())
   )
def zCs (l1:List (Int×Int)) (p2:(Int×Int)):Option Bool:=
 (zCZ l1 p2 FU 0).bind fun qo5=>
 match qo5 with
 | .inr r=>some r
 | .inl o5=>
  some false
def zCY (l1:List (Int×Int)) (p2:(Int×Int)):Nat→Int→Option Int
 |0,_=>none
 |n+1,k3=>
  (bif (ltI k3 ((l1.length:Int))) then ((getI l1 k3).bind fun e7=>(bif (ltI e7.1 p2.1) then some true else ((getI l1 k3).bind fun e9=>(bif (eqI e9.1 p2.1) then ((getI l1 k3).bind fun e11=>some (ltI e11.2 p2.2)) else some false).bind fun b12=>some b12)).bind fun b13=>some b13) else some false).bind fun b14=>
  bif b14 then
   (
    sI (w64 (k3+1)) fun k16=>
    zCY l1 p2 n k16
   )
  else
   (
    some k3
   )
def zDi (l1:List (Int×Int)) (p2:(Int×Int)):Option (List (Int×Int)):=
 (zCY l1 p2 FU 0).bind fun o5=>
 (slc l1.length 0 o5).bind fun u17=>
 (room ((([]:List (Int×Int))).length+(subl l1 0 o5).length)).bind fun u18=>
 (room (((([]:List (Int×Int)))++(subl l1 0 o5)).length+([p2]).length)).bind fun u19=>
 (slc l1.length o5 ((l1.length:Int))).bind fun u20=>
 (room ((((([]:List (Int×Int)))++(subl l1 0 o5))++([p2])).length+(subl l1 o5 ((l1.length:Int))).length)).bind fun u21=>
 (some ((((([]:List (Int×Int)))++(subl l1 0 o5))++([p2]))++(subl l1 o5 ((l1.length:Int))))).bind fun l22=>
 some l22
def jZ (e21:Int) (f1:(Int×Int×Int)) (t14:Int) (t16:Int) (t22:Int) (vn2:Int) (y10:Int) (y3:Int) (y4:Int):Nat→List (Int×Int)→Int→Option (List (Int×Int))
 |0,_,_=>none
 |n+1,out23,t24=>
  bif (ltI t24 t22) then
   (
    (getI ([y10,w64 (0 - y10)]:List Int) t24).bind fun e28=>
    (getI ([y10,w64 (0 - y10)]:List Int) t24).bind fun e29=>
    (nz (w64 (2*f1.1))).bind fun z30=>
    (some (eqI (Int.tmod (w64 (e29 - (w64 (f1.2.1*e21)))) (w64 (2*f1.1))) 0)).bind fun t31=>
    bif t31 then
     (
      (nz (w64 (2*f1.1))).bind fun z33=>
      sI (w64 (Int.tdiv (w64 (e29 - (w64 (f1.2.1*e21)))) (w64 (2*f1.1)))) fun f34=>
      (zCs out23 ((f34,e21))).bind fun y35=>
      bif (!y35) then
       (
        (zDi out23 ((f34,e21))).bind fun y37=>
        sI (w64 (t24+1)) fun t38=>
        jZ e21 f1 t14 t16 t22 vn2 y10 y3 y4 n y37 t38
       )
      else
       (
        sI (w64 (t24+1)) fun t39=>
        jZ e21 f1 t14 t16 t22 vn2 y10 y3 y4 n out23 t39
       )
     )
    else
     (
      sI (w64 (t24+1)) fun t40=>
      jZ e21 f1 t14 t16 t22 vn2 y10 y3 y4 n out23 t40
     )
   )
  else
   (
    some out23
   )
def zBS (f1:(Int×Int×Int)) (t14:Int) (vn2:Int) (y10:Int) (y3:Int) (y4:Int):Nat→List (Int×Int)→Int→Option (List (Int×Int))
 |0,_,_=>none
 |n+1,out15,t16=>
  bif (ltI t16 t14) then
   (
    (getI ([y4,w64 (0 - y4)]:List Int) t16).bind fun e20=>
    (getI ([y4,w64 (0 - y4)]:List Int) t16).bind fun e21=>
    sI ((([y10,w64 (0 - y10)]).length:Int)) fun t22=>
    (jZ e21 f1 t14 t16 t22 vn2 y10 y3 y4 FU out15 0).bind fun o26=>
    sI (w64 (t16+1)) fun t41=>
    zBS f1 t14 vn2 y10 y3 y4 n o26 t41
   )
  else
   (
    some out15
   )
def zCl (f1:(Int×Int×Int)) (vn2:Int) (y3:Int):Nat→Int→List (Int×Int)→Option (List (Int×Int))
 |0,_,_=>none
 |n+1,y4,out5=>
  (some (leI (w64 ((w64 ((w64 (0 - y3))*y4))*y4)) (w64 ((w64 (4*f1.1))*vn2)))).bind fun t8=>
  bif t8 then
   (
    (zEC (w64 ((w64 ((w64 (y3*y4))*y4))+(w64 ((w64 (4*f1.1))*vn2))))).bind fun y10=>
    (some (!eqI (w64 (y10*y10)) (w64 ((w64 ((w64 (y3*y4))*y4))+(w64 ((w64 (4*f1.1))*vn2)))))).bind fun t11=>
    bif t11 then
     (
      sI (w64 (y4+1)) fun y13=>
      zCl f1 vn2 y3 n y13 out5
     )
    else
     (
      sI ((([y4,w64 (0 - y4)]).length:Int)) fun t14=>
      (zBS f1 t14 vn2 y10 y3 y4 FU out5 0).bind fun o18=>
      sI (w64 (y4+1)) fun y42=>
      zCl f1 vn2 y3 n y42 o18
     )
   )
  else
   (
    some out5
   )
def zE0 (f1:(Int×Int×Int)) (vn2:Int):Option (List (Int×Int)):=
 (qN f1).bind fun y3=>
 (zCl f1 vn2 y3 FU 0 (([]:List (Int×Int)))).bind fun o7=>
 some o7
def zAJ (f1:(Int×Int×Int)) (vn2:Int):Option (Int×Bool):=
 (zCe f1).bind fun y3=>
 (bif (!y3) then some true else ((zEe vn2).bind fun y5=>some (!y5))).bind fun b6=>
 bif b6 then
  (
   some ((0,false))
  )
 else
  (
   (zE0 f1 vn2).bind fun y8=>
   some (((y8.length:Int),true))
  )
def zHl (vm1:(Int×Int×Int×Int)):Option Int:=
 sI (w64 ((w64 (vm1.1*vm1.2.2.2)) - (w64 (vm1.2.1*vm1.2.2.1)))) fun t2=>
 some t2
def zDj (vm1:(Int×Int×Int×Int)):Option (Int×Int×Int×Int):=
 (zHl vm1).bind fun y2=>
 sI (w64 (y2*vm1.2.2.2)) fun f3=>
 sI (w64 ((w64 (0 - y2))*vm1.2.1)) fun f4=>
 sI (w64 ((w64 (0 - y2))*vm1.2.2.1)) fun f5=>
 sI (w64 (y2*vm1.1)) fun f6=>
 some ((f3,f4,f5,f6))
def zDH (vm1:(Int×Int×Int×Int)):Option Bool:=
 (zAc vm1.1).bind fun y2=>
 (bif y2 then ((zAc vm1.2.1).bind fun y4=>some y4) else some false).bind fun b5=>
 (bif b5 then ((zAc vm1.2.2.1).bind fun y7=>some y7) else some false).bind fun b8=>
 (bif b8 then ((zAc vm1.2.2.2).bind fun y10=>some y10) else some false).bind fun b11=>
 some b11
def zAf (f1:(Int×Int×Int)) (g2:(Int×Int×Int)):Option ((Int×Int×Int×Int)×Bool):=
 (zAH f1).bind fun y3=>
 (bif (!y3) then some true else ((zAH g2).bind fun y5=>some (!y5))).bind fun b6=>
 bif b6 then
  (
   some (((0,0,0,0),false))
  )
 else
  (
   (qD f1).bind fun y8=>
   (qD g2).bind fun y9=>
   (zDj y9.2).bind fun y10=>
   (qP y8.2 y10).bind fun y11=>
   (bif (!((y8.1.1==y9.1.1)&&((y8.1.2.1==y9.1.2.1)&&(y8.1.2.2==y9.1.2.2)))) then some true else ((zDH y11).bind fun y13=>some (!y13))).bind fun b14=>
   bif b14 then
    (
     some (((0,0,0,0),false))
    )
   else
    (
     some ((y11,true))
    )
  )
def zA3 (vm1:(Int×Int×Int×Int)):Option ByteArray:=
 (zAn vm1.1).bind fun y2=>
 (catR ((⟨#[91]⟩:ByteArray)) y2).bind fun u3=>
 (catR (((⟨#[91]⟩:ByteArray))++y2) ((⟨#[44]⟩:ByteArray))).bind fun u4=>
 (zAn vm1.2.1).bind fun y5=>
 (catR ((((⟨#[91]⟩:ByteArray))++y2)++((⟨#[44]⟩:ByteArray))) y5).bind fun u6=>
 (catR (((((⟨#[91]⟩:ByteArray))++y2)++((⟨#[44]⟩:ByteArray)))++y5) ((⟨#[59]⟩:ByteArray))).bind fun u7=>
 (zAn vm1.2.2.1).bind fun y8=>
 (catR ((((((⟨#[91]⟩:ByteArray))++y2)++((⟨#[44]⟩:ByteArray)))++y5)++((⟨#[59]⟩:ByteArray))) y8).bind fun u9=>
 (catR (((((((⟨#[91]⟩:ByteArray))++y2)++((⟨#[44]⟩:ByteArray)))++y5)++((⟨#[59]⟩:ByteArray)))++y8) ((⟨#[44]⟩:ByteArray))).bind fun u10=>
 (zAn vm1.2.2.2).bind fun y11=>
 (catR ((((((((⟨#[91]⟩:ByteArray))++y2)++((⟨#[44]⟩:ByteArray)))++y5)++((⟨#[59]⟩:ByteArray)))++y8)++((⟨#[44]⟩:ByteArray))) y11).bind fun u12=>
 (catR (((((((((⟨#[91]⟩:ByteArray))++y2)++((⟨#[44]⟩:ByteArray)))++y5)++((⟨#[59]⟩:ByteArray)))++y8)++((⟨#[44]⟩:ByteArray)))++y11) ((⟨#[93]⟩:ByteArray))).bind fun u13=>
 some ((((((((((⟨#[91]⟩:ByteArray))++y2)++((⟨#[44]⟩:ByteArray)))++y5)++((⟨#[59]⟩:ByteArray)))++y8)++((⟨#[44]⟩:ByteArray)))++y11)++((⟨#[93]⟩:ByteArray)))
def zAt (l1:List ByteArray):Nat→ByteArray→Int→Option ByteArray
 |0,_,_=>none
 |n+1,out2,t3=>
  bif (ltI t3 ((l1.length:Int))) then
   (
    (getI l1 t3).bind fun e7=>
    bif (ltI 0 t3) then
     (
      (catR out2 ((⟨#[32]⟩:ByteArray))).bind fun u9=>
      (catR (out2++((⟨#[32]⟩:ByteArray))) e7).bind fun u10=>
      sI (w64 (t3+1)) fun t11=>
      zAt l1 n ((out2++((⟨#[32]⟩:ByteArray)))++e7) t11
     )
    else
     (
      (catR out2 e7).bind fun u12=>
      sI (w64 (t3+1)) fun t13=>
      zAt l1 n (out2++e7) t13
     )
   )
  else
   (
    some out2
   )
def zDM (l1:List ByteArray):Option ByteArray:=
 (zAt l1 FU ((⟨#[]⟩:ByteArray)) 0).bind fun o5=>
 some o5
def jU (f1:(Int×Int×Int)) (g2:(Int×Int×Int)):Option (ByteArray×Bool):=
 (zAf f1 g2).bind fun y3=>
 bif (!y3.2) then
  (
   some (((⟨#[]⟩:ByteArray),false))
  )
 else
  (
   (zAe f1).bind fun y5=>
   (zAe g2).bind fun y6=>
   (zA3 y3.1).bind fun y7=>
   (zDM ([(⟨#[101,113,117,105,118,97,108,101,110,116]⟩:ByteArray),y5,y6,y7])).bind fun y8=>
   some ((y8,true))
  )
def zAA (f1:(Int×Int×Int)) (g2:(Int×Int×Int)):Option (ByteArray×Bool):=
 (zAH f1).bind fun y3=>
 (bif (!y3) then some true else ((zAH g2).bind fun y5=>some (!y5))).bind fun b6=>
 bif b6 then
  (
   some (((⟨#[]⟩:ByteArray),false))
  )
 else
  (
   (qD f1).bind fun y8=>
   (qD g2).bind fun y9=>
   (some (((y8.1.1==y9.1.1)&&((y8.1.2.1==y9.1.2.1)&&(y8.1.2.2==y9.1.2.2))))).bind fun t10=>
   bif t10 then
    (
     some (((⟨#[]⟩:ByteArray),false))
    )
   else
    (
     (zAe f1).bind fun y12=>
     (zA3 y8.2).bind fun y13=>
     (zAe y8.1).bind fun y14=>
     (zAe g2).bind fun y15=>
     (zA3 y9.2).bind fun y16=>
     (zAe y9.1).bind fun y17=>
     (zDM ([(⟨#[100,105,102,102,101,114,101,110,116]⟩:ByteArray),y12,y13,y14,y15,y16,y17])).bind fun y18=>
     some ((y18,true))
    )
  )
def jB (j4:List ByteArray) (w3:((List ByteArray)×(Int×Int×Int)×Int)) (word2:ByteArray) (x1:((Int×ByteArray×(List (Int×Int×Int)))×(List (Int×ByteArray×(List (Int×Int×Int)))))):Nat→Int→List (Int×Int×Int)→Option (List (Int×Int×Int) ⊕ (ByteArray×((Int×ByteArray×(List (Int×Int×Int)))×(List (Int×ByteArray×(List (Int×Int×Int)))))))
 |0,_,_=>none
 |n+1,t9,l10=>
  bif (ltI t9 ((j4.length:Int))) then
   (
    (getI j4 t9).bind fun e14=>
    (zA2 x1.1 e14).bind fun y15=>
    bif (ltI y15 0) then
     (
      some (.inr ((((⟨#[110,111]⟩:ByteArray),x1))))
     )
    else
     (
      (getI x1.1.2.2 y15).bind fun e17=>
      (room (l10.length+([e17]).length)).bind fun u18=>
      sI (w64 (t9+1)) fun t19=>
      jB j4 w3 word2 x1 n t19 (l10++([e17]))
     )
   )
  else
   (
    some (.inl l10)
   )
def zAE (x1:((Int×ByteArray×(List (Int×Int×Int)))×(List (Int×ByteArray×(List (Int×Int×Int)))))) (y56:List Int):Nat→ByteArray→Int→Option ByteArray
 |0,_,_=>none
 |n+1,out57,t58=>
  bif (ltI t58 ((y56.length:Int))) then
   (
    (getI y56 t58).bind fun e62=>
    (getI y56 t58).bind fun e63=>
    bif (ltI 0 e63) then
     (
      (catR out57 ((⟨#[43]⟩:ByteArray))).bind fun u65=>
      sI (w64 (t58+1)) fun t66=>
      zAE x1 y56 n (out57++((⟨#[43]⟩:ByteArray))) t66
     )
    else
     (
      (catR out57 ((⟨#[45]⟩:ByteArray))).bind fun u67=>
      sI (w64 (t58+1)) fun t68=>
      zAE x1 y56 n (out57++((⟨#[45]⟩:ByteArray))) t68
     )
   )
  else
   (
    some out57
   )
def qA (x1:((Int×ByteArray×(List (Int×Int×Int)))×(List (Int×ByteArray×(List (Int×Int×Int)))))) (word2:ByteArray) (w3:((List ByteArray)×(Int×Int×Int)×Int)):Option (ByteArray×((Int×ByteArray×(List (Int×Int×Int)))×(List (Int×ByteArray×(List (Int×Int×Int)))))):=
 (
  (some (bif (word2.toList==((⟨#[109,117,108]⟩:ByteArray)).toList) then true else (word2.toList==((⟨#[112,111,119]⟩:ByteArray)).toList))).bind fun t6=>
  bif t6 then
   (
    (slc w3.1.length 1 ((w3.1.length:Int))).bind fun u8=>
    some (subl w3.1 1 ((w3.1.length:Int)))
   )
  else
   (
    some w3.1
   )
 ).bind fun j4=>
 (jB j4 w3 word2 x1 FU 0 (([]:List (Int×Int×Int)))).bind fun qo12=>
 match qo12 with
 | .inr r=>some r
 | .inl o12=>
  bif (word2.toList==((⟨#[109,117,108]⟩:ByteArray)).toList) then
   (
    (getI w3.1 0).bind fun e21=>
    (getI o12 0).bind fun e22=>
    (getI o12 0).bind fun e23=>
    (getI o12 1).bind fun e24=>
    (getI o12 1).bind fun e25=>
    (zAI e23 e25).bind fun y26=>
    (jL x1 e21 y26).bind fun y27=>
    some ((y27.1,y27.2))
   )
  else
   (
    bif (word2.toList==((⟨#[112,111,119]⟩:ByteArray)).toList) then
     (
      (getI w3.1 0).bind fun e29=>
      (getI o12 0).bind fun e30=>
      (getI o12 0).bind fun e31=>
      (zCo e31 w3.2.2).bind fun y32=>
      (jL x1 e29 y32).bind fun y33=>
      some ((y33.1,y33.2))
     )
    else
     (
      (some (word2.toList==((⟨#[115,104,111,119]⟩:ByteArray)).toList)).bind fun t34=>
      bif t34 then
       (
        (getI o12 0).bind fun e36=>
        (getI o12 0).bind fun e37=>
        (zAe e37).bind fun y38=>
        some ((y38,x1))
       )
      else
       (
        (some (word2.toList==((⟨#[105,110,100,101,120]⟩:ByteArray)).toList)).bind fun t39=>
        bif t39 then
         (
          (zCE x1.1.1).bind fun y41=>
          (getI o12 0).bind fun e42=>
          (getI o12 0).bind fun e43=>
          (zD3 y41 e43).bind fun y44=>
          (zAG FU y44).bind fun y45=>
          some ((y45,x1))
         )
        else
         (
          (some (word2.toList==((⟨#[111,114,100,101,114]⟩:ByteArray)).toList)).bind fun t46=>
          bif t46 then
           (
            (getI o12 0).bind fun e48=>
            (getI o12 0).bind fun e49=>
            (zD6 e49).bind fun y50=>
            (zAG FU y50).bind fun y51=>
            some ((y51,x1))
           )
          else
           (
            (some (word2.toList==((⟨#[103,101,110,117,115]⟩:ByteArray)).toList)).bind fun t52=>
            bif t52 then
             (
              (getI o12 0).bind fun e54=>
              (getI o12 0).bind fun e55=>
              (zE1 e55).bind fun y56=>
              (zAE x1 y56 FU ((⟨#[]⟩:ByteArray)) 0).bind fun o60=>
              some ((o60,x1))
             )
            else
             (
              (some (word2.toList==((⟨#[118,97,108,117,101]⟩:ByteArray)).toList)).bind fun t69=>
              bif t69 then
               (
                (getI o12 0).bind fun e71=>
                (getI o12 0).bind fun e72=>
                (zAJ e72 w3.2.2).bind fun y73=>
                bif (!y73.2) then
                 (
                  some (((⟨#[110,111]⟩:ByteArray),x1))
                 )
                else
                 (
                  (zAG FU y73.1).bind fun y75=>
                  some ((y75,x1))
                 )
               )
              else
               (
                (getI o12 0).bind fun e76=>
                (getI o12 0).bind fun e77=>
                (getI o12 1).bind fun e78=>
                (getI o12 1).bind fun e79=>
                (jU e77 e79).bind fun y80=>
                bif (!y80.2) then
                 (
                  (getI o12 0).bind fun e82=>
                  (getI o12 0).bind fun e83=>
                  (getI o12 1).bind fun e84=>
                  (getI o12 1).bind fun e85=>
                  (zAA e83 e85).bind fun y86=>
                  bif (!y86.2) then
                   (
                    some (((⟨#[110,111]⟩:ByteArray),x1))
                   )
                  else
                   (
                    some ((y86.1,x1))
                   )
                 )
                else
                 (
                  bif (!y80.2) then
                   (
                    some (((⟨#[110,111]⟩:ByteArray),x1))
                   )
                  else
                   (
                    some ((y80.1,x1))
                   )
                 )
               )
             )
           )
         )
       )
     )
   )
def zK (x1:((Int×ByteArray×(List (Int×Int×Int)))×(List (Int×ByteArray×(List (Int×Int×Int)))))) (t2:ByteArray):Option (ByteArray×((Int×ByteArray×(List (Int×Int×Int)))×(List (Int×ByteArray×(List (Int×Int×Int)))))):=
 (qF t2).bind fun y3=>
 bif (!y3.2.2) then
  (
   some (((⟨#[119,104,97,116]⟩:ByteArray),x1))
  )
 else
  (
   bif (y3.1.toList==((⟨#[100,105,115,99]⟩:ByteArray)).toList) then
    (
     (zCF y3.2.1.2.2).bind fun y6=>
     bif (!y6) then
      (
       some (((⟨#[110,111]⟩:ByteArray),x1))
      )
     else
      (
       (jF x1 ((y3.2.1.2.2,ByteArray.empty,([]:List (Int×Int×Int))))).bind fun y8=>
       some ((y8.1,y8.2))
      )
    )
   else
    (
     bif (y3.1.toList==((⟨#[115,101,116]⟩:ByteArray)).toList) then
      (
       (zDN y3.2.1.2.1).bind fun y10=>
       (bif (!y10) then some true else ((qN y3.2.1.2.1).bind fun y12=>some (!eqI y12 x1.1.1))).bind fun b13=>
       bif b13 then
        (
         some (((⟨#[110,111]⟩:ByteArray),x1))
        )
       else
        (
         (getI y3.2.1.1 0).bind fun e15=>
         (jG y3.2.1.2.1).bind fun y16=>
         (jL x1 e15 y16).bind fun y17=>
         some ((y17.1,y17.2))
        )
      )
     else
      (
       (some (y3.1.toList==((⟨#[112,114,105,109,101]⟩:ByteArray)).toList)).bind fun t18=>
       bif t18 then
        (
         (zC9 x1.1.1 y3.2.1.2.2).bind fun y20=>
         bif (!y20.2) then
          (
           some (((⟨#[110,111]⟩:ByteArray),x1))
          )
         else
          (
           (getI y3.2.1.1 0).bind fun e22=>
           (jL x1 e22 y20.1).bind fun y23=>
           some ((y23.1,y23.2))
          )
        )
       else
        (
         (some (y3.1.toList==((⟨#[102,114,101,101]⟩:ByteArray)).toList)).bind fun t24=>
         bif t24 then
          (
           (getI y3.2.1.1 0).bind fun e26=>
           (zAq x1 e26).bind fun y27=>
           some ((y27.1,y27.2))
          )
         else
          (
           (some (y3.1.toList==((⟨#[110,97,109,101,115]⟩:ByteArray)).toList)).bind fun t28=>
           bif t28 then
            (
             bif (x1.1.2.1.toList==((⟨#[]⟩:ByteArray)).toList) then
              (
               some (((⟨#[110,111,110,101]⟩:ByteArray),x1))
              )
             else
              (
               some ((x1.1.2.1,x1))
              )
            )
           else
            (
             (some (y3.1.toList==((⟨#[117,110,100,111]⟩:ByteArray)).toList)).bind fun t31=>
             bif t31 then
              (
               (zBZ x1).bind fun y33=>
               some ((y33.1,y33.2))
              )
             else
              (
               (qA x1 y3.1 y3.2.1).bind fun y34=>
               some ((y34.1,y34.2))
              )
            )
          )
        )
      )
    )
  )
def zCG (y2:((List ByteArray)×Bool)):Nat→Int→List (Int×ByteArray×(List (Int×Int×Int)))→List ByteArray→Int→ByteArray→List (Int×Int×Int)→Option ((List (Int×ByteArray×(List (Int×Int×Int))))×(List ByteArray)×Int×ByteArray×(List (Int×Int×Int)))
 |0,_,_,_,_,_,_=>none
 |n+1,t5,l6,l7,f8,f9,f10=>
  bif (ltI t5 ((y2.1.length:Int))) then
   (
    (getI y2.1 t5).bind fun e14=>
    (zK (((f8,f9,f10),l6)) e14).bind fun y15=>
    (room (l7.length+([y15.1]).length)).bind fun u16=>
    sI (w64 (t5+1)) fun t17=>
    zCG y2 n t17 y15.2.2 (l7++([y15.1])) y15.2.1.1 y15.2.1.2.1 y15.2.1.2.2
   )
  else
   (
    some (l6,l7,f8,f9,f10)
   )
def zCt (script1:ByteArray):Option (((Int×ByteArray×(List (Int×Int×Int)))×(List (Int×ByteArray×(List (Int×Int×Int)))))×(List ByteArray)×Bool):=
 (zD0 script1 2000 60).bind fun y2=>
 (zEf).bind fun y3=>
 bif (!y2.2) then
  (
   some ((((y3.1.1,y3.1.2.1,([]:List (Int×Int×Int))),([]:List (Int×ByteArray×(List (Int×Int×Int))))),([]:List ByteArray),false))
  )
 else
  (
   (zCG y2 FU 0 (([]:List (Int×ByteArray×(List (Int×Int×Int))))) (([]:List ByteArray)) y3.1.1 y3.1.2.1 (([]:List (Int×Int×Int)))).bind fun o12=>
   some (((o12.2.2,o12.1),o12.2.1,true))
  )
def qQ (vs1:ByteArray) (suffix2:ByteArray):Option Bool:=
 (bif (leI ((suffix2.size:Int)) ((vs1.size:Int))) then ((slc vs1.size (w64 (((vs1.size:Int)) - ((suffix2.size:Int)))) ((vs1.size:Int))).bind fun u4=>some ((vs1.extract (Int.toNat (w64 (((vs1.size:Int)) - ((suffix2.size:Int))))) (Int.toNat ((vs1.size:Int)))).toList==suffix2.toList)) else some false).bind fun b5=>
 some b5
def zAC (vs1:ByteArray) (suffix2:ByteArray):Option ByteArray:=
 (qQ vs1 suffix2).bind fun y3=>
 bif y3 then
  (
   (slc vs1.size 0 (w64 (((vs1.size:Int)) - ((suffix2.size:Int))))).bind fun u5=>
   some (vs1.extract (Int.toNat 0) (Int.toNat (w64 (((vs1.size:Int)) - ((suffix2.size:Int))))))
  )
 else
  (
   some vs1
  )
def zC4 (vs1:ByteArray) (suffix2:ByteArray):Option ByteArray:=
 (zAC vs1 suffix2).bind fun y3=>
 some y3
def zCj (vs1:ByteArray) (suffix2:ByteArray):Option Bool:=
 (qQ vs1 suffix2).bind fun y3=>
 some y3
def zD8 (vs1:ByteArray):Option ((List ByteArray)×Bool):=
 bif (vs1.toList==((⟨#[]⟩:ByteArray)).toList) then
  (
   some ((([]:List ByteArray),true))
  )
 else
  (
   (zC4 vs1 ((⟨#[10]⟩:ByteArray))).bind fun y3=>
   (jY y3 ((⟨#[10]⟩:ByteArray))).bind fun y4=>
   (zCj vs1 ((⟨#[10]⟩:ByteArray))).bind fun y5=>
   some ((y4,y5))
  )
def zCJ (word1:ByteArray):Option (ByteArray×Bool):=
 (some (mPut ((⟨#[117,110,100,111]⟩:ByteArray)) ((⟨#[]⟩:ByteArray)) (mPut ((⟨#[110,97,109,101,115]⟩:ByteArray)) ((⟨#[]⟩:ByteArray)) (mPut ((⟨#[115,97,109,101]⟩:ByteArray)) ((⟨#[65,65]⟩:ByteArray)) (mPut ((⟨#[118,97,108,117,101]⟩:ByteArray)) ((⟨#[65,110]⟩:ByteArray)) (mPut ((⟨#[103,101,110,117,115]⟩:ByteArray)) ((⟨#[65]⟩:ByteArray)) (mPut ((⟨#[111,114,100,101,114]⟩:ByteArray)) ((⟨#[65]⟩:ByteArray)) (mPut ((⟨#[105,110,100,101,120]⟩:ByteArray)) ((⟨#[65]⟩:ByteArray)) (mPut ((⟨#[115,104,111,119]⟩:ByteArray)) ((⟨#[65]⟩:ByteArray)) (mPut ((⟨#[102,114,101,101]⟩:ByteArray)) ((⟨#[65]⟩:ByteArray)) (mPut ((⟨#[112,111,119]⟩:ByteArray)) ((⟨#[65,65,110]⟩:ByteArray)) (mPut ((⟨#[109,117,108]⟩:ByteArray)) ((⟨#[65,65,65]⟩:ByteArray)) (mPut ((⟨#[112,114,105,109,101]⟩:ByteArray)) ((⟨#[65,110]⟩:ByteArray)) (mPut ((⟨#[115,101,116]⟩:ByteArray)) ((⟨#[65,102]⟩:ByteArray)) (mPut ((⟨#[100,105,115,99]⟩:ByteArray)) ((⟨#[110]⟩:ByteArray)) (([]:List (ByteArray×ByteArray)))))))))))))))))).bind fun l2=>
 some ((mAt word1 l2 ByteArray.empty,mHas word1 l2))
def zCg (w1:ByteArray):Option (Int×Bool):=
 (bif (!eqI ((w1.size:Int)) 1) then some true else ((getB w1 0).bind fun e3=>some (ltI e3 97))).bind fun b4=>
 (bif b4 then some true else ((getB w1 0).bind fun e6=>some (ltI 122 e6))).bind fun b7=>
 bif b7 then
  (
   some ((0,false))
  )
 else
  (
   (getB w1 0).bind fun e9=>
   sI (IntKind.i64.wrap (IntKind.u8.wrap (e9 - 97))) fun t10=>
   some ((t10,true))
  )
def zBR (c1:Int):Option Bool:=
 (some (bif (!eqI c1 45) then (bif (ltI c1 48) then true else (ltI 57 c1)) else false)).bind fun t4=>
 some t4
def qI (y2:List ByteArray):Nat→Int→List Int→Option (List Int ⊕ List Int)
 |0,_,_=>none
 |n+1,t3,l4=>
  bif (ltI t3 ((y2.length:Int))) then
   (
    (getI y2 t3).bind fun e8=>
    (getI y2 t3).bind fun e9=>
    (zAM e9).bind fun y10=>
    bif (!y10.2) then
     (
      some (.inr ((([]:List Int))))
     )
    else
     (
      (room (l4.length+([y10.1]).length)).bind fun u12=>
      sI (w64 (t3+1)) fun t13=>
      qI y2 n t13 (l4++([y10.1]))
     )
   )
  else
   (
    some (.inl l4)
   )
def zA6 (vs1:ByteArray):Option (List Int):=
 (zAs (pOf zBR) vs1).bind fun y2=>
 (qI y2 FU 0 (([]:List Int))).bind fun qo6=>
 match qo6 with
 | .inr r=>some r
 | .inl o6=>
  some o6
def zBg (list1:List Int):Nat→Int→Option (Unit ⊕ Bool)
 |0,_=>none
 |n+1,t2=>
  bif (ltI t2 ((list1.length:Int))) then
   (
    (getI list1 t2).bind fun e6=>
    bif (bif (ltI e6 (-1000000)) then true else (ltI 1000000 e6)) then
     (
      some (.inr false)
     )
    else
     (
      sI (w64 (t2+1)) fun t9=>
      zBg list1 n t9
     )
   )
  else
   (
    some (.inl ())
   )
def zA7 (list1:List Int):Option Bool:=
 (zBg list1 FU 0).bind fun qo4=>
 match qo4 with
 | .inr r=>some r
 | .inl o4=>
  some true
def zDO (f1:(Int×Int×Int)):Option Bool:=
 (zA7 ([f1.1,f1.2.1,f1.2.2])).bind fun y2=>
 some y2
def jP (f1:(Int×Int×Int)):Option ByteArray:=
 (qJ f1.1).bind fun y2=>
 (catR ((⟨#[40]⟩:ByteArray)) y2).bind fun u3=>
 (catR (((⟨#[40]⟩:ByteArray))++y2) ((⟨#[44]⟩:ByteArray))).bind fun u4=>
 (qJ f1.2.1).bind fun y5=>
 (catR ((((⟨#[40]⟩:ByteArray))++y2)++((⟨#[44]⟩:ByteArray))) y5).bind fun u6=>
 (catR (((((⟨#[40]⟩:ByteArray))++y2)++((⟨#[44]⟩:ByteArray)))++y5) ((⟨#[44]⟩:ByteArray))).bind fun u7=>
 (qJ f1.2.2).bind fun y8=>
 (catR ((((((⟨#[40]⟩:ByteArray))++y2)++((⟨#[44]⟩:ByteArray)))++y5)++((⟨#[44]⟩:ByteArray))) y8).bind fun u9=>
 (catR (((((((⟨#[40]⟩:ByteArray))++y2)++((⟨#[44]⟩:ByteArray)))++y5)++((⟨#[44]⟩:ByteArray)))++y8) ((⟨#[41]⟩:ByteArray))).bind fun u10=>
 some ((((((((⟨#[40]⟩:ByteArray))++y2)++((⟨#[44]⟩:ByteArray)))++y5)++((⟨#[44]⟩:ByteArray)))++y8)++((⟨#[41]⟩:ByteArray)))
def zB7 (vs1:ByteArray):Option ((Int×Int×Int)×Bool):=
 (zA6 vs1).bind fun y2=>
 bif (!eqI ((y2.length:Int)) 3) then
  (
   some (((0,0,0),false))
  )
 else
  (
   (getI y2 0).bind fun e4=>
   (getI y2 0).bind fun e5=>
   (getI y2 1).bind fun e6=>
   (getI y2 1).bind fun e7=>
   (getI y2 2).bind fun e8=>
   (getI y2 2).bind fun e9=>
   (zDO ((e5,e7,e9))).bind fun y10=>
   (bif (!y10) then some true else ((jP ((e5,e7,e9))).bind fun y12=>some (!(y12.toList==vs1.toList)))).bind fun b13=>
   bif b13 then
    (
     some (((0,0,0),false))
    )
   else
    (
     some (((e5,e7,e9),true))
    )
  )
def zC1 (w1:ByteArray):Option (Int×Bool):=
 (zAM w1).bind fun y2=>
 (bif y2.2 then ((zA7 ([y2.1])).bind fun y4=>some y4) else some false).bind fun b5=>
 (bif b5 then ((qJ y2.1).bind fun y7=>some (y7.toList==w1.toList)) else some false).bind fun b8=>
 some ((y2.1,b8))
def qV (e4:ByteArray) (t10:Int) (y2:List ByteArray) (y5:(ByteArray×Bool)):Nat→Int→List Int→Int→Int→Int→Int→Option (((List Int)×Int×Int×Int×Int) ⊕ ((ByteArray×(List Int)×(Int×Int×Int)×Int)×Bool))
 |0,_,_,_,_,_,_=>none
 |n+1,t11,l12,f13,f14,f15,f16=>
  bif (ltI t11 t10) then
   (
    (getI (subl y2 1 ((y2.length:Int))) t11).bind fun e20=>
    (getB y5.1 t11).bind fun e21=>
    bif (eqI e21 65) then
     (
      (zCg e20).bind fun y23=>
      (room (l12.length+([y23.1]).length)).bind fun u24=>
      bif (!y23.2) then
       (
        some (.inr ((((ByteArray.empty,([]:List Int),(0,0,0),0),false))))
       )
      else
       (
        sI (w64 (t11+1)) fun t26=>
        qV e4 t10 y2 y5 n t26 (l12++([y23.1])) f13 f14 f15 f16
       )
     )
    else
     (
      bif (eqI e21 102) then
       (
        (zB7 e20).bind fun y28=>
        bif (!y28.2) then
         (
          some (.inr ((((ByteArray.empty,([]:List Int),(0,0,0),0),false))))
         )
        else
         (
          sI (w64 (t11+1)) fun t30=>
          qV e4 t10 y2 y5 n t30 l12 y28.1.1 y28.1.2.1 y28.1.2.2 f16
         )
       )
      else
       (
        (zC1 e20).bind fun y31=>
        bif (!y31.2) then
         (
          some (.inr ((((ByteArray.empty,([]:List Int),(0,0,0),0),false))))
         )
        else
         (
          sI (w64 (t11+1)) fun t33=>
          qV e4 t10 y2 y5 n t33 l12 f13 f14 f15 y31.1
         )
       )
     )
   )
  else
   (
    some (.inl (l12,f13,f14,f15,f16))
   )
def zM (vs1:ByteArray):Option ((ByteArray×(List Int)×(Int×Int×Int)×Int)×Bool):=
 (jY vs1 ((⟨#[32]⟩:ByteArray))).bind fun y2=>
 (getI y2 0).bind fun e3=>
 (getI y2 0).bind fun e4=>
 (zCJ e4).bind fun y5=>
 (some (bif (!y5.2) then true else (!eqI ((y2.length:Int)) (w64 (((y5.1.size:Int))+1))))).bind fun t7=>
 bif t7 then
  (
   some (((ByteArray.empty,([]:List Int),(0,0,0),0),false))
  )
 else
  (
   (slc y2.length 1 ((y2.length:Int))).bind fun u9=>
   sI (((subl y2 1 ((y2.length:Int))).length:Int)) fun t10=>
   (qV e4 t10 y2 y5 FU 0 (([]:List Int)) 0 0 0 0).bind fun qo18=>
   match qo18 with
   | .inr r=>some r
   | .inl o18=>
    some (((e4,o18.1,(o18.2.1,o18.2.2.1,o18.2.2.2.1),o18.2.2.2.2),true))
  )
def jR (l2:(ByteArray×(List Int)×(Int×Int×Int)×Int)) (vs1:(Int×(Nat→(Int×Int×Int)))):Nat→Int→List (Int×Int×Int)→Option (List (Int×Int×Int) ⊕ ((List (Int×Int×Int))×Bool))
 |0,_,_=>none
 |n+1,t3,l4=>
  bif (ltI t3 ((l2.2.1.length:Int))) then
   (
    (getI l2.2.1 t3).bind fun e8=>
    (getA 26 vs1.2 e8).bind fun e9=>
    (getA 26 vs1.2 e8).bind fun e10=>
    (bif (eqI t3 0) then (some (bif (bif (bif (l2.1.toList==((⟨#[115,101,116]⟩:ByteArray)).toList) then true else (l2.1.toList==((⟨#[112,114,105,109,101]⟩:ByteArray)).toList)) then true else (l2.1.toList==((⟨#[109,117,108]⟩:ByteArray)).toList)) then true else (l2.1.toList==((⟨#[112,111,119]⟩:ByteArray)).toList))) else some false).bind fun b15=>
    (some (bif (((e10.1==0)&&((e10.2.1==0)&&(e10.2.2==0)))) then (!b15) else false)).bind fun t17=>
    bif t17 then
     (
      some (.inr (((([]:List (Int×Int×Int)),false))))
     )
    else
     (
      (room (l4.length+([e10]).length)).bind fun u19=>
      sI (w64 (t3+1)) fun t20=>
      jR l2 vs1 n t20 (l4++([e10]))
     )
   )
  else
   (
    some (.inl l4)
   )
def zO (vs1:(Int×(Nat→(Int×Int×Int)))) (l2:(ByteArray×(List Int)×(Int×Int×Int)×Int)):Option ((List (Int×Int×Int))×Bool):=
 (jR l2 vs1 FU 0 (([]:List (Int×Int×Int)))).bind fun qo6=>
 match qo6 with
 | .inr r=>some r
 | .inl o6=>
  some ((o6,true))
def zAP (a1:Int) (vm2:Int):Option Int:=
 (nz vm2).bind fun z3=>
 sI (Int.tmod a1 vm2) fun vr4=>
 bif (ltI vr4 0) then
  (
   sI (w64 (vr4+vm2)) fun vr6=>
   some vr6
  )
 else
  (
   some vr4
  )
def qR (d1:Int):Option Bool:=
 (bif (bif (leI (-2000) d1) then (leI d1 (-3)) else false) then ((zAP d1 4).bind fun y4=>some (leI y4 1)) else some false).bind fun b5=>
 some b5
def zL (f1:(Int×Int×Int)):Option Int:=
 sI (w64 ((w64 (f1.2.1*f1.2.1)) - (w64 ((w64 (4*f1.1))*f1.2.2)))) fun t2=>
 some t2
def zS (f1:(Int×Int×Int)):Option Bool:=
 (zDO f1).bind fun y2=>
 (bif y2 then ((zL f1).bind fun y4=>some (ltI y4 0)) else some false).bind fun b5=>
 some (bif b5 then (ltI 0 f1.1) else false)
def qS (f1:(Int×Int×Int)):Option Bool:=
 (zS f1).bind fun y2=>
 (bif y2 then ((zL f1).bind fun y4=>some (leI (-2000) y4)) else some false).bind fun b5=>
 some b5
def zDb (vn1:Int):Option Int:=
 sI (mxI vn1 (w64 (0 - (mxI vn1 (-9223372036854775807))))) fun t2=>
 some t2
def zAg:Nat→Int→Int→Option Int
 |0,_,_=>none
 |n+1,a3,b4=>
  bif (!eqI b4 0) then
   (
    (nz b4).bind fun z8=>
    sI (Int.tmod a3 b4) fun b9=>
    zAg n b4 b9
   )
  else
   (
    some a3
   )
def zDa (a1:Int) (b2:Int):Option Int:=
 (zAg FU a1 b2).bind fun o6=>
 (zDb o6).bind fun y10=>
 some y10
def zAD (f1:(Int×Int×Int)):Option Int:=
 (zDa f1.2.1 f1.2.2).bind fun y2=>
 (zDa f1.1 y2).bind fun y3=>
 some y3
def zP (f1:(Int×Int×Int)):Option Bool:=
 (qS f1).bind fun y2=>
 (bif y2 then ((zAD f1).bind fun y4=>some (eqI y4 1)) else some false).bind fun b5=>
 some b5
def zAF (vs1:(Int×(Nat→(Int×Int×Int)))):Nat→ByteArray→Int→Option ByteArray
 |0,_,_=>none
 |n+1,list2,t3=>
  bif (ltI t3 26) then
   (
    (getA 26 vs1.2 t3).bind fun e7=>
    bif (!((e7.1==0)&&((e7.2.1==0)&&(e7.2.2==0)))) then
     (
      (catR list2 (Utf8.encode (IntKind.i32.wrap (w64 (97+t3))))).bind fun u9=>
      sI (w64 (t3+1)) fun t10=>
      zAF vs1 n (list2++(Utf8.encode (IntKind.i32.wrap (w64 (97+t3))))) t10
     )
    else
     (
      sI (w64 (t3+1)) fun t11=>
      zAF vs1 n list2 t11
     )
   )
  else
   (
    some list2
   )
def zB2 (vs1:(Int×(Nat→(Int×Int×Int)))):Option ByteArray:=
 (zAF vs1 FU ((⟨#[]⟩:ByteArray)) 0).bind fun o5=>
 some o5
def zER:Option (Int×Int×Int×Int):=
 some ((1,0,0,1))
def qG (f1:(Int×Int×Int)):Option Bool:=
 (some (bif (ltI (w64 (0 - f1.1)) f1.2.1) then (leI f1.2.1 f1.1) else false)).bind fun t3=>
 some t3
def qK (f1:(Int×Int×Int)):Option Bool:=
 (qG f1).bind fun y2=>
 (some (bif y2 then (bif (ltI f1.1 f1.2.2) then true else (bif (eqI f1.1 f1.2.2) then (leI 0 f1.2.1) else false)) else false)).bind fun t6=>
 some t6
def zAo (a1:Int) (vm2:Int):Option Int:=
 (zAP a1 vm2).bind fun y3=>
 (nz vm2).bind fun z4=>
 sI (w64 (Int.tdiv (w64 (a1 - y3)) vm2)) fun t5=>
 some t5
def qL (f1:(Int×Int×Int)):Option (Int×Int×Int×Int):=
 (qK f1).bind fun y2=>
 bif y2 then
  (
   (zER).bind fun y4=>
   some y4
  )
 else
  (
   (qG f1).bind fun y5=>
   bif (!y5) then
    (
     (zAo (w64 (f1.1 - f1.2.1)) (w64 (2*f1.1))).bind fun y7=>
     some ((1,y7,0,1))
    )
   else
    (
     some ((0,-1,1,0))
    )
  )
def zAR (f1:(Int×Int×Int)) (x2:Int) (y3:Int):Option Int:=
 sI (w64 ((w64 ((w64 ((w64 (f1.1*x2))*x2))+(w64 ((w64 (f1.2.1*x2))*y3))))+(w64 ((w64 (f1.2.2*y3))*y3)))) fun t4=>
 some t4
def zA9 (f1:(Int×Int×Int)) (x2:Int) (y3:Int) (u4:Int) (v5:Int):Option Int:=
 sI (w64 ((w64 ((w64 ((w64 ((w64 (2*f1.1))*x2))*u4))+(w64 (f1.2.1*(w64 ((w64 (x2*v5))+(w64 (y3*u4))))))))+(w64 ((w64 ((w64 (2*f1.2.2))*y3))*v5)))) fun t6=>
 some t6
def qB (f1:(Int×Int×Int)) (vm2:(Int×Int×Int×Int)):Option (Int×Int×Int):=
 (zAR f1 vm2.1 vm2.2.2.1).bind fun y3=>
 (zA9 f1 vm2.1 vm2.2.2.1 vm2.2.1 vm2.2.2.2).bind fun y4=>
 (zAR f1 vm2.2.1 vm2.2.2.2).bind fun y5=>
 some ((y3,y4,y5))
def zY (vm1:(Int×Int×Int×Int)) (vn2:(Int×Int×Int×Int)):Option (Int×Int×Int×Int):=
 sI (w64 ((w64 (vm1.1*vn2.1))+(w64 (vm1.2.1*vn2.2.2.1)))) fun f3=>
 sI (w64 ((w64 (vm1.1*vn2.2.1))+(w64 (vm1.2.1*vn2.2.2.2)))) fun f4=>
 sI (w64 ((w64 (vm1.2.2.1*vn2.1))+(w64 (vm1.2.2.2*vn2.2.2.1)))) fun f5=>
 sI (w64 ((w64 (vm1.2.2.1*vn2.2.1))+(w64 (vm1.2.2.2*vn2.2.2.2)))) fun f6=>
 some ((f3,f4,f5,f6))
def zBL:Nat→Int→Int→Int→Int→Int→Int→Int→Option (Int×Int×Int×Int×Int×Int×Int)
 |0,_,_,_,_,_,_,_=>none
 |n+1,f3,f4,f5,f6,f7,f8,f9=>
  (qK ((f7,f8,f9))).bind fun y12=>
  bif (!y12) then
   (
    (qL ((f7,f8,f9))).bind fun y14=>
    (qB ((f7,f8,f9)) y14).bind fun y15=>
    (zY ((f3,f4,f5,f6)) y14).bind fun y16=>
    zBL n y16.1 y16.2.1 y16.2.2.1 y16.2.2.2 y15.1 y15.2.1 y15.2.2
   )
  else
   (
    some (f3,f4,f5,f6,f7,f8,f9)
   )
def qX (f1:(Int×Int×Int)):Option ((Int×Int×Int)×(Int×Int×Int×Int)):=
 (zER).bind fun y2=>
 (zBL FU y2.1 y2.2.1 y2.2.2.1 y2.2.2.2 f1.1 f1.2.1 f1.2.2).bind fun o11=>
 some ((o11.2.2.2.2,(o11.1,o11.2.1,o11.2.2.1,o11.2.2.2.1)))
def zZ (f1:(Int×Int×Int)):Option (Int×Int×Int):=
 (qX f1).bind fun y2=>
 some y2.1
def zAZ (vs1:(Int×(Nat→(Int×Int×Int)))) (name2:Int) (f3:(Int×Int×Int)):Option (Bool×(Int×(Nat→(Int×Int×Int)))):=
 (getA 26 vs1.2 name2).bind fun e4=>
 (getA 26 vs1.2 name2).bind fun e5=>
 (bif (((e5.1==0)&&((e5.2.1==0)&&(e5.2.2==0)))) then ((zB2 vs1).bind fun y7=>some (eqI ((y7.size:Int)) 8)) else some false).bind fun b8=>
 bif b8 then
  (
   some ((false,vs1))
  )
 else
  (
   (zZ f3).bind fun y10=>
   (getA 26 vs1.2 name2).bind fun e11=>
   ((getA 26 vs1.2 name2).map fun _=>upA vs1.2 (Int.toNat name2) y10).bind fun g12=>
   some ((true,(vs1.1,g12)))
  )
def zBN (vn1:Int):Nat→Int→Option (Unit ⊕ Bool)
 |0,_=>none
 |n+1,p3=>
  bif (leI (w64 (p3*p3)) vn1) then
   (
    (nz p3).bind fun z7=>
    bif (eqI (Int.tmod vn1 p3) 0) then
     (
      some (.inr false)
     )
    else
     (
      sI (w64 (p3+1)) fun p9=>
      zBN vn1 n p9
     )
   )
  else
   (
    some (.inl ())
   )
def zBO (vn1:Int):Option Bool:=
 bif (ltI vn1 2) then
  (
   some false
  )
 else
  (
   (zBN vn1 FU 2).bind fun qo5=>
   match qo5 with
   | .inr r=>some r
   | .inl o5=>
    some true
  )
def zCk (p1:Int):Option Bool:=
 (bif (leI p1 10000) then ((zBO p1).bind fun y3=>some y3) else some false).bind fun b4=>
 some b4
def zBy (d1:Int) (p2:Int):Nat→Int→Option (Unit ⊕ ((Int×Int×Int)×Bool))
 |0,_=>none
 |n+1,b3=>
  bif (leI b3 p2) then
   (
    (nz (w64 (4*p2))).bind fun z7=>
    bif (eqI (Int.tmod (w64 ((w64 (b3*b3)) - d1)) (w64 (4*p2))) 0) then
     (
      (nz (w64 (4*p2))).bind fun z9=>
      sI (w64 (Int.tdiv (w64 ((w64 (b3*b3)) - d1)) (w64 (4*p2)))) fun f10=>
      (zAD ((p2,b3,f10))).bind fun y11=>
      some (.inr ((((p2,b3,f10),eqI y11 1))))
     )
    else
     (
      sI (w64 (b3+1)) fun b12=>
      zBy d1 p2 n b12
     )
   )
  else
   (
    some (.inl ())
   )
def zDl (d1:Int) (p2:Int):Option ((Int×Int×Int)×Bool):=
 (zBy d1 p2 FU 0).bind fun qo5=>
 match qo5 with
 | .inr r=>some r
 | .inl o5=>
  some (((0,0,0),false))
def zDn (d1:Int) (p2:Int):Option ((Int×Int×Int)×Bool):=
 (qR d1).bind fun y3=>
 (bif (!y3) then some true else ((zCk p2).bind fun y5=>some (!y5))).bind fun b6=>
 bif b6 then
  (
   some (((0,0,0),false))
  )
 else
  (
   (zDl d1 p2).bind fun y8=>
   bif (!y8.2) then
    (
     some (((0,0,0),false))
    )
   else
    (
     some ((y8.1,true))
    )
  )
def zCa (d1:Int) (p2:Int):Option ((Int×Int×Int)×Bool):=
 (zDn d1 p2).bind fun y3=>
 bif (!y3.2) then
  (
   some (((0,0,0),false))
  )
 else
  (
   (zZ y3.1).bind fun y5=>
   some ((y5,true))
  )
def zBV (a2:Int) (g1:(Int×Int×Int)) (size3:Int) (x6:Int):Nat→Int→Option (Unit ⊕ (Int×Int))
 |0,_=>none
 |n+1,y10=>
  bif (leI y10 size3) then
   (
    (bif (eqI (mxI x6 y10) size3) then ((zDa x6 y10).bind fun y15=>some (eqI y15 1)) else some false).bind fun b16=>
    (bif b16 then ((zAR g1 x6 y10).bind fun y18=>(zDa y18 a2).bind fun y19=>some (eqI y19 1)) else some false).bind fun b20=>
    bif b20 then
     (
      some (.inr (((x6,y10))))
     )
    else
     (
      sI (w64 (y10+1)) fun y22=>
      zBV a2 g1 size3 x6 n y22
     )
   )
  else
   (
    some (.inl ())
   )
def zBf (a2:Int) (g1:(Int×Int×Int)) (size3:Int):Nat→Int→Option (Unit ⊕ (Int×Int))
 |0,_=>none
 |n+1,x6=>
  bif (leI x6 size3) then
   (
    (zBV a2 g1 size3 x6 FU 0).bind fun qo12=>
    match qo12 with
    | .inr r=>some (.inr r)
    | .inl o12=>
     sI (w64 (x6+1)) fun x23=>
     zBf a2 g1 size3 n x23
   )
  else
   (
    some (.inl ())
   )
def zAQ (a2:Int) (g1:(Int×Int×Int)):Nat→Int→Option (Unit ⊕ (Int×Int))
 |0,_=>none
 |n+1,size3=>
  (zBf a2 g1 size3 FU 0).bind fun qo8=>
  match qo8 with
  | .inr r=>some (.inr r)
  | .inl o8=>
   sI (w64 (size3+1)) fun size24=>
   zAQ a2 g1 n size24
def zBn (g1:(Int×Int×Int)) (a2:Int):Option (Int×Int):=
 (zAQ a2 g1 FU 0).bind fun qo5=>
 match qo5 with
 | .inr r=>some r
 | .inl _=>none
def zEm (vm2:Int):Nat→Int→Int→Int→Int→Option Int
 |0,_,_,_,_=>none
 |n+1,x4,y5,vr6,vs7=>
  bif (!eqI vs7 0) then
   (
    (nz vs7).bind fun z11=>
    sI (w64 (Int.tdiv vr6 vs7)) fun q12=>
    sI (w64 (vr6 - (w64 (q12*vs7)))) fun vs13=>
    sI (w64 (x4 - (w64 (q12*y5)))) fun y14=>
    zEm vm2 n y5 y14 vs7 vs13
   )
  else
   (
    some x4
   )
def zD9 (a1:Int) (vm2:Int):Option Int:=
 (zAP a1 vm2).bind fun y3=>
 (zEm vm2 FU 1 0 y3 vm2).bind fun o9=>
 (zAP o9 vm2).bind fun y15=>
 some y15
def zAz (f1:(Int×Int×Int)) (x2:Int) (y3:Int):Option ((Int×Int×Int)×(Int×Int×Int×Int)):=
 (
  bif (eqI y3 0) then
   (
    some (0,x2)
   )
  else
   (
    (zDb y3).bind fun y6=>
    (zD9 x2 y6).bind fun y7=>
    (nz y3).bind fun z8=>
    sI (w64 (Int.tdiv (w64 ((w64 (x2*y7)) - 1)) y3)) fun f9=>
    some (f9,y7)
   )
 ).bind fun j4=>
 (qB f1 ((x2,j4.1,y3,j4.2))).bind fun y10=>
 (zAo y10.2.1 (w64 (2*y10.1))).bind fun y11=>
 sI (w64 (0 - y11)) fun t12=>
 sI (w64 (j4.1+(w64 (t12*x2)))) fun f13=>
 sI (w64 (j4.2+(w64 (t12*y3)))) fun f14=>
 (qB f1 ((x2,f13,y3,f14))).bind fun y15=>
 some ((y15,(x2,f13,y3,f14)))
def zDI (f1:(Int×Int×Int)) (y4:((Int×Int×Int)×(Int×Int×Int×Int))):Nat→Int→Option Int
 |0,_=>none
 |n+1,f6=>
  (zAP (w64 (f6 - y4.1.2.1)) (w64 (2*y4.1.1))).bind fun y9=>
  bif (!eqI y9 0) then
   (
    sI (w64 (f6+(w64 (2*f1.1)))) fun f11=>
    zDI f1 y4 n f11
   )
  else
   (
    some f6
   )
def zCv (f1:(Int×Int×Int)) (g2:(Int×Int×Int)):Option (Int×Int×Int×Int×(Int×Int×Int×Int)×(Int×Int×Int×Int)):=
 (zBn g2 f1.1).bind fun y3=>
 (zAz g2 y3.1 y3.2).bind fun y4=>
 (zAP f1.2.1 (w64 (2*f1.1))).bind fun y5=>
 (zDI f1 y4 FU y5).bind fun o8=>
 (zAP o8 (w64 ((w64 (2*f1.1))*y4.1.1))).bind fun y12=>
 (zL f1).bind fun y13=>
 (nz (w64 ((w64 (4*f1.1))*y4.1.1))).bind fun z14=>
 sI (w64 (Int.tdiv (w64 ((w64 (y12*y12)) - y13)) (w64 ((w64 (4*f1.1))*y4.1.1)))) fun f15=>
 (nz (w64 (2*f1.1))).bind fun z16=>
 sI (w64 (Int.tdiv (w64 (y12 - f1.2.1)) (w64 (2*f1.1)))) fun f17=>
 (nz (w64 (2*y4.1.1))).bind fun z18=>
 (zY y4.2 ((1,w64 (Int.tdiv (w64 (y12 - y4.1.2.1)) (w64 (2*y4.1.1))),0,1))).bind fun y19=>
 some ((f1.1,y4.1.1,y12,f15,(1,f17,0,1),y19))
def zBk (u1:(Int×Int×Int×Int×(Int×Int×Int×Int)×(Int×Int×Int×Int))):Option (Int×Int×Int):=
 sI (w64 (u1.1*u1.2.1)) fun f2=>
 some ((f2,u1.2.2.1,u1.2.2.2.1))
def jI (f1:(Int×Int×Int)) (g2:(Int×Int×Int)):Option (Int×Int×Int):=
 (zZ f1).bind fun y3=>
 (zZ g2).bind fun y4=>
 (zCv y3 y4).bind fun y5=>
 (zBk y5).bind fun y6=>
 (zZ y6).bind fun y7=>
 some y7
def zAy (f1:(Int×Int×Int)):Option (Int×Int×Int):=
 sI (w64 (0 - f1.2.1)) fun f2=>
 some ((f1.1,f2,f1.2.2))
def zAO (d1:Int):Option (Int×Int×Int):=
 (zAP d1 2).bind fun y2=>
 sI (w64 (Int.tdiv (w64 (y2 - d1)) 4)) fun f3=>
 some ((1,y2,f3))
def zAw:Nat→Int→Int→Int→Int→Int→Int→Int→Option (Int×Int×Int)
 |0,_,_,_,_,_,_,_=>none
 |n+1,k11,f12,f13,f14,f15,f16,f17=>
  bif (ltI 0 k11) then
   (
    (
     bif (eqI (Int.tmod k11 2) 1) then
      (
       (jI ((f12,f13,f14)) ((f15,f16,f17))).bind fun y23=>
       some (y23.1,y23.2.1,y23.2.2)
      )
     else
      (
       some (f12,f13,f14)
      )
    ).bind fun j21=>
    (jI ((f15,f16,f17)) ((f15,f16,f17))).bind fun y24=>
    sI (w64 (Int.tdiv k11 2)) fun k25=>
    zAw n k25 j21.1 j21.2.1 j21.2.2 y24.1 y24.2.1 y24.2.2
   )
  else
   (
    some (f12,f13,f14)
   )
def zB4 (f1:(Int×Int×Int)) (k2:Int):Option (Int×Int×Int):=
 (
  bif (ltI k2 0) then
   (
    (zAy f1).bind fun y5=>
    sI (w64 (0 - k2)) fun k6=>
    some (k6,y5.1,y5.2.1,y5.2.2)
   )
  else
   (
    some (k2,f1.1,f1.2.1,f1.2.2)
   )
 ).bind fun j3=>
 (zL j3.2).bind fun y7=>
 (zAO y7).bind fun y8=>
 (zZ y8).bind fun y9=>
 (zZ j3.2).bind fun y10=>
 (zAw FU j3.1 y9.1 y9.2.1 y9.2.2 y10.1 y10.2.1 y10.2.2).bind fun o19=>
 some o19
def zH (vs1:(Int×(Nat→(Int×Int×Int)))) (l2:(ByteArray×(List Int)×(Int×Int×Int)×Int)) (forms3:List (Int×Int×Int)):Option (Bool×Bool×(Int×(Nat→(Int×Int×Int)))):=
 bif (l2.1.toList==((⟨#[100,105,115,99]⟩:ByteArray)).toList) then
  (
   (qR l2.2.2.2).bind fun y5=>
   some ((y5,true,(l2.2.2.2,(fun _=>(0,0,0)))))
  )
 else
  (
   bif (l2.1.toList==((⟨#[115,101,116]⟩:ByteArray)).toList) then
    (
     (
      (zP l2.2.2.1).bind fun y7=>
      bif y7 then
       (
        (zL l2.2.2.1).bind fun y8=>
        bif (eqI y8 vs1.1) then
         (
          (getI l2.2.1 0).bind fun e9=>
          (zAZ vs1 e9 l2.2.2.1).bind fun y10=>
          some ((y10.1,y10.2.1,y10.2.2))
         )
        else
         (
          some ((false,vs1.1,vs1.2))
         )
       )
      else
       (
        some ((false,vs1.1,vs1.2))
       )
     ).bind fun j11=>
     some ((j11.1,true,j11.2))
    )
   else
    (
     (some (l2.1.toList==((⟨#[112,114,105,109,101]⟩:ByteArray)).toList)).bind fun t12=>
     bif t12 then
      (
       (zCa vs1.1 l2.2.2.2).bind fun y14=>
       (
        bif y14.2 then
         (
          (getI l2.2.1 0).bind fun e15=>
          (zAZ vs1 e15 y14.1).bind fun y16=>
          some ((y16.1,y16.2.1,y16.2.2))
         )
        else
         (
          some ((false,vs1.1,vs1.2))
         )
       ).bind fun j17=>
       some ((j17.1,true,j17.2))
      )
     else
      (
       bif (l2.1.toList==((⟨#[109,117,108]⟩:ByteArray)).toList) then
        (
         (getI l2.2.1 0).bind fun e19=>
         (getI forms3 1).bind fun e20=>
         (getI forms3 2).bind fun e21=>
         (jI e20 e21).bind fun y22=>
         (zAZ vs1 e19 y22).bind fun y23=>
         some ((y23.1,true,y23.2))
        )
       else
        (
         bif (l2.1.toList==((⟨#[112,111,119]⟩:ByteArray)).toList) then
          (
           (getI l2.2.1 0).bind fun e25=>
           (getI forms3 1).bind fun e26=>
           (zB4 e26 l2.2.2.2).bind fun y27=>
           (zAZ vs1 e25 y27).bind fun y28=>
           some ((y28.1,true,y28.2))
          )
         else
          (
           (some (l2.1.toList==((⟨#[102,114,101,101]⟩:ByteArray)).toList)).bind fun t29=>
           bif t29 then
            (
             (getI l2.2.1 0).bind fun e31=>
             (getA 26 vs1.2 e31).bind fun e32=>
             ((getA 26 vs1.2 e31).map fun _=>upA vs1.2 (Int.toNat e31) ((0,0,0))).bind fun g33=>
             some ((true,true,(vs1.1,g33)))
            )
           else
            (
             some ((false,false,vs1))
            )
          )
        )
      )
    )
  )
def jN (a2:Int) (d1:Int):Nat→Int→List (Int×Int×Int)→Option (List (Int×Int×Int))
 |0,_,_=>none
 |n+1,b8,l9=>
  bif (leI b8 a2) then
   (
    (nz (w64 (4*a2))).bind fun z13=>
    (some (!eqI (Int.tmod (w64 ((w64 (b8*b8)) - d1)) (w64 (4*a2))) 0)).bind fun t14=>
    bif t14 then
     (
      sI (w64 (b8+1)) fun b16=>
      jN a2 d1 n b16 l9
     )
    else
     (
      (nz (w64 (4*a2))).bind fun z17=>
      sI (w64 (Int.tdiv (w64 ((w64 (b8*b8)) - d1)) (w64 (4*a2)))) fun f18=>
      (qK ((a2,b8,f18))).bind fun y19=>
      bif y19 then
       (
        (room (l9.length+([(a2,b8,f18)]).length)).bind fun u21=>
        sI (w64 (b8+1)) fun b22=>
        jN a2 d1 n b22 (l9++([(a2,b8,f18)]))
       )
      else
       (
        sI (w64 (b8+1)) fun b23=>
        jN a2 d1 n b23 l9
       )
     )
   )
  else
   (
    some l9
   )
def zAx (d1:Int):Nat→Int→List (Int×Int×Int)→Option (List (Int×Int×Int))
 |0,_,_=>none
 |n+1,a2,l3=>
  bif (leI (w64 ((w64 (3*a2))*a2)) (w64 (0 - d1))) then
   (
    sI (w64 (1 - a2)) fun b7=>
    (jN a2 d1 FU b7 l3).bind fun o11=>
    sI (w64 (a2+1)) fun a24=>
    zAx d1 n a24 o11
   )
  else
   (
    some l3
   )
def zDT (d1:Int):Option (List (Int×Int×Int)):=
 (zAx d1 FU 1 (([]:List (Int×Int×Int)))).bind fun o5=>
 some o5
def zAa (forms1:List (Int×Int×Int)):Nat→Int→List (Int×Int×Int)→Option (List (Int×Int×Int))
 |0,_,_=>none
 |n+1,t2,l3=>
  bif (ltI t2 ((forms1.length:Int))) then
   (
    (getI forms1 t2).bind fun e7=>
    (zAD e7).bind fun y8=>
    bif (eqI y8 1) then
     (
      (room (l3.length+([e7]).length)).bind fun u10=>
      sI (w64 (t2+1)) fun t11=>
      zAa forms1 n t11 (l3++([e7]))
     )
    else
     (
      sI (w64 (t2+1)) fun t12=>
      zAa forms1 n t12 l3
     )
   )
  else
   (
    some l3
   )
def zCw (forms1:List (Int×Int×Int)):Option (List (Int×Int×Int)):=
 (zAa forms1 FU 0 (([]:List (Int×Int×Int)))).bind fun o5=>
 some o5
def zBx (d1:Int):Option (List (Int×Int×Int)):=
 (zDT d1).bind fun y2=>
 (zCw y2).bind fun y3=>
 some y3
def zBP (y2:List (Int×Int×Int)):Nat→Int→List ((Int×Int×Int)×Int)→Option (List ((Int×Int×Int)×Int))
 |0,_,_=>none
 |n+1,t3,l4=>
  bif (ltI t3 ((y2.length:Int))) then
   (
    (getI y2 t3).bind fun e8=>
    sI (w64 (t3+1)) fun t9=>
    zBP y2 n t9 (mPut e8 t3 l4)
   )
  else
   (
    some l4
   )
def zEn (d1:Int):Option ((List (Int×Int×Int))×(List ((Int×Int×Int)×Int))):=
 (zBx d1).bind fun y2=>
 (zBP y2 FU 0 (([]:List ((Int×Int×Int)×Int)))).bind fun o6=>
 some ((y2,o6))
def zBo (f1:(Int×Int×Int)):Option (Int×Bool):=
 (zP f1).bind fun y2=>
 bif (!y2) then
  (
   some ((0,false))
  )
 else
  (
   (zL f1).bind fun y4=>
   (zEn y4).bind fun y5=>
   (zZ f1).bind fun y6=>
   sI (mAt y6 y5.2 0) fun t7=>
   some ((t7,true))
  )
def zBm (f1:(Int×Int×Int)):Option Bool:=
 (zZ f1).bind fun y2=>
 (zL f1).bind fun y3=>
 (zAO y3).bind fun y4=>
 (zZ y4).bind fun y5=>
 (some (((y2.1==y5.1)&&((y2.2.1==y5.2.1)&&(y2.2.2==y5.2.2))))).bind fun t6=>
 some t6
def zBl (f1:(Int×Int×Int)):Nat→Int→Int→Int→Int→Option Int
 |0,_,_,_,_=>none
 |n+1,k3,f4,f5,f6=>
  (zBm ((f4,f5,f6))).bind fun y9=>
  bif (!y9) then
   (
    sI (w64 (k3+1)) fun k11=>
    (jI ((f4,f5,f6)) f1).bind fun y12=>
    zBl f1 n k11 y12.1 y12.2.1 y12.2.2
   )
  else
   (
    some k3
   )
def zD7 (f1:(Int×Int×Int)):Option Int:=
 (zZ f1).bind fun y2=>
 (zBl f1 FU 1 y2.1 y2.2.1 y2.2.2).bind fun o8=>
 some o8
def zES (p3:Int):Nat→Int→List Int→Option (Int×(List Int))
 |0,_,_=>none
 |n+1,vn8,l9=>
  (nz p3).bind fun z12=>
  bif (eqI (Int.tmod vn8 p3) 0) then
   (
    (room (l9.length+([p3]).length)).bind fun u14=>
    (nz p3).bind fun z15=>
    sI (w64 (Int.tdiv vn8 p3)) fun vn16=>
    zES p3 n vn16 (l9++([p3]))
   )
  else
   (
    some (vn8,l9)
   )
def zEo:Nat→Int→Int→List Int→Option (Int×(List Int))
 |0,_,_,_=>none
 |n+1,vn2,p3,l4=>
  bif (leI (w64 (p3*p3)) vn2) then
   (
    (zES p3 FU vn2 l4).bind fun o11=>
    sI (w64 (p3+1)) fun p17=>
    zEo n o11.1 p17 o11.2
   )
  else
   (
    some (vn2,l4)
   )
def zGS (vn1:Int):Option (List Int):=
 (zEo FU vn1 2 (([]:List Int))).bind fun o6=>
 bif (ltI 1 o6.1) then
  (
   (room (o6.2.length+([o6.1]).length)).bind fun u19=>
   some (o6.2++([o6.1]))
  )
 else
  (
   some o6.2
  )
def zCx (y2:List Int):Nat→Int→List Int→Option (List Int)
 |0,_,_=>none
 |n+1,t3,l4=>
  bif (ltI t3 ((y2.length:Int))) then
   (
    (getI y2 t3).bind fun e8=>
    (getI y2 t3).bind fun e9=>
    (bif (eqI ((l4.length:Int)) 0) then some true else ((getI l4 (w64 (((l4.length:Int)) - 1))).bind fun e11=>(getI l4 (w64 (((l4.length:Int)) - 1))).bind fun e12=>some (!eqI e12 e9))).bind fun b13=>
    bif b13 then
     (
      (room (l4.length+([e9]).length)).bind fun u15=>
      sI (w64 (t3+1)) fun t16=>
      zCx y2 n t16 (l4++([e9]))
     )
    else
     (
      sI (w64 (t3+1)) fun t17=>
      zCx y2 n t17 l4
     )
   )
  else
   (
    some l4
   )
def zFj (vn1:Int):Option (List Int):=
 (zGS vn1).bind fun y2=>
 (zCx y2 FU 0 (([]:List Int))).bind fun o6=>
 some o6
def zCy (d1:Int) (y2:List Int):Nat→Int→List (Int×Int)→Option (List (Int×Int))
 |0,_,_=>none
 |n+1,t3,l4=>
  bif (ltI t3 ((y2.length:Int))) then
   (
    (getI y2 t3).bind fun e8=>
    (getI y2 t3).bind fun e9=>
    bif (ltI 2 e9) then
     (
      (room (l4.length+([(1,e9)]).length)).bind fun u11=>
      sI (w64 (t3+1)) fun t12=>
      zCy d1 y2 n t12 (l4++([(1,e9)]))
     )
    else
     (
      sI (w64 (t3+1)) fun t13=>
      zCy d1 y2 n t13 l4
     )
   )
  else
   (
    some l4
   )
def zFk (d1:Int):Option (List (Int×Int)):=
 (zFj (w64 (0 - d1))).bind fun y2=>
 (zCy d1 y2 FU 0 (([]:List (Int×Int)))).bind fun o6=>
 bif (!eqI (Int.tmod d1 2) 0) then
  (
   some o6
  )
 else
  (
   sI (w64 (Int.tdiv (w64 (0 - d1)) 4)) fun vn15=>
   sI (Int.tmod vn15 8) fun t16=>
   (
    bif (eqI t16 1) then
     (
      some (eqI t16 1)
     )
    else
     (
      bif (eqI t16 5) then
       (
        some (eqI t16 5)
       )
      else
       (
        some (eqI t16 4)
       )
     )
   ).bind fun j17=>
   bif j17 then
    (
     (room (o6.length+([(2,0)]).length)).bind fun u21=>
     some (o6++([(2,0)]))
    )
   else
    (
     bif (eqI t16 2) then
      (
       (room (o6.length+([(4,0)]).length)).bind fun u23=>
       some (o6++([(4,0)]))
      )
     else
      (
       bif (eqI t16 6) then
        (
         (room (o6.length+([(3,0)]).length)).bind fun u25=>
         some (o6++([(3,0)]))
        )
       else
        (
         bif (eqI t16 0) then
          (
           (room (o6.length+([(2,0),(3,0)]).length)).bind fun u27=>
           some (o6++([(2,0),(3,0)]))
          )
         else
          (
           some o6
          )
        )
      )
    )
  )
def zCT (vn1:Int):Option Int:=
 (zAP vn1 8).bind fun y2=>
 bif (bif (eqI y2 1) then true else (eqI y2 7)) then
  (
   some 1
  )
 else
  (
   some (-1)
  )
def zEk (vn5:Int):Nat→Int→Int→Option (Int×Int)
 |0,_,_=>none
 |n+1,a10,vs11=>
  bif (eqI (Int.tmod a10 2) 0) then
   (
    sI (w64 (Int.tdiv a10 2)) fun a15=>
    (zCT vn5).bind fun y16=>
    sI (w64 (vs11*y16)) fun vs17=>
    zEk vn5 n a15 vs17
   )
  else
   (
    some (a10,vs11)
   )
def zDm:Nat→Int→Int→Int→Option (Int×Int)
 |0,_,_,_=>none
 |n+1,a4,vn5,vs6=>
  bif (!eqI a4 0) then
   (
    (zEk vn5 FU a4 vs6).bind fun o13=>
    (some (bif (eqI (Int.tmod o13.1 4) 3) then (eqI (Int.tmod vn5 4) 3) else false)).bind fun t19=>
    bif t19 then
     (
      sI (w64 (0 - o13.2)) fun vs21=>
      (nz o13.1).bind fun z22=>
      sI (Int.tmod vn5 o13.1) fun a23=>
      zDm n a23 o13.1 vs21
     )
    else
     (
      (nz o13.1).bind fun z24=>
      sI (Int.tmod vn5 o13.1) fun a25=>
      zDm n a25 o13.1 o13.2
     )
   )
  else
   (
    some (vn5,vs6)
   )
def zHB (a1:Int) (vn2:Int):Option Int:=
 (zAP a1 vn2).bind fun y3=>
 (zDm FU y3 vn2 1).bind fun o8=>
 bif (!eqI o8.1 1) then
  (
   some 0
  )
 else
  (
   some o8.2
  )
def zCz (x1:(Int×Int)) (vn2:Int):Option Int:=
 bif (eqI x1.1 1) then
  (
   (zHB vn2 x1.2).bind fun y4=>
   some y4
  )
 else
  (
   bif (eqI (Int.tmod vn2 2) 0) then
    (
     some 0
    )
   else
    (
     (zAP vn2 4).bind fun y6=>
     sI (w64 (2 - y6)) fun delta7=>
     bif (eqI x1.1 2) then
      (
       some delta7
      )
     else
      (
       bif (eqI x1.1 3) then
        (
         (zCT vn2).bind fun y10=>
         some y10
        )
       else
        (
         (zCT vn2).bind fun y11=>
         sI (w64 (delta7*y11)) fun t12=>
         some t12
        )
      )
    )
  )
def zEQ (vn2:Int) (y3:List (Int×Int)):Nat→Int→List Int→Option (List Int)
 |0,_,_=>none
 |n+1,t4,l5=>
  bif (ltI t4 ((y3.length:Int))) then
   (
    (getI y3 t4).bind fun e9=>
    (getI y3 t4).bind fun e10=>
    (zCz e10 vn2).bind fun y11=>
    (room (l5.length+([y11]).length)).bind fun u12=>
    sI (w64 (t4+1)) fun t13=>
    zEQ vn2 y3 n t13 (l5++([y11]))
   )
  else
   (
    some l5
   )
def zFi (d1:Int) (vn2:Int):Option (List Int):=
 (zFk d1).bind fun y3=>
 (zEQ vn2 y3 FU 0 (([]:List Int))).bind fun o7=>
 some o7
def zB5 (f1:(Int×Int×Int)):Option (List Int):=
 (zZ f1).bind fun y2=>
 (zL y2).bind fun y3=>
 (zBn y2 (w64 (2*y3))).bind fun y4=>
 (zAR y2 y4.1 y4.2).bind fun y5=>
 (zFi y3 y5).bind fun y6=>
 some y6
def zEl (vn1:Int):Option Bool:=
 some (bif (leI 1 vn1) then (leI vn1 10000) else false)
def zBK (vn1:Int):Nat→Int→Int→Option Int
 |0,_,_=>none
 |n+1,low2,high3=>
  bif (ltI low2 high3) then
   (
    sI (w64 (Int.tdiv (w64 ((w64 (low2+high3))+1)) 2)) fun vm7=>
    bif (leI (w64 (vm7*vm7)) vn1) then
     (
      zBK vn1 n vm7 high3
     )
    else
     (
      sI (w64 (vm7 - 1)) fun high9=>
      zBK vn1 n low2 high9
     )
   )
  else
   (
    some low2
   )
def zCr (vn1:Int):Option Int:=
 (zBK vn1 FU 0 3000000000).bind fun o5=>
 some o5
def zBs (vn1:Int):Option Bool:=
 (bif (leI 0 vn1) then ((zCr vn1).bind fun y3=>(zCr vn1).bind fun y4=>some (eqI (w64 (y3*y4)) vn1)) else some false).bind fun b5=>
 some b5
def jO (f1:(Int×Int×Int)) (vn2:Int) (y3:Int) (y5:Int):Nat→Int→List (Int×Int)→Option (List (Int×Int))
 |0,_,_=>none
 |n+1,x7,l8=>
  bif (leI x7 y5) then
   (
    sI (w64 ((w64 ((w64 (y3*x7))*x7))+(w64 ((w64 (4*f1.2.2))*vn2)))) fun square12=>
    (zBs square12).bind fun y13=>
    bif (!y13) then
     (
      sI (w64 (x7+1)) fun x15=>
      jO f1 vn2 y3 y5 n x15 l8
     )
    else
     (
      (zCr square12).bind fun y16=>
      (
       (nz (w64 (2*f1.2.2))).bind fun z18=>
       (some (eqI (Int.tmod (w64 ((w64 ((w64 (0 - f1.2.1))*x7)) - y16)) (w64 (2*f1.2.2))) 0)).bind fun t19=>
       bif t19 then
        (
         (nz (w64 (2*f1.2.2))).bind fun z21=>
         (room (l8.length+([(x7,w64 (Int.tdiv (w64 ((w64 ((w64 (0 - f1.2.1))*x7)) - y16)) (w64 (2*f1.2.2))))]).length)).bind fun u22=>
         (some (l8++([(x7,w64 (Int.tdiv (w64 ((w64 ((w64 (0 - f1.2.1))*x7)) - y16)) (w64 (2*f1.2.2))))]))).bind fun l23=>
         some l23
        )
       else
        (
         some l8
        )
      ).bind fun j17=>
      (bif (ltI 0 y16) then ((nz (w64 (2*f1.2.2))).bind fun z25=>some (eqI (Int.tmod (w64 ((w64 ((w64 (0 - f1.2.1))*x7))+y16)) (w64 (2*f1.2.2))) 0)) else some false).bind fun b26=>
      bif b26 then
       (
        (nz (w64 (2*f1.2.2))).bind fun z28=>
        (room (j17.length+([(x7,w64 (Int.tdiv (w64 ((w64 ((w64 (0 - f1.2.1))*x7))+y16)) (w64 (2*f1.2.2))))]).length)).bind fun u29=>
        (some (j17++([(x7,w64 (Int.tdiv (w64 ((w64 ((w64 (0 - f1.2.1))*x7))+y16)) (w64 (2*f1.2.2))))]))).bind fun l30=>
        sI (w64 (x7+1)) fun x31=>
        jO f1 vn2 y3 y5 n x31 l30
       )
      else
       (
        sI (w64 (x7+1)) fun x32=>
        jO f1 vn2 y3 y5 n x32 j17
       )
     )
   )
  else
   (
    some l8
   )
def zB8 (f1:(Int×Int×Int)) (vn2:Int):Option (List (Int×Int)):=
 (zL f1).bind fun y3=>
 (nz (w64 (0 - y3))).bind fun z4=>
 (zCr (w64 (Int.tdiv (w64 ((w64 (4*f1.2.2))*vn2)) (w64 (0 - y3))))).bind fun y5=>
 sI (w64 (0 - y5)) fun x6=>
 (jO f1 vn2 y3 y5 FU x6 (([]:List (Int×Int)))).bind fun o10=>
 some o10
def zCA (f1:(Int×Int×Int)) (vn2:Int):Option ((List (Int×Int))×Bool):=
 (qS f1).bind fun y3=>
 (bif (!y3) then some true else ((zEl vn2).bind fun y5=>some (!y5))).bind fun b6=>
 bif b6 then
  (
   some ((([]:List (Int×Int)),false))
  )
 else
  (
   (zB8 f1 vn2).bind fun y8=>
   some ((y8,true))
  )
def zAK (f1:(Int×Int×Int)) (vn2:Int):Option (Int×Bool):=
 (zCA f1 vn2).bind fun y3=>
 some (((y3.1.length:Int),y3.2))
def zDU (vm1:(Int×Int×Int×Int)):Option Int:=
 sI (w64 ((w64 (vm1.1*vm1.2.2.2)) - (w64 (vm1.2.1*vm1.2.2.1)))) fun t2=>
 some t2
def zAb (vm1:(Int×Int×Int×Int)):Option (Int×Int×Int×Int):=
 (zDU vm1).bind fun y2=>
 sI (w64 (y2*vm1.2.2.2)) fun f3=>
 sI (w64 ((w64 (0 - y2))*vm1.2.1)) fun f4=>
 sI (w64 ((w64 (0 - y2))*vm1.2.2.1)) fun f5=>
 sI (w64 (y2*vm1.1)) fun f6=>
 some ((f3,f4,f5,f6))
def zC2 (vm1:(Int×Int×Int×Int)):Option Bool:=
 (zA7 ([vm1.1,vm1.2.1,vm1.2.2.1,vm1.2.2.2])).bind fun y2=>
 some y2
def zEp (vm1:(Int×Int×Int×Int)):Option ((Int×Int×Int×Int)×Bool):=
 (zC2 vm1).bind fun y2=>
 bif (!y2) then
  (
   some (((0,0,0,0),false))
  )
 else
  (
   some ((vm1,true))
  )
def zAh (f1:(Int×Int×Int)) (g2:(Int×Int×Int)):Option ((Int×Int×Int×Int)×Bool):=
 (zS f1).bind fun y3=>
 (bif (!y3) then some true else ((zS g2).bind fun y5=>some (!y5))).bind fun b6=>
 bif b6 then
  (
   some (((0,0,0,0),false))
  )
 else
  (
   (qX f1).bind fun y8=>
   (qX g2).bind fun y9=>
   (some (!((y8.1.1==y9.1.1)&&((y8.1.2.1==y9.1.2.1)&&(y8.1.2.2==y9.1.2.2))))).bind fun t10=>
   bif t10 then
    (
     some (((0,0,0,0),false))
    )
   else
    (
     (zAb y9.2).bind fun y12=>
     (zY y8.2 y12).bind fun y13=>
     (zEp y13).bind fun y14=>
     some ((y14.1,y14.2))
    )
  )
def zBM (vm1:(Int×Int×Int×Int)):Option ByteArray:=
 (qJ vm1.1).bind fun y2=>
 (catR ((⟨#[91]⟩:ByteArray)) y2).bind fun u3=>
 (catR (((⟨#[91]⟩:ByteArray))++y2) ((⟨#[44]⟩:ByteArray))).bind fun u4=>
 (qJ vm1.2.1).bind fun y5=>
 (catR ((((⟨#[91]⟩:ByteArray))++y2)++((⟨#[44]⟩:ByteArray))) y5).bind fun u6=>
 (catR (((((⟨#[91]⟩:ByteArray))++y2)++((⟨#[44]⟩:ByteArray)))++y5) ((⟨#[59]⟩:ByteArray))).bind fun u7=>
 (qJ vm1.2.2.1).bind fun y8=>
 (catR ((((((⟨#[91]⟩:ByteArray))++y2)++((⟨#[44]⟩:ByteArray)))++y5)++((⟨#[59]⟩:ByteArray))) y8).bind fun u9=>
 (catR (((((((⟨#[91]⟩:ByteArray))++y2)++((⟨#[44]⟩:ByteArray)))++y5)++((⟨#[59]⟩:ByteArray)))++y8) ((⟨#[44]⟩:ByteArray))).bind fun u10=>
 (qJ vm1.2.2.2).bind fun y11=>
 (catR ((((((((⟨#[91]⟩:ByteArray))++y2)++((⟨#[44]⟩:ByteArray)))++y5)++((⟨#[59]⟩:ByteArray)))++y8)++((⟨#[44]⟩:ByteArray))) y11).bind fun u12=>
 (catR (((((((((⟨#[91]⟩:ByteArray))++y2)++((⟨#[44]⟩:ByteArray)))++y5)++((⟨#[59]⟩:ByteArray)))++y8)++((⟨#[44]⟩:ByteArray)))++y11) ((⟨#[93]⟩:ByteArray))).bind fun u13=>
 some ((((((((((⟨#[91]⟩:ByteArray))++y2)++((⟨#[44]⟩:ByteArray)))++y5)++((⟨#[59]⟩:ByteArray)))++y8)++((⟨#[44]⟩:ByteArray)))++y11)++((⟨#[93]⟩:ByteArray)))
def zB6 (kind1:ByteArray) (words2:List ByteArray):Option ByteArray:=
 (catR kind1 ((⟨#[32]⟩:ByteArray))).bind fun u3=>
 (zCN words2 ((⟨#[32]⟩:ByteArray))).bind fun y4=>
 (catR (kind1++((⟨#[32]⟩:ByteArray))) y4).bind fun u5=>
 some ((kind1++((⟨#[32]⟩:ByteArray)))++y4)
def jV (f1:(Int×Int×Int)) (g2:(Int×Int×Int)):Option (ByteArray×Bool):=
 (zAh f1 g2).bind fun y3=>
 bif (!y3.2) then
  (
   some (((⟨#[]⟩:ByteArray),false))
  )
 else
  (
   (jP f1).bind fun y5=>
   (jP g2).bind fun y6=>
   (zBM y3.1).bind fun y7=>
   (zB6 ((⟨#[101,113,117,105,118,97,108,101,110,116]⟩:ByteArray)) ([y5,y6,y7])).bind fun y8=>
   some ((y8,true))
  )
def zA8 (f1:(Int×Int×Int)):Option ((Int×Int×Int)×(Int×Int×Int×Int)×Bool):=
 (zS f1).bind fun y2=>
 bif (!y2) then
  (
   some (((0,0,0),(0,0,0,0),false))
  )
 else
  (
   (qX f1).bind fun y4=>
   (zC2 y4.2).bind fun y5=>
   bif (!y5) then
    (
     some (((0,0,0),(0,0,0,0),false))
    )
   else
    (
     some ((y4.1,y4.2,true))
    )
  )
def zAB (f1:(Int×Int×Int)) (g2:(Int×Int×Int)):Option (ByteArray×Bool):=
 (zA8 f1).bind fun y3=>
 (zA8 g2).bind fun y4=>
 (some (bif (bif (!y3.2.2) then true else (!y4.2.2)) then true else (((y3.1.1==y4.1.1)&&((y3.1.2.1==y4.1.2.1)&&(y3.1.2.2==y4.1.2.2)))))).bind fun t7=>
 bif t7 then
  (
   some (((⟨#[]⟩:ByteArray),false))
  )
 else
  (
   (jP f1).bind fun y9=>
   (zBM y3.2.1).bind fun y10=>
   (jP y3.1).bind fun y11=>
   (jP g2).bind fun y12=>
   (zBM y4.2.1).bind fun y13=>
   (jP y4.1).bind fun y14=>
   (zB6 ((⟨#[100,105,102,102,101,114,101,110,116]⟩:ByteArray)) ([y9,y10,y11,y12,y13,y14])).bind fun y15=>
   some ((y15,true))
  )
def zAv (vs1:(Int×(Nat→(Int×Int×Int)))) (y21:List Int):Nat→ByteArray→Int→Option ByteArray
 |0,_,_=>none
 |n+1,signs22,t23=>
  bif (ltI t23 ((y21.length:Int))) then
   (
    (getI y21 t23).bind fun e27=>
    (getI y21 t23).bind fun e28=>
    (getB ((⟨#[45,43]⟩:ByteArray)) (w64 (Int.tdiv (w64 (e28+1)) 2))).bind fun e29=>
    (catR signs22 (Utf8.encode e29)).bind fun u30=>
    sI (w64 (t23+1)) fun t31=>
    zAv vs1 y21 n (signs22++(Utf8.encode e29)) t31
   )
  else
   (
    some signs22
   )
def qY (vs1:(Int×(Nat→(Int×Int×Int)))) (l2:(ByteArray×(List Int)×(Int×Int×Int)×Int)) (forms3:List (Int×Int×Int)):Option (ByteArray×Bool):=
 (some (l2.1.toList==((⟨#[115,104,111,119]⟩:ByteArray)).toList)).bind fun t4=>
 bif t4 then
  (
   (getI forms3 0).bind fun e6=>
   (jP e6).bind fun y7=>
   some ((y7,true))
  )
 else
  (
   (some (l2.1.toList==((⟨#[105,110,100,101,120]⟩:ByteArray)).toList)).bind fun t8=>
   bif t8 then
    (
     (getI forms3 0).bind fun e10=>
     (zBo e10).bind fun y11=>
     (qJ y11.1).bind fun y12=>
     some ((y12,y11.2))
    )
   else
    (
     (some (l2.1.toList==((⟨#[111,114,100,101,114]⟩:ByteArray)).toList)).bind fun t13=>
     bif t13 then
      (
       (getI forms3 0).bind fun e15=>
       (zD7 e15).bind fun y16=>
       (qJ y16).bind fun y17=>
       some ((y17,true))
      )
     else
      (
       (some (l2.1.toList==((⟨#[103,101,110,117,115]⟩:ByteArray)).toList)).bind fun t18=>
       bif t18 then
        (
         (getI forms3 0).bind fun e20=>
         (zB5 e20).bind fun y21=>
         (zAv vs1 y21 FU ((⟨#[]⟩:ByteArray)) 0).bind fun o25=>
         some ((o25,true))
        )
       else
        (
         (some (l2.1.toList==((⟨#[118,97,108,117,101]⟩:ByteArray)).toList)).bind fun t32=>
         bif t32 then
          (
           (getI forms3 0).bind fun e34=>
           (zAK e34 l2.2.2.2).bind fun y35=>
           (qJ y35.1).bind fun y36=>
           some ((y36,y35.2))
          )
         else
          (
           bif (l2.1.toList==((⟨#[115,97,109,101]⟩:ByteArray)).toList) then
            (
             (getI forms3 0).bind fun e38=>
             (getI forms3 1).bind fun e39=>
             (jV e38 e39).bind fun y40=>
             bif y40.2 then
              (
               some ((y40.1,true))
              )
             else
              (
               (getI forms3 0).bind fun e42=>
               (getI forms3 1).bind fun e43=>
               (zAB e42 e43).bind fun y44=>
               some ((y44.1,y44.2))
              )
            )
           else
            (
             (zB2 vs1).bind fun y45=>
             bif (!(y45.toList==((⟨#[]⟩:ByteArray)).toList)) then
              (
               some ((y45,true))
              )
             else
              (
               some (((⟨#[110,111,110,101]⟩:ByteArray),true))
              )
            )
          )
        )
      )
    )
  )
def qC (cc1:((Int×(Nat→(Int×Int×Int)))×(List (Int×(Nat→(Int×Int×Int)))))) (vs2:ByteArray):Option (ByteArray×((Int×(Nat→(Int×Int×Int)))×(List (Int×(Nat→(Int×Int×Int)))))):=
 (zM vs2).bind fun y3=>
 bif (!y3.2) then
  (
   some (((⟨#[119,104,97,116]⟩:ByteArray),cc1))
  )
 else
  (
   (some (y3.1.1.toList==((⟨#[117,110,100,111]⟩:ByteArray)).toList)).bind fun t5=>
   bif t5 then
    (
     bif (eqI ((cc1.2.length:Int)) 0) then
      (
       some (((⟨#[110,111]⟩:ByteArray),cc1))
      )
     else
      (
       (getI cc1.2 (w64 (((cc1.2.length:Int)) - 1))).bind fun e8=>
       (getI cc1.2 (w64 (((cc1.2.length:Int)) - 1))).bind fun e9=>
       (slc cc1.2.length 0 (w64 (((cc1.2.length:Int)) - 1))).bind fun u10=>
       some (((⟨#[111,107]⟩:ByteArray),(e9,subl cc1.2 0 (w64 (((cc1.2.length:Int)) - 1)))))
      )
    )
   else
    (
     (zO cc1.1 y3.1).bind fun y11=>
     bif (!y11.2) then
      (
       some (((⟨#[110,111]⟩:ByteArray),cc1))
      )
     else
      (
       (zH cc1.1 y3.1 y11.1).bind fun y13=>
       bif y13.2.1 then
        (
         bif (!y13.1) then
          (
           some (((⟨#[110,111]⟩:ByteArray),cc1))
          )
         else
          (
           (room (8*(cc1.2.length+([cc1.1]).length))).bind fun u16=>
           some (((⟨#[111,107]⟩:ByteArray),(y13.2.2,cc1.2++([cc1.1]))))
          )
        )
       else
        (
         (qY cc1.1 y3.1 y11.1).bind fun y17=>
         bif (!y17.2) then
          (
           some (((⟨#[110,111]⟩:ByteArray),cc1))
          )
         else
          (
           some ((y17.1,cc1))
          )
        )
      )
    )
  )
def zAN (y2:((List ByteArray)×Bool)):Nat→Int→List ByteArray→List (Int×(Nat→(Int×Int×Int)))→Int→(Nat→(Int×Int×Int))→Option ((List ByteArray)×(List (Int×(Nat→(Int×Int×Int))))×Int×(Nat→(Int×Int×Int)))
 |0,_,_,_,_,_=>none
 |n+1,t7,l8,l9,f10,l11=>
  bif (ltI t7 ((y2.1.length:Int))) then
   (
    (getI y2.1 t7).bind fun e15=>
    (getI y2.1 t7).bind fun e16=>
    (qC (((f10,l11),l9)) e16).bind fun y17=>
    (room (l8.length+([y17.1]).length)).bind fun u18=>
    sI (w64 (t7+1)) fun t19=>
    zAN y2 n t19 (l8++([y17.1])) y17.2.2 y17.2.1.1 y17.2.1.2
   )
  else
   (
    some (l8,l9,f10,l11)
   )
def zB3 (script1:ByteArray):Option (Option ((Int×(Nat→(Int×Int×Int)))×(List (Int×(Nat→(Int×Int×Int))))×(List ByteArray))):=
 (zD8 script1).bind fun y2=>
 (some (bif (bif (!y2.2) then true else (ltI 2000 ((script1.size:Int)))) then true else (ltI 60 ((y2.1.length:Int))))).bind fun t5=>
 bif t5 then
  (
   some none
  )
 else
  (
   (zAN y2 FU 0 (([]:List ByteArray)) (([]:List (Int×(Nat→(Int×Int×Int))))) (-23) ((fun _=>(0,0,0)))).bind fun o13=>
   some (some ((o13.2.2,o13.2.1,o13.1)))
  )
def qW (y2:(((Int×ByteArray×(List (Int×Int×Int)))×(List (Int×ByteArray×(List (Int×Int×Int)))))×(List ByteArray)×Bool)):Nat→Int→Int→Int→Int→Option (Int×Int×Int)
 |0,_,_,_,_=>none
 |n+1,no3,t4,what5,rest6=>
  bif (ltI t4 ((y2.2.1.length:Int))) then
   (
    (getI y2.2.1 t4).bind fun e10=>
    (getI y2.2.1 t4).bind fun e11=>
    bif (e11.toList==((⟨#[110,111]⟩:ByteArray)).toList) then
     (
      sI (w64 (no3+1)) fun no13=>
      sI (w64 (t4+1)) fun t14=>
      qW y2 n no13 t14 what5 rest6
     )
    else
     (
      bif (e11.toList==((⟨#[119,104,97,116]⟩:ByteArray)).toList) then
       (
        sI (w64 (what5+1)) fun what16=>
        sI (w64 (t4+1)) fun t17=>
        qW y2 n no3 t17 what16 rest6
       )
      else
       (
        sI (w64 (rest6+1)) fun rest18=>
        sI (w64 (t4+1)) fun t19=>
        qW y2 n no3 t19 what5 rest18
       )
     )
   )
  else
   (
    some (no3,what5,rest6)
   )
def zBw (script1:ByteArray):Option (Int×Int×Int×Bool):=
 (zCt script1).bind fun y2=>
 (qW y2 FU 0 0 0 0).bind fun o8=>
 some ((o8.1,o8.2.1,o8.2.2,y2.2.2))
def jJ (cc3:((Int×(Nat→(Int×Int×Int)))×(List (Int×(Nat→(Int×Int×Int))))×(List ByteArray))):Nat→Int→Int→Int→Option (Int×Int)
 |0,_,_,_=>none
 |n+1,no5,t6,what7=>
  bif (ltI t6 ((cc3.2.2.length:Int))) then
   (
    (getI cc3.2.2 t6).bind fun e11=>
    bif (e11.toList==((⟨#[110,111]⟩:ByteArray)).toList) then
     (
      sI (w64 (no5+1)) fun no13=>
      sI (w64 (t6+1)) fun t14=>
      jJ cc3 n no13 t14 what7
     )
    else
     (
      bif (e11.toList==((⟨#[119,104,97,116]⟩:ByteArray)).toList) then
       (
        sI (w64 (what7+1)) fun what16=>
        sI (w64 (t6+1)) fun t17=>
        jJ cc3 n no5 t17 what16
       )
      else
       (
        sI (w64 (t6+1)) fun t18=>
        jJ cc3 n no5 t18 what7
       )
     )
   )
  else
   (
    some (no5,what7)
   )
def zBz (script1:ByteArray):Option (Int×Int×Int×Bool):=
 (zB3 script1).bind fun vcc3=>
 elO vcc3 (
  some ((0,0,0,false))
 ) fun cc3=>
 (jJ cc3 FU 0 0 0).bind fun o9=>
 sI (w64 ((w64 (((cc3.2.2.length:Int)) - o9.1)) - o9.2)) fun t19=>
 some ((o9.1,o9.2,t19,true))
def zCS (aScript1:ByteArray):Option Bool:=
 bif (ltI 1048576 ((aScript1.size:Int))) then
  (
   some true
  )
 else
  (
   (zBw aScript1).bind fun y3=>
   (zBz aScript1).bind fun y4=>
   (some (bif (bif (bif (!eqI y4.1 y3.1) then true else (!eqI y4.2.1 y3.2.1)) then true else (!eqI y4.2.2.1 y3.2.2.1)) then true else (y4.2.2.2 != y3.2.2.2))).bind fun t8=>
   bif t8 then
    (
     some false
    )
   else
    (
     some true
    )
  )
theorem zUd:zBI=zAR:=rfl
theorem z1C:zD4=zA9:=rfl
theorem z4r:zFy=qB:=rfl
theorem zWV:qP=zY:=rfl
theorem z4q:zDj=zAb:=rfl
theorem zZR (f:Int×Int×Int):zC5 f=qK f:=by
 simp only[zC5,qK,qG,za]
theorem zGk (a m:Int):jH a m=zAP a m:=by
 simp only[jH,zAP,zN]
theorem z1D (a m:Int):((jH a m).bind fun y2=>(nz m).bind fun _=>sI (w64 (Int.tdiv (w64 (a - y2)) m)) fun t4=>some t4)=zAo a m:=by
 simp only[zAo,zGk]
theorem zZQ (f:Int×Int×Int):zEI f=zAo (w64 (f.1 - f.2.1)) (w64 (2*f.1)):=z1D _ _
theorem z1l {a m:Int} (hm:1≤m) (h:a.tmod m<0):a.tmod m+m=a % m:=by
 have e:=Int.tmod_eq_emod (a:=a) (b:=m);have h1:=qa a (b:=m) (by omega);have h2:=qc a (b:=m) (by omega);split at e<;>omega
theorem z1k {a m:Int} (hm:1≤m) (h:0≤a.tmod m):a.tmod m=a % m:=by
 have e:=Int.tmod_eq_emod (a:=a) (b:=m);have h1:=qa a (b:=m) (by omega);have h2:=qc a (b:=m) (by omega);split at e<;>omega
theorem zBB {a m:Int} (h1:1≤m) (h2:m≤9223372036854775807):zAP a m=some (a % m):=by
 have h3:=qa a (b:=m) (by omega);have h4:=qc a (b:=m) (by omega);have hz:nz m=some ():=by
  unfold nz;rw[jD];have:(m==0)=false:=by rw[zt];omega
  rw[this];rfl
 simp only[zAP,hz,za,zN,zG];by_cases h:a.tmod m<0
 ·rw[zd h,zb,z1l h1 h,zA (by omega)]
 ·rw[ze h,zc,z1k h1 (by omega)]
theorem zFS {a m:Int} (h1:1≤m) (h2:m≤4611686018427387904) (h3:-4611686018427387904≤a) (h4:a≤4611686018427387904):zAo a m=some (a / m):=by
 have e1:=qa a (b:=m) (by omega);have e2:=qc a (b:=m) (by omega);have hz:nz m=some ():=by
  unfold nz;rw[jD];have:(m==0)=false:=by rw[zt];omega
  rw[this];rfl
 have e3:a - a % m=m*(a / m):=by have:=Int.emod_add_mul_ediv a m;omega
 have e4:Int.tdiv (a - a % m) m=a / m:=by rw[e3];exact Int.mul_tdiv_cancel_left _ (by omega)
 have e5:a / m≤4611686018427387904∧-4611686018427387904≤a / m:=by
  constructor
  ·rcases Int.lt_or_le a 0 with h|h
   ·have:=Int.ediv_neg_of_neg_of_pos h (show 0<m by omega);omega
   ·have:=Int.ediv_le_self m h;omega
  ·have:=Int.le_ediv_of_mul_le (c:=m) (a:=-4611686018427387904) (b:=a) (by omega) (by
    have:-4611686018427387904*m≤-4611686018427387904:=by omega
    omega)
   omega
 simp only[zAo,zBB h1 (by omega),hz,za,zN];rw[zA (n:=a - a % m) (by omega),e4,zA (by omega)]
theorem z3J {a b c:Int} (ha:1≤a) (haM:a≤2000000) (hb1:-2000000≤b) (hb2:b≤2000000) (hr:qK (a,b,c)=some false):zDL (a,b,c)=qL (a,b,c):=by
 have hf:=zFS (a:=a - b) (m:=2*a) (by omega) (by omega) (by omega) (by omega);have hn:qG (a,b,c)=some (decide (-a<b∧b≤a)):=by
  simp only[qG,za,zG,qT];rw[zA (by omega)];by_cases h1:-a<b<;>by_cases h2:b≤a<;>simp[h1,h2]
  all_goals omega
 have hq:(a - b) / (2*a)=0↔(-a<b∧b≤a):=by
  constructor
  ·intro h;have h1:=Int.emod_add_mul_ediv (a - b) (2*a);have h2:=qa (a - b) (b:=2*a) (by omega);have h3:=qc (a - b) (b:=2*a) (by omega);rw[h]at h1;omega
  ·rintro⟨h1,h2⟩;exact Int.ediv_eq_zero_of_lt (by omega) (by omega)
 simp only[zDL,qL,zZQ,zZR,hr,za,hn];rw[zA (n:=a - b) (by omega),zA (n:=2*a) (by omega),hf];simp only[za,zc,jD];by_cases h:(a - b) / (2*a)=0
 ·have h2:=hq.1 h;simp[h,h2]
 ·have h2:¬(-a<b∧b≤a):=fun x=>h (hq.2 x);have h3:((a - b) / (2*a)==0)=false:=by rw[zt];exact h
  simp[h3,h2]
theorem zX {n:Int} (h:n.natAbs≤9223372036854775807):w64 n=n:=zA (by omega)
theorem zW {x y:Int} {A B:Nat} (hx:x.natAbs≤A) (hy:y.natAbs≤B):(x*y).natAbs≤A*B:=by
 rw[Int.natAbs_mul];exact Nat.mul_le_mul hx hy
theorem zMZ {a b c:Int} (ha:a.natAbs≤2000000) (hb:b.natAbs≤2000000) (hc:c.natAbs≤2000000):qB (a,b,c) (0,-1,1,0)=some (c,-b,a):=by
 simp only[qB,zAR,zA9,zN,za,Int.mul_zero,Int.zero_mul,Int.mul_one,Int.add_zero,Int.zero_add,Int.one_mul];rw[show w64 0=0 from rfl];simp only[Int.mul_zero,Int.zero_mul,Int.mul_one,Int.add_zero,Int.zero_add,Int.one_mul];rw[show w64 0=0 from rfl];simp only[Int.mul_zero,Int.zero_mul,Int.mul_one,Int.add_zero,Int.zero_add,Int.one_mul,Int.mul_neg,Int.neg_mul,Int.neg_neg];have e1:w64 c=c:=zX (by omega);have e2:w64 (-1)=-1:=rfl;have e3:w64 a=a:=zX (by omega);have e4:w64 (-a)=-a:=zX (by omega);have e5:w64 (-b)=-b:=zX (by omega);simp only[e1,e2,e3,e4,e5,Int.mul_neg,Int.neg_mul,Int.neg_neg,Int.mul_one,Int.one_mul,Int.add_zero,Int.zero_add,show w64 0=0 from rfl]
theorem zM0 {a b c s:Int} (ha:a.natAbs≤2000000) (hb:b.natAbs≤2000000) (hc:c.natAbs≤2000000) (hs:s.natAbs≤2000000):qB (a,b,c) (1,s,0,1)=some (a,2*a*s+b,a*s*s+b*s+c):=by
 have m1:=zW ha hs;have m2:=zW hb hs;have m3:=zW m1 hs;have m4:(2*a*s).natAbs≤2*2000000*2000000:=zW (zW (x:=2) (A:=2) (by decide) ha) hs;simp only[qB,zAR,zA9,zN,za,Int.mul_zero,Int.zero_mul,Int.mul_one,Int.add_zero,Int.zero_add,Int.one_mul];have z:w64 0=0:=rfl;have o:w64 1=1:=rfl;have e1:w64 c=c:=zX (by omega);have e3:w64 a=a:=zX (by omega);have e4:w64 b=b:=zX (by omega);have e5:w64 (2*a)=2*a:=zX (by omega);have e6:w64 (2*a*s)=2*a*s:=zX (by omega);have e7:w64 (a*s)=a*s:=zX (by omega);have e8:w64 (a*s*s)=a*s*s:=zX (by omega);have e9:w64 (b*s)=b*s:=zX (by omega);have e10:w64 (a*s*s+b*s)=a*s*s+b*s:=zX (by omega);have e11:w64 (a*s*s+b*s+c)=a*s*s+b*s+c:=zX (by omega);have e12:w64 (2*a*s+b)=2*a*s+b:=zX (by omega);simp only[z,o,e1,e3,e4,e5,e6,e7,e8,e9,e10,e11,e12,Int.mul_one,Int.one_mul,Int.add_zero,Int.zero_add,Int.mul_zero,Int.zero_mul]
theorem z5C {n:Int} (h:n.natAbs≤9223372036854775806):zDb n=some (n.natAbs:Int):=by
 simp only[zDb,zN,mxI,zG];by_cases h1:n< -9223372036854775807
 ·omega
 ·rw[ze h1,zc,zA (by omega)];by_cases h2:n<0 - n
  ·rw[zd h2,zb];congr 1;omega
  ·rw[ze h2,zc];congr 1;omega
theorem zLu {n:Int} (h:n.natAbs≤9223372036854775806):zCu n=some (n.natAbs:Int):=by
 simp only[zCu,zCf,za,zG];rw[zA (by omega)];by_cases h2:0 - n<n
 ·rw[zd h2,zb,za];congr 1;omega
 ·rw[ze h2,zc,za];congr 1;omega
theorem zF2 {b:Int} (h:b≠0):nz b=some ():=by
 unfold nz;rw[jD];have:(b==0)=false:=by rw[zt];exact h
 rw[this];rfl
theorem zDp {a b:Int} (h:a≠b):eqI a b=false:=by rw[jD,zt];exact h
theorem zCq (a:Int):eqI a a=true:=by rw[jD];exact beq_self_eq_true a
theorem zJ7 (a b:Int):Int.gcd b (a.tmod b)=Int.gcd a b:=by
 unfold Int.gcd;rw[Int.natAbs_tmod,Nat.gcd_comm,←Nat.gcd_rec,Nat.gcd_comm]
theorem z0J {x y:Nat} (k:Nat) (hy:0<y) (hxy:y<x) (h:x<2 ^(k+1)):x % y<2 ^k:=by
 have h1:=Nat.mod_lt x hy;have h2:=Nat.div_add_mod x y;have h3:1≤x / y:=Nat.div_pos (Nat.le_of_lt hxy) hy;have h4:y*1≤y*(x / y):=Nat.mul_le_mul_left y h3;rw[Nat.pow_succ]at h;omega
theorem zWG:∀(k n:Nat) (a b:Int),b.natAbs<2 ^k→2*k+1≤n→∃r,zAg n a b=some r∧r.natAbs=Int.gcd a b
 |k,0,a,b,_,hn=>by omega
 |0,n+1,a,b,hb,hn=>by
  have:b=0:=by simp at hb;omega
  subst this;unfold zAg;rw[zCq];exact⟨a,rfl,by simp⟩
 |k+1,n+1,a,b,hb,hn=>by
  unfold zAg;by_cases h0:b=0
  ·subst h0;rw[zCq];exact⟨a,rfl,by simp⟩
  ·rw[zDp h0,zF2 h0];simp only[zh,zb,za,zN];rw[←zJ7 a b]
   match n,hn with
   |n+1,hn=>
    unfold zAg;by_cases h1:a.tmod b=0
    ·rw[h1,zCq];exact⟨b,rfl,by simp⟩
    ·rw[zDp h1,zF2 h1];simp only[zh,zb,za,zN];rw[←zJ7 b (a.tmod b)];refine zWG k n _ _ ?_ (by omega)
     rw[Int.natAbs_tmod];have h2:(a.tmod b).natAbs<b.natAbs:=by rw[Int.natAbs_tmod];exact Nat.mod_lt _ (by omega)
     exact z0J k (by omega) h2 hb
theorem zWo (k:Nat) (h:k≤1000000):k≤FU:=Nat.le_trans h (by decide)
theorem zWH {a b:Int} {M:Nat} (ha:a.natAbs≤M) (hb:b.natAbs≤M):Int.gcd a b≤M:=by
 by_cases h:b=0
 ·subst h;simpa using ha
 ·have:Int.gcd a b∣b.natAbs:=Nat.gcd_dvd_right _ _;exact Nat.le_trans (Nat.le_of_dvd (by omega) this) hb
theorem zQP {a b:Int} (ha:a.natAbs≤9223372036854775806) (hb:b.natAbs≤9223372036854775806):zDa a b=some (Int.gcd a b:Int):=by
 obtain⟨r,h1,h2⟩:=zWG 64 FU a b (by omega) (zWo 129 (by decide));have h3:=zWH ha hb;simp only[zDa,h1,za,z5C (n:=r) (by omega),h2]
theorem zX0:∀(n:Nat) (a b:Int),zAm n a b=zAg n a b
 |0,a,b=>rfl
 |n+1,a,b=>by
  unfold zAm zAg;simp only[zN,zX0 n]
theorem zKS (a b:Int):Int.gcd (a.natAbs:Int) (b.natAbs:Int)=Int.gcd a b:=by unfold Int.gcd;simp
theorem z2N:∀(n:Nat) (a b r:Int),0≤a→0≤b→zAg n a b=some r→0≤r
 |0,a,b,r,_,_,h=>by cases h
 |n+1,a,b,r,ha,hb,h=>by
  unfold zAg at h;by_cases h0:b=0
  ·subst h0;rw[zCq]at h;have h:some a=some r:=h;injection h with h;omega
  ·rw[zDp h0,zF2 h0]at h;simp only[zh,zb,za,zN]at h;exact z2N n _ _ _ hb (Int.tmod_nonneg _ ha) h
theorem zI8 {a b:Int} (ha:a.natAbs≤9223372036854775806) (hb:b.natAbs≤9223372036854775806):zAX a b=some (Int.gcd a b:Int):=by
 obtain⟨r,h1,h2⟩:=zWG 64 FU (a.natAbs:Int) (b.natAbs:Int) (by omega) (zWo 129 (by decide));have h3:=z2N _ _ _ _ (by omega) (by omega) h1;rw[zKS]at h2;simp only[zAX,zLu ha,zLu hb,za,zX0,h1];congr 1;omega
def inN (x:Int):Bool:=leI (-1000000) x&&leI x 1000000
theorem zBF {x:Int}:inN x=true↔-1000000≤x∧x≤1000000:=by
 unfold inN;rw[qT,qT];simp
theorem z0A (l:List Int) (hl:l.length<1000000):∀(n i:Nat),i≤l.length→l.length - i<n→zBg l n (i:Int)=some (if (l.drop i).all inN then .inl () else .inr false)
 |0,i,_,h=>by omega
 |n+1,i,hi,h=>by
  unfold zBg;rw[zG];by_cases h1:(i:Int)<(l.length:Int)
  ·have h2:i<l.length:=by omega
   rw[zd h1,zb];have h3:getI l (i:Int)=some l[i]:=by
    unfold getI;rw[qT,zd (by omega:(0:Int)≤(i:Int)),zb];simp[h2]
   rw[h3,za,List.drop_eq_getElem_cons h2,List.all_cons];simp only[zG,inN,qT,zN];rw[zA (by omega)];have ih:=z0A l hl n (i+1) (by omega) (by omega);rw[show ((i:Int)+1)=((i+1:Nat):Int) by omega,ih];by_cases h4:l[i]< -1000000
   ·have h6:¬(-1000000≤l[i]):=by omega
    simp[h4,h6]
   ·by_cases h5:1000000<l[i]
    ·have h6:¬(l[i]≤1000000):=by omega
     simp[h4,h5,h6]
    ·have h6:-1000000≤l[i]:=by omega
     have h7:l[i]≤1000000:=by omega
     simp only[h4,h5,h6,h7,decide_true,decide_false,zc,zb,Bool.and_true,Bool.true_and]
  ·rw[ze h1,zc,List.drop_eq_nil_of_le (by omega)];rfl
theorem zQL (l:List Int) (hl:l.length<1000000):zA7 l=some (l.all inN):=by
 have h:=z0A l hl FU 0 (Nat.zero_le _) (by (have:(1000000:Nat)≤FU:=by decide);omega);simp only[zA7,show (0:Int)=((0:Nat):Int) from rfl,h,List.drop_zero];cases l.all inN<;>rfl
theorem zXq (n:Int):zAc n=some (inN n):=by
 simp only[zAc,zAu,za,inN];cases leI (-1000000) n<;>rfl
theorem zEt (f:Int×Int×Int):zDO f=some (inN f.1&&(inN f.2.1&&inN f.2.2)):=by
 simp only[zDO,zQL _ (show [f.1,f.2.1,f.2.2].length<1000000 by simp),za,List.all_cons,List.all_nil,Bool.and_true]
theorem z0k (f:Int×Int×Int):zED f=some (inN f.1&&(inN f.2.1&&inN f.2.2)):=by
 simp only[zED,zXq,za];cases inN f.1<;>cases inN f.2.1<;>cases inN f.2.2<;>rfl
theorem zGA:qN=zL:=rfl
theorem zXz {a b c:Int} (ha:inN a=true) (hb:inN b=true) (hc:inN c=true):zL (a,b,c)=some (b*b - 4*a*c):=by
 rw[zBF]at ha hb hc;have m1:=zW (x:=b) (y:=b) (A:=1000000) (B:=1000000) (by omega) (by omega);have m2:=zW (x:=4*a) (y:=c) (A:=4000000) (B:=1000000) (by omega) (by omega);simp only[zL,zN];rw[zX (n:=b*b) (by omega),zX (n:=4*a) (by omega),zX (n:=4*a*c) (by omega),zX (by omega)]
theorem zW0 (f:Int×Int×Int):zAH f=zS f:=by
 simp only[zAH,zS,zEt,z0k,zGA]
theorem zUT (f:Int×Int×Int):zCe f=qS f:=by
 simp only[zCe,qS,zW0,zGA]
theorem zE3 {a b c:Int} (ha:inN a=true) (hb:inN b=true) (hc:inN c=true):zAD (a,b,c)=some (Int.gcd a (Int.gcd b c):Int):=by
 rw[zBF]at ha hb hc;have h:=zWH (a:=b) (b:=c) (M:=1000000) (by omega) (by omega);simp only[zAD,zQP (a:=b) (b:=c) (by omega) (by omega),za];rw[zQP (by omega) (by omega)];rfl
theorem zLt {a b c:Int} (ha:inN a=true) (hb:inN b=true) (hc:inN c=true):jQ (a,b,c)=some (Int.gcd a (Int.gcd b c):Int):=by
 rw[zBF]at ha hb hc;have h:=zWH (a:=a) (b:=b) (M:=1000000) (by omega) (by omega);simp only[jQ,zI8 (a:=a) (b:=b) (by omega) (by omega),za];rw[zI8 (by omega) (by omega),za];congr 2;unfold Int.gcd;simp[Nat.gcd_assoc]
theorem zKj {a b c:Int} (h:qS (a,b,c)=some true):inN a=true∧inN b=true∧inN c=true∧b*b - 4*a*c<0∧-2000≤b*b - 4*a*c∧0<a:=by
 simp only[qS,zS,zEt,za]at h;cases ha:inN a<;>cases hb:inN b<;>cases hc:inN c<;>simp only[ha,hb,hc,Bool.and_true,Bool.and_false,Bool.true_and,Bool.false_and,zb,zc,za]at h
 all_goals first
  |(exfalso;exact absurd (zU h) (by decide))
  |skip
 rw[zXz ha hb hc]at h;simp only[za,zG,qT]at h;by_cases h1:b*b - 4*a*c<0<;>by_cases h2:0<a<;>by_cases h3:-2000≤b*b - 4*a*c<;>simp[h1,h2,h3]at h;exact⟨rfl,rfl,rfl,h1,h3,h2⟩
theorem zIy (f:Int×Int×Int):∃b,zS f=some b:=by
 simp only[zS,zEt,za,zL,zN];cases (inN f.1&&(inN f.2.1&&inN f.2.2))<;>exact⟨_,rfl⟩
theorem zHd (f:Int×Int×Int):∃b,qS f=some b:=by
 obtain⟨b,hb⟩:=zIy f;simp only[qS,hb,za,zL,zN];cases b<;>exact⟨_,rfl⟩
theorem z1G (f:Int×Int×Int):zDN f=zP f:=by
 simp only[zDN,zP,zUT];obtain⟨b,hb⟩:=zHd f;rw[hb];cases b with
 |false=>rfl
 |true=>
  obtain⟨a,b,c⟩:=f;obtain⟨ha,hb,hc,_⟩:=zKj hb;simp only[za,zb,zE3 ha hb hc,zLt ha hb hc]
theorem zZT (f:Int×Int×Int):∃b,zP f=some b:=by
 obtain⟨b,hb⟩:=zHd f;simp only[zP,hb,za];cases b with
 |false=>exact⟨_,rfl⟩
 |true=>
  obtain⟨a,b,c⟩:=f;obtain⟨ha,hb,hc,_⟩:=zKj hb;simp only[za,zb,zE3 ha hb hc];exact⟨_,rfl⟩
theorem zLF {a b c:Int} (h:zP (a,b,c)=some true):inN a=true∧inN b=true∧inN c=true∧b*b - 4*a*c<0∧-2000≤b*b - 4*a*c∧0<a∧Int.gcd a (Int.gcd b c)=1:=by
 simp only[zP]at h;obtain⟨s,hs⟩:=zHd (a,b,c);rw[hs]at h;cases s with
 |false=>exfalso;exact absurd (zU h) (by decide)
 |true=>
  obtain⟨h1,h2,h3,h4,h5,h6⟩:=zKj hs;simp only[za,zb,zE3 h1 h2 h3,jD]at h;have h7:=zU h;refine⟨h1,h2,h3,h4,h5,h6,?_⟩;have:=eq_of_beq h7;omega
theorem zUU (v:Int):∀(n:Nat) (d:Int),zC6 v n d=zBN v n d
 |0,d=>rfl
 |n+1,d=>by
  unfold zC6 zBN;simp only[zN,zUU v n]
theorem z2E (v:Int):zD1 v=zBO v:=by
 unfold zD1 zBO;rw[zUU]
theorem zIn (v:Int) (hv:v≤1000000):∀(n:Nat) (d:Int),1≤d→d≤1001→1002 - d≤n→∃r,zBN v n d=some r
 |0,d,h1,h2,h3=>by omega
 |n+1,d,h1,h2,h3=>by
  unfold zBN;have m1:=zW (x:=d) (y:=d) (A:=1001) (B:=1001) (by omega) (by omega);rw[zX (n:=d*d) (by omega),qT];by_cases h4:d*d≤v
  ·have h5:d≤1000:=by
    rcases Int.lt_or_le 1000 d with h|h
    ·have:1001*1001≤d*d:=Int.mul_le_mul (by omega) (by omega) (by omega) (by omega);omega
    ·exact h
   rw[zd h4,zb,zF2 (by omega),za];cases eqI (Int.tmod v d) 0 with
   |true=>exact⟨_,rfl⟩
   |false=>
    simp only[zc,zN];rw[zA (by omega)];exact zIn v hv n (d+1) (by omega) (by omega) (by omega)
  ·rw[ze h4,zc];exact⟨_,rfl⟩
theorem zYp (v:Int) (hv:v≤1000000):∃b,zBO v=some b:=by
 unfold zBO;cases ltI v 2 with
 |true=>exact⟨_,rfl⟩
 |false=>
  obtain⟨r,hr⟩:=zIn v hv FU 2 (by omega) (by omega) (by (have:(1002:Nat)≤FU:=by decide);omega);rw[zc,hr];cases r<;>exact⟨_,rfl⟩
theorem zR7 (d:Int):zCF d=qR d:=by
 simp only[zCF,zAu,qR,za,zGk];cases h:(bif leI (-2000) d then leI d (-3) else false) with
 |false=>rfl
 |true=>
  simp only[zb];rw[zBB (by omega) (by omega)];simp only[za,zG,qT];congr 1;simp only[decide_eq_decide];omega
theorem zOc (d:Int):qR d=some (decide (-2000≤d∧d≤-3∧d % 4≤1)):=by
 simp only[qR,qT];by_cases h1:-2000≤d<;>by_cases h2:d≤-3<;>simp[h1,h2];rw[zBB (by omega) (by omega)];rfl
theorem FUge:1000000≤FU:=by decide
theorem nzOk {b:Int} (h:b≠0):nz b=some ():=by
 unfold nz;rw[jD];have:(b==0)=false:=by rw[zt];exact h
 rw[this];rfl
theorem zRl (a:Int):eqI a a=true:=by rw[jD];exact beq_self_eq_true a
theorem eqNe {a b:Int} (h:a≠b):eqI a b=false:=by rw[jD,zt];exact h
theorem zBG {n:Nat} (h:n≤1000000000):room n=some ():=by
 unfold room;rw[Nat.ble_eq_true_of_le (by omega),zb]
theorem zBt {α:Type} {l:List α} {k:Nat} (hk:k<l.length):getI l (k:Int)=some (l[k]'hk):=by
 unfold getI;rw[qT,zd (by omega),zb];simp
theorem zB9 {k:Nat} (h:k<1000000000):w64 ((k:Int)+1)=((k+1:Nat):Int):=by rw[zA (by omega)];push_cast;omega
def bl (l:List UInt8):ByteArray:=⟨l.toArray⟩
theorem jM (a b:List UInt8):bl a++bl b=bl (a++b):=by
 apply ByteArray.ext;simp[bl]
theorem jK (l:List UInt8):(bl l).size=l.length:=by simp[bl,ByteArray.size]
theorem zDW (l:List UInt8):(bl l).data.toList=l:=by simp[bl]
theorem zAi {a b:List UInt8} (h:a.length+b.length≤9223372036854775807):catR (bl a) (bl b)=some ():=by
 unfold catR;rw[if_pos (by rw[jK,jK];exact h)]
theorem zUj {d:Int} (h0:0≤d) (h1:d≤9):zDB [IntKind.u8.wrap (w64 (48+d))]=bl [UInt8.ofNat (48+d.toNat)]:=by
 rw[zA (by omega),IntKind.wrap_u8];have e:(48+d) % 256=48+d:=by omega
 have e2:(48+d).toNat=48+d.toNat:=by omega
 apply ByteArray.ext;simp only[zDB,List.foldl_cons,List.foldl_nil,e,e2];rfl
theorem zNm:∀(n k u:Nat),u<10 ^k→k≤18→k<n→zAG n (u:Int)=some (bl (Go.Lib.decDigits u))
 |0,k,u,_,_,h=>by omega
 |n+1,k,u,h1,h18,h2=>by
  rw[zAG,zG];by_cases hu:u<10
  ·rw[zd (by omega),zb,zUj (by omega) (by omega),Go.Lib.decDigits_one hu];rfl
  ·have hk:k≠0:=by
    intro e;subst e;simp at h1;omega
   obtain⟨j,rfl⟩:∃j,k=j+1:=⟨k - 1,by omega⟩
   have h3:u / 10<10 ^j:=by
    rw[Nat.pow_succ]at h1;omega
   have hbig:10 ^(j+1)≤10 ^18:=Nat.pow_le_pow_right (by decide) h18;have hb2:u<1000000000000000000:=Nat.lt_of_lt_of_le h1 hbig;have e1:w64 (Int.tdiv (u:Int) 10)=((u / 10:Nat):Int):=by
    rw[show Int.tdiv (u:Int) 10=((u / 10:Nat):Int) from rfl,zA (by omega)]
   have e2:Int.tmod (u:Int) 10=((u % 10:Nat):Int):=rfl;rw[ze (by omega),zc,e1,zNm n j (u / 10) h3 (by omega) (by omega),e2];simp only[za];rw[zUj (by omega) (by omega)];have h4:Go.Lib.nDigits (u / 10)≤20:=by
    rcases Nat.lt_or_ge 20 (Go.Lib.nDigits (u / 10)) with h5|h5
    ·exfalso
     have h6:∀(m v:Nat),v<10 ^m→1≤m→Go.Lib.nDigits v≤m:=by
      intro m
      induction m with
      |zero=>intro v hv h;omega
      |succ m ih=>
       intro v hv _;by_cases hv10:v<10
       ·rw[Go.Lib.nDigits_small hv10];omega
       ·rw[Go.Lib.nDigits_big hv10];have:m≠0:=by intro e;subst e;simp at hv;omega
        have:=ih (v / 10) (by rw[Nat.pow_succ]at hv;omega) (by omega);omega
     have:=h6 20 (u / 10) (by omega) (by omega);omega
    ·exact h5
   rw[zAi (by rw[Go.Lib.decDigits_length];simp;omega),za,jM];have e3:Go.Lib.decDigits u=Go.Lib.decDigits (u / 10)++[UInt8.ofNat (48+u % 10)]:=by
    rw[Go.Lib.decDigits,dif_neg hu]
   rw[e3];rfl
theorem zMR:∀(m v:Nat),v<10 ^m→1≤m→Go.Lib.nDigits v≤m
 |0,v,hv,h=>by omega
 |m+1,v,hv,_=>by
  by_cases hv10:v<10
  ·rw[Go.Lib.nDigits_small hv10];omega
  ·rw[Go.Lib.nDigits_big hv10];have:m≠0:=by intro e;subst e;simp at hv;omega
   have:=zMR m (v / 10) (by rw[Nat.pow_succ]at hv;omega) (by omega);omega
def sm18 (n:Int):Prop:=-1000000000000000000<n∧n<1000000000000000000
theorem zAS {n:Int} (h:sm18 n):(Go.Lib.itoa n).length≤19:=by
 obtain⟨h0,h1⟩:=h;unfold Go.Lib.itoa;split
 ·rw[zf,Go.Lib.decDigits_length];have:=zMR 18 n.natAbs (by omega) (by omega);omega
 ·rw[Go.Lib.decDigits_length];have:=zMR 18 n.toNat (by omega) (by omega);omega
theorem zF3 {n:Int} (h:sm18 n):zAn n=some (bl (Go.Lib.itoa n)):=by
 have hl:=zAS h;obtain⟨h0,h1⟩:=h;have hF:=FUge;unfold zAn;unfold Go.Lib.itoa at hl ⊢;rw[zG];by_cases hn:n<0
 ·rw[zd hn,zb,if_pos hn];rw[if_pos hn]at hl;have e1:w64 (0 - n)=((n.natAbs:Nat):Int):=by rw[zA (by omega)];omega
  rw[e1,zNm FU 18 n.natAbs (by omega) (by omega) (by omega)];have e2:(⟨#[45]⟩:ByteArray)=bl [45]:=rfl;simp only[za];rw[e2,zAi (by simp at hl ⊢;omega),za,jM];rfl
 ·rw[ze hn,zc,if_neg hn];have e1:n=((n.toNat:Nat):Int):=by omega
  rw[e1,zNm FU 18 n.toNat (by omega) (by omega) (by omega)];rfl
theorem zFR {n:Int} (h:sm18 n):qJ n=some (bl (Go.Lib.itoa n)):=by
 obtain⟨h0,h1⟩:=h;unfold qJ;rw[if_pos (by omega)];rfl
theorem zXM (ls:List (List UInt8)) (h:∀x∈ls,x.length≤1000):(Go.Lib.joinTail [32] ls).length≤1001*ls.length:=by
 induction ls with
 |nil=>simp[Go.Lib.joinTail]
 |cons x r ih=>
  have h1:=ih fun y hy=>h y (zm _ hy);have h2:=h x zl;simp only[Go.Lib.joinTail,List.map_cons,List.flatten_cons,List.length_append,zf,List.length_nil]at h1 ⊢;omega
theorem zUR (x:List UInt8) (r:List (List UInt8)):Go.Lib.joinTail [32] (x::r)=32::(x++Go.Lib.joinTail [32] r):=by
 simp[Go.Lib.joinTail]
theorem zRY (ls:List (List UInt8)) (hN:ls.length≤100) (hL:∀x∈ls,x.length≤1000):∀(n k:Nat) (out:List UInt8),1≤k→k≤ls.length→ls.length - k<n→out.length≤2000*k→
  zAt (ls.map bl) n (bl out) (k:Int)=some (bl (out++Go.Lib.joinTail [32] (ls.drop k)))
 |0,k,out,_,_,h,_=>by omega
 |n+1,k,out,h1,h0,h,ho=>by
  unfold zAt;rw[zG,List.length_map];by_cases hk:k<ls.length
  ·have e3:ls.drop k=ls[k]::ls.drop (k+1):=List.drop_eq_getElem_cons hk;have hx:=hL (ls[k]) (zu hk);rw[zd (by omega),zb,zBt (by rw[List.length_map];exact hk)];simp only[za,List.getElem_map];rw[zG,zd (by omega),zb];have e2:(⟨#[32]⟩:ByteArray)=bl [32]:=rfl;rw[e2,zAi (by simp;omega),za,jM,zAi (by simp;omega),za,jM,zN,zB9 (by omega)];rw[zRY ls hN hL n (k+1) _ (by omega) (by omega) (by omega) (by simp;omega),e3,zUR];simp
  ·have e:k=ls.length:=by omega
   rw[ze (by omega),zc,e,List.drop_length];simp[Go.Lib.joinTail]
theorem zUV (x:List UInt8) (r:List (List UInt8)) (hN:r.length≤99) (hL:∀y∈x::r,y.length≤1000):zDM (bl x::r.map bl)=some (bl (x++Go.Lib.joinTail [32] r)):=by
 have hF:=FUge;obtain⟨m,hm⟩:∃m,FU=m+1:=⟨FU - 1,by omega⟩
 have hx:=hL x zl;have key:zAt (bl x::r.map bl) FU (bl []) 0=some (bl (x++Go.Lib.joinTail [32] r)):=by
  rw[hm];unfold zAt;have e1:getI (bl x::r.map bl) 0=some (bl x):=rfl;have e2:=zB9 (k:=0) (by omega);rw[zG,zd (by simp only[zf];omega),zb,e1];simp only[za];rw[zG,ze (by omega),zc,zAi (by simp;omega),za,jM,zN];have e3:w64 (0+1)=((0+1:Nat):Int):=e2;rw[e3];have:=zRY (x::r) (by simp;omega) hL m 1 ([]++x) (by omega) (by simp) (by simp only[zf];omega) (by simp;omega);simpa using this
 unfold zDM;have e0:(⟨#[]⟩:ByteArray)=bl []:=rfl;rw[e0,key];rfl
theorem z00 (x:List UInt8) (r:List (List UInt8)) (hr:r≠[]) (hN:r.length≤99) (hL:∀y∈x::r,y.length≤1000):zB6 (bl x) (r.map bl)=some (bl (x++Go.Lib.joinTail [32] r)):=by
 have hx:=hL x zl;have ht:=zXM r fun y hy=>hL y (zm _ hy);have e2:(⟨#[32]⟩:ByteArray)=bl [32]:=rfl;have e4:(r.map bl).map (fun b:ByteArray=>b.data.toList)=r:=by
  rw[List.map_map]
  conv=>rhs;rw[←List.map_id r]
  exact List.map_congr_left fun y _=>zDW y
 have e5:Go.Lib.joinTail [32] r=32::Go.Lib.join r [32]:=by
  cases r with
  |nil=>exact absurd rfl hr
  |cons y s=>rw[zUR,Go.Lib.join_cons]
 have e6:(Go.Lib.join r [32]).length≤1001*r.length:=by
  rw[e5]at ht;simp at ht;omega
 have hj:zCN (r.map bl) (bl [32])=some (bl (Go.Lib.join r [32])):=by
  unfold zCN;rw[e4,zDW,if_pos ⟨by rw[List.length_map];omega,by omega⟩];rfl
 unfold zB6;rw[e2,zAi (by simp;omega),za,hj,za,jM,zAi (by simp;omega),za,jM,e5];simp
structure RedInv (a b c d g:Int):Prop where
  a1:1≤a
  aM:a≤1000000
  b1:-1900000≤b
  b2:b≤1900000
  c1:1≤c
  cM:c≤1250000
  dis:b*b - 4*a*c=d
  neg:d<0
  nrm:(-a<b∧b≤a)∨c≤1000000
  con:∀k:Int,(k∣a∧k∣b∧k∣c)↔k∣g
def zBh (a b c:Int):Prop:=(-a<b∧b≤a)∧(a<c∨(a=c∧0≤b))
instance (a b c:Int):Decidable (zBh a b c):=inferInstanceAs (Decidable ((-a<b∧b≤a)∧(a<c∨(a=c∧0≤b))))
theorem zHi {a b c:Int} (ha:1≤a) (haM:a≤1000000):qK (a,b,c)=some (decide (zBh a b c)):=by
 have hn:qG (a,b,c)=some (decide (-a<b∧b≤a)):=by
  simp only[qG,za,zG,qT];rw[zA (by omega)];by_cases h1:-a<b<;>by_cases h2:b≤a<;>simp[h1,h2]
  all_goals omega
 simp only[qK,hn,za,zG,qT,jD];unfold zBh;by_cases h1:-a<b<;>by_cases h2:b≤a<;>by_cases h3:a<c<;>by_cases h4:a=c<;>by_cases h5:0≤b<;>simp[h1,h2,h3,h4,h5]
theorem zXd {a b c d g:Int} (h:RedInv a b c d g) (hr:¬zBh a b c):∃m a2 b2 c2,qL (a,b,c)=some m∧qB (a,b,c) m=some (a2,b2,c2)∧RedInv a2 b2 c2 d g∧
  ((¬(-a<b∧b≤a)∧a2=a∧(-a2<b2∧b2≤a2))∨((-a<b∧b≤a)∧a2<a)∨((-a<b∧b≤a)∧zBh a2 b2 c2∧a2≤a)):=by
 obtain⟨a1,aM,b1,b2,c1,cM,dis,neg,nrm,con⟩:=h;have hn:qG (a,b,c)=some (decide (-a<b∧b≤a)):=by
  simp only[qG,za,zG,qT];rw[zA (by omega)];by_cases h1:-a<b<;>by_cases h2:b≤a<;>simp[h1,h2]
  all_goals omega
 by_cases hN:-a<b∧b≤a
 ·have hst:qL (a,b,c)=some (0,-1,1,0):=by
   simp only[qL,zHi a1 aM,hn,za,ze hr,zd hN];rfl
  refine⟨_,c,-b,a,hst,zMZ (by omega) (by omega) (by omega),?_,?_⟩
  ·have hca:c≤a:=by
    unfold zBh at hr;have:¬(a<c∨(a=c∧0≤b)):=fun x=>hr ⟨hN,x⟩;omega
   exact⟨c1,by omega,by omega,by omega,a1,by omega,by grind,neg,.inr aM,fun k=>by rw[←con k,Int.dvd_neg];exact⟨fun h=>⟨h.2.2,h.2.1,h.1⟩,fun h=>⟨h.2.2,h.2.1,h.1⟩⟩⟩
  ·have h2:¬(a<c∨(a=c∧0≤b)):=fun x=>hr ⟨hN,x⟩;by_cases hac:a=c
   ·refine .inr (.inr ⟨hN,⟨?_,.inr ?_⟩,?_⟩)<;>omega
   ·exact .inr (.inl ⟨hN,by omega⟩)
 ·have hf:=zFS (a:=a - b) (m:=2*a) (by omega) (by omega) (by omega) (by omega);have e1:=qa (a - b) (b:=2*a) (by omega);have e2:=qc (a - b) (b:=2*a) (by omega);have e3:=Int.emod_add_mul_ediv (a - b) (2*a);generalize hs:(a - b) / (2*a)=s at*;generalize hq:(a - b) % (2*a)=q at*;have hs1:s≤1000000:=by
   rcases Int.lt_or_le 1000000 s with h|h
   ·have:2*a*1000001≤2*a*s:=zo (by omega) (by omega);omega
   ·exact h
  have hs2:-1000001≤s:=by
   rcases Int.lt_or_le s (-1000001) with h|h
   ·have:2*a*s≤2*a*(-1000002):=zo (by omega) (by omega);omega
   ·exact h
  have hst:qL (a,b,c)=some (1,s,0,1):=by
   simp only[qL,zHi a1 aM,hn,za,ze hr,ze hN,zc,zh,zb];rw[zA (n:=a - b) (by omega),zA (n:=2*a) (by omega),hf];rfl
  have hb:-a<2*a*s+b∧2*a*s+b≤a:=by omega
  have hid:4*a*(a*s*s+b*s+c)=(2*a*s+b)*(2*a*s+b) - d:=by grind
  have hsq:0≤(2*a*s+b)*(2*a*s+b):=by
   rcases Int.le_total 0 (2*a*s+b) with h|h
   ·exact Int.mul_nonneg h h
   ·exact Int.mul_nonneg_of_nonpos_of_nonpos h h
  have hsq2:(2*a*s+b)*(2*a*s+b)≤a*a:=by
   have:=zW (x:=2*a*s+b) (y:=2*a*s+b) (A:=a.natAbs) (B:=a.natAbs) (by omega) (by omega);have h2:((2*a*s+b)*(2*a*s+b)).natAbs≤(a*a).natAbs:=by rw[Int.natAbs_mul a a];exact this
   have h3:0≤a*a:=Int.mul_nonneg (by omega) (by omega);omega
  have hbb:0≤b*b:=by
   rcases Int.le_total 0 b with h|h
   ·exact Int.mul_nonneg h h
   ·exact Int.mul_nonneg_of_nonpos_of_nonpos h h
  have hc:1≤a*s*s+b*s+c:=by
   rcases Int.lt_or_le 0 (a*s*s+b*s+c) with h|h
   ·exact h
   ·have:4*a*(a*s*s+b*s+c)≤4*a*0:=zo h (by omega);omega
  have hcc:c≤1000000:=nrm.resolve_left hN;have hcM:a*s*s+b*s+c≤1250000:=by
   have h4:4*a*(a*s*s+b*s+c)≤a*a+4*a*c:=by omega
   have h5:a*a+4*a*c≤a*5000000:=by
    have:a*(a+4*c)≤a*5000000:=zo (by omega) (by omega);have e:a*(a+4*c)=a*a+4*a*c:=by grind
    omega
   rcases Int.lt_or_le 1250000 (a*s*s+b*s+c) with h|h
   ·have:4*a*1250001≤4*a*(a*s*s+b*s+c):=zo (by omega) (by omega);omega
   ·exact h
  have hcon:∀k:Int,(k∣a∧k∣2*a*s+b∧k∣a*s*s+b*s+c)↔k∣g:=by
   intro k;rw[←con k];constructor
   ·rintro⟨u1,u2,u3⟩;have v1:k∣b:=by
     have w1:k∣2*a*s:=Int.dvd_mul_of_dvd_left (Int.dvd_mul_of_dvd_right u1);exact (Int.dvd_add_right w1).1 u2
    have w2:k∣a*s*s+b*s:=Int.dvd_add (Int.dvd_mul_of_dvd_left (Int.dvd_mul_of_dvd_left u1)) (Int.dvd_mul_of_dvd_left v1);exact⟨u1,v1,(Int.dvd_add_right w2).1 u3⟩
   ·rintro⟨u1,u2,u3⟩;have w1:k∣2*a*s:=Int.dvd_mul_of_dvd_left (Int.dvd_mul_of_dvd_right u1);have w2:k∣a*s*s+b*s:=Int.dvd_add (Int.dvd_mul_of_dvd_left (Int.dvd_mul_of_dvd_left u1)) (Int.dvd_mul_of_dvd_left u2);exact⟨u1,Int.dvd_add w1 u2,Int.dvd_add w2 u3⟩
  refine⟨_,a,2*a*s+b,a*s*s+b*s+c,hst,zM0 (by omega) (by omega) (by omega) (by omega),⟨a1,aM,by omega,by omega,hc,hcM,by grind,neg,.inl hb,hcon⟩,.inl ⟨hN,rfl,hb⟩⟩
theorem zQY (m n:Int×Int×Int×Int):∃y,zY m n=some y:=by
 simp only[zY,zN];exact⟨_,rfl⟩
theorem zZn:∀(n:Nat) (a b c d g p q r s:Int),RedInv a b c d g→4*a+(if -a<b∧b≤a then 0 else 2)+(if zBh a b c then 0 else 1)≤(n:Int)→
  ∃m1 m2 m3 m4 a2 b2 c2,zBL n p q r s a b c=some (m1,m2,m3,m4,a2,b2,c2)∧zCO n p q r s a b c=some (m1,m2,m3,m4,a2,b2,c2)∧RedInv a2 b2 c2 d g∧zBh a2 b2 c2
 |0,a,b,c,d,g,p,q,r,s,h,hm=>by
  have:=h.a1;split at hm<;>split at hm<;>omega
 |n+1,a,b,c,d,g,p,q,r,s,h,hm=>by
  unfold zBL zCO;rw[zZR,zHi h.a1 h.aM];by_cases hr:zBh a b c
  ·refine⟨p,q,r,s,a,b,c,?_,?_,h,hr⟩<;>simp[hr]
  ·obtain⟨m,a2,b2,c2,h1,h2,h3,h4⟩:=zXd h hr;obtain⟨y,hy⟩:=zQY (p,q,r,s) m;obtain⟨y1,y2,y3,y4⟩:=y;have hstep:zDL (a,b,c)=qL (a,b,c):=z3J h.a1 (by have:=h.aM;omega) (by have:=h.b1;omega) (by have:=h.b2;omega) (by rw[zHi h.a1 h.aM,ze hr]);have e1:(!decide (zBh a b c))=true:=by simp[hr]
   simp only[za,hstep,h1,z4r,zWV,h2,hy,e1,zb];refine zZn n a2 b2 c2 d g y1 y2 y3 y4 h3 ?_
   rcases h4 with⟨g1,g2,g3⟩|⟨g1,g2⟩|⟨g1,g2,g3⟩
   ·rw[if_neg g1,if_neg hr]at hm;rw[if_pos g3];split<;>omega
   ·rw[if_pos g1,if_neg hr]at hm;split<;>split<;>omega
   ·rw[if_pos g1,if_neg hr]at hm;rw[if_pos g2.1,if_pos g2];omega
theorem zXe {a b c d g:Int} (h:RedInv a b c d g):∃m a2 b2 c2,qX (a,b,c)=some ((a2,b2,c2),m)∧qD (a,b,c)=some ((a2,b2,c2),m)∧RedInv a2 b2 c2 d g∧zBh a2 b2 c2:=by
 obtain⟨m1,m2,m3,m4,a2,b2,c2,h1,h2,h3,h4⟩:=zZn FU a b c d g 1 0 0 1 h (by
  have e:((FU:Nat):Int)=1000000000:=rfl;rw[e];have:=h.aM;split<;>split<;>omega)
 refine⟨(m1,m2,m3,m4),a2,b2,c2,?_,?_,h3,h4⟩
 ·simp only[qX,zER,za,h1]
 ·simp only[qD,h2,za]
theorem zVn {a b c:Int} (h:zP (a,b,c)=some true):RedInv a b c (b*b - 4*a*c) 1:=by
 obtain⟨ha,hb,hc,hneg,hbig,hpos,hg⟩:=zLF h;rw[zBF]at ha hb hc;have hbb:0≤b*b:=by
  rcases Int.le_total 0 b with h|h
  ·exact Int.mul_nonneg h h
  ·exact Int.mul_nonneg_of_nonpos_of_nonpos h h
 have hc1:1≤c:=by
  rcases Int.lt_or_le 0 c with h|h
  ·exact h
  ·have:4*a*c≤4*a*0:=zo h (by omega);omega
 refine⟨by omega,by omega,by omega,by omega,hc1,by omega,rfl,hneg,.inr (by omega),fun k=>?_⟩;constructor
 ·rintro⟨u1,u2,u3⟩;have h1:k∣(Int.gcd b c:Int):=Int.dvd_coe_gcd u2 u3;have h2:k∣(Int.gcd a (Int.gcd b c):Int):=Int.dvd_coe_gcd u1 h1;rw[hg]at h2;exact h2
 ·intro h1;exact⟨zw h1 (Int.one_dvd _),zw h1 (Int.one_dvd _),zw h1 (Int.one_dvd _)⟩
theorem zGG (x:Int):0≤x*x:=by
 rcases Int.le_total 0 x with h|h
 ·exact Int.mul_nonneg h h
 ·exact Int.mul_nonneg_of_nonpos_of_nonpos h h
theorem zUo {x:Int} {M N:Nat} (h:x*x≤(N:Int)) (hM:N<(M+1)*(M+1)):x.natAbs≤M:=by
 rcases Nat.lt_or_ge M x.natAbs with h1|h1
 ·have h2:(M+1)*(M+1)≤x.natAbs*x.natAbs:=Nat.mul_le_mul h1 h1;have h3:x*x=((x.natAbs*x.natAbs:Nat):Int):=Int.natAbs_mul_self.symm;omega
 ·exact h1
theorem z4X {A B C d x y v:Int} (hd:B*B - 4*A*C=d) (hv:A*x*x+B*x*y+C*y*y=v):(-d)*(x*x)+(2*C*y+B*x)*(2*C*y+B*x)=4*C*v:=by
 subst hd hv;grind
theorem z3B {A B C d x y v:Int} (hd:B*B - 4*A*C=d) (hv:A*x*x+B*x*y+C*y*y=v):(-d)*(x*x)≤4*C*v:=by
 have h1:=z4X hd hv;have h2:=zGG (2*C*y+B*x);omega
theorem zWP {A B C d x y v:Int} (hd:B*B - 4*A*C=d) (hneg:d<0) (hC1:1≤C) (hC:C≤1000000) (hv:A*x*x+B*x*y+C*y*y=v) (hv2:v≤1250000):x.natAbs≤2300000:=by
 have h1:=z3B hd hv;have h2:1*(x*x)≤(-d)*(x*x):=Int.mul_le_mul_of_nonneg_right (by omega) (zGG x);have h3:4*C*v≤4*C*1250000:=zo hv2 (by omega);exact zUo (N:=5000000000000) (by omega) (by decide)
structure MatInv (A B C p q r s a b c:Int):Prop where
  e1:A*p*p+B*p*r+C*r*r=a
  e2:2*A*p*q+B*(p*s+q*r)+2*C*r*s=b
  e3:A*q*q+B*q*s+C*s*s=c
  dt:p*s - q*r=1
theorem MatInv.swap {A B C p q r s a b c:Int} (h:MatInv A B C p q r s a b c):MatInv A B C q (-p) s (-r) c (-b) a:=by
 obtain⟨e1,e2,e3,dt⟩:=h;exact⟨e3,by grind,by grind,by grind⟩
theorem MatInv.norm {A B C p q r s a b c:Int} (t:Int) (h:MatInv A B C p q r s a b c):MatInv A B C p (p*t+q) r (r*t+s) a (2*a*t+b) (a*t*t+b*t+c):=by
 obtain⟨e1,e2,e3,dt⟩:=h;exact⟨e1,by grind,by grind,by grind⟩
theorem zYc {a b c d g:Int} (h:RedInv a b c d g) (hr:¬zBh a b c):qL (a,b,c)=some (0,-1,1,0)∨∃t,-1000001≤t∧t≤1000000∧qL (a,b,c)=some (1,t,0,1):=by
 obtain⟨a1,aM,b1,b2,c1,cM,dis,neg,nrm,con⟩:=h;have hn:qG (a,b,c)=some (decide (-a<b∧b≤a)):=by
  simp only[qG,za,zG,qT];rw[zA (by omega)];by_cases h1:-a<b<;>by_cases h2:b≤a<;>simp[h1,h2]
  all_goals omega
 by_cases hN:-a<b∧b≤a
 ·left;simp only[qL,zHi a1 aM,hn,za,ze hr,zd hN];rfl
 ·right;have hf:=zFS (a:=a - b) (m:=2*a) (by omega) (by omega) (by omega) (by omega);have e1:=qa (a - b) (b:=2*a) (by omega);have e2:=qc (a - b) (b:=2*a) (by omega);have e3:=Int.emod_add_mul_ediv (a - b) (2*a);generalize hs:(a - b) / (2*a)=s at*;generalize hq:(a - b) % (2*a)=q at*;have hs1:s≤1000000:=by
   rcases Int.lt_or_le 1000000 s with h|h
   ·have:2*a*1000001≤2*a*s:=zo (by omega) (by omega);omega
   ·exact h
  have hs2:-1000001≤s:=by
   rcases Int.lt_or_le s (-1000001) with h|h
   ·have:2*a*s≤2*a*(-1000002):=zo (by omega) (by omega);omega
   ·exact h
  refine⟨s,hs2,hs1,?_⟩;simp only[qL,zHi a1 aM,hn,za,ze hr,ze hN,zc,zh,zb];rw[zA (n:=a - b) (by omega),zA (n:=2*a) (by omega),hf];rfl
theorem zY6 {p q r s:Int} (hp:p.natAbs≤2300000) (hq:q.natAbs≤2300000) (hr:r.natAbs≤2300000) (hs:s.natAbs≤2300000):zY (p,q,r,s) (0,-1,1,0)=some (q,-p,s,-r):=by
 simp only[zY,zN,Int.mul_zero,Int.mul_one];have e:∀x:Int,x*-1=-x:=fun x=>by omega
 rw[e p,e r,zA (n:=0) (by omega),zA (n:=q) (by omega),zA (n:=-p) (by omega),zA (n:=s) (by omega),zA (n:=-r) (by omega),zA (n:=0+q) (by omega),zA (n:=-p+0) (by omega),zA (n:=0+s) (by omega),zA (n:=-r+0) (by omega)];simp
theorem zY7 {p q r s t:Int} (hp:p.natAbs≤2300000) (hq:q.natAbs≤2300000) (hr:r.natAbs≤2300000) (hs:s.natAbs≤2300000) (ht:t.natAbs≤1000001):zY (p,q,r,s) (1,t,0,1)=some (p,p*t+q,r,r*t+s):=by
 have m1:=zW hp ht;have m2:=zW hr ht;simp only[zY,zN,Int.mul_zero,Int.mul_one];rw[zA (n:=0) (by omega),zA (n:=q) (by omega),zA (n:=p) (by omega),zA (n:=s) (by omega),zA (n:=r) (by omega),zA (n:=p*t) (by omega),zA (n:=r*t) (by omega),zA (n:=p+0) (by omega),zA (n:=p*t+q) (by omega),zA (n:=r+0) (by omega),zA (n:=r*t+s) (by omega)];simp
theorem zQM {A B C:Int} (hA1:1≤A) (hA:A≤1000000) (hC1:1≤C) (hC:C≤1000000):∀(n:Nat) (a b c d g p q r s:Int),B*B - 4*A*C=d→RedInv a b c d g→MatInv A B C p q r s a b c→4*a+(if -a<b∧b≤a then 0 else 2)+(if zBh a b c then 0 else 1)≤(n:Int)→
  ∃m1 m2 m3 m4 a2 b2 c2,zBL n p q r s a b c=some (m1,m2,m3,m4,a2,b2,c2)∧RedInv a2 b2 c2 d g∧zBh a2 b2 c2∧MatInv A B C m1 m2 m3 m4 a2 b2 c2
 |0,a,b,c,d,g,p,q,r,s,hd,h,hv,hm=>by
  have:=h.a1;split at hm<;>split at hm<;>omega
 |n+1,a,b,c,d,g,p,q,r,s,hd,h,hv,hm=>by
  unfold zBL;rw[zHi h.a1 h.aM];by_cases hr:zBh a b c
  ·refine⟨p,q,r,s,a,b,c,?_,h,hr,hv⟩;simp[hr]
  ·obtain⟨m,a2,b2,c2,h1,h2,h3,h4⟩:=zXd h hr;have hdS:B*B - 4*C*A=d:=by rw[←hd];grind
   have bp:=zWP hd h.neg hC1 hC hv.e1 (by have:=h.aM;omega);have bq:=zWP hd h.neg hC1 hC hv.e3 h.cM;have br:=zWP (A:=C) (C:=A) (x:=r) (y:=p) hdS h.neg hA1 hA (v:=a) (by have:=hv.e1;grind) (by have:=h.aM;omega);have bs:=zWP (A:=C) (C:=A) (x:=s) (y:=q) hdS h.neg hA1 hA (v:=c) (by have:=hv.e3;grind) h.cM;have e1:(!decide (zBh a b c))=true:=by simp[hr]
   have hmeas:4*a2+(if -a2<b2∧b2≤a2 then 0 else 2)+(if zBh a2 b2 c2 then 0 else 1)≤(n:Int):=by
    rcases h4 with⟨g1,g2,g3⟩|⟨g1,g2⟩|⟨g1,g2,g3⟩
    ·rw[if_neg g1,if_neg hr]at hm;rw[if_pos g3];split<;>omega
    ·rw[if_pos g1,if_neg hr]at hm;split<;>split<;>omega
    ·rw[if_pos g1,if_neg hr]at hm;rw[if_pos g2.1,if_pos g2];omega
   have ha:=h.a1;have hb1:=h.b1;have hb2:=h.b2;have haM:=h.aM;have hc1:=h.c1;have hcM:=h.cM;rcases zYc h hr with hs|⟨t,t1,t2,hs⟩
   ·rw[hs]at h1;have hm0:=zU h1;subst hm0;have hsub:=zMZ (a:=a) (b:=b) (c:=c) (by omega) (by omega) (by omega);rw[hsub]at h2;obtain⟨ea,hbc⟩:=Prod.mk.inj (zU h2);obtain⟨eb,ec⟩:=Prod.mk.inj hbc;rw[←ea,←eb,←ec]at h3 hmeas;simp only[za,hs,hsub,zY6 bp bq br bs,e1,zb];exact zQM hA1 hA hC1 hC n _ _ _ d g _ _ _ _ hd h3 hv.swap hmeas
   ·rw[hs]at h1;have hm0:=zU h1;subst hm0;have hsub:=zM0 (a:=a) (b:=b) (c:=c) (s:=t) (by omega) (by omega) (by omega) (by omega);rw[hsub]at h2;obtain⟨ea,hbc⟩:=Prod.mk.inj (zU h2);obtain⟨eb,ec⟩:=Prod.mk.inj hbc;rw[←ea,←eb,←ec]at h3 hmeas;simp only[za,hs,hsub,zY7 bp bq br bs (t:=t) (by omega),e1,zb];exact zQM hA1 hA hC1 hC n _ _ _ d g _ _ _ _ hd h3 (hv.norm t) hmeas
theorem zEY {A B C d x y v a b c:Int} (hd:B*B - 4*A*C=d) (hC1:1≤C) (hC:C≤1000000) (hdis:b*b - 4*a*c=d) (hred:zBh a b c) (ha:1≤a) (hv:A*x*x+B*x*y+C*y*y=v) (hv2:v=a∨v=c):x.natAbs≤2000:=by
 have h1:=z3B hd hv;obtain⟨⟨b1,b2⟩,hr⟩:=hred;have hac:a≤c:=by omega
 have hbb:b*b≤a*a:=by
  have:=zW (x:=b) (y:=b) (A:=a.natAbs) (B:=a.natAbs) (by omega) (by omega);have h2:(b*b).natAbs≤(a*a).natAbs:=by rw[Int.natAbs_mul a a];exact this
  have h3:=zGG a;have h4:=zGG b;omega
 have haa:a*a≤a*c:=zo hac (by omega);have hD:3*(a*c)≤-d:=by
  have:4*a*c=4*(a*c):=by rw[zz]
  omega
 have hxx:=zGG x;have h5:3*(a*c)*(x*x)≤(-d)*(x*x):=Int.mul_le_mul_of_nonneg_right hD hxx;have h6:4*C*v≤4000000*v:=Int.mul_le_mul_of_nonneg_right (by omega) (by omega);have h7:3*(a*c)*(x*x)≤4000000*v:=by omega
 -- divide by v
 have h8:3*(x*x)≤4000000:=by
  rcases Int.lt_or_le 4000000 (3*(x*x)) with h|h
  ·exfalso
   rcases hv2 with rfl|rfl
   ·have h9:v*(3*(x*x))≤v*(3*(c*(x*x))):=zo (by
     have:1*(x*x)≤c*(x*x):=Int.mul_le_mul_of_nonneg_right (by omega) hxx;omega) (by omega)
    have h10:v*(3*(c*(x*x)))=3*(v*c)*(x*x):=by grind
    have h11:v*4000001≤v*(3*(x*x)):=zo (by omega) (by omega);omega
   ·have h9:v*(3*(x*x))≤v*(3*(a*(x*x))):=zo (by
     have:1*(x*x)≤a*(x*x):=Int.mul_le_mul_of_nonneg_right (by omega) hxx;omega) (by omega)
    have h10:v*(3*(a*(x*x)))=3*(a*v)*(x*x):=by grind
    have h11:v*4000001≤v*(3*(x*x)):=zo (by omega) (by omega);omega
  ·exact h
 exact zUo (N:=1333334) (by omega) (by decide)
theorem zYn {a b c:Int} (h:zS (a,b,c)=some true):∃g,RedInv a b c (b*b - 4*a*c) g∧c≤1000000:=by
 have hin:inN a=true∧inN b=true∧inN c=true:=by
  simp only[zS,zEt,za]at h;cases ha:inN a with
  |false=>rw[ha]at h;simp at h
  |true=>
   cases hb:inN b with
   |false=>rw[ha,hb]at h;simp at h
   |true=>
    cases hc:inN c with
    |false=>rw[ha,hb,hc]at h;simp at h
    |true=>exact⟨rfl,rfl,rfl⟩
 obtain⟨ha,hb,hc⟩:=hin;have hd:=zXz ha hb hc;simp only[zS,zEt,ha,hb,hc,Bool.and_self,za,zb,hd,zG]at h;rw[zBF]at ha hb hc;have hneg:b*b - 4*a*c<0:=by
  rcases Int.lt_or_le (b*b - 4*a*c) 0 with h1|h1
  ·exact h1
  ·rw[ze (by omega)]at h;cases h
 have hpos:0<a:=by
  rw[zd hneg]at h;rcases Int.lt_or_le 0 a with h1|h1
  ·exact h1
  ·rw[ze (by omega)]at h;cases h
 have hbb:=zGG b;have hc1:1≤c:=by
  rcases Int.lt_or_le 0 c with h|h
  ·exact h
  ·have:4*a*c≤4*a*0:=zo h (by omega);omega
 refine⟨(Int.gcd a (Int.gcd b c):Int),⟨by omega,by omega,by omega,by omega,hc1,by omega,rfl,hneg,.inr (by omega),fun k=>?_⟩,by omega⟩;constructor
 ·rintro⟨u1,u2,u3⟩;exact Int.dvd_coe_gcd u1 (Int.dvd_coe_gcd u2 u3)
 ·intro hk;have k1:k∣a:=zw hk (Int.gcd_dvd_left ..);have k2:k∣(Int.gcd b c:Int):=zw hk (Int.gcd_dvd_right ..);exact⟨k1,zw k2 (Int.gcd_dvd_left ..),zw k2 (Int.gcd_dvd_right ..)⟩
theorem z2A {a b c g:Int} (hi:RedInv a b c (b*b - 4*a*c) g) (hcM:c≤1000000):∃m1 m2 m3 m4 a2 b2 c2,qX (a,b,c)=some ((a2,b2,c2),(m1,m2,m3,m4))∧qD (a,b,c)=some ((a2,b2,c2),(m1,m2,m3,m4))∧RedInv a2 b2 c2 (b*b - 4*a*c) g∧zBh a2 b2 c2∧MatInv a b c m1 m2 m3 m4 a2 b2 c2∧m1.natAbs≤2000∧m2.natAbs≤2000∧m3.natAbs≤2000∧m4.natAbs≤2000:=by
 obtain⟨m,a2,b2,c2,k1,k2,k3,k4⟩:=zXe hi;obtain⟨m1,m2,m3,m4,a3,b3,c3,q1,q2,q3,q4⟩:=zQM (B:=b) hi.a1 hi.aM hi.c1 hcM FU a b c _ g 1 0 0 1 rfl hi ⟨by grind,by grind,by grind,by decide⟩ (by
  have e:((FU:Nat):Int)=1000000000:=rfl;rw[e];have:=hi.aM;split<;>split<;>omega)
 have k1':qX (a,b,c)=some ((a3,b3,c3),(m1,m2,m3,m4)):=by
  simp only[qX,zER,za,q1]
 rw[k1]at k1';have e:=zU k1';obtain⟨e1,rfl⟩:=Prod.mk.inj e;obtain⟨rfl,e2⟩:=Prod.mk.inj e1;obtain⟨rfl,rfl⟩:=Prod.mk.inj e2;have hdS:b*b - 4*c*a=b*b - 4*a*c:=by grind
 have s1:=zEY (A:=a) (B:=b) (C:=c) (x:=m1) (y:=m3) rfl hi.c1 hcM q2.dis q3 q2.a1 q4.e1 (.inl rfl);have s2:=zEY (A:=a) (B:=b) (C:=c) (x:=m2) (y:=m4) rfl hi.c1 hcM q2.dis q3 q2.a1 q4.e3 (.inr rfl);have s3:=zEY (A:=c) (B:=b) (C:=a) (x:=m3) (y:=m1) (v:=a2) hdS hi.a1 hi.aM q2.dis q3 q2.a1 (by have:=q4.e1;grind) (.inl rfl);have s4:=zEY (A:=c) (B:=b) (C:=a) (x:=m4) (y:=m2) (v:=c2) hdS hi.a1 hi.aM q2.dis q3 q2.a1 (by have:=q4.e3;grind) (.inr rfl);exact⟨m1,m2,m3,m4,a2,b2,c2,k1,k2,q2,q3,q4,s1,s2,s3,s4⟩
theorem zRr {f:Int×Int×Int} (h:zS f=some true):∃m f2,qX f=some (f2,m)∧qD f=some (f2,m)∧inN m.1=true∧inN m.2.1=true∧inN m.2.2.1=true∧inN m.2.2.2=true∧
  (-10000000≤f2.1∧f2.1≤10000000)∧(-10000000≤f2.2.1∧f2.2.1≤10000000)∧(-10000000≤f2.2.2∧f2.2.2≤10000000)∧zBh f2.1 f2.2.1 f2.2.2∧(∃g,RedInv f2.1 f2.2.1 f2.2.2 (f.2.1*f.2.1 - 4*f.1*f.2.2) g):=by
 obtain⟨a,b,c⟩:=f;obtain⟨g,hi,hcM⟩:=zYn h;obtain⟨m,a2,b2,c2,k1,k2,k3,k4⟩:=zXe hi;obtain⟨m1,m2,m3,m4,a3,b3,c3,q1,q2,q3,q4⟩:=zQM (B:=b) hi.a1 hi.aM hi.c1 hcM FU a b c _ g 1 0 0 1 rfl hi ⟨by grind,by grind,by grind,by decide⟩ (by
  have e:((FU:Nat):Int)=1000000000:=rfl;rw[e];have:=hi.aM;split<;>split<;>omega)
 have k1':qX (a,b,c)=some ((a3,b3,c3),(m1,m2,m3,m4)):=by
  simp only[qX,zER,za,q1]
 rw[k1]at k1';have e:=zU k1';obtain⟨e1,rfl⟩:=Prod.mk.inj e;obtain⟨rfl,e2⟩:=Prod.mk.inj e1;obtain⟨rfl,rfl⟩:=Prod.mk.inj e2;have hdS:b*b - 4*c*a=b*b - 4*a*c:=by grind
 have s1:=zEY (A:=a) (B:=b) (C:=c) (x:=m1) (y:=m3) rfl hi.c1 hcM q2.dis q3 q2.a1 q4.e1 (.inl rfl);have s2:=zEY (A:=a) (B:=b) (C:=c) (x:=m2) (y:=m4) rfl hi.c1 hcM q2.dis q3 q2.a1 q4.e3 (.inr rfl);have s3:=zEY (A:=c) (B:=b) (C:=a) (x:=m3) (y:=m1) (v:=a2) hdS hi.a1 hi.aM q2.dis q3 q2.a1 (by have:=q4.e1;grind) (.inl rfl);have s4:=zEY (A:=c) (B:=b) (C:=a) (x:=m4) (y:=m2) (v:=c2) hdS hi.a1 hi.aM q2.dis q3 q2.a1 (by have:=q4.e3;grind) (.inr rfl);have r1:=q2.a1;have r2:=q2.aM;have r3:=q2.b1;have r4:=q2.b2;have r5:=q2.c1;have r6:=q2.cM;refine⟨_,_,k1,k2,zBF.2 (by show -1000000≤m1∧m1≤1000000;omega),zBF.2 (by show -1000000≤m2∧m2≤1000000;omega),zBF.2 (by show -1000000≤m3∧m3≤1000000;omega),zBF.2 (by show -1000000≤m4∧m4≤1000000;omega),by show -10000000≤a2∧a2≤10000000;omega,by show -10000000≤b2∧b2≤10000000;omega,by show -10000000≤c2∧c2≤10000000;omega,q3,g,q2⟩
def bv (x:Int):BitVec 64:=BitVec.ofInt 64 x
theorem zY1 (x:Int):w64 x=(bv x).toInt:=by
 rw[zK2,bv,BitVec.toInt_ofInt,IntKind.wrap_i64,Int.bmod_def];omega
theorem zOP (x:Int):bv (w64 x)=bv x:=by
 rw[zY1];unfold bv;rw[BitVec.ofInt_toInt]
theorem zGF {x y:Int} (h:bv x=bv y):w64 x=w64 y:=by rw[zY1,zY1,h]
theorem zSS (x y:Int):bv (x+y)=bv x+bv y:=BitVec.ofInt_add x y
theorem zWf (x y:Int):bv (x*y)=bv x*bv y:=BitVec.ofInt_mul x y
theorem zWe (x y:Int):bv (x - y)=bv x - bv y:=by
 rw[Int.sub_eq_add_neg,zSS];unfold bv;rw[BitVec.ofInt_neg,BitVec.sub_eq_add_neg]
theorem wml (x y:Int):w64 (w64 x*y)=w64 (x*y):=zGF (by rw[zWf,zWf,zOP])
theorem wmr (x y:Int):w64 (x*w64 y)=w64 (x*y):=zGF (by rw[zWf,zWf,zOP])
theorem wal (x y:Int):w64 (w64 x+y)=w64 (x+y):=zGF (by rw[zSS,zSS,zOP])
theorem war (x y:Int):w64 (x+w64 y)=w64 (x+y):=zGF (by rw[zSS,zSS,zOP])
theorem wsl (x y:Int):w64 (w64 x - y)=w64 (x - y):=zGF (by rw[zWe,zWe,zOP])
theorem wsr (x y:Int):w64 (x - w64 y)=w64 (x - y):=zGF (by rw[zWe,zWe,zOP])
theorem at_w (a b c x y:Int):zAR (a,b,c) x y=some (w64 (a*x*x+b*x*y+c*y*y)):=by
 simp only[zAR,zN,wml,wmr,wal,war,wsl,wsr]
theorem zZx (a b c x y u v:Int):zA9 (a,b,c) x y u v=some (w64 (2*a*x*u+b*(x*v+y*u)+2*c*y*v)):=by
 simp only[zA9,zN,wml,wmr,wal,war,wsl,wsr]
theorem sub_w (a b c p q r s:Int):qB (a,b,c) (p,q,r,s)=some (w64 (a*p*p+b*p*r+c*r*r),w64 (2*a*p*q+b*(p*s+r*q)+2*c*r*s),w64 (a*q*q+b*q*s+c*s*s)):=by
 simp only[qB,at_w,zZx,za]
theorem zUy (p q r s p' q' r' s':Int):zY (p,q,r,s) (p',q',r',s')=some (w64 (p*p'+q*r'),w64 (p*q'+q*s'),w64 (r*p'+s*r'),w64 (r*q'+s*s')):=by
 simp only[zY,zN,wml,wmr,wal,war,wsl,wsr]
theorem zWZ (a b c:Int):zL (a,b,c)=some (w64 (b*b - 4*a*c)):=by
 simp only[zL,zN,wml,wmr,wal,war,wsl,wsr]
end Go.Proofs.YtahdjphocippeaaGreatDoor
namespace Go.Proofs.YtahdjphocippeaaGreatDoor
def ptG (a A B C x y:Nat):Bool:=Nat.beq (Nat.gcd (Nat.add (Nat.add (Nat.mul A (Nat.mul x x)) (Nat.mul B (Nat.mul x y))) (Nat.mul C (Nat.mul y y))) a) 1
def ptA (a A B C:Nat):Bool:=bif ptG a A B C 0 1 then true else bif ptG a A B C 1 0 then true else bif ptG a A B C 1 1 then true else bif ptG a A B C 1 2 then true else bif ptG a A B C 2 1 then true else bif ptG a A B C 1 3 then true else bif ptG a A B C 2 3 then true else bif ptG a A B C 3 1 then true else ptG a A B C 3 2
def ptC (a A B:Nat):Nat→Bool
 |0=>true
 |k+1=>bif (bif Nat.beq (Nat.gcd (Nat.gcd A B) (Nat.gcd k a)) 1 then ptA a A B k else true) then ptC a A B k else false
def ptB (a A:Nat):Nat→Bool
 |0=>true
 |k+1=>bif ptC a A k a then ptB a A k else false
def ptD (a:Nat):Nat→Bool
 |0=>true
 |k+1=>bif ptB a k a then ptD a k else false
def ptE:Nat→Bool
 |0=>true
 |k+1=>bif ptD (Nat.succ k) (Nat.succ k) then ptE k else false
theorem z5v:ptE 25=true:=by decide+kernel
theorem zQU {a b:Bool} (h:(bif a then b else false)=true):a=true∧b=true:=by cases a<;>simp_all
theorem zZv {a A B:Nat}:∀k,ptC a A B k=true→∀C,C<k→Nat.gcd (Nat.gcd A B) (Nat.gcd C a)=1→ptA a A B C=true
 |0,_,C,hC,_=>by omega
 |k+1,h,C,hC,hg=>by
  obtain⟨h1,h2⟩:=zQU h;by_cases e:C=k
  ·subst e;have:Nat.beq (Nat.gcd (Nat.gcd A B) (Nat.gcd C a)) 1=true:=by rw[Nat.beq_eq];exact hg
   rw[this,zb]at h1;exact h1
  ·exact zZv k h2 C (by omega) hg
theorem zZw {a A:Nat}:∀k,ptB a A k=true→∀B,B<k→ptC a A B a=true
 |0,_,C,hC=>by omega
 |k+1,h,C,hC=>by
  obtain⟨h1,h2⟩:=zQU h;by_cases e:C=k
  ·subst e;exact h1
  ·exact zZw k h2 C (by omega)
theorem zZu {a:Nat}:∀k,ptD a k=true→∀A,A<k→ptB a A a=true
 |0,_,C,hC=>by omega
 |k+1,h,C,hC=>by
  obtain⟨h1,h2⟩:=zQU h;by_cases e:C=k
  ·subst e;exact h1
  ·exact zZu k h2 C (by omega)
theorem zZt:∀k,ptE k=true→∀a,a<k→ptD (a+1) (a+1)=true
 |0,_,C,hC=>by omega
 |k+1,h,C,hC=>by
  obtain⟨h1,h2⟩:=zQU h;by_cases e:C=k
  ·subst e;exact h1
  ·exact zZt k h2 C (by omega)
theorem z5t {a A B C:Nat} (h1:1≤a) (h2:a≤25) (hA:A<a) (hB:B<a) (hC:C<a) (hg:Nat.gcd (Nat.gcd A B) (Nat.gcd C a)=1):ptA a A B C=true:=by
 have e:=zZt 25 z5v (a - 1) (by omega);rw[show a - 1+1=a by omega]at e;exact zZv a (zZw a (zZu a e A hA) B hB) C hC hg
def ptL:List (Int×Int):=[(0,1),(1,0),(1,1),(1,2),(2,1),(1,3),(2,3),(3,1),(3,2)]
theorem gcd_of' {g x y:Int} (h:∀c:Int,c∣g→(c∣x↔c∣y)):Int.gcd g x=Int.gcd g y:=by
 refine Nat.dvd_antisymm ?_ ?_<;>apply Int.natCast_dvd_natCast.1
 ·exact Int.dvd_coe_gcd (Int.gcd_dvd_left _ _) ((h _ (Int.gcd_dvd_left _ _)).1 (Int.gcd_dvd_right _ _))
 ·exact Int.dvd_coe_gcd (Int.gcd_dvd_left _ _) ((h _ (Int.gcd_dvd_left _ _)).2 (Int.gcd_dvd_right _ _))
theorem z4h {v a:Int} {n:Nat} (ha:1≤a) (hn:a∣v - (n:Int)):Int.gcd v a=Nat.gcd n a.toNat:=by
 obtain⟨k,hk⟩:=hn;have e:v=(n:Int)+a*k:=by omega
 rw[e,Int.gcd_comm,gcd_of' (y:=(n:Int)) (fun c hc=>by
  obtain⟨j,hj⟩:=hc;constructor
  ·rintro⟨i,hi⟩;exact⟨i - j*k,by rw[Int.mul_sub,←zz,←hj];omega⟩
  ·rintro⟨i,hi⟩;exact⟨i+j*k,by rw[Int.mul_add,←zz,←hj];omega⟩),Int.gcd_comm]
 unfold Int.gcd;rw[Int.natAbs_natCast];congr 1;omega
theorem zRm {x a:Int} (ha:1≤a):a∣x - ((x % a).toNat:Int)∧(x % a).toNat<a.toNat:=by
 have h1:=qa x (b:=a) (by omega);have h2:=qc x (b:=a) (by omega);have h3:=Int.emod_add_mul_ediv x a;exact⟨⟨x / a,by omega⟩,by omega⟩
theorem pt_ex {a A B C:Int} (h1:1≤a) (h2:a≤25) (hp:∀k:Int,k∣A→k∣B→k∣C→k∣1):∃p,p∈ptL∧Int.gcd (A*p.1*p.1+B*p.1*p.2+C*p.2*p.2) a=1:=by
 obtain⟨a1,a2⟩:=zRm (x:=A) h1;obtain⟨b1,b2⟩:=zRm (x:=B) h1;obtain⟨c1,c2⟩:=zRm (x:=C) h1;generalize (A % a).toNat=A' at*;generalize (B % a).toNat=B' at*;generalize (C % a).toNat=C' at*;have hg:Nat.gcd (Nat.gcd A' B') (Nat.gcd C' a.toNat)=1:=by
  generalize hG:Nat.gcd (Nat.gcd A' B') (Nat.gcd C' a.toNat)=G;have g1:G∣A':=hG▸Nat.dvd_trans (Nat.gcd_dvd_left _ _) (Nat.gcd_dvd_left _ _);have g2:G∣B':=hG▸Nat.dvd_trans (Nat.gcd_dvd_left _ _) (Nat.gcd_dvd_right _ _);have g3:G∣C':=hG▸Nat.dvd_trans (Nat.gcd_dvd_right _ _) (Nat.gcd_dvd_left _ _);have g4:G∣a.toNat:=hG▸Nat.dvd_trans (Nat.gcd_dvd_right _ _) (Nat.gcd_dvd_right _ _);have g5:(G:Int)∣a:=by
   have:((a.toNat:Nat):Int)=a:=by omega
   rw[←this];exact Int.natCast_dvd_natCast.2 g4
  have up:∀{X:Int} {X':Nat},a∣X - (X':Int)→G∣X'→(G:Int)∣X:=by
   intro X X' u1 u2;obtain⟨i,hi⟩:=zw g5 u1;obtain⟨j,hj⟩:=Int.natCast_dvd_natCast.2 u2;exact⟨i+j,by rw[Int.mul_add];omega⟩
  have h:=hp G (up a1 g1) (up b1 g2) (up c1 g3);have:=Int.natCast_dvd_natCast.1 (show (G:Int)∣((1:Nat):Int) from h);exact Nat.dvd_one.1 this
 have k:=z5t (by omega) (by omega) a2 b2 c2 hg;have fin:∀x y:Nat,((x:Int),(y:Int))∈ptL→ptG a.toNat A' B' C' x y=true→∃p,p∈ptL∧Int.gcd (A*p.1*p.1+B*p.1*p.2+C*p.2*p.2) a=1:=by
  intro x y hm hG;refine⟨_,hm,?_⟩;have e:=Nat.eq_of_beq_eq_true hG;rw[←e];refine z4h h1 ?_
  obtain⟨i,hi⟩:=a1;obtain⟨j,hj⟩:=b1;obtain⟨l,hl⟩:=c1;refine⟨i*(x*x)+j*(x*y)+l*(y*y),?_⟩;have eA:A=a*i+A':=by omega
  have eB:B=a*j+B':=by omega
  have eC:C=a*l+C':=by omega
  have e3:((((A'.mul (x.mul x)).add (B'.mul (x.mul y))).add (C'.mul (y.mul y)):Nat):Int)=A'*(x*x)+B'*(x*y)+C'*(y*y):=by
   simp only[Nat.add_eq,Nat.mul_eq,Int.natCast_add,Int.natCast_mul]
  rw[e3,eA,eB,eC];simp only[];grind
 unfold ptA at k;by_cases e1:ptG a.toNat A' B' C' 0 1=true;· exact fin 0 1 (by decide) e1
 by_cases e2:ptG a.toNat A' B' C' 1 0=true;· exact fin 1 0 (by decide) e2
 by_cases e3:ptG a.toNat A' B' C' 1 1=true;· exact fin 1 1 (by decide) e3
 by_cases e4:ptG a.toNat A' B' C' 1 2=true;· exact fin 1 2 (by decide) e4
 by_cases e5:ptG a.toNat A' B' C' 2 1=true;· exact fin 2 1 (by decide) e5
 by_cases e6:ptG a.toNat A' B' C' 1 3=true;· exact fin 1 3 (by decide) e6
 by_cases e7:ptG a.toNat A' B' C' 2 3=true;· exact fin 2 3 (by decide) e7
 by_cases e8:ptG a.toNat A' B' C' 3 1=true;· exact fin 3 1 (by decide) e8
 rw[Bool.not_eq_true]at e1 e2 e3 e4 e5 e6 e7 e8;rw[e1,e2,e3,e4,e5,e6,e7,e8]at k;simp only[zc]at k;exact fin 3 2 (by decide) k
end Go.Proofs.YtahdjphocippeaaGreatDoor
namespace Go.Proofs.YtahdjphocippeaaGreatDoor
structure Rb (A B C:Int):Prop where
  a1:1≤A
  a2:A≤26
  b1:-26≤B
  b2:B≤26
  c1:1≤C
  c2:C≤1000
def Vl (A B C x y:Int):Int:=A*x*x+B*x*y+C*y*y
def Gd (a A B C s x y:Int):Prop:=mxI x y=s∧Int.gcd x y=1∧Int.gcd (Vl A B C x y) a=1
theorem z6A (x y:Int):mxI x y=max x y:=by
 unfold mxI;rw[zG];by_cases h:x<y
 ·rw[zd h,zb];omega
 ·rw[ze h,zc];omega
theorem z42 (x y:Int):zCf x y=some (mxI x y):=by
 unfold zCf mxI;rw[zG,zG];by_cases h:x<y
 ·rw[zd h,ze (show ¬y<x by omega)];rfl
 ·rw[ze h];by_cases h2:y<x
  ·rw[zd h2];rfl
  ·rw[ze h2,show x=y by omega];rfl
theorem z5Y {A B C x y:Int} (h:Rb A B C) (hx:0≤x) (hx2:x≤3) (hy:0≤y) (hy2:y≤3):(Vl A B C x y).natAbs≤10000:=by
 obtain⟨a1,a2,b1,b2,c1,c2⟩:=h;have m1:(A*x*x).natAbs≤26*3*3:=zW (zW (by omega) (by omega)) (by omega);have m2:(B*x*y).natAbs≤26*3*3:=zW (zW (by omega) (by omega)) (by omega);have m3:(C*y*y).natAbs≤1000*3*3:=zW (zW (by omega) (by omega)) (by omega);unfold Vl;omega
theorem fp11 {a A B C s x:Int} (h:Rb A B C) (ha:1≤a) (ha2:a≤100) (hx:0≤x) (hxs:x≤s) (hs:s≤3):∀(n:Nat) (y:Int),0≤y→y≤s+1→(s+1 - y).toNat<n→
  ∃r,zBV a (A,B,C) s x n y=some r∧zCQ a (A,B,C) s x n y=some r∧(r=.inl ()→∀y',y≤y'→y'≤s→¬Gd a A B C s x y')∧(∀p,r=.inr p→p.1=x∧0≤p.2∧p.2≤s∧Gd a A B C s x p.2)
 |0,y,h0,h1,hn=>by omega
 |n+1,y,h0,h1,hn=>by
  rw[zBV,zCQ,qT];by_cases hy:y≤s
  ·rw[zd hy,zb,zb];have hb:=z5Y (x:=x) (y:=y) h hx (by omega) h0 (by omega);have hv:w64 (A*x*x+B*x*y+C*y*y)=Vl A B C x y:=zX (by unfold Vl at hb;omega);have e1:zBI (A,B,C) x y=some (Vl A B C x y):=by rw[zUd,at_w,hv]
   rw[at_w,hv,e1,z42];simp only[za];rw[zQP (a:=x) (b:=y) (by omega) (by omega),zI8 (a:=x) (b:=y) (by omega) (by omega),zQP (b:=a) (by omega) (by omega),zI8 (b:=a) (by omega) (by omega)];simp only[za];by_cases hG:Gd a A B C s x y
   ·obtain⟨g1,g2,g3⟩:=hG;rw[g1,g2,g3,zCq];simp only[zb,Int.natCast_one,zCq,za];refine⟨_,rfl,rfl,fun e=>(by cases e),fun p e=>?_⟩;cases e;exact⟨rfl,h0,hy,g1,g2,g3⟩
   ·have hc:∀{α:Type} (u v:Option α),((bif eqI (mxI x y) s then some (eqI ((Int.gcd x y:Nat):Int) 1) else some false).bind fun b16=>(bif b16 then some (eqI ((Int.gcd (Vl A B C x y) a:Nat):Int) 1) else some false).bind fun b20=>bif b20 then u else v)=v:=by
     intro α u v;by_cases g1:mxI x y=s
     ·rw[g1,zCq,zb,za];by_cases g2:Int.gcd x y=1
      ·rw[g2,show ((1:Nat):Int)=1 from rfl,zCq,zb,za];have g3:¬Int.gcd (Vl A B C x y) a=1:=fun g3=>hG ⟨g1,g2,g3⟩;rw[zDp (show ((Int.gcd (Vl A B C x y) a:Nat):Int)≠1 by omega),zc]
      ·rw[zDp (show ((Int.gcd x y:Nat):Int)≠1 by omega),zc,za,zc]
     ·rw[zDp g1,zc,za,zc,za,zc]
    rw[hc,hc];simp only[zN];rw[zA (n:=y+1) (by omega)];obtain⟨r,k1,k2,k3,k4⟩:=fp11 h ha ha2 hx hxs hs n (y+1) (by omega) (by omega) (by omega);refine⟨r,k1,k2,fun e y' u1 u2=>?_,k4⟩;by_cases e2:y'=y
    ·rw[e2];exact hG
    ·exact k3 e y' (by omega) u2
  ·rw[ze hy,zc,zc];refine⟨_,rfl,rfl,fun _ y' u1 u2=>by omega,fun p e=>by cases e⟩
theorem fp7 {a A B C s:Int} (h:Rb A B C) (ha:1≤a) (ha2:a≤100) (hs0:0≤s) (hs:s≤3):∀(n:Nat) (x:Int),0≤x→x≤s+1→(s+1 - x).toNat<n→
  ∃r,zBf a (A,B,C) s n x=some r∧zC7 a (A,B,C) s n x=some r∧(r=.inl ()→∀x' y',x≤x'→x'≤s→0≤y'→y'≤s→¬Gd a A B C s x' y')∧(∀p,r=.inr p→0≤p.1∧p.1≤s∧0≤p.2∧p.2≤s∧Gd a A B C s p.1 p.2)
 |0,x,h0,h1,hn=>by omega
 |n+1,x,h0,h1,hn=>by
  have hF:=FUge;rw[zBf,zC7,qT];by_cases hx:x≤s
  ·rw[zd hx,zb,zb];obtain⟨r,k1,k2,k3,k4⟩:=fp11 h ha ha2 h0 hx hs FU 0 (by omega) (by omega) (by omega);rw[k1,k2];simp only[za];cases r with
   |inr p=>
    obtain⟨q1,q2,q3,q4⟩:=k4 p rfl;refine⟨_,rfl,rfl,fun e=>(by cases e),fun p' e=>?_⟩;cases e;rw[q1];exact⟨h0,hx,q2,q3,q4⟩
   |inl u=>
    simp only[zN];rw[zA (n:=x+1) (by omega)];obtain⟨r,j1,j2,j3,j4⟩:=fp7 h ha ha2 hs0 hs n (x+1) (by omega) (by omega) (by omega);refine⟨r,j1,j2,fun e x' y' u1 u2 u3 u4=>?_,j4⟩;by_cases e2:x'=x
    ·rw[e2];exact k3 rfl y' u3 u4
    ·exact j3 e x' y' (by omega) u2 u3 u4
  ·rw[ze hx,zc,zc];refine⟨_,rfl,rfl,fun _ x' y' u1 u2=>by omega,fun p e=>by cases e⟩
theorem fp4 {a A B C:Int} (h:Rb A B C) (ha:1≤a) (ha2:a≤100) {t x0 y0:Int} (ht:t≤3) (hG:Gd a A B C t x0 y0) (hx0:0≤x0) (hx1:x0≤t) (hy0:0≤y0) (hy1:y0≤t):∀(m n n':Nat) (s:Int),0≤s→s≤t→(t - s).toNat≤m→m<n→m<n'→
  ∃p,zAQ a (A,B,C) n s=some (.inr p)∧zC8 a (A,B,C) n' s=some (.inr p)∧∃s',s'≤3∧0≤p.1∧p.1≤s'∧0≤p.2∧p.2≤s'∧Gd a A B C s' p.1 p.2
 |m,0,n',s,h0,h1,hm,hn,hn'=>by omega
 |m,n+1,0,s,h0,h1,hm,hn,hn'=>by omega
 |m,n+1,n'+1,s,h0,h1,hm,hn,hn'=>by
  have hF:=FUge;rw[zAQ,zC8,qT,zd (show s≤100 by omega),zb];obtain⟨r,k1,k2,k3,k4⟩:=fp7 h ha ha2 h0 (by omega) FU 0 (by omega) (by omega) (by omega);rw[k1,k2];simp only[za];cases r with
  |inr p=>
   obtain⟨q1,q2,q3,q4,q5⟩:=k4 p rfl;exact⟨p,rfl,rfl,s,by omega,q1,q2,q3,q4,q5⟩
  |inl u=>
   have hne:s≠t:=by
    intro e;rw[e]at k3;exact k3 rfl x0 y0 hx0 hx1 hy0 hy1 hG
   obtain⟨m',rfl⟩:∃m',m=m'+1:=⟨m - 1,by omega⟩
   simp only[zN];rw[zA (n:=s+1) (by omega)];exact fp4 h ha ha2 ht hG hx0 hx1 hy0 hy1 m' n n' (s+1) (by omega) (by omega) (by omega) (by omega) (by omega)
theorem z5u {x y s:Int} (hs:s≤3) (h1:0≤x) (h2:x≤s) (h3:0≤y) (h4:y≤s) (hg:Int.gcd x y=1):(x,y)∈ptL:=by
 have e1:x=0∨x=1∨x=2∨x=3:=by omega
 have e2:y=0∨y=1∨y=2∨y=3:=by omega
 rcases e1 with rfl|rfl|rfl|rfl<;>rcases e2 with rfl|rfl|rfl|rfl<;>first|decide|(exfalso;revert hg;decide)
theorem zYr {a A B C:Int} (h:Rb A B C) (ha:1≤a) (ha2:a≤25) (hp:∀k:Int,k∣A→k∣B→k∣C→k∣1):∃p,zBn (A,B,C) a=some p∧zCR (A,B,C) a=some p∧p∈ptL∧Int.gcd (Vl A B C p.1 p.2) a=1:=by
 have hF:=FUge;obtain⟨⟨x,y⟩,hm,hg⟩:=pt_ex ha ha2 hp;have hr:0≤x∧x≤3∧0≤y∧y≤3∧Int.gcd x y=1∧1≤max x y:=by
  simp only[ptL,zk,Prod.mk.injEq,zp,or_false]at hm;rcases hm with⟨rfl,rfl⟩|⟨rfl,rfl⟩|⟨rfl,rfl⟩|⟨rfl,rfl⟩|⟨rfl,rfl⟩|⟨rfl,rfl⟩|⟨rfl,rfl⟩|⟨rfl,rfl⟩|⟨rfl,rfl⟩<;>decide
 obtain⟨r1,r2,r3,r4,r5,r6⟩:=hr;have hG:Gd a A B C (max x y) x y:=⟨z6A x y,r5,hg⟩
 obtain⟨p,k1,k2,s',u1,u2,u3,u4,u5,u6⟩:=fp4 h ha (by omega) (show max x y≤3 by omega) hG r1 (by omega) r3 (by omega) 3 (FU - 1) FU 1 (by omega) (by omega) (by omega) (by omega) (by omega);have z:zAQ a (A,B,C) FU 0=some (.inr p):=by
  obtain⟨r,j1,j2,j3,j4⟩:=fp7 h ha (by omega) (s:=0) (by omega) (by omega) FU 0 (by omega) (by omega) (by omega);rw[show FU=(FU - 1)+1 from rfl,zAQ,j1,za];cases r with
  |inr q=>
   obtain⟨w1,w2,w3,w4,w5,w6,w7⟩:=j4 q rfl;have e1:q.1=0:=by omega
   have e2:q.2=0:=by omega
   rw[e1,e2]at w6;exact absurd w6 (by decide)
  |inl u=>
   simp only[zN];rw[show w64 (0+1)=1 from rfl];exact k1
 refine⟨p,?_,?_,z5u u1 u2 u3 u4 u5 u6.2.1,u6.2.2⟩
 ·simp only[zBn,z,za]
 ·simp only[zCR,k2,za]
end Go.Proofs.YtahdjphocippeaaGreatDoor
namespace Go.Proofs.YtahdjphocippeaaGreatDoor
theorem z6t {b x d y k:Int} (hk:0≤k) (hy:1≤y) (M:Int) (h:(x.natAbs:Int)*d+(b.natAbs:Int)*y≤M):((b - k*x).natAbs:Int)*y+(x.natAbs:Int)*(d - k*y)≤M∧((x.natAbs:Int)*(d - k*y)≥0→((b - k*x).natAbs:Int)≤M):=by
 have h1:((b - k*x).natAbs:Int)≤(b.natAbs:Int)+k*(x.natAbs:Int):=by
  have h2:(b - k*x).natAbs≤b.natAbs+(k*x).natAbs:=Int.natAbs_sub_le b (k*x);have h3:(((k*x).natAbs:Nat):Int)=k*(x.natAbs:Int):=by
   rw[Int.natAbs_mul,Int.natCast_mul,Int.natAbs_of_nonneg hk]
  omega
 have h4:((b - k*x).natAbs:Int)*y≤((b.natAbs:Int)+k*(x.natAbs:Int))*y:=Int.mul_le_mul_of_nonneg_right h1 (by omega);have e:((b.natAbs:Int)+k*(x.natAbs:Int))*y+(x.natAbs:Int)*(d - k*y)=(x.natAbs:Int)*d+(b.natAbs:Int)*y:=by grind
 have h5:((b - k*x).natAbs:Int)*1≤((b - k*x).natAbs:Int)*y:=zo hy (by omega);constructor
 ·omega
 ·intro h6;omega
theorem z5q {d y:Int} (hd:0≤d) (hy:1≤y):0≤Int.tdiv d y∧Int.tdiv d y≤d∧0≤d - Int.tdiv d y*y∧d - Int.tdiv d y*y<y:=by
 have h1:=Int.tmod_add_mul_tdiv d y;have h2:0≤d.tmod y∧d.tmod y<y:=⟨Int.tmod_nonneg _ hd,Int.tmod_lt_of_pos _ (by omega)⟩
 have h3:=Int.tdiv_nonneg hd (show 0≤y by omega);have e:Int.tdiv d y*y=y*Int.tdiv d y:=Int.mul_comm _ _;have h4:Int.tdiv d y*1≤Int.tdiv d y*y:=zo hy h3;refine⟨h3,by omega,by omega,by omega⟩
theorem bigk {k x:Int} {K M:Nat} (h1:k.natAbs≤K) (h2:x.natAbs≤M) (hKM:K*M≤9000000000000):w64 (k*x)=k*x∧(k*x).natAbs≤K*M:=by
 have:=zW h1 h2;exact⟨zX (by omega),this⟩
theorem tz {z g:Int} (hg:g≠0):eqI (Int.tmod z g) 0=decide (g∣z):=by
 rw[jD,Bool.eq_iff_iff,beq_iff_eq,decide_eq_true_iff];exact⟨Int.dvd_of_tmod_eq_zero,Int.tmod_eq_zero_of_dvd⟩
theorem tdv {a b c:Int} (hb:b≠0) (h:b*c=a):Int.tdiv a b=c:=by
 rw[←h,Int.mul_tdiv_cancel_left _ hb]
theorem z0E {n m:Int}:∀(k fu:Nat) (r nx x y:Int),0≤nx→nx≤k→k<fu→1≤r→r≤100000→nx≤100000→(y.natAbs:Int)*r+(x.natAbs:Int)*nx≤100000→x.natAbs≤100000→y.natAbs≤100000→n∣r - x*m→n∣nx - y*m→(∀c:Int,c∣r→c∣nx→c∣1)→
  ∃z,zBv n fu r nx x y=some (1,z)∧n∣1 - z*m∧z.natAbs≤100000
 |k,0,r,nx,x,y,_,_,hf,_,_,_,_,_,_,_,_,_=>by omega
 |k,fu+1,r,nx,x,y,h0,hk,hf,hr,hr2,hn2,hS,hx,hy,d1,d2,hc=>by
  rw[zBv];by_cases hz:nx=0
  ·subst hz;have h1:r=1:=Int.eq_one_of_dvd_one (by omega) (hc r ⟨1,by omega⟩ ⟨0,by omega⟩);subst h1;rw[zRl,zg,zc];exact⟨x,rfl,d1,hx⟩
  ·have hn1:1≤nx:=by omega
   obtain⟨k',rfl⟩:∃k',k=k'+1:=⟨k - 1,by omega⟩
   obtain⟨q0,q1,q2,q3⟩:=z5q (d:=r) (y:=nx) (by omega) hn1;obtain⟨s1,s2⟩:=z6t (b:=x) (x:=y) (d:=r) (y:=nx) (k:=Int.tdiv r nx) q0 hn1 100000 hS;have s4:=s2 (Int.mul_nonneg (by omega) q2);generalize hq:Int.tdiv r nx=q at*;obtain⟨w1,w2⟩:=bigk (k:=q) (x:=nx) (K:=100000) (M:=100000) (by omega) (by omega) (by decide);obtain⟨w3,w4⟩:=bigk (k:=q) (x:=y) (K:=100000) (M:=100000) (by omega) hy (by decide);have hne:(!eqI nx 0)=true:=by rw[eqNe hz];rfl
   rw[hne,zb];simp only[nzOk hz,za,zN,hq];rw[zA (n:=q) (by omega),w1,w3,zA (n:=r - q*nx) (by omega),zA (n:=x - q*y) (by omega)];refine z0E k' fu nx (r - q*nx) y (x - q*y) q2 (by omega) (by omega) hn1 hn2 (by omega) (by omega) hy (by omega) d2 ?_ fun c c1 c2=>hc c ?_ c1
   ·obtain⟨u,hu⟩:=d1;obtain⟨v,hv⟩:=d2;exact⟨u - q*v,by grind⟩
   ·obtain⟨u,hu⟩:=c1;obtain⟨v,hv⟩:=c2;exact⟨v+q*u,by grind⟩
theorem z4f {n m:Int} (hn:1≤n) (hn2:n≤100000) (hm:m.natAbs≤100000) (hc:∀c:Int,c∣n→c∣m→c∣1):∃v,zCI m n=some v∧n∣1 - v*m∧0≤v∧v<n:=by
 have hF:=FUge;have m1:=qa m (b:=n) (by omega);have m2:=qc m (b:=n) (by omega);have em:=Int.emod_add_mul_ediv m n;obtain⟨z,e1,e2,e3⟩:=z0E (n:=n) (m:=m) 100000 FU n (m % n) 0 1 m1 (by omega) (by omega) hn hn2 (by omega) (by simp;omega) (by decide) (by decide) ⟨1,by omega⟩ ⟨-(m / n),by grind⟩ fun c c1 c2=>hc c c1 (by
  obtain⟨u,hu⟩:=c1;obtain⟨v,hv⟩:=c2;exact⟨v+u*(m / n),by grind⟩)
 have z1:=qa z (b:=n) (by omega);have z2:=qc z (b:=n) (by omega);have ez:=Int.emod_add_mul_ediv z n;refine⟨z % n,?_,?_,z1,z2⟩
 ·simp only[zCI,zGk,zBB hn (show n≤9223372036854775807 by omega),za,e1,zRl,zg,zc]
 ·obtain⟨u,hu⟩:=e2;exact⟨u+(z / n)*m,by grind⟩
end Go.Proofs.YtahdjphocippeaaGreatDoor
namespace Go.Proofs.YtahdjphocippeaaGreatDoor
theorem inv9 {x y:Int} (h:(x,y)∈ptL):∃q s:Int,(bif eqI y 0 then some (0,x) else (zDb y).bind fun y6=>(zD9 x y6).bind fun y7=>(nz y).bind fun z8=>sI (w64 (Int.tdiv (w64 ((w64 (x*y7)) - 1)) y)) fun f9=>some (f9,y7))=some (q,s)∧zDG x y=some (1,s,-q)∧x*s - q*y=1∧q.natAbs≤3∧s.natAbs≤3∧0≤x∧x≤3∧0≤y∧y≤3:=by
 simp only[ptL,zk,Prod.mk.injEq,zp,or_false]at h;rcases h with⟨rfl,rfl⟩|⟨rfl,rfl⟩|⟨rfl,rfl⟩|⟨rfl,rfl⟩|⟨rfl,rfl⟩|⟨rfl,rfl⟩|⟨rfl,rfl⟩|⟨rfl,rfl⟩|⟨rfl,rfl⟩
 ·exact⟨-1,0,by decide+kernel,by decide+kernel,by decide⟩
 ·exact⟨0,1,by decide+kernel,by decide+kernel,by decide⟩
 ·exact⟨-1,0,by decide+kernel,by decide+kernel,by decide⟩
 ·exact⟨0,1,by decide+kernel,by decide+kernel,by decide⟩
 ·exact⟨-1,0,by decide+kernel,by decide+kernel,by decide⟩
 ·exact⟨0,1,by decide+kernel,by decide+kernel,by decide⟩
 ·exact⟨1,2,by decide+kernel,by decide+kernel,by decide⟩
 ·exact⟨-1,0,by decide+kernel,by decide+kernel,by decide⟩
 ·exact⟨1,1,by decide+kernel,by decide+kernel,by decide⟩
structure Cmp (A B C D x y v q0 s0 B0 Q Bh C1:Int):Prop where
  hv:A*x*x+B*x*y+C*y*y=v
  v1:1≤v
  v2:v≤10000
  hB0:2*A*x*q0+B*(x*s0+y*q0)+2*C*y*s0=B0
  b0:B0.natAbs≤20000
  hQ:B0 / (2*v)=Q
  q:Q.natAbs≤20001
  m6:(-Q*x).natAbs≤60003
  m7:(-Q*y).natAbs≤60003
  hBh:B0 % (2*v)=Bh
  e1:B0+2*v*-Q=Bh
  t1:0≤Bh
  t2:Bh<2*v
  e2:2*A*x*(q0+-Q*x)+B*(x*(s0+-Q*y)+y*(q0+-Q*x))+2*C*y*(s0+-Q*y)=Bh
  hC1:A*(q0+-Q*x)*(q0+-Q*x)+B*(q0+-Q*x)*(s0+-Q*y)+C*(s0+-Q*y)*(s0+-Q*y)=C1
  em:MatInv A B C x (q0+-Q*x) y (s0+-Q*y) v Bh C1
  dis:Bh*Bh - 4*v*C1=D
  bb:Bh*Bh≤400000000
  c1:C1.natAbs≤20000
theorem z7F (A B C x y q0 s0 Q:Int):2*A*x*(q0+-Q*x)+B*(x*(s0+-Q*y)+y*(q0+-Q*x))+2*C*y*(s0+-Q*y)=(2*A*x*q0+B*(x*s0+y*q0)+2*C*y*s0)+2*(A*x*x+B*x*y+C*y*y)*-Q:=by grind
theorem z7G (x s0 Q y q0:Int):x*(s0+-Q*y) - (q0+-Q*x)*y=x*s0 - q0*y:=by grind
theorem z7E (v:Int):4*v*(v+2001)=2*v*(2*v)+8004*v:=by grind
theorem zQT {A B C p q r s a b c:Int} (h:MatInv A B C p q r s a b c):b*b - 4*a*c=B*B - 4*A*C:=by
 obtain⟨f1,f2,f3,f4⟩:=h;have:b*b - 4*a*c=(B*B - 4*A*C)*((p*s - q*r)*(p*s - q*r)):=by
  rw[←f1,←f2,←f3];grind
 rw[this,f4];omega
theorem cmp_b {A B C x y q0 s0:Int} (h:Rb A B C) (i4:q0.natAbs≤3) (i5:s0.natAbs≤3) (i6:0≤x) (i7:x≤3) (i8:0≤y) (i9:y≤3):(2*A*x*q0+B*(x*s0+y*q0)+2*C*y*s0).natAbs≤20000:=by
 obtain⟨a1,a2,b1,b2,c1,c2⟩:=h;have m1:(2*A*x*q0).natAbs≤2*26*3*3:=zW (zW (zW (by omega) (by omega)) (by omega)) (by omega);have m2:(x*s0).natAbs≤3*3:=zW (by omega) (by omega);have m3:(y*q0).natAbs≤3*3:=zW (by omega) (by omega);have m4:(B*(x*s0+y*q0)).natAbs≤26*18:=zW (by omega) (by omega);have m5:(2*C*y*s0).natAbs≤2*1000*3*3:=zW (zW (zW (by omega) (by omega)) (by omega)) (by omega);omega
theorem cmp_q {v B0:Int} (v1:1≤v) (hB:B0.natAbs≤20000):(B0 / (2*v)).natAbs≤20001∧B0+2*v*-(B0 / (2*v))=B0 % (2*v)∧0≤B0 % (2*v)∧B0 % (2*v)<2*v:=by
 have t1:=qa B0 (b:=2*v) (by omega);have t2:=qc B0 (b:=2*v) (by omega);have t3:=Int.emod_add_mul_ediv B0 (2*v);generalize hQ:B0 / (2*v)=Q at*;refine⟨?_,by rw[Int.mul_neg];omega,t1,t2⟩;rcases Int.lt_or_le 20001 Q with h|h
 ·have:2*v*20002≤2*v*Q:=zo (by omega) (by omega);omega
 ·rcases Int.lt_or_le Q (-20001) with h'|h'
  ·have:2*v*Q≤2*v*(-20002):=zo (by omega) (by omega);omega
  ·omega
theorem cmp_c {v Bh C1 D:Int} (v1:1≤v) (v2:v≤10000) (hD1:-2000≤D) (hD2:D≤0) (t1:0≤Bh) (t2:Bh<2*v) (hdis:Bh*Bh - 4*v*C1=D):Bh*Bh≤400000000∧C1.natAbs≤20000:=by
 have hBB:Bh*Bh≤2*v*(2*v):=Int.mul_le_mul (by omega) (by omega) t1 (by omega);have hBB0:0≤Bh*Bh:=Int.mul_nonneg t1 t1;have hBB4:2*v*(2*v)≤20000*20000:=Int.mul_le_mul (by omega) (by omega) (by omega) (by omega);have hCu:C1≤v+2000:=by
  rcases Int.lt_or_le (v+2000) C1 with h|h
  ·have k1:4*v*(v+2001)≤4*v*C1:=zo (by omega) (by omega);have k2:=z7E v;omega
  ·exact h
 have hCl:-2000≤C1:=by
  rcases Int.lt_or_le C1 (-2000) with h|h
  ·have k1:4*v*C1≤4*v*(-2001):=zo (by omega) (by omega);omega
  ·exact h
 omega
theorem z4v {A B C x y v q0 s0 Q Bh:Int} (hv:A*x*x+B*x*y+C*y*y=v) (i3:x*s0 - q0*y=1) (e2:2*A*x*(q0+-Q*x)+B*(x*(s0+-Q*y)+y*(q0+-Q*x))+2*C*y*(s0+-Q*y)=Bh):MatInv A B C x (q0+-Q*x) y (s0+-Q*y) v Bh (A*(q0+-Q*x)*(q0+-Q*x)+B*(q0+-Q*x)*(s0+-Q*y)+C*(s0+-Q*y)*(s0+-Q*y)):=by
 refine⟨hv,?_,rfl,?_⟩
 ·rw[←e2,Int.mul_comm (q0+-Q*x) y]
 ·rw[z7G x s0 Q y q0,i3]
theorem z7D {A B C D x y v q0 s0:Int} (h:Rb A B C) (hD:B*B - 4*A*C=D) (hD1:-2000≤D) (hD2:D≤0) (hv:Vl A B C x y=v) (hv1:1≤v) (i3:x*s0 - q0*y=1) (i4:q0.natAbs≤3) (i5:s0.natAbs≤3) (i6:0≤x) (i7:x≤3) (i8:0≤y) (i9:y≤3):∃B0 Q Bh C1,Cmp A B C D x y v q0 s0 B0 Q Bh C1:=by
 have hvb:=z5Y h i6 i7 i8 i9;rw[hv]at hvb;unfold Vl at hv;have hB0b:=cmp_b h i4 i5 i6 i7 i8 i9;have ee:=z7F A B C x y q0 s0;rw[hv]at ee;obtain⟨hQb,e1,t1,t2⟩:=cmp_q (v:=v) hv1 hB0b;have e2:=(ee ((2*A*x*q0+B*(x*s0+y*q0)+2*C*y*s0) / (2*v))).trans e1;have em:=z4v hv i3 e2;have hdis:=(zQT em).trans hD;obtain⟨hBB,hC⟩:=cmp_c hv1 (by omega) hD1 hD2 t1 t2 hdis;exact⟨_,_,_,_,hv,hv1,by omega,rfl,hB0b,rfl,hQb,zW (A:=20001) (B:=3) (by omega) (by omega),zW (A:=20001) (B:=3) (by omega) (by omega),rfl,e1,t1,t2,e2,rfl,em,hdis,hBB,hC⟩
theorem z3W {A B C D x y v q0 s0 B0 Q Bh C1:Int} (h:Cmp A B C D x y v q0 s0 B0 Q Bh C1) (i4:q0.natAbs≤3) (i5:s0.natAbs≤3) (i1:(bif eqI y 0 then some (0,x) else (zDb y).bind fun y6=>(zD9 x y6).bind fun y7=>(nz y).bind fun z8=>sI (w64 (Int.tdiv (w64 ((w64 (x*y7)) - 1)) y)) fun f9=>some (f9,y7))=some (q0,s0)):zAz (A,B,C) x y=some ((v,Bh,C1),(x,q0+-Q*x,y,s0+-Q*y)):=by
 obtain⟨hv,v1,v2,hB0,b0,hQ,q,m6,m7,hBh,e1,t1,t2,e2,hC1,em,dis,bb,c1⟩:=h;unfold zAz;rw[i1];simp only[za,sub_w];rw[hv,hB0,zA (n:=B0) (by omega),zA (n:=v) (by omega),zA (n:=2*v) (by omega),zFS (by omega) (by omega) (by omega) (by omega),hQ];simp only[za,zN];rw[zA (n:=0 - Q) (by omega),show (0 - Q)=-Q by omega,zA (n:=-Q*x) (by omega),zA (n:=-Q*y) (by omega),zA (n:=q0+-Q*x) (by omega),zA (n:=s0+-Q*y) (by omega)];rw[e2,hC1,zA (n:=C1) (by omega),zA (n:=Bh) (by omega)]
theorem z3V {A B C D x y v q0 s0 B0 Q Bh C1:Int} (h:Cmp A B C D x y v q0 s0 B0 Q Bh C1) (hD:B*B - 4*A*C=D) (hD1:-2000≤D) (hD2:D≤0) (i4:q0.natAbs≤3) (i5:s0.natAbs≤3) (i2:zDG x y=some (1,s0,-q0)):zA4 (A,B,C) x y=some ((v,Bh,C1),(x,q0+-Q*x,y,s0+-Q*y)):=by
 obtain⟨hv,v1,v2,hB0,b0,hQ,q,m6,m7,hBh,e1,t1,t2,e2,hC1,em,dis,bb,c1⟩:=h;unfold zA4;rw[i2];simp only[za];rw[zUd,at_w,hv,zA (n:=v) (by omega)];simp only[za,zN];rw[show w64 (0 - -q0)=q0 by rw[zA (by omega)];omega,z1C,zZx,hB0,zA (n:=B0) (by omega)];simp only[za];rw[zGk,zA (n:=2*v) (by omega),zBB (by omega) (by omega),hBh];simp only[za];rw[zF2 (show 2*v≠0 by omega),zA (n:=Bh - B0) (by omega),tdv (c:=-Q) (by omega) (by omega)];simp only[za];have x1:x*-Q=-Q*x:=Int.mul_comm _ _;have y1:y*-Q=-Q*y:=Int.mul_comm _ _;rw[zA (n:=-Q) (by omega),x1,y1,zA (n:=-Q*x) (by omega),zA (n:=-Q*y) (by omega),zA (n:=q0+-Q*x) (by omega),zA (n:=s0+-Q*y) (by omega),zA (n:=2*v*-Q) (by omega),e1,zA (n:=Bh) (by omega),zGA,zWZ,hD,zA (n:=D) (by omega)];simp only[za];rw[zA (n:=4*v) (by omega),zF2 (show 4*v≠0 by omega)];have hBB0:0≤Bh*Bh:=Int.mul_nonneg t1 t1;simp only[za];rw[zA (n:=Bh*Bh) (by omega),zA (n:=Bh*Bh - D) (by omega),tdv (b:=4*v) (c:=C1) (by omega) (by omega),zA (n:=C1) (by omega)]
theorem zTf {A B C D x y v:Int} (h:Rb A B C) (hD:B*B - 4*A*C=D) (hD1:-2000≤D) (hD2:D≤0) (hm:(x,y)∈ptL) (hv:Vl A B C x y=v) (hv1:1≤v):
  ∃q s Bh Ch,zAz (A,B,C) x y=some ((v,Bh,Ch),(x,q,y,s))∧zA4 (A,B,C) x y=some ((v,Bh,Ch),(x,q,y,s))∧MatInv A B C x q y s v Bh Ch∧0≤Bh∧Bh<2*v∧v≤10000∧q.natAbs≤100000∧s.natAbs≤100000∧0≤x∧x≤3∧0≤y∧y≤3:=by
 obtain⟨q0,s0,i1,i2,i3,i4,i5,i6,i7,i8,i9⟩:=inv9 hm;obtain⟨B0,Q,Bh,C1,k⟩:=z7D h hD hD1 hD2 hv hv1 i3 i4 i5 i6 i7 i8 i9;have k1:=z3W k i4 i5 i1;have k2:=z3V k hD hD1 hD2 i4 i5 i2;obtain⟨hv,v1,v2,hB0,b0,hQ,q,m6,m7,hBh,e1,t1,t2,e2,hC1,em,dis,bb,c1⟩:=k;exact⟨_,_,Bh,C1,k1,k2,em,t1,t2,v2,by omega,by omega,i6,i7,i8,i9⟩
abbrev El:=Int×Int
def eM (D:Int) (x y:El):El:=(x.1*y.1+D*x.2*y.2,x.1*y.2+x.2*y.1)
def eA (x y:El):El:=(x.1+y.1,x.2+y.2)
def eS (x y:El):El:=(x.1 - y.1,x.2 - y.2)
def eK (k:Int) (x:El):El:=(k*x.1,k*x.2)
def eN (D:Int) (x:El):Int:=x.1*x.1 - D*x.2*x.2
def eT (D:Int) (x y:El):Int:=x.1*y.1 - D*x.2*y.2
def eW (x y:El):Int:=x.1*y.2 - x.2*y.1
def Sp (L:List El) (x:El):Prop:=∀P:El→Prop,P (0,0)→(∀a b,P a→P b→P (eS a b))→(∀l,l∈L→P l)→P x
theorem zH9 (L:List El):Sp L (0,0):=fun P h _ _=>h
theorem zI5 {L:List El} {x y:El} (h1:Sp L x) (h2:Sp L y):Sp L (eS x y):=fun P a b c=>b _ _ (h1 P a b c) (h2 P a b c)
theorem zCL {L:List El} {x:El} (h:x∈L):Sp L x:=fun P a b c=>c _ h
theorem qO {x y:El} (h1:x.1=y.1) (h2:x.2=y.2):x=y:=Prod.ext h1 h2
theorem z1r {L:List El} {x:El} (h:Sp L x):Sp L (eK (-1) x):=by
 have:=zI5 (zH9 L) h;have e:eS (0,0) x=eK (-1) x:=qO (by simp[eS,eK]) (by simp[eS,eK])
 rwa [e]at this
theorem zKh {L:List El} {x y:El} (h1:Sp L x) (h2:Sp L y):Sp L (eA x y):=by
 have:=zI5 h1 (z1r h2);have e:eS x (eK (-1) y)=eA x y:=qO (by simp[eS,eK,eA]) (by simp[eS,eK,eA])
 rwa [e]at this
theorem z1s {L:List El} {x:El} (h:Sp L x) (n:Nat):Sp L (eK n x):=by
 induction n with
 |zero=>(have e:eK ((0:Nat):Int) x=(0,0):=qO (by simp[eK]) (by simp[eK]));rw[e];exact zH9 L
 |succ n ih=>
  have e:eK ((n+1:Nat):Int) x=eA (eK n x) x:=qO (by simp[eK,eA,Int.add_mul]) (by simp[eK,eA,Int.add_mul]);rw[e];exact zKh ih h
theorem zGv {L:List El} {x:El} (h:Sp L x) (k:Int):Sp L (eK k x):=by
 rcases Int.le_total 0 k with hk|hk
 ·have e:k=(k.toNat:Int):=by omega
  rw[e];exact z1s h _
 ·have e:eK k x=eK (-1) (eK ((-k).toNat:Nat) x):=by
   have e1:(((-k).toNat:Nat):Int)=-k:=by omega
   rw[e1];exact qO (by simp only[eK];grind) (by simp only[eK];grind)
  rw[e];exact z1r (z1s h _)
theorem z55 {L M:List El} (h:∀l,l∈L→Sp M l) {x:El} (hx:Sp L x):Sp M x:=hx (Sp M) (zH9 M) (fun _ _=>zI5) h
theorem z1q {u v x:El} (h:Sp [u,v] x):∃p q:Int,x=eA (eK p u) (eK q v):=by
 refine h (fun x=>∃p q:Int,x=eA (eK p u) (eK q v)) ⟨0,0,qO (by simp[eA,eK]) (by simp[eA,eK])⟩ ?_ ?_
 ·rintro a b ⟨p,q,e1⟩ ⟨p',q',e2⟩;refine⟨p - p',q - q',?_⟩;subst e1 e2;exact qO (by simp only[eS,eA,eK];grind) (by simp only[eS,eA,eK];grind)
 ·intro l hl;simp only[zk,zp,or_false]at hl;rcases hl with e|e
  ·exact⟨1,0,by subst e;exact qO (by simp[eA,eK]) (by simp[eA,eK])⟩
  ·exact⟨0,1,by subst e;exact qO (by simp[eA,eK]) (by simp[eA,eK])⟩
theorem zVV {u v:El} (p q:Int):Sp [u,v] (eA (eK p u) (eK q v)):=zKh (zGv (zCL (by simp)) p) (zGv (zCL (by simp)) q)
def eL (D:Int) (a:El) (L:List El):List El:=L.map (eM D a)
def eP (D:Int) (L M:List El):List El:=L.flatMap fun l=>M.map (eM D l)
theorem zWT (D:Int) (x y:El):eM D x y=eM D y x:=qO (by simp only[eM];grind) (by simp only[eM];grind)
theorem zHT (D:Int) (x y z:El):eM D (eM D x y) z=eM D x (eM D y z):=qO (by simp only[eM];grind) (by simp only[eM];grind)
theorem zZP (D:Int) (x y z:El):eM D x (eS y z)=eS (eM D x y) (eM D x z):=qO (by simp only[eM,eS];grind) (by simp only[eM,eS];grind)
theorem z4p (D:Int) (x y z:El):eM D (eS x y) z=eS (eM D x z) (eM D y z):=qO (by simp only[eM,eS];grind) (by simp only[eM,eS];grind)
theorem zWS (D:Int) (x:El):eM D x (0,0)=(0,0):=qO (by simp[eM]) (by simp[eM])
theorem z3G (D:Int) (x:El):eM D (0,0) x=(0,0):=qO (by simp[eM]) (by simp[eM])
theorem zRn (D:Int) (x y:El):eN D (eM D x y)=eN D x*eN D y:=by simp only[eN,eM];grind
theorem zWR {D:Int} (hD:D<0) {x:El} (hx:x≠(0,0)):0<eN D x:=by
 simp only[eN];have h1:0≤x.1*x.1:=by rcases Int.le_total 0 x.1 with h|h;exact Int.mul_nonneg h h;exact Int.mul_nonneg_of_nonpos_of_nonpos h h
 have h2:0≤x.2*x.2:=by rcases Int.le_total 0 x.2 with h|h;exact Int.mul_nonneg h h;exact Int.mul_nonneg_of_nonpos_of_nonpos h h
 have h3:0≤(-D)*(x.2*x.2):=Int.mul_nonneg (by omega) h2;have e:D*x.2*x.2=-((-D)*(x.2*x.2)):=by grind
 rw[e];rcases Decidable.em (x.1=0) with h|h
 ·have h4:x.2≠0:=fun h5=>hx (qO h h5);have h5:x.2*x.2≠0:=fun h6=>by rcases Int.mul_eq_zero.1 h6 with h7|h7<;>exact h4 h7
  have h6:0<(-D)*(x.2*x.2):=Int.mul_pos (by omega) (by omega);omega
 ·have h5:x.1*x.1≠0:=fun h6=>by rcases Int.mul_eq_zero.1 h6 with h7|h7<;>exact h h7
  omega
theorem z0V {D:Int} (hD:D<0) {x y:El} (hx:x≠(0,0)) (hy:y≠(0,0)):eM D x y≠(0,0):=by
 intro h;have h1:=Int.mul_pos (zWR hD hx) (zWR hD hy);rw[←zRn,h]at h1;simp[eN]at h1
theorem zFW {D:Int} {a:El} {L:List El} {x:El}:Sp (eL D a L) x↔∃y,Sp L y∧x=eM D a y:=by
 constructor
 ·intro h;refine h (fun x=>∃y,Sp L y∧x=eM D a y) ⟨(0,0),zH9 L,(zWS D a).symm⟩ ?_ ?_
  ·rintro x y ⟨x',h1,e1⟩ ⟨y',h2,e2⟩;exact⟨eS x' y',zI5 h1 h2,by rw[e1,e2,zZP]⟩
  ·intro l hl;obtain⟨m,hm,e⟩:=List.mem_map.1 hl;exact⟨m,zCL hm,e.symm⟩
 ·rintro⟨y,hy,e⟩;subst e;refine hy (fun y=>Sp (eL D a L) (eM D a y)) (by rw[zWS];exact zH9 _) ?_ ?_
  ·intro x y h1 h2;rw[zZP];exact zI5 h1 h2
  ·exact fun l hl=>zCL (List.mem_map.2 ⟨l,hl,rfl⟩)
theorem zET {D:Int} {L M:List El} {x:El}:x∈eP D L M↔∃l,l∈L∧∃m,m∈M∧x=eM D l m:=by
 simp only[eP,List.mem_flatMap,List.mem_map];constructor
 ·rintro⟨l,hl,m,hm,e⟩;exact⟨l,hl,m,hm,e.symm⟩
 ·rintro⟨l,hl,m,hm,e⟩;exact⟨l,hl,m,hm,e.symm⟩
theorem zXZ {D:Int} {L M:List El} {x y:El} (hx:Sp L x) (hy:Sp M y):Sp (eP D L M) (eM D x y):=by
 refine hx (fun x=>Sp (eP D L M) (eM D x y)) (by rw[z3G];exact zH9 _) ?_ ?_
 ·intro a b h1 h2;rw[z4p];exact zI5 h1 h2
 ·intro l hl;refine hy (fun y=>Sp (eP D L M) (eM D l y)) (by rw[zWS];exact zH9 _) ?_ ?_
  ·intro a b h1 h2;rw[zZP];exact zI5 h1 h2
  ·exact fun m hm=>zCL (zET.2 ⟨l,hl,m,hm,rfl⟩)
def Cl (D:Int) (L M:List El):Prop:=∃a b:El,a≠(0,0)∧b≠(0,0)∧∀x,Sp (eL D a L) x↔Sp (eL D b M) x
theorem z4w (D:Int) (L:List El):Cl D L L:=⟨(1,0),(1,0),by simp,by simp,fun _=>Iff.rfl⟩
theorem zW2 {D:Int} {L M:List El} (h:Cl D L M):Cl D M L:=by
 obtain⟨a,b,h1,h2,h3⟩:=h;exact⟨b,a,h2,h1,fun x=>(h3 x).symm⟩
theorem z0W {D:Int} {c a b:El} {L M:List El} (h:∀x,Sp (eL D a L) x↔Sp (eL D b M) x) (x:El):Sp (eL D (eM D c a) L) x↔Sp (eL D (eM D c b) M) x:=by
 simp only[zFW]at h ⊢;constructor
 ·rintro⟨y,hy,e⟩;obtain⟨z,hz,e2⟩:=(h (eM D a y)).1 ⟨y,hy,rfl⟩;exact⟨z,hz,by rw[e,zHT,e2,zHT]⟩
 ·rintro⟨y,hy,e⟩;obtain⟨z,hz,e2⟩:=(h (eM D b y)).2 ⟨y,hy,rfl⟩;exact⟨z,hz,by rw[e,zHT,e2,zHT]⟩
theorem zIz {D:Int} (hD:D<0) {L M N:List El} (h1:Cl D L M) (h2:Cl D M N):Cl D L N:=by
 obtain⟨a,b,ha,hb,h⟩:=h1;obtain⟨c,d,hc,hd,k⟩:=h2;refine⟨eM D c a,eM D b d,z0V hD hc ha,z0V hD hb hd,fun x=>?_⟩;rw[z0W h x,zWT D c b,z0W k x]
theorem zYE {D:Int} {L M:List El} (h:∀x,Sp L x↔Sp M x):Cl D L M:=by
 refine⟨(1,0),(1,0),by simp,by simp,fun x=>?_⟩;rw[zFW,zFW];constructor
 ·rintro⟨y,hy,e⟩;exact⟨y,(h y).1 hy,e⟩
 ·rintro⟨y,hy,e⟩;exact⟨y,(h y).2 hy,e⟩
theorem zYe {L M:List El} (h1:∀l,l∈L→Sp M l) (h2:∀l,l∈M→Sp L l) (x:El):Sp L x↔Sp M x:=⟨z55 h1,z55 h2⟩
theorem zYF {D:Int} {a b:El} {L M:List El} (ha:a≠(0,0)) (hb:b≠(0,0)) (h1:∀l,l∈L→Sp (eL D b M) (eM D a l)) (h2:∀m,m∈M→Sp (eL D a L) (eM D b m)):Cl D L M:=by
 refine⟨a,b,ha,hb,zYe ?_ ?_⟩
 ·intro l hl;obtain⟨m,hm,e⟩:=List.mem_map.1 hl;rw[←e];exact h1 m hm
 ·intro l hl;obtain⟨m,hm,e⟩:=List.mem_map.1 hl;rw[←e];exact h2 m hm
theorem zM2 {D:Int} {a b c d:El} {L L' M M':List El} (h:∀x,Sp (eL D a L) x↔Sp (eL D b L') x) (k:∀x,Sp (eL D c M) x↔Sp (eL D d M') x):∀l,l∈eP D L M→Sp (eL D (eM D b d) (eP D L' M')) (eM D (eM D a c) l):=by
 intro l hl;obtain⟨l1,h1,m1,h2,e⟩:=zET.1 hl;obtain⟨y,hy,e1⟩:=zFW.1 ((h (eM D a l1)).1 (zFW.2 ⟨l1,zCL h1,rfl⟩));obtain⟨z,hz,e2⟩:=zFW.1 ((k (eM D c m1)).1 (zFW.2 ⟨m1,zCL h2,rfl⟩));refine zFW.2 ⟨eM D y z,zXZ hy hz,?_⟩;have e3:eM D (eM D a c) l=eM D (eM D a l1) (eM D c m1):=by
  rw[e];exact qO (by simp only[eM];grind) (by simp only[eM];grind)
 rw[e3,e1,e2];exact qO (by simp only[eM];grind) (by simp only[eM];grind)
theorem z0Z {D:Int} (hD:D<0) {L L' M M':List El} (h1:Cl D L L') (h2:Cl D M M'):Cl D (eP D L M) (eP D L' M'):=by
 obtain⟨a,b,ha,hb,h⟩:=h1;obtain⟨c,d,hc,hd,k⟩:=h2;exact zYF (z0V hD ha hc) (z0V hD hb hd) (zM2 h k) (zM2 (fun x=>(h x).symm) (fun x=>(k x).symm))
theorem z4x (D:Int) (L M:List El):Cl D (eP D L M) (eP D M L):=by
 refine zYE (zYe ?_ ?_)
 ·intro l hl;obtain⟨x,hx,y,hy,e⟩:=zET.1 hl;rw[e,zWT];exact zCL (zET.2 ⟨y,hy,x,hx,rfl⟩)
 ·intro l hl;obtain⟨x,hx,y,hy,e⟩:=zET.1 hl;rw[e,zWT];exact zCL (zET.2 ⟨y,hy,x,hx,rfl⟩)
theorem z3Y (D:Int) (L M N:List El):Cl D (eP D (eP D L M) N) (eP D L (eP D M N)):=by
 refine zYE (zYe ?_ ?_)
 ·intro l hl;obtain⟨x,hx,y,hy,e⟩:=zET.1 hl;obtain⟨z,hz,w,hw,e2⟩:=zET.1 hx;rw[e,e2,zHT];exact zCL (zET.2 ⟨z,hz,_,zET.2 ⟨w,hw,y,hy,rfl⟩,rfl⟩)
 ·intro l hl;obtain⟨x,hx,y,hy,e⟩:=zET.1 hl;obtain⟨z,hz,w,hw,e2⟩:=zET.1 hy;rw[e,e2,←zHT];exact zCL (zET.2 ⟨_,zET.2 ⟨x,hx,z,hz,rfl⟩,w,hw,rfl⟩)
def fL (f:Int×Int×Int):List El:=[(2*f.1,0),(f.2.1,1)]
def fD (f:Int×Int×Int):Int:=f.2.1*f.2.1 - 4*f.1*f.2.2
def Eqf (f g:Int×Int×Int):Prop:=∃p q r s:Int,p*s - q*r=1∧f.1=g.1*p*p+g.2.1*p*r+g.2.2*r*r∧f.2.1=2*g.1*p*q+g.2.1*(p*s+q*r)+2*g.2.2*r*s∧f.2.2=g.1*q*q+g.2.1*q*s+g.2.2*s*s
theorem z2z {f g:Int×Int×Int} (h:Eqf f g):fD f=fD g:=by
 obtain⟨p,q,r,s,hdet,e1,e2,e3⟩:=h;simp only[fD];have:p*s=1+q*r:=by omega
 rw[e1,e2,e3];grind
theorem z1I {f g:Int×Int×Int} (hf:0<f.1) (hg:0<g.1) (h:Eqf f g):Cl (fD g) (fL f) (fL g):=by
 have hd:=z2z h;obtain⟨p,q,r,s,hdet,e1,e2,e3⟩:=h;obtain⟨a,b,c⟩:=f;obtain⟨a',b',c'⟩:=g;simp only[fD]at hd hf hg e1 e2 e3 ⊢;have hps:p*s=1+q*r:=by omega
 have hne:((2*a'*p+b'*r,r):El)≠(0,0):=by
  intro h0;have h1:r=0:=congrArg Prod.snd h0;have h2:2*a'*p+b'*r=0:=congrArg Prod.fst h0;subst h1;have h3:p=0:=by
   have:2*a'*p=0:=by omega
   rcases Int.mul_eq_zero.1 this with h4|h4
   ·omega
   ·exact h4
  subst h3;omega
 have hne2:((2*a,0):El)≠(0,0):=by
  intro h0;have h1:2*a=0:=congrArg Prod.fst h0;omega
 have k1:eM (b'*b' - 4*a'*c') (2*a'*p+b'*r,r) (2*a,0)=eM (b'*b' - 4*a'*c') (2*a,0) (eA (eK p (2*a',0)) (eK r (b',1))):=qO (by simp only[eM,eA,eK];grind) (by simp only[eM,eA,eK];grind);have k2:eM (b'*b' - 4*a'*c') (2*a'*p+b'*r,r) (b,1)=eM (b'*b' - 4*a'*c') (2*a,0) (eA (eK q (2*a',0)) (eK s (b',1))):=by
  refine qO ?_ ?_
  ·simp only[eM,eA,eK];rw[e1,e2];have:(2*a'*p+b'*r)*(2*a'*p*q+b'*(p*s+q*r)+2*c'*r*s)+(b'*b' - 4*a'*c')*r*1 - (2*(a'*p*p+b'*p*r+c'*r*r)*(q*(2*a')+s*b')+(b'*b' - 4*a'*c')*0*(q*0+s*1))=(b'*b' - 4*a'*c')*r*(1 - (p*s - q*r)):=by grind
   rw[hdet]at this;omega
  ·simp only[eM,eA,eK];rw[e1,e2];have:(2*a'*p+b'*r)*1+r*(2*a'*p*q+b'*(p*s+q*r)+2*c'*r*s) - (2*(a'*p*p+b'*p*r+c'*r*r)*(q*0+s*1)+0*(q*(2*a')+s*b'))=(2*a'*p+b'*r)*(1 - (p*s - q*r)):=by grind
   rw[hdet]at this;omega
 refine zYF hne hne2 ?_ ?_
 ·intro l hl;simp only[fL,zk,zp,or_false]at hl;rcases hl with e|e
  ·subst e;rw[k1];exact zFW.2 ⟨_,zVV p r,rfl⟩
  ·subst e;rw[k2];exact zFW.2 ⟨_,zVV q s,rfl⟩
 ·intro l hl;have j1:eA (eK s (eA (eK p (2*a',0)) (eK r (b',1)))) (eK (-r) (eA (eK q (2*a',0)) (eK s (b',1))))=((2*a',0):El):=by
   refine qO ?_ ?_
   ·simp only[eA,eK];have:s*(p*(2*a')+r*b')+-r*(q*(2*a')+s*b')=2*a'*(p*s - q*r):=by grind
    rw[hdet]at this;omega
   ·simp only[eA,eK];grind
  have j2:eA (eK (-q) (eA (eK p (2*a',0)) (eK r (b',1)))) (eK p (eA (eK q (2*a',0)) (eK s (b',1))))=((b',1):El):=by
   refine qO ?_ ?_
   ·simp only[eA,eK];have:-q*(p*(2*a')+r*b')+p*(q*(2*a')+s*b')=b'*(p*s - q*r):=by grind
    rw[hdet]at this;omega
   ·simp only[eA,eK];grind
  have m1:∀x y:Int,eM (b'*b' - 4*a'*c') (2*a,0) (eA (eK x (eA (eK p (2*a',0)) (eK r (b',1)))) (eK y (eA (eK q (2*a',0)) (eK s (b',1)))))=eA (eK x (eM (b'*b' - 4*a'*c') (2*a,0) (eA (eK p (2*a',0)) (eK r (b',1))))) (eK y (eM (b'*b' - 4*a'*c') (2*a,0) (eA (eK q (2*a',0)) (eK s (b',1))))):=by
   intro x y;exact qO (by simp only[eM,eA,eK];grind) (by simp only[eM,eA,eK];grind)
  have m2:∀x y:Int,Sp (eL (b'*b' - 4*a'*c') (2*a'*p+b'*r,r) (fL (a,b,c))) (eA (eK x (eM (b'*b' - 4*a'*c') (2*a,0) (eA (eK p (2*a',0)) (eK r (b',1))))) (eK y (eM (b'*b' - 4*a'*c') (2*a,0) (eA (eK q (2*a',0)) (eK s (b',1)))))):=by
   intro x y;rw[←k1,←k2];exact zKh (zGv (zFW.2 ⟨_,zCL (by simp[fL]),rfl⟩) x) (zGv (zFW.2 ⟨_,zCL (by simp[fL]),rfl⟩) y)
  simp only[fL,zk,zp,or_false]at hl;rcases hl with e|e
  ·subst e;rw[←j1,m1];exact m2 _ _
  ·subst e;rw[←j2,m1];exact m2 _ _
theorem z0U (D:Int) (p r:Int) (u v:El):eN D (eA (eK p u) (eK r v))=p*p*eN D u+2*p*r*eT D u v+r*r*eN D v:=by
 simp only[eN,eA,eK,eT];grind
theorem z4o (D:Int) (p r q s:Int) (u v:El):eT D (eA (eK p u) (eK r v)) (eA (eK q u) (eK s v))=p*q*eN D u+(p*s+q*r)*eT D u v+r*s*eN D v:=by
 simp only[eN,eA,eK,eT];grind
theorem z0T (p r q s:Int) (u v:El):eW (eA (eK p u) (eK r v)) (eA (eK q u) (eK s v))=(p*s - q*r)*eW u v:=by
 simp only[eW,eA,eK];grind
theorem z3F (D:Int) (a x y:El):eT D (eM D a x) (eM D a y)=eN D a*eT D x y:=by simp only[eN,eM,eT];grind
theorem zWQ (D:Int) (a x y:El):eW (eM D a x) (eM D a y)=eN D a*eW x y:=by simp only[eN,eM,eW];grind
theorem z1B {f g:Int×Int×Int} (hf:0<f.1) (hg:0<g.1) (hD:fD g<0) (hd:fD f=fD g) (h:Cl (fD g) (fL f) (fL g)):Eqf f g:=by
 obtain⟨α,β,hα,hβ,hs⟩:=h;have hNα:=zWR hD hα;have hNβ:=zWR hD hβ;have half:∀{f g:Int×Int×Int} {α β:El},(∀x,Sp (eL (fD g) α (fL f)) x↔Sp (eL (fD g) β (fL g)) x)→∃p q r s:Int,eM (fD g) α (2*f.1,0)=eM (fD g) β (eA (eK p (2*g.1,0)) (eK r (g.2.1,1)))∧eM (fD g) α (f.2.1,1)=eM (fD g) β (eA (eK q (2*g.1,0)) (eK s (g.2.1,1))):=by
  intro f g α β hs;obtain⟨y,hy,e1⟩:=zFW.1 ((hs _).1 (zFW.2 ⟨(2*f.1,0),zCL (by simp[fL]),rfl⟩));obtain⟨z,hz,e2⟩:=zFW.1 ((hs _).1 (zFW.2 ⟨(f.2.1,1),zCL (by simp[fL]),rfl⟩));obtain⟨p,r,e3⟩:=z1q hy;obtain⟨q,s,e4⟩:=z1q hz;exact⟨p,q,r,s,by rw[e1,e3],by rw[e2,e4]⟩
 obtain⟨p,q,r,s,e1,e2⟩:=half hs;obtain⟨p',q',r',s',e3,e4⟩:=half (f:=g) (g:=f) (by rw[hd];exact fun x=>(hs x).symm);rw[hd]at e3 e4;have w1:eN (fD g) α*(2*f.1)=eN (fD g) β*((p*s - q*r)*(2*g.1)):=by
  have h1:=zWQ (fD g) α (2*f.1,0) (f.2.1,1);rw[e1,e2,zWQ,z0T]at h1;simpa [eW] using h1.symm
 have w2:eN (fD g) β*(2*g.1)=eN (fD g) α*((p'*s' - q'*r')*(2*f.1)):=by
  have h1:=zWQ (fD g) β (2*g.1,0) (g.2.1,1);rw[e3,e4,zWQ,z0T]at h1;simpa [eW] using h1.symm
 have hX:0<eN (fD g) α*(2*f.1):=Int.mul_pos hNα (by omega);have hY:0<eN (fD g) β*(2*g.1):=Int.mul_pos hNβ (by omega);have hdet:p*s - q*r=1:=by
  have x1:eN (fD g) α*(2*f.1)=(eN (fD g) β*(2*g.1))*(p*s - q*r):=by rw[w1];grind
  have x2:eN (fD g) β*(2*g.1)=(eN (fD g) α*(2*f.1))*(p'*s' - q'*r'):=by
   have:eN (fD g) α*((p'*s' - q'*r')*(2*f.1))=(eN (fD g) α*(2*f.1))*(p'*s' - q'*r'):=by grind
   rw[←this];exact w2
  generalize hXX:eN (fD g) α*(2*f.1)=X at*;generalize hYY:eN (fD g) β*(2*g.1)=Y at*;generalize p*s - q*r=t at*;generalize p'*s' - q'*r'=t' at*;have ht:0<t:=by
   rcases Int.lt_or_le 0 t with h|h
   ·exact h
   ·have:Y*t≤0:=Int.mul_nonpos_of_nonneg_of_nonpos (by omega) h;omega
  have ht':0<t':=by
   rcases Int.lt_or_le 0 t' with h|h
   ·exact h
   ·have:X*t'≤0:=Int.mul_nonpos_of_nonneg_of_nonpos (by omega) h;omega
  have h1:X*1=X*(t'*t):=by
   have:X=X*t'*t:=by rw[←x2];exact x1
   rw[Int.mul_one,←zz];exact this
  have h2:1=t'*t:=Int.eq_of_mul_eq_mul_left (by omega) h1;have h3:1*t≤t'*t:=Int.mul_le_mul_of_nonneg_right (by omega) (by omega);omega
 have key:eN (fD g) α*f.1=eN (fD g) β*g.1:=by
  rw[hdet]at w1;have:2*(eN (fD g) α*f.1)=2*(eN (fD g) β*g.1):=by grind
  omega
 have hK:0<eN (fD g) α*f.1:=Int.mul_pos hNα hf;have n1:eN (fD g) (2*g.1,0)=4*g.1*g.1:=by simp only[eN];grind
 have n2:eN (fD g) (g.2.1,1)=4*g.1*g.2.2:=by simp only[eN,fD];grind
 have n3:eT (fD g) (2*g.1,0) (g.2.1,1)=2*g.1*g.2.1:=by simp only[eT];grind
 have m1:eN (fD g) (2*f.1,0)=4*f.1*f.1:=by simp only[eN];grind
 have m2:eN (fD g) (f.2.1,1)=4*f.1*f.2.2:=by rw[←hd];simp only[eN,fD];grind
 have m3:eT (fD g) (2*f.1,0) (f.2.1,1)=2*f.1*f.2.1:=by simp only[eT];grind
 have v1:eN (fD g) α*(4*f.1*f.1)=eN (fD g) β*(p*p*(4*g.1*g.1)+2*p*r*(2*g.1*g.2.1)+r*r*(4*g.1*g.2.2)):=by
  rw[←m1,←n1,←n2,←n3,←z0U,←zRn,←zRn,e1]
 have v2:eN (fD g) α*(4*f.1*f.2.2)=eN (fD g) β*(q*q*(4*g.1*g.1)+2*q*s*(2*g.1*g.2.1)+s*s*(4*g.1*g.2.2)):=by
  rw[←m2,←n1,←n2,←n3,←z0U,←zRn,←zRn,e2]
 have v3:eN (fD g) α*(2*f.1*f.2.1)=eN (fD g) β*(p*q*(4*g.1*g.1)+(p*s+q*r)*(2*g.1*g.2.1)+r*s*(4*g.1*g.2.2)):=by
  rw[←m3,←n1,←n2,←n3,←z4o,←z3F,←z3F,e1,e2]
 have canc:∀x y:Int,(eN (fD g) α*f.1)*x=(eN (fD g) β*g.1)*y→x=y:=by
  intro x y h;rw[←key]at h;exact Int.eq_of_mul_eq_mul_left (by omega) h
 generalize eN (fD g) α=A at*;generalize eN (fD g) β=B at*;refine⟨p,q,r,s,hdet,canc _ _ ?_,canc _ _ ?_,canc _ _ ?_⟩
 ·have e1:4*(A*f.1*f.1)=A*(4*f.1*f.1):=by grind
  have e2:4*(B*g.1*(g.1*p*p+g.2.1*p*r+g.2.2*r*r))=B*(p*p*(4*g.1*g.1)+2*p*r*(2*g.1*g.2.1)+r*r*(4*g.1*g.2.2)):=by grind
  omega
 ·have e1:2*(A*f.1*f.2.1)=A*(2*f.1*f.2.1):=by grind
  have e2:2*(B*g.1*(2*g.1*p*q+g.2.1*(p*s+q*r)+2*g.2.2*r*s))=B*(p*q*(4*g.1*g.1)+(p*s+q*r)*(2*g.1*g.2.1)+r*s*(4*g.1*g.2.2)):=by grind
  omega
 ·have e1:4*(A*f.1*f.2.2)=A*(4*f.1*f.2.2):=by grind
  have e2:4*(B*g.1*(g.1*q*q+g.2.1*q*s+g.2.2*s*s))=B*(q*q*(4*g.1*g.1)+2*q*s*(2*g.1*g.2.1)+s*s*(4*g.1*g.2.2)):=by grind
  omega
end Go.Proofs.YtahdjphocippeaaGreatDoor
namespace Go.Proofs.YtahdjphocippeaaGreatDoor
theorem zYu {D:Int} {a b a' b':Int} {x:El} {c c':Int} (h:x∈eP D (fL (a,b,c)) (fL (a',b',c'))):x=(4*a*a',0)∨x=(2*a*b',2*a)∨x=(2*a'*b,2*a')∨x=(b*b'+D,b+b'):=by
 obtain⟨l,hl,m,hm,e⟩:=zET.1 h;simp only[fL,zk,zp,or_false]at hl hm;rcases hl with e1|e1<;>rcases hm with e2|e2<;>subst e1 e2
 ·left;rw[e];exact qO (by simp only[eM];grind) (by simp only[eM];grind)
 ·right;left;rw[e];exact qO (by simp only[eM];grind) (by simp only[eM];grind)
 ·right;right;left;rw[e];exact qO (by simp only[eM];grind) (by simp only[eM];grind)
 ·right;right;right;rw[e];exact qO (by simp only[eM];grind) (by simp only[eM];grind)
theorem fP_1 (D a b c a' b' c':Int):Sp (eP D (fL (a,b,c)) (fL (a',b',c'))) (4*a*a',0):=by
 have:eM D (2*a,0) (2*a',0)=(4*a*a',0):=qO (by simp only[eM];grind) (by simp only[eM];grind);rw[←this];exact zXZ (zCL (by simp[fL])) (zCL (by simp[fL]))
theorem fP_2 (D a b c a' b' c':Int):Sp (eP D (fL (a,b,c)) (fL (a',b',c'))) (2*a*b',2*a):=by
 have:eM D (2*a,0) (b',1)=(2*a*b',2*a):=qO (by simp only[eM];grind) (by simp only[eM];grind);rw[←this];exact zXZ (zCL (by simp[fL])) (zCL (by simp[fL]))
theorem fP_3 (D a b c a' b' c':Int):Sp (eP D (fL (a,b,c)) (fL (a',b',c'))) (2*a'*b,2*a'):=by
 have:eM D (b,1) (2*a',0)=(2*a'*b,2*a'):=qO (by simp only[eM];grind) (by simp only[eM];grind);rw[←this];exact zXZ (zCL (by simp[fL])) (zCL (by simp[fL]))
theorem fP_4 (D a b c a' b' c':Int):Sp (eP D (fL (a,b,c)) (fL (a',b',c'))) (b*b'+D,b+b'):=by
 have:eM D (b,1) (b',1)=(b*b'+D,b+b'):=qO (by simp only[eM];grind) (by simp only[eM];grind);rw[←this];exact zXZ (zCL (by simp[fL])) (zCL (by simp[fL]))
theorem zZi {L:List El} {x y:El} (h:Sp L x) (e:x=y):Sp L y:=e▸h
theorem eM_k (D k:Int) (x:El):eM D (k,0) x=eK k x:=qO (by simp only[eM,eK];grind) (by simp only[eM,eK];grind)
theorem fS (a b c:Int) (p q x y:Int) (hx:x=2*a*p+b*q) (hy:y=q):Sp (fL (a,b,c)) (x,y):=by
 have:=zVV (u:=(2*a,0)) (v:=(b,1)) p q;exact zZi this (qO (by simp only[eA,eK];rw[hx];grind) (by simp only[eA,eK];rw[hy];grind))
theorem zDP {D k:Int} {L:List El} {x y:El} (h:Sp L x) (e:eK k x=y):Sp (eL D (k,0) L) y:=zFW.2 ⟨x,h,by rw[eM_k];exact e.symm⟩
theorem z1H {D a e b c s t:Int} (hD:D=b*b - 4*a*e*c) (hst:s*a+t*e=1):Cl D (eP D (fL (a,b,e*c)) (fL (e,b,a*c))) (fL (a*e,b,c)):=by
 refine zYF (a:=(1,0)) (b:=(2,0)) (by simp) (by simp) ?_ ?_
 ·intro l hl;rw[eM_k];rcases zYu hl with h|h|h|h
  ·subst h;exact zDP (fS _ _ _ 1 0 (2*a*e) 0 (by grind) rfl) (qO (by simp only[eK];grind) (by simp only[eK];grind))
  ·subst h;exact zDP (fS _ _ _ 0 a (a*b) a (by grind) rfl) (qO (by simp only[eK];grind) (by simp only[eK];grind))
  ·subst h;exact zDP (fS _ _ _ 0 e (e*b) e (by grind) rfl) (qO (by simp only[eK];grind) (by simp only[eK];grind))
  ·subst h;exact zDP (fS _ _ _ (-c) b (b*b - 2*a*e*c) b (by grind) rfl) (qO (by simp only[eK];grind) (by simp only[eK];grind))
 ·intro l hl;rw[eM_k];simp only[fL,zk,zp,or_false]at hl;rcases hl with h|h
  ·subst h;exact zDP (fP_1 D a b (e*c) e b (a*c)) (qO (by simp only[eK];grind) (by simp only[eK];grind))
  ·subst h;refine zDP (zKh (zGv (fP_2 D a b (e*c) e b (a*c)) s) (zGv (fP_3 D a b (e*c) e b (a*c)) t)) (qO ?_ ?_)
   ·simp only[eK,eA];have:1*(s*(2*a*b)+t*(2*e*b))=2*b*(s*a+t*e):=by grind
    rw[this,hst];omega
   ·simp only[eK,eA];have:1*(s*(2*a)+t*(2*e))=2*(s*a+t*e):=by grind
    rw[this,hst];try omega
theorem z7H {D a b c p c0 m:Int} (hD:D=b*b - 4*a*c) (hm:b+p=2*m):Cl D (eP D (fL (1,p,c0)) (fL (a,b,c))) (fL (a,b,c)):=by
 refine zYF (a:=(1,0)) (b:=(2,0)) (by simp) (by simp) ?_ ?_
 ·intro l hl;rw[eM_k];rcases zYu hl with h|h|h|h
  ·subst h;exact zDP (fS _ _ _ 1 0 (2*a) 0 (by grind) rfl) (qO (by simp only[eK];grind) (by simp only[eK];grind))
  ·subst h;exact zDP (fS _ _ _ 0 1 b 1 (by grind) rfl) (qO (by simp only[eK];grind) (by simp only[eK];grind))
  ·subst h;exact zDP (fS _ _ _ (p - m) a (a*p) a (by grind) rfl) (qO (by simp only[eK];grind) (by simp only[eK];grind))
  ·subst h;exact zDP (fS _ _ _ (-c) m (b*m - 2*a*c) m (by grind) rfl) (qO (by simp only[eK];grind) (by simp only[eK];grind))
 ·intro l hl;rw[eM_k];simp only[fL,zk,zp,or_false]at hl;rcases hl with h|h
  ·subst h;exact zDP (fP_1 D 1 p c0 a b c) (qO (by simp only[eK];grind) (by simp only[eK];grind))
  ·subst h;exact zDP (fP_2 D 1 p c0 a b c) (qO (by simp only[eK];grind) (by simp only[eK];grind))
theorem z7I {D a b c p c0 m x y z:Int} (ha:0<a) (hD:D=b*b - 4*a*c) (hm:b+p=2*m) (hx:x*a+y*b+z*c=1):Cl D (eP D (fL (a,b,c)) (fL (a,-b,c))) (fL (1,p,c0)):=by
 refine zYF (a:=(1,0)) (b:=(2*a,0)) (by simp) (by intro h;have h0:2*a=0:=congrArg Prod.fst h;omega) ?_ ?_
 ·intro l hl;rw[eM_k];rcases zYu hl with h|h|h|h
  ·subst h;exact zDP (fS _ _ _ a 0 (2*a) 0 (by grind) rfl) (qO (by simp only[eK];grind) (by simp only[eK];grind))
  ·subst h;exact zDP (fS _ _ _ (-m) 1 (-b) 1 (by grind) rfl) (qO (by simp only[eK];grind) (by simp only[eK];grind))
  ·subst h;exact zDP (fS _ _ _ (m - p) 1 b 1 (by grind) rfl) (qO (by simp only[eK];grind) (by simp only[eK];grind))
  ·subst h;exact zDP (fS _ _ _ (-c) 0 (-2*c) 0 (by grind) rfl) (qO (by simp only[eK];grind) (by simp only[eK];grind))
 ·intro l hl;rw[eM_k];have k1:Sp (eP D (fL (a,b,c)) (fL (a,-b,c))) (4*a*a,0):=fP_1 D a b c a (-b) c;have k2:Sp (eP D (fL (a,b,c)) (fL (a,-b,c))) (2*a*b,2*a):=fP_3 D a b c a (-b) c;have k3:Sp (eP D (fL (a,b,c)) (fL (a,-b,c))) (-(4*a*c),0):=zZi (fP_4 D a b c a (-b) c) (qO (by simp only[];grind) (by simp only[];omega));have k4:Sp (eP D (fL (a,b,c)) (fL (a,-b,c))) (4*a*b,0):=zZi (zI5 k2 (fP_2 D a b c a (-b) c)) (qO (by simp only[eS];grind) (by simp only[eS];omega));have k5:Sp (eP D (fL (a,b,c)) (fL (a,-b,c))) (4*a,0):=by
   refine zZi (zKh (zKh (zGv k1 x) (zGv k4 y)) (zGv k3 (-z))) (qO ?_ (by simp only[eA,eK];grind));simp only[eA,eK];have:x*(4*a*a)+y*(4*a*b)+-z*-(4*a*c)=4*a*(x*a+y*b+z*c):=by grind
   rw[this,hx];omega
  simp only[fL,zk,zp,or_false]at hl;rcases hl with h|h
  ·subst h;exact zDP k5 (qO (by simp only[eK];grind) (by simp only[eK];grind))
  ·subst h;exact zDP (zKh k2 (zGv k5 (p - m))) (qO (by simp only[eK,eA];grind) (by simp only[eK,eA];grind))
theorem zGs {x y z:Int} (hx:0≤x) (h:y≤z):x*y≤x*z:=zo h hx
theorem uq_c {a b c x y:Int} (ha:1≤a) (hb1:-a≤b) (hb2:b≤a) (hc:a≤c) (hy:y≠0):c≤a*x*x+b*x*y+c*y*y:=by
 have key:∀x y:Int,0≤x→1≤y→∀b,-a≤b→b≤a→c≤a*x*x+b*x*y+c*y*y:=by
  intro x y hx hy b hb1 hb2;have hxy:0≤x*y:=Int.mul_nonneg hx (by omega);have h1:-(a*(x*y))≤b*(x*y):=by
   have:(-a)*(x*y)≤b*(x*y):=Int.mul_le_mul_of_nonneg_right hb1 hxy;have e:(-a)*(x*y)=-(a*(x*y)):=Int.neg_mul ..;omega
  have e1:a*x*x+b*x*y+c*y*y=a*(x*x)+b*(x*y)+c*(y*y):=by grind
  rw[e1];rcases Int.le_total y x with h|h
  ·have h2:a*(x*y)≤a*(x*x):=zGs (by omega) (zGs hx h);have h3:c*(1*1)≤c*(y*y):=zGs (by omega) (Int.mul_le_mul hy hy (by omega) (by omega));omega
  ·by_cases h0:x=0
   ·subst h0;have h3:c*(1*1)≤c*(y*y):=zGs (by omega) (Int.mul_le_mul hy hy (by omega) (by omega));simp only[Int.zero_mul,Int.mul_zero]at*;omega
   ·have h2:a*(x*(y - x))≤c*(x*(y - x)):=Int.mul_le_mul_of_nonneg_right hc (Int.mul_nonneg hx (by omega));have h4:x*(y - x)≤(y - 1)*y:=by
     rcases Int.lt_or_le x y with h5|h5
     ·have:x*(y - x)≤(y - 1)*(y - x):=Int.mul_le_mul_of_nonneg_right (by omega) (by omega);have:(y - 1)*(y - x)≤(y - 1)*y:=zGs (by omega) (by omega);omega
     ·have e:y - x=0:=by omega
      rw[e,Int.mul_zero];exact Int.mul_nonneg (by omega) (by omega)
    have h6:c*(x*(y - x))≤c*((y - 1)*y):=zGs (by omega) h4;have e2:a*(x*(y - x))=a*(x*y) - a*(x*x):=by grind
    have e3:c*((y - 1)*y)=c*(y*y) - c*y:=by grind
    have h7:c*1≤c*y:=zGs (by omega) hy;omega
 have e2:a*x*x+b*x*y+c*y*y=a*(-x)*(-x)+(-b)*(-x)*y+c*y*y:=by grind
 have e3:a*x*x+b*x*y+c*y*y=a*x*x+(-b)*x*(-y)+c*(-y)*(-y):=by grind
 have e4:a*x*x+b*x*y+c*y*y=a*(-x)*(-x)+b*(-x)*(-y)+c*(-y)*(-y):=by grind
 rcases Int.lt_or_le 0 y with h1|h1<;>rcases Int.le_total 0 x with h2|h2
 ·exact key x y h2 h1 b hb1 hb2
 ·rw[e2];exact key (-x) y (by omega) h1 (-b) (by omega) (by omega)
 ·rw[e3];exact key x (-y) h2 (by omega) (-b) (by omega) (by omega)
 ·rw[e4];exact key (-x) (-y) (by omega) (by omega) b hb1 hb2
theorem uq_a {a b c x y:Int} (ha:1≤a) (hb1:-a≤b) (hb2:b≤a) (hc:a≤c) (h:x≠0∨y≠0):a≤a*x*x+b*x*y+c*y*y:=by
 by_cases hy:y=0
 ·subst hy;have hx:x≠0:=by omega
  have h1:1≤x*x:=by
   have h2:0<x*x:=by
    rcases Int.lt_or_le 0 x with h3|h3
    ·exact Int.mul_pos h3 h3
    ·exact Int.mul_pos_of_neg_of_neg (by omega) (by omega)
   omega
  have h2:a*1≤a*(x*x):=zGs (by omega) h1;have e:a*x*x+b*x*0+c*0*0=a*(x*x):=by grind
  omega
 ·have:=uq_c (x:=x) ha hb1 hb2 hc hy;omega
theorem z5Z {a b c a' b' c' p q r s:Int} (ha:1≤a) (h1:zBh a b c) (ha':1≤a') (h2:zBh a' b' c') (hdet:p*s - q*r=1) (e1:a'=a*p*p+b*p*r+c*r*r):a≤a'∧(r≠0→c≤a'):=by
 obtain⟨⟨i1,i2⟩,i3⟩:=h1;have hac:a≤c:=by omega
 have hpr:p≠0∨r≠0:=by
  rcases Decidable.em (p=0) with h|h
  ·right;intro hr;rw[h,hr]at hdet;simp at hdet
  ·exact .inl h
 refine⟨by rw[e1];exact uq_a ha (by omega) i2 hac hpr,fun hr=>by rw[e1];exact uq_c ha (by omega) i2 hac hr⟩
theorem z1z {a b c a' b' c' p q r s:Int} (ha:1≤a) (h1:zBh a b c) (ha':1≤a') (h2:zBh a' b' c') (hdet:p*s - q*r=1) (e1:a'=a*p*p+b*p*r+c*r*r) (e2:b'=2*a*p*q+b*(p*s+q*r)+2*c*r*s) (e3:c'=a*q*q+b*q*s+c*s*s):a=a'∧b=b'∧c=c':=by
 have f1:a=a'*s*s+b'*s*(-r)+c'*(-r)*(-r):=by rw[e1,e2,e3];grind
 have hdet2:s*p - (-q)*(-r)=1:=by grind
 obtain⟨k1,k2⟩:=z5Z ha h1 ha' h2 hdet e1;obtain⟨k3,k4⟩:=z5Z ha' h2 ha h1 hdet2 f1;have hd:b*b - 4*a*c=b'*b' - 4*a'*c':=by rw[e1,e2,e3];grind
 have haa:a=a':=by omega
 obtain⟨⟨i1,i2⟩,i3⟩:=h1;obtain⟨⟨j1,j2⟩,j3⟩:=h2;have fin:b=b'→a=a'∧b=b'∧c=c':=by
  intro hb;refine⟨haa,hb,?_⟩;subst haa hb;have:4*a*c=4*a*c':=by omega
  exact Int.eq_of_mul_eq_mul_left (by omega) this
 by_cases hr:r=0
 ·subst hr;have hps:p*s=1:=by omega
  have hd1:p.natAbs∣1:=⟨s.natAbs,by rw[←Int.natAbs_mul,hps];rfl⟩
  have hp:p=1∨p=-1:=by have:=Nat.dvd_one.1 hd1;omega
  have small:∀t:Int,-(2*a)<2*a*t→2*a*t<2*a→t=0:=by
   intro t h3 h4;rcases Int.lt_trichotomy t 0 with h|h|h
   ·have:2*a*t≤2*a*(-1):=zGs (by omega) (by omega);omega
   ·exact h
   ·have:2*a*1≤2*a*t:=zGs (by omega) (by omega);omega
  rcases hp with h|h
  ·subst h;have hs:s=1:=by omega
   subst hs;have e4:b'=2*a*q+b:=by rw[e2];grind
   have hq:=small q (by omega) (by omega);rw[hq]at e4;exact fin (by omega)
  ·subst h;have hs:s=-1:=by omega
   subst hs;have e4:b'=2*a*(-q)+b:=by rw[e2];grind
   have hq:=small (-q) (by omega) (by omega);rw[hq]at e4;exact fin (by omega)
 ·have m1:=k2 hr;have m2:=k4 (by omega);have hcc:c=c':=by omega
  subst haa hcc;have hb:b=b':=by
   have hsq:(b - b')*(b+b')=0:=by grind
   rcases Int.mul_eq_zero.1 hsq with h|h<;>omega
  exact fin hb
theorem zUP {a b c e hB hC:Int} {mm:Int×Int×Int×Int} {b0 k1:Int} (ha:1≤a) (ha2:a≤26) (he:1≤e) (he2:e≤10000) (hb0:0≤b0) (hb02:b0<2*a) (hB0:0≤hB) (hB2:hB<2*e) (hk1:k1<e) (hd:2*e∣b0+2*a*k1 - hB):∀(n:Nat) (k:Int),0≤k→k≤k1→(k1 - k).toNat<n→
  ∃k2,zDI (a,b,c) ((e,hB,hC),mm) n (b0+2*a*k)=some (b0+2*a*k2)∧k≤k2∧k2≤k1∧2*e∣b0+2*a*k2 - hB
 |0,k,h0,h1,hn=>by omega
 |n+1,k,h0,h1,hn=>by
  have m1:(2*a*k).natAbs≤2*26*10000:=zW (zW (by omega) (by omega)) (by omega);rw[zDI];simp only[];rw[zA (n:=b0+2*a*k - hB) (by omega),zA (n:=2*e) (by omega),zBB (by omega) (by omega)];simp only[za];by_cases hz:(b0+2*a*k - hB) % (2*e)=0
  ·rw[hz,zCq];exact⟨k,rfl,Int.le_refl _,h1,Int.dvd_of_emod_eq_zero hz⟩
  ·rw[zDp hz];simp only[zh,zb,zN];have hne:k≠k1:=by
    intro e;rw[e]at hz;exact hz (Int.emod_eq_zero_of_dvd hd)
   have e1:b0+2*a*k+2*a=b0+2*a*(k+1):=by rw[Int.mul_add];omega
   rw[zA (n:=2*a) (by omega),zA (n:=b0+2*a*k+2*a) (by omega),e1];obtain⟨k2,j1,j2,j3,j4⟩:=zUP ha ha2 he he2 hb0 hb02 hB0 hB2 hk1 hd n (k+1) (by omega) (by omega) (by omega);exact⟨k2,j1,by omega,j3,j4⟩
theorem z5B:∀(a b:Nat),∃x y:Int,x*a+y*b=(Nat.gcd a b:Int):=by
 intro a b
 induction a,b using Nat.gcd.induction with
 |H0 n=>exact⟨0,1,by simp⟩
 |H1 m n hm ih=>
  obtain⟨x,y,h⟩:=ih;refine⟨y - x*(n / m:Nat),x,?_⟩;rw[Nat.gcd_rec,←h];have e:(n:Int)=(n % m:Nat)+m*(n / m:Nat):=by exact_mod_cast (Nat.mod_add_div n m).symm
  rw[e];grind
theorem zWg (a b:Int):∃x y:Int,x*a+y*b=(Int.gcd a b:Int):=by
 obtain⟨x,y,h⟩:=z5B a.natAbs b.natAbs;have sg:∀z:Int,∃t:Int,(z.natAbs:Int)=t*z:=by
  intro z;rcases Int.le_total 0 z with h|h
  ·exact⟨1,by omega⟩
  ·exact⟨-1,by omega⟩
 obtain⟨s,hs⟩:=sg a;obtain⟨t,ht⟩:=sg b;refine⟨x*s,y*t,?_⟩;rw[hs,ht]at h;rw[show Int.gcd a b=Nat.gcd a.natAbs b.natAbs from rfl,←h];grind
theorem z3U {a e v x:Int} (hi:e∣1 - v*a) (h:e∣a*x):e∣x:=by
 obtain⟨i,hi⟩:=hi;obtain⟨j,hj⟩:=h;exact⟨i*x+v*j,by grind⟩
theorem z0j {e x:Int} (h:e∣x) (h1:-e<x) (h2:x<e):x=0:=by
 have h3:e.natAbs∣x.natAbs:=Int.natAbs_dvd_natAbs.2 h;rcases Nat.eq_zero_or_pos x.natAbs with h4|h4
 ·omega
 ·have:=Nat.le_of_dvd h4 h3;omega
structure Uni (a b c A B C D x y q s e hB hC b1 c1 α β:Int):Prop where
  mh:MatInv A B C x q y s e hB hC
  e1:1≤e
  e2:e≤10000
  t:∃u v:Int,u*a+v*e=1
  bα:b1=b+2*a*α
  bβ:b1=hB+2*e*β
  b0:0≤b1
  b2:b1<2*a*e
  dis:b1*b1 - 4*a*e*c1=D
  qb:q.natAbs≤100000
  sb:s.natAbs≤100000
  xy:0≤x∧x≤3∧0≤y∧y≤3
theorem uni_c {a b c D e hB hC b1 α β:Int} (hd:b*b - 4*a*c=D) (hh:hB*hB - 4*e*hC=D) {u v:Int} (huv:u*a+v*e=1) (bα:b1=b+2*a*α) (bβ:b1=hB+2*e*β):b1*b1 - 4*a*e*(u*(hC+hB*β+e*β*β)+v*(c+b*α+a*α*α))=D:=by
 have f1:b1*b1 - D=4*a*(c+b*α+a*α*α):=by rw[bα,←hd];grind
 have f2:b1*b1 - D=4*e*(hC+hB*β+e*β*β):=by rw[bβ,←hh];grind
 generalize hC+hB*β+e*β*β=X at*;generalize c+b*α+a*α*α=Y at*;have f3:(b1*b1 - D)*1=4*a*e*(u*X+v*Y):=by
  rw[←huv];have:(b1*b1 - D)*(u*a+v*e)=u*a*(b1*b1 - D)+v*e*(b1*b1 - D):=by grind
  rw[this];rw[show u*a*(b1*b1 - D)=u*a*(4*e*X) by rw[f2],show v*e*(b1*b1 - D)=v*e*(4*a*Y) by rw[f1]];grind
 omega
theorem zY5 {a e b1 c1 D:Int} (ha:1≤a) (he:1≤e) (b0:0≤b1) (b2:b1<2*a*e) (hD1:-2000≤D) (hD2:D<0) (dis:b1*b1 - 4*a*e*c1=D):1≤c1∧c1≤a*e+500:=by
 have hae:1*1≤a*e:=Int.mul_le_mul ha he (by omega) (by omega);have e1:2*a*e=2*(a*e):=zz ..;have e2:4*a*e*c1=4*(a*e*c1):=by grind
 generalize a*e=m at*;have hbb:0≤b1*b1:=Int.mul_nonneg b0 b0;have hbb2:b1*b1≤2*m*(2*m):=Int.mul_le_mul (by omega) (by omega) b0 (by omega);have e3:2*m*(2*m)=4*(m*m):=by grind
 constructor
 ·rcases Int.lt_or_le 0 c1 with h|h
  ·exact h
  ·have:m*c1≤m*0:=zo h (by omega);omega
 ·rcases Int.lt_or_le (m+500) c1 with h|h
  ·have k1:m*(m+501)≤m*c1:=zo (by omega) (by omega);have k2:m*(m+501)=m*m+501*m:=by grind
   omega
  ·exact h
end Go.Proofs.YtahdjphocippeaaGreatDoor
namespace Go.Proofs.YtahdjphocippeaaGreatDoor
theorem z2H {b h D m n:Int} (h1:b*b - 4*m=D) (h2:h*h - 4*n=D):b % 2=h % 2:=by
 have k:∀z:Int,(z*z) % 2=z % 2:=by
  intro z;obtain⟨t,ht|ht⟩:∃t,z=2*t∨z=2*t+1:=⟨z / 2,by omega⟩
  ·rw[ht,show 2*t*(2*t)=2*(2*t*t) by grind];omega
  ·rw[ht,show (2*t+1)*(2*t+1)=2*(2*t*t+2*t)+1 by grind];omega
 have:=k b;have:=k h;omega
theorem z1F {a e b0 hB:Int} (he:1≤e) (hg:Int.gcd a e=1) (hp:b0 % 2=hB % 2):∃k1 v1,0≤k1∧k1<e∧2*e∣b0+2*a*k1 - hB∧e∣1 - v1*a:=by
 obtain⟨v1,w1,h1⟩:=zWg a e;rw[hg]at h1;obtain⟨H,hH⟩:∃H,hB - b0=2*H:=⟨(hB - b0) / 2,by omega⟩
 have k0:=qa (H*v1) (b:=e) (by omega);have k2:=qc (H*v1) (b:=e) (by omega);have k3:=Int.emod_add_mul_ediv (H*v1) e;refine⟨H*v1 % e,v1,k0,k2,?_,⟨w1,by have:e*w1=w1*e:=Int.mul_comm ..;omega⟩⟩;refine⟨-(H*w1) - a*(H*v1 / e),?_⟩;have e1:H*v1 % e=H*v1 - e*(H*v1 / e):=by omega
 generalize H*v1 / e=W at*;have e2:v1*a=1 - w1*e:=by omega
 have e3:∀k,b0+2*a*k - hB=2*(a*k - H):=by
  intro k;have:2*a*k=2*(a*k):=zz ..;omega
 rw[e3,e1];have e4:a*(H*v1 - e*W) - H=H*(v1*a) - H - a*e*W:=by grind
 rw[e4,e2];grind
theorem zRu {a e b0 hB k k1 v1:Int} (k0:0≤k) (k2:k<e) (k3:0≤k1) (k4:k1<e) (h1:2*e∣b0+2*a*k1 - hB) (h2:2*e∣b0+2*a*k - hB) (h3:e∣1 - v1*a):k=k1:=by
 have d1:2*e∣2*(a*(k1 - k)):=by
  obtain⟨i,hi⟩:=h1;obtain⟨j,hj⟩:=h2;refine⟨i - j,?_⟩;have e1:2*(a*(k1 - k))=2*a*k1 - 2*a*k:=by grind
  have e2:2*e*(i - j)=2*e*i - 2*e*j:=Int.mul_sub ..;rw[e1,e2];omega
 have d2:e∣a*(k1 - k):=by
  obtain⟨i,hi⟩:=d1;exact⟨i,by have:2*e*i=2*(e*i):=zz ..;omega⟩
 have:=z0j (z3U h3 d2) (by omega) (by omega);omega
theorem zZS {a e b0 hB:Int} (ha:1≤a) (ha2:a≤26) (he:1≤e) (he2:e≤10000) (hg:Int.gcd a e=1) (hb0:0≤b0) (hb02:b0<2*a) (hB0:0≤hB) (hB2:hB<2*e) (hp:b0 % 2=hB % 2):
  ∃k1 z v1,zC0 b0 (2*a) hB (2*e)=some (b0+2*a*k1,z,true)∧0≤k1∧k1<e∧2*e∣b0+2*a*k1 - hB∧e∣1 - v1*a:=by
 have hc:∀c:Int,c∣e→c∣a→c∣1:=by
  intro c h1 h2;have:=Int.dvd_coe_gcd h2 h1;rw[hg]at this;exact this
 obtain⟨v1,j1,j2,j3,j4⟩:=z4f (n:=e) (m:=a) he (by omega) (by omega) hc;obtain⟨H,hH⟩:∃H,hB - b0=2*H:=⟨(hB - b0) / 2,by omega⟩
 have k0:=qa (H*v1) (b:=e) (by omega);have k2:=qc (H*v1) (b:=e) (by omega);have k3:=Int.emod_add_mul_ediv (H*v1) e;have m1:(H*v1).natAbs≤10000*10000:=zW (by omega) (by omega);generalize hk:H*v1 % e=k1 at*;have m2:(2*a*k1).natAbs≤2*26*10000:=zW (zW (by omega) (by omega)) (by omega);have hdiv:2*e∣b0+2*a*k1 - hB:=by
  obtain⟨w,hw⟩:=j2;refine⟨-(H*w) - a*(H*v1 / e),?_⟩;have e1:k1=H*v1 - e*(H*v1 / e):=by omega
  generalize H*v1 / e=W at*;have e2:v1*a=1 - e*w:=by omega
  have e3:b0+2*a*k1 - hB=2*(a*k1 - H):=by
   have:2*a*k1=2*(a*k1):=zz ..;omega
  rw[e3,e1];have e4:a*(H*v1 - e*W) - H=H*(v1*a) - H - a*e*W:=by grind
  rw[e4,e2];grind
 have hak:2*a*k1≤2*a*(e - 1):=zo (by omega) (by omega);have hak0:0≤2*a*k1:=Int.mul_nonneg (by omega) k0;have hae:(a*(2*e)).natAbs≤26*20000:=zW (by omega) (by omega);have hae1:2*a*(e - 1)=a*(2*e) - 2*a:=by grind
 have hae2:1*2≤a*(2*e):=Int.mul_le_mul ha (by omega) (by omega) (by omega);have hgg:Int.gcd (2*a) (2*e)=2:=by rw[Int.gcd_mul_left,hg];rfl
 refine⟨k1,a*(2*e),v1,?_,k0,k2,hdiv,j2⟩;unfold zC0;rw[zI8 (by omega) (by omega),hgg];simp only[za];rw[show ((2:Nat):Int)=2 from rfl,zF2 (show (2:Int)≠0 by decide),zA (n:=hB - b0) (by omega),tz (by decide),zd (show (2:Int)∣hB - b0 from⟨H,hH⟩)];simp only[za,zg,zc];rw[tdv (a:=2*a) (c:=a) (by decide) rfl,tdv (a:=2*e) (c:=e) (by decide) rfl,zA (n:=a) (by omega),zA (n:=e) (by omega),j1];simp only[za];rw[tdv (a:=hB - b0) (c:=H) (by decide) hH.symm,zA (n:=H) (by omega),zA (n:=H*v1) (by omega),zGk,zBB he (by omega),hk];simp only[za,zN];rw[zA (n:=a*(2*e)) (by omega),zA (n:=2*a*k1) (by omega),zA (n:=b0+2*a*k1) (by omega),zGk,zBB (by omega) (by omega),Int.emod_eq_of_lt (by omega) (by omega)];rfl
def PrRc (D:Int) (f:Int×Int×Int):Prop:=1≤f.1∧zBh f.1 f.2.1 f.2.2∧f.2.1*f.2.1 - 4*f.1*f.2.2=D∧∀k:Int,k∣f.1→k∣f.2.1→k∣f.2.2→k∣1
theorem zHC {D:Int} {f:Int×Int×Int} (hD1:-2000≤D) (h:PrRc D f):Rb f.1 f.2.1 f.2.2∧f.1≤25:=by
 obtain⟨h1,h2,h3,h4⟩:=h;obtain⟨⟨i1,i2⟩,i3⟩:=h2;have hbb:f.2.1*f.2.1≤f.1*f.1:=by
  rcases Int.le_total 0 f.2.1 with h4|h4
  ·exact Int.mul_le_mul i2 i2 h4 (by omega)
  ·have:(-f.2.1)*(-f.2.1)≤f.1*f.1:=Int.mul_le_mul (by omega) (by omega) (by omega) (by omega);have e:(-f.2.1)*(-f.2.1)=f.2.1*f.2.1:=by grind
   omega
 have h7:4*f.1*f.1≤4*f.1*f.2.2:=zo (by omega) (by omega);have e1:4*f.1*f.1=4*(f.1*f.1):=zz ..;have ha:f.1≤25:=by
  rcases Int.lt_or_le 25 f.1 with h8|h8
  ·have:26*26≤f.1*f.1:=Int.mul_le_mul (by omega) (by omega) (by omega) (by omega);omega
  ·exact h8
 have haa:f.1*f.1≤25*25:=Int.mul_le_mul ha ha (by omega) (by omega);have h9:4*1*f.2.2≤4*f.1*f.2.2:=Int.mul_le_mul_of_nonneg_right (by omega) (by omega);exact⟨⟨h1,by omega,by omega,by omega,by omega,by omega⟩,ha⟩
theorem zY2 {D a b c A B C x y q s e hB hC b0 b1 z cc α β:Int} (ha:1≤a) (ra:a≤25) (rb:b.natAbs≤26) (hv1:1≤e) (v2:e≤10000) (hD1:-2000≤D) (hD2:D<0) (f3:b*b - 4*a*c=D) (p2:zCR (A,B,C) a=some (x,y)) (c2:zA4 (A,B,C) x y=some ((e,hB,hC),(x,q,y,s))) (hb0:b % (2*a)=b0) (k2:zC0 b0 (2*a) hB (2*e)=some (b1,z,true)) (eα:2*a*α=b1 - b) (eβ:2*e*β=b1 - hB) (hB0:hB.natAbs≤30000) (hb1:b1.natAbs≤520000) (hbb:(b1*b1).natAbs≤270400000000) (e5:4*a*e*cc=b1*b1 - D) (hbα:α.natAbs≤1000000) (hbβ:β.natAbs≤1000000) (hcc:cc.natAbs≤300000) (h4:1≤4*a*e) (h42:4*a*e≤1040000) {f0 g0:Int×Int×Int} {mf mg:Int×Int×Int×Int} (h1:qD f0=some ((a,b,c),mf)) (h2:qD g0=some ((A,B,C),mg)):zCP f0 g0=(qP mg (x,q,y,s)).bind fun N1=>(qP mf (1,α,0,1)).bind fun M=>(qP N1 (1,β,0,1)).bind fun N=>some ((a,b1,e*cc),(e,b1,a*cc),M,N):=by
 unfold zCP;rw[h1,za,h2,za];simp only[];rw[p2,za];simp only[];rw[c2,za];simp only[];cases hN1:qP mg (x,q,y,s) with
 |none=>rfl
 |some N1=>
  simp only[za];have m3:(e*cc).natAbs≤10000*300000:=zW (by omega) (by omega);have m4:(a*cc).natAbs≤26*300000:=zW (by omega) (by omega);rw[zA (n:=2*a) (by omega),zGk,zBB (by omega) (by omega),hb0,za,zA (n:=2*e) (by omega),k2,za,zF2 (show 2*a≠0 by omega),za];simp only[zD5,za];rw[zA (n:=b1 - b) (by omega),tdv (b:=2*a) (by omega) eα,zA (n:=α) (by omega)];cases hM:qP mf (1,α,0,1) with
  |none=>rfl
  |some M=>
   simp only[za];rw[zF2 (show 2*e≠0 by omega),za,zA (n:=b1 - hB) (by omega),tdv (b:=2*e) (by omega) eβ,zA (n:=β) (by omega)];cases hN:qP N1 (1,β,0,1) with
   |none=>rfl
   |some N=>
    simp only[za,zN];rw[zGA,zWZ,f3,zA (n:=D) (by omega),za,zA (n:=4*a) (by omega),zA (n:=4*a*e) (by omega),zF2 (show 4*a*e≠0 by omega),za,zA (n:=b1*b1) (by omega),zA (n:=b1*b1 - D) (by omega),tdv (b:=4*a*e) (by omega) e5,zA (n:=cc) (by omega),zA (n:=a*cc) (by omega),zA (n:=e*cc) (by omega)]
theorem zY3 {D:Int} {a b c A B C:Int} (hD1:-2000≤D) (hD2:D<0) (hf:PrRc D (a,b,c)) (hg:PrRc D (A,B,C)):
  ∃x y q s e hB hC b1 c1 α β,Uni a b c A B C D x y q s e hB hC b1 c1 α β∧zCv (a,b,c) (A,B,C)=(zY (x,q,y,s) (1,β,0,1)).bind (fun N=>some (a,e,b1,c1,(1,α,0,1),N))∧zCR (A,B,C) a=some (x,y)∧zA4 (A,B,C) x y=some ((e,hB,hC),(x,q,y,s))∧(0≤hB∧hB<2*e∧hB.natAbs≤30000)∧α.natAbs≤1000000∧β.natAbs≤1000000∧Int.gcd a e=1:=by
 have hF:=FUge;obtain⟨rf,ra⟩:=zHC hD1 hf;obtain⟨rg,rA⟩:=zHC hD1 hg;obtain⟨f1,f2,f3,f4⟩:=hf;obtain⟨g1,g2,g3,g4⟩:=hg;simp only[]at rf ra rg rA f1 f2 f3 f4 g1 g2 g3 g4;obtain⟨⟨x,y⟩,p1,p2,p3,p4⟩:=zYr rg f1 ra g4;simp only[]at p3 p4;have hxy:x≠0∨y≠0:=by
  simp only[ptL,zk,Prod.mk.injEq,zp,or_false]at p3;omega
 obtain⟨⟨u1,u2⟩,u3⟩:=g2;have hv1:1≤Vl A B C x y:=by
  have:=uq_a g1 (show -A≤B by omega) u2 (show A≤C by omega) hxy;unfold Vl;omega
 obtain⟨q,s,hB,hC,c1,c2,em,t1,t2,v2,qb,sb,x1,x2,y1,y2⟩:=zTf rg g3 hD1 (by omega) p3 rfl hv1;generalize he:Vl A B C x y=e at*;have hh:hB*hB - 4*e*hC=D:=by rw[zQT em,g3]
 have b0a:=qa b (b:=2*a) (by omega);have b0b:=qc b (b:=2*a) (by omega);have b0c:=Int.emod_add_mul_ediv b (2*a);have hpar:=z2H (b:=b) (h:=hB) (D:=D) (m:=a*c) (n:=e*hC) (by rw[←f3];grind) (by rw[←hh];grind);generalize hb0:b % (2*a)=b0 at*;have hpar0:b0 % 2=hB % 2:=by
  have:2*a*(b / (2*a))=2*(a*(b / (2*a))):=zz ..;omega
 have hga:Int.gcd a e=1:=by rw[Int.gcd_comm];exact p4
 obtain⟨k1,v1,k3,k4,k5,k6⟩:=z1F (a:=a) (e:=e) hv1 hga hpar0;obtain⟨k,l1,l2,l3,l4⟩:=zUP (c:=c) (b:=b) (hC:=hC) (mm:=(x,q,y,s)) f1 (by omega) hv1 v2 b0a b0b t1 t2 k4 k5 FU 0 (by omega) k3 (by omega);have hk:k=k1:=zRu l2 (by omega) k3 k4 k5 l4 k6;subst hk;generalize hb1:b0+2*a*k=b1 at*;obtain⟨β,hβ⟩:=k5;have hα:b1=b+2*a*(k - b / (2*a)):=by rw[Int.mul_sub];omega
 generalize k - b / (2*a)=α at*;have hβ':b1=hB+2*e*β:=by omega
 have hak:2*a*k≤2*a*(e - 1):=zo (by omega) (by omega);have hak0:0≤2*a*k:=Int.mul_nonneg (by omega) k3;have hae:(2*a*e).natAbs≤2*26*10000:=zW (zW (by omega) (by omega)) (by omega);have hae1:2*a*(e - 1)=2*a*e - 2*a:=by grind
 have b1lt:b1<2*a*e:=by omega
 have b1ge:0≤b1:=by omega
 obtain⟨w,hw⟩:=k6;have huv:v1*a+w*e=1:=by have:w*e=e*w:=Int.mul_comm ..;omega
 have dis:=uni_c (b1:=b1) f3 hh huv hα hβ';generalize hc1:v1*(hC+hB*β+e*β*β)+w*(c+b*α+a*α*α)=cc at*;obtain⟨cc1,cc2⟩:=zY5 f1 hv1 b1ge b1lt hD1 hD2 dis;have hm1:a*e≤25*10000:=Int.mul_le_mul ra v2 (by omega) (by omega);have hm0:1*1≤a*e:=Int.mul_le_mul f1 hv1 (by omega) (by omega);have hbb:b1*b1≤520000*520000:=Int.mul_le_mul (by omega) (by omega) b1ge (by omega);have hbb0:0≤b1*b1:=Int.mul_nonneg b1ge b1ge;have hbα:α.natAbs≤1000000:=by
  rcases Int.lt_or_le 1000000 α with h|h
  ·have:2*a*1000001≤2*a*α:=zo (by omega) (by omega);have:=rf.b1;omega
  ·rcases Int.lt_or_le α (-1000000) with h'|h'
   ·have:2*a*α≤2*a*(-1000001):=zo (by omega) (by omega);have:=rf.b2;omega
   ·omega
 have hbβ:β.natAbs≤1000000:=by
  rcases Int.lt_or_le 1000000 β with h|h
  ·have:2*e*1000001≤2*e*β:=zo (by omega) (by omega);omega
  ·rcases Int.lt_or_le β (-1000000) with h'|h'
   ·have:2*e*β≤2*e*(-1000001):=zo (by omega) (by omega);omega
   ·omega
 have e4:4*a*e=2*(2*a*e):=by grind
 have e5:4*a*e*cc=b1*b1 - D:=by omega
 have eα:2*a*α=b1 - b:=by omega
 have eβ:2*e*β=b1 - hB:=by omega
 have rb1:=rf.b1;have rb2:=rf.b2;refine⟨x,y,q,s,e,hB,hC,b1,cc,α,β,⟨em,hv1,v2,⟨v1,w,huv⟩,hα,hβ',b1ge,b1lt,dis,qb,sb,x1,x2,y1,y2⟩,?_,p2,c2,⟨t1,t2,by omega⟩,hbα,hbβ,hga⟩
 ·unfold zCv;simp only[];rw[p1,za];simp only[];rw[c1,za];simp only[];rw[zA (n:=2*a) (by omega),zBB (by omega) (by omega),hb0,za];rw[show b0=b0+2*a*0 by omega,l1,za,zA (n:=2*a*e) (by omega),zBB (by omega) (by omega),Int.emod_eq_of_lt b1ge b1lt,za,zWZ,f3,zA (n:=D) (by omega),za,zA (n:=4*a) (by omega),zA (n:=4*a*e) (by omega),zF2 (show 4*a*e≠0 by omega),za,zA (n:=b1*b1) (by omega),zA (n:=b1*b1 - D) (by omega),tdv (b:=4*a*e) (by omega) e5,zF2 (show 2*a≠0 by omega)];simp only[zN,za];rw[zA (n:=cc) (by omega),zA (n:=b1 - b) (by omega),tdv (b:=2*a) (by omega) eα,zA (n:=α) (by omega),zA (n:=2*e) (by omega),zF2 (show 2*e≠0 by omega),za,zA (n:=b1 - hB) (by omega),tdv (b:=2*e) (by omega) eβ,zA (n:=β) (by omega)]
theorem zY4 {D:Int} {a b c A B C:Int} (hD1:-2000≤D) (hD2:D<0) (hf:PrRc D (a,b,c)) (hg:PrRc D (A,B,C)):
  ∃x y q s e hB hC b1 c1 α β,Uni a b c A B C D x y q s e hB hC b1 c1 α β∧zCv (a,b,c) (A,B,C)=(zY (x,q,y,s) (1,β,0,1)).bind (fun N=>some (a,e,b1,c1,(1,α,0,1),N))∧
   ∀f0 g0 mf mg,qD f0=some ((a,b,c),mf)→qD g0=some ((A,B,C),mg)→zCP f0 g0=(qP mg (x,q,y,s)).bind fun N1=>(qP mf (1,α,0,1)).bind fun M=>(qP N1 (1,β,0,1)).bind fun N=>some ((a,b1,e*c1),(e,b1,a*c1),M,N):=by
 obtain⟨rf,ra⟩:=zHC hD1 hf;have f1:1≤a:=hf.1;have f3:b*b - 4*a*c=D:=hf.2.2.1;have g3:B*B - 4*A*C=D:=hg.2.2.1;simp only[]at rf ra;obtain⟨x,y,q,s,e,hB,hC,b1,c1,α,β,u,k1,p2,c2,⟨hB1,hB2,n1⟩,n2,n3,hga⟩:=zY3 hD1 hD2 hf hg;have ku:=u;obtain⟨mh,e1,e2,⟨m,n,hmn⟩,bα,bβ,b0,b2,dis,qb,sb,xy⟩:=u;have hh:hB*hB - 4*e*hC=D:=by rw[zQT mh,g3]
 have t1:=qa b (b:=2*a) (by omega);have t2:=qc b (b:=2*a) (by omega);have t3:=Int.emod_add_mul_ediv b (2*a);have hpar:=z2H (b:=b) (h:=hB) (D:=D) (m:=a*c) (n:=e*hC) (by rw[←f3];grind) (by rw[←hh];grind);generalize hb0:b % (2*a)=r at*;have hpar0:r % 2=hB % 2:=by
  have:2*a*(b / (2*a))=2*(a*(b / (2*a))):=zz ..;omega
 obtain⟨k,z,v1,j2,j3,j4,j5,j6⟩:=zZS (a:=a) (e:=e) f1 (by omega) e1 e2 hga t1 t2 hB1 hB2 hpar0;have hb1:r+2*a*k=b1:=by
  have e5:b1=r+2*a*(α+b / (2*a)):=by rw[Int.mul_add];omega
  have hlo:0≤α+b / (2*a):=by
   rcases Int.lt_or_le (α+b / (2*a)) 0 with h|h
   ·have:2*a*(α+b / (2*a))≤2*a*(-1):=zo (by omega) (by omega);omega
   ·exact h
  have hhi:α+b / (2*a)<e:=by
   rcases Int.lt_or_le (α+b / (2*a)) e with h|h
   ·exact h
   ·have:2*a*e≤2*a*(α+b / (2*a)):=zo h (by omega);omega
  have:=zRu (a:=a) (e:=e) (b0:=r) (hB:=hB) j3 j4 hlo hhi ⟨β,by omega⟩ j5 j6;rw[e5,this]
 rw[hb1]at j2;obtain⟨cc1,cc2⟩:=zY5 f1 e1 b0 b2 hD1 hD2 dis;have hae:a*e≤25*10000:=Int.mul_le_mul ra e2 (by omega) (by omega);have hae0:1*1≤a*e:=Int.mul_le_mul f1 e1 (by omega) (by omega);have hae2:2*a*e=2*(a*e):=zz ..;have hae4:4*a*e=4*(a*e):=zz ..;have hbb:b1*b1≤520000*520000:=Int.mul_le_mul (by omega) (by omega) b0 (by omega);have hbb0:0≤b1*b1:=Int.mul_nonneg b0 b0;have rb1:=rf.b1;have rb2:=rf.b2;refine⟨x,y,q,s,e,hB,hC,b1,c1,α,β,ku,k1,fun f0 g0 mf mg h1 h2=>?_⟩;exact zY2 f1 ra (by omega) e1 e2 hD1 hD2 f3 p2 c2 hb0 j2 (by omega) (by omega) n1 (by omega) (by omega) (by omega) n2 n3 (by omega) (by omega) (by omega) h1 h2
end Go.Proofs.YtahdjphocippeaaGreatDoor
namespace Go.Proofs.YtahdjphocippeaaGreatDoor
abbrev F3:=Int×Int×Int
def CF (D:Int) (f:F3):Prop:=RedInv f.1 f.2.1 f.2.2 D 1∧f.2.2≤1000000
theorem zYG {f:F3} (h:zP f=some true):CF (f.2.1*f.2.1 - 4*f.1*f.2.2) f:=by
 have h1:=zVn (a:=f.1) (b:=f.2.1) (c:=f.2.2) h;obtain⟨_,_,hc,_⟩:=zLF (a:=f.1) (b:=f.2.1) (c:=f.2.2) h;exact⟨h1,(zBF.1 hc).2⟩
theorem zFz {D:Int} {f:F3} (h:PrRc D f):0<f.1:=by have:=h.1;omega
theorem zXi {D:Int} {f:F3} (h:PrRc D f):fD f=D:=h.2.2.1
theorem z0Y {a b c d:Int} (h:RedInv a b c d 1) (k:Int) (h1:k∣a) (h2:k∣b) (h3:k∣c):k∣1:=(h.con k).1 ⟨h1,h2,h3⟩
theorem zVo {D:Int} {f:F3} (h:CF D f):∃g m1 m2 m3 m4,qX f=some (g,(m1,m2,m3,m4))∧qD f=some (g,(m1,m2,m3,m4))∧PrRc D g∧Eqf g f∧MatInv f.1 f.2.1 f.2.2 m1 m2 m3 m4 g.1 g.2.1 g.2.2∧m1.natAbs≤2000∧m2.natAbs≤2000∧m3.natAbs≤2000∧m4.natAbs≤2000∧CF D g:=by
 obtain⟨a,b,c⟩:=f;obtain⟨h1,h2⟩:=h;have hd:=h1.dis;simp only[]at h1 h2 hd;have h1':RedInv a b c (b*b - 4*a*c) 1:=by rw[hd];exact h1
 obtain⟨m1,m2,m3,m4,a2,b2,c2,k1,k2,k3,k4,k5,k6,k7,k8,k9⟩:=z2A h1' h2;rw[hd]at k3;have hp:PrRc D (a2,b2,c2):=⟨k3.a1,k4,k3.dis,z0Y k3⟩
 have e:=k5;obtain⟨e1,e2,e3,e4⟩:=e;refine⟨(a2,b2,c2),m1,m2,m3,m4,k1,k2,hp,⟨m1,m2,m3,m4,e4,?_,?_,?_⟩,k5,k6,k7,k8,k9,k3,?_⟩
 ·exact e1.symm
 ·exact e2.symm
 ·exact e3.symm
 ·show c2≤1000000;have h3:=k3.nrm;obtain⟨⟨g1,g2⟩,g3⟩:=k4;have h4:=k3.cM;rcases h3 with h3|h3
  ·have q1:=k3.aM;have q2:=k3.a1
   -- a reduced form's last coefficient
   rcases Int.lt_or_le 1000000 c2 with h5|h5
   ·exfalso
    have n1:a2*a2≤a2*c2:=zo (by omega) (by omega);have hbb:b2*b2≤a2*a2:=by
     rcases Int.le_total 0 b2 with h4|h4
     ·exact Int.mul_le_mul g2 g2 h4 (by omega)
     ·have:(-b2)*(-b2)≤a2*a2:=Int.mul_le_mul (by omega) (by omega) (by omega) (by omega);have e:(-b2)*(-b2)=b2*b2:=by grind
      omega
    have hdd:=k3.dis;have e9:4*a2*c2=4*(a2*c2):=zz ..;have hneg:=k3.neg
    -- the value at the original form's last coefficient is at least c2 or the form is not moved
    have hv:c=a2*(-m2)*(-m2)+b2*(-m2)*m1+c2*m1*m1:=by rw[←e1,←e2,←e3];grind
    have hv2:a=a2*m4*m4+b2*m4*(-m3)+c2*(-m3)*(-m3):=by rw[←e1,←e2,←e3];grind
    have ha2:=h1.aM;by_cases hm:m1=0
    ·have hm3:m3≠0:=by
      intro h0;rw[hm,h0]at e4;simp at e4
     have:=uq_c (x:=m4) q2 (by omega) g2 (show a2≤c2 by omega) (show (-m3)≠0 by omega);omega
    ·have:=uq_c (x:=-m2) q2 (by omega) g2 (show a2≤c2 by omega) hm;omega
   ·exact h5
  ·exact h3
theorem zNu {D:Int} {f g:F3} (hf:0<f.1) (hD:fD f=D) (h:Eqf g f) (hg:0<g.1):Cl D (fL g) (fL f):=by
 have:=z1I hg hf h;rw[hD]at this;exact this
theorem z2F {D:Int} {f g:F3} (hD:D<0) (hf:PrRc D f) (hg:PrRc D g) (h:Cl D (fL f) (fL g)):f=g:=by
 have d1:=zXi hf;have d2:=zXi hg;have h':Cl (fD g) (fL f) (fL g):=by rw[d2];exact h
 obtain⟨p,q,r,s,hdet,e1,e2,e3⟩:=z1B (zFz hf) (zFz hg) (by rw[d2];exact hD) (by rw[d1,d2]) h';obtain⟨k1,k2,k3⟩:=z1z hg.1 hg.2.1 hf.1 hf.2.1 hdet e1 e2 e3;exact Prod.ext k1.symm (Prod.ext k2.symm k3.symm)
theorem bez3 {a b c:Int} (h:∀k:Int,k∣a→k∣b→k∣c→k∣1):∃x y z:Int,x*a+y*b+z*c=1:=by
 obtain⟨x,y,h1⟩:=zWg a b;obtain⟨u,v,h2⟩:=zWg (Int.gcd a b) c;have h3:((Int.gcd (Int.gcd a b) c:Nat):Int)∣1:=by
  refine h _ ?_ ?_ ?_
  ·exact zw (Int.gcd_dvd_left _ _) (Int.gcd_dvd_left _ _)
  ·exact zw (Int.gcd_dvd_left _ _) (Int.gcd_dvd_right _ _)
  ·exact Int.gcd_dvd_right _ _
 have h4:((Int.gcd (Int.gcd a b) c:Nat):Int)=1:=Int.eq_one_of_dvd_one (by omega) h3;refine⟨u*x,u*y,v,?_⟩;rw[←h4,←h2,←h1];grind
theorem zXh {f g:F3} (h:Eqf f g) (hg:∀k:Int,k∣g.1→k∣g.2.1→k∣g.2.2→k∣1) (k:Int) (h1:k∣f.1) (h2:k∣f.2.1) (h3:k∣f.2.2):k∣1:=by
 obtain⟨p,q,r,s,hdet,e1,e2,e3⟩:=h;obtain⟨x,hx⟩:=h1;obtain⟨y,hy⟩:=h2;obtain⟨z,hz⟩:=h3;have back:∀A B C:Int,(A*p*p+B*p*r+C*r*r)*s*s - (2*A*p*q+B*(p*s+q*r)+2*C*r*s)*s*r+(A*q*q+B*q*s+C*s*s)*r*r=A*((p*s - q*r)*(p*s - q*r)):=by intro A B C;grind
 have back2:∀A B C:Int,(A*p*p+B*p*r+C*r*r)*q*q - (2*A*p*q+B*(p*s+q*r)+2*C*r*s)*p*q+(A*q*q+B*q*s+C*s*s)*p*p=C*((p*s - q*r)*(p*s - q*r)):=by intro A B C;grind
 have back3:∀A B C:Int,(2*A*p*q+B*(p*s+q*r)+2*C*r*s)*(p*s+q*r) - 2*(A*p*p+B*p*r+C*r*r)*q*s - 2*(A*q*q+B*q*s+C*s*s)*p*r=B*((p*s - q*r)*(p*s - q*r)):=by intro A B C;grind
 have b1:=back g.1 g.2.1 g.2.2;have b2:=back2 g.1 g.2.1 g.2.2;have b3:=back3 g.1 g.2.1 g.2.2;rw[←e1,←e2,←e3,hdet,hx,hy,hz]at b1 b2 b3;refine hg k ⟨x*s*s - y*s*r+z*r*r,?_⟩ ⟨y*(p*s+q*r) - 2*x*q*s - 2*z*p*r,?_⟩ ⟨x*q*q - y*p*q+z*p*p,?_⟩
 ·have:k*x*s*s - k*y*s*r+k*z*r*r=k*(x*s*s - y*s*r+z*r*r):=by grind
  omega
 ·have:k*y*(p*s+q*r) - 2*(k*x)*q*s - 2*(k*z)*p*r=k*(y*(p*s+q*r) - 2*x*q*s - 2*z*p*r):=by grind
  omega
 ·have:k*x*q*q - k*y*p*q+k*z*p*p=k*(x*q*q - y*p*q+z*p*p):=by grind
  omega
theorem z1e {a e b c:Int} (h1:∃x y z:Int,x*a+y*b+z*(e*c)=1) (h2:∃x y z:Int,x*e+y*b+z*(a*c)=1) (k:Int) (k1:k∣a*e) (k2:k∣b) (k3:k∣c):k∣1:=by
 obtain⟨x,y,z,h1⟩:=h1;obtain⟨x',y',z',h2⟩:=h2;obtain⟨i,hi⟩:=k1;obtain⟨j,hj⟩:=k2;obtain⟨l,hl⟩:=k3;have h3:(x*a+y*b+z*(e*c))*(x'*e+y'*b+z'*(a*c))=1:=by rw[h1,h2];rfl
 refine⟨x*x'*i+j*(x*a*y'+y*(x'*e+y'*b+z'*(a*c))+z*(e*c)*y')+l*(x*a*(z'*a)+z*e*(x'*e)+z*e*(z'*(a*c))),?_⟩;rw[←h3];have e1:k*(x*x'*i+j*(x*a*y'+y*(x'*e+y'*b+z'*(a*c))+z*(e*c)*y')+l*(x*a*(z'*a)+z*e*(x'*e)+z*e*(z'*(a*c))))=x*x'*(k*i)+(k*j)*(x*a*y'+y*(x'*e+y'*b+z'*(a*c))+z*(e*c)*y')+(k*l)*(x*a*(z'*a)+z*e*(x'*e)+z*e*(z'*(a*c))):=by grind
 rw[e1,←hi,←hj,←hl];grind
end Go.Proofs.YtahdjphocippeaaGreatDoor
namespace Go.Proofs.YtahdjphocippeaaGreatDoor
theorem zU8 {a x y:Int} (ha:1≤a) (h:4*a*x=4*a*y):x=y:=Int.eq_of_mul_eq_mul_left (by omega) h
theorem z52 {a b c e c1 b1 α D:Int} (ha:1≤a) (hd:b*b - 4*a*c=D) (bα:b1=b+2*a*α) (dis:b1*b1 - 4*a*e*c1=D):e*c1=a*α*α+b*α+c:=by
 refine zU8 ha ?_
 have e1:4*a*(a*α*α+b*α+c)=b1*b1 - (b*b - 4*a*c):=by rw[bα];grind
 have e2:4*a*(e*c1)=4*a*e*c1:=by grind
 rw[e1,hd,e2];omega
theorem z1g {a b c e c1 b1 α D:Int} (ha:1≤a) (hd:b*b - 4*a*c=D) (bα:b1=b+2*a*α) (dis:b1*b1 - 4*a*e*c1=D):Eqf (a,b1,e*c1) (a,b,c):=by
 refine⟨1,α,0,1,by omega,?_,?_,?_⟩
 ·simp only[];omega
 ·simp only[];rw[bα];grind
 ·simp only[];rw[z52 ha hd bα dis];grind
theorem z1f {a e c1 b1 β D A B C x q y s hB hC:Int} (he:1≤e) (mh:MatInv A B C x q y s e hB hC) (hd:B*B - 4*A*C=D) (bβ:b1=hB+2*e*β) (dis:b1*b1 - 4*a*e*c1=D):Eqf (e,b1,a*c1) (A,B,C)∧MatInv A B C x (x*β+q) y (y*β+s) e b1 (a*c1):=by
 have hd2:hB*hB - 4*e*hC=D:=by rw[zQT mh,hd]
 have hf:=z52 (e:=a) (c1:=c1) he hd2 bβ (by rw[←dis];grind);have m:=mh.norm β;rw[←hf,show 2*e*β+hB=b1 by omega]at m;obtain⟨e1,e2,e3,e4⟩:=m;exact⟨⟨x,x*β+q,y,y*β+s,e4,e1.symm,e2.symm,e3.symm⟩,e1,e2,e3,e4⟩
structure Cmps (D:Int) (f g h f' g':F3) (p1 p2 p3 p4 q1 q2 q3 q4 x y q s e hB hC b1 c1 α β:Int):Prop where
  rf:qX f=some (f',(p1,p2,p3,p4))
  rg:qX g=some (g',(q1,q2,q3,q4))
  pf:PrRc D f'
  pg:PrRc D g'
  mf:MatInv f.1 f.2.1 f.2.2 p1 p2 p3 p4 f'.1 f'.2.1 f'.2.2
  mg:MatInv g.1 g.2.1 g.2.2 q1 q2 q3 q4 g'.1 g'.2.1 g'.2.2
  uni:Uni f'.1 f'.2.1 f'.2.2 g'.1 g'.2.1 g'.2.2 D x y q s e hB hC b1 c1 α β
  imp:zCv f' g'=some (f'.1,e,b1,c1,(1,α,0,1),(w64 (x+q*0),w64 (x*β+q),w64 (y+s*0),w64 (y*β+s)))
  spc:zCP f g=(qP (q1,q2,q3,q4) (x,q,y,s)).bind fun N1=>(qP (p1,p2,p3,p4) (1,α,0,1)).bind fun M=>(qP N1 (1,β,0,1)).bind fun N=>some ((f'.1,b1,e*c1),(e,b1,f'.1*c1),M,N)
  cf:CF D (f'.1*e,b1,c1)
  ae:f'.1*e≤250000
  ec:e*c1≤3000000000∧0≤e*c1∧1≤c1
  pb:p1.natAbs≤2000∧p2.natAbs≤2000∧p3.natAbs≤2000∧p4.natAbs≤2000
  qb:q1.natAbs≤2000∧q2.natAbs≤2000∧q3.natAbs≤2000∧q4.natAbs≤2000
  cl:Cl D (eP D (fL f) (fL g)) (fL (f'.1*e,b1,c1))
theorem z4u {D:Int} (hD1:-2000≤D) (hD2:D<0) {f g:F3} (hf:CF D f) (hg:CF D g):∃f' g' p1 p2 p3 p4 q1 q2 q3 q4 x y q s e hB hC b1 c1 α β,∀h,Cmps D f g h f' g' p1 p2 p3 p4 q1 q2 q3 q4 x y q s e hB hC b1 c1 α β:=by
 obtain⟨⟨a,b,c⟩,p1,p2,p3,p4,i1,i2,i3,i4,i5,i6,i7,i8,i9,i10⟩:=zVo hf;obtain⟨⟨A,B,C⟩,q1,q2,q3,q4,j1,j2,j3,j4,j5,j6,j7,j8,j9,j10⟩:=zVo hg;obtain⟨x,y,q,s,e,hB,hC,b1,c1,α,β,u,k1,k2⟩:=zY4 hD1 hD2 i3 j3;have ku:=u;obtain⟨mh,e1,e2,⟨m,n,hmn⟩,bα,bβ,b0,b2,dis,qb,sb,xy⟩:=u;have ha:1≤a:=i3.1;have hd:b*b - 4*a*c=D:=i3.2.2.1;have hD:B*B - 4*A*C=D:=j3.2.2.1;obtain⟨rb1,ra⟩:=zHC hD1 i3;simp only[]at ra;have hpa:0<A:=zFz j3;have E1:=z1g (e:=e) ha hd bα dis;obtain⟨E2,_⟩:=z1f (a:=a) e1 mh hD bβ dis;obtain⟨z1,z2⟩:=zY5 ha e1 b0 b2 hD1 hD2 dis;have hae:a*e≤25*10000:=Int.mul_le_mul ra e2 (by omega) (by omega);have hae0:1*1≤a*e:=Int.mul_le_mul ha e1 (by omega) (by omega);have hae2:2*a*e=2*(a*e):=zz ..;have hec:e*c1≤10000*300000:=Int.mul_le_mul e2 (by omega) (by omega) (by omega);have hec0:0≤e*c1:=Int.mul_nonneg (by omega) (by omega);have P1:=zXh E1 i3.2.2.2;have P2:=zXh E2 j3.2.2.2;have P:=z1e (bez3 P1) (bez3 P2);have hcf:CF D (a*e,b1,c1):=by
  refine⟨⟨by omega,by simp only[];omega,by simp only[];omega,by simp only[];omega,z1,by simp only[];omega,?_,hD2,.inr (by simp only[];omega),?_⟩,by simp only[];omega⟩
  ·simp only[];rw[←dis];grind
  ·intro k;constructor
   ·rintro⟨t1,t2,t3⟩;exact P k t1 t2 t3
   ·intro t;exact⟨zw t (Int.one_dvd _),zw t (Int.one_dvd _),zw t (Int.one_dvd _)⟩
 have hfD:fD f=D:=hf.1.dis;have hgD:fD g=D:=hg.1.dis;have hfp:0<f.1:=by have:=hf.1.a1;omega
 have hgp:0<g.1:=by have:=hg.1.a1;omega
 have hcl:Cl D (eP D (fL f) (fL g)) (fL (a*e,b1,c1)):=by
  have w1:=zNu hfp hfD i4 (zFz i3);have w2:=zNu hgp hgD j4 (zFz j3);have w3:=zNu (f:=(a,b,c)) (g:=(a,b1,e*c1)) (D:=D) (zFz i3) hd E1 (by show 0<a;omega);have w4:=zNu (f:=(A,B,C)) (g:=(e,b1,a*c1)) (D:=D) (zFz j3) hD E2 (by show 0<e;omega);have w5:=z0Z hD2 (zIz hD2 w3 w1) (zIz hD2 w4 w2);exact zIz hD2 (zW2 w5) (z1H dis.symm hmn)
 refine⟨(a,b,c),(A,B,C),p1,p2,p3,p4,q1,q2,q3,q4,x,y,q,s,e,hB,hC,b1,c1,α,β,fun h=>⟨i1,j1,i3,j3,i5,j5,ku,?_,k2 f g _ _ i2 j2,hcf,hae,⟨hec,hec0,z1⟩,⟨i6,i7,i8,i9⟩,⟨j6,j7,j8,j9⟩,hcl⟩⟩;rw[k1,zUy];simp only[za,Int.mul_one,Int.mul_zero,Int.add_zero]
theorem zW1 {D:Int} (hD1:-2000≤D) (hD2:D<0) {f g:F3} (hf:CF D f) (hg:CF D g):∃h,jI f g=some h∧zAI f g=some h∧PrRc D h∧CF D h∧Cl D (eP D (fL f) (fL g)) (fL h):=by
 obtain⟨f',g',p1,p2,p3,p4,q1,q2,q3,q4,x,y,q,s,e,hB,hC,b1,c1,α,β,k⟩:=z4u hD1 hD2 hf hg;obtain⟨rf,rg,pf,pg,mf,mg,uni,imp,spc,cf,ae,ec,pb,qb,cl⟩:=k f;obtain⟨h,m1,m2,m3,m4,i1,i2,i3,i4,i5,i6,i7,i8,i9,i10⟩:=zVo cf;have ha:1≤f'.1:=pf.1;have e1:=uni.e1;have hae0:1*1≤f'.1*e:=Int.mul_le_mul ha e1 (by omega) (by omega);have hcl:Cl D (eP D (fL f) (fL g)) (fL h):=by
  refine zIz hD2 cl (zW2 (zNu ?_ ?_ i4 (zFz i3)))
  ·show 0<f'.1*e;omega
  ·exact cf.1.dis
 refine⟨h,?_,?_,i3,i10,hcl⟩
 ·simp only[jI,zZ,rf,rg,imp,zBk,za,zN];rw[zA (n:=f'.1*e) (by omega),i1];rfl
 ·unfold zAI;rw[spc,zWV,zUy];simp only[za,zUy];unfold zEJ;simp only[];rw[zF2 (show e≠0 by omega)];simp only[za,zN];rw[zA (n:=f'.1*e) (by omega),tdv (a:=e*c1) (b:=e) (c:=c1) (by omega) rfl,zA (n:=c1) (by
   have h1:1*c1≤e*c1:=Int.mul_le_mul_of_nonneg_right e1 (by omega);omega)]
  simp only[za,jG,i2]
def gS (D:Int) (hD:D<0):Setoid (List El):=⟨Cl D,z4w D,zW2,zIz hD⟩
def GG (D:Int) (hD:D<0):Type:=Quotient (gS D hD)
def gM {D:Int} {hD:D<0} (x y:GG D hD):GG D hD:=Quotient.lift₂ (s₁:=gS D hD) (s₂:=gS D hD) (fun l m=>(Quotient.mk (gS D hD) (eP D l m):GG D hD)) (fun _ _ _ _ h k=>Quotient.sound (s:=gS D hD) (z0Z hD h k)) x y
def gC (D:Int) (hD:D<0) (f:F3):GG D hD:=Quotient.mk (gS D hD) (fL f)
theorem zJa {D:Int} {hD:D<0} (x y:GG D hD):gM x y=gM y x:=by
 induction x using Quotient.inductionOn with|_ x
 induction y using Quotient.inductionOn with|_ y
 exact Quotient.sound (s:=gS D hD) (z4x D x y)
theorem zDc {D:Int} {hD:D<0} (x y z:GG D hD):gM (gM x y) z=gM x (gM y z):=by
 induction x using Quotient.inductionOn with|_ x
 induction y using Quotient.inductionOn with|_ y
 induction z using Quotient.inductionOn with|_ z
 exact Quotient.sound (s:=gS D hD) (z3Y D x y z)
theorem z5f {D:Int} {hD:D<0} {f g:F3}:gC D hD f=gC D hD g↔Cl D (fL f) (fL g):=⟨fun h=>Quotient.exact h,fun h=>Quotient.sound h⟩
theorem z2q {D:Int} {hD:D<0} {f g h:F3} (k:Cl D (eP D (fL f) (fL g)) (fL h)):gM (gC D hD f) (gC D hD g)=gC D hD h:=Quotient.sound (s:=gS D hD) k
def pF (D:Int):F3:=(1,D % 2,(D % 2 - D) / 4)
def g1 (D:Int) (hD:D<0):GG D hD:=gC D hD (pF D)
theorem zRp {D a b c:Int} (h:b*b - 4*a*c=D):D % 4≤1∧D % 2=b % 2:=by
 have e:4*a*c=4*(a*c):=zz ..;obtain⟨t,ht|ht⟩:∃t,b=2*t∨b=2*t+1:=⟨b / 2,by omega⟩
 ·rw[ht,show 2*t*(2*t)=4*(t*t) by grind]at h;omega
 ·rw[ht,show (2*t+1)*(2*t+1)=4*(t*t+t)+1 by grind]at h;omega
theorem z2l {D:Int} {hD:D<0} {f:F3} (hf:fD f=D):gM (g1 D hD) (gC D hD f)=gC D hD f:=by
 obtain⟨a,b,c⟩:=f;have hp:=zRp (a:=a) (b:=b) (c:=c) hf;exact z2q (z7H (m:=(b+D % 2) / 2) hf.symm (by omega))
theorem zNi {D:Int} (hD1:-2000≤D) (hD2:D<0) (h4:D % 4≤1):PrRc D (pF D):=by
 have e:(D % 2)*(D % 2)=D % 2:=by
  rcases (by omega:D % 2=0∨D % 2=1) with h|h<;>rw[h]<;>rfl
 refine⟨Int.le_refl 1,⟨⟨?_,?_⟩,?_⟩,?_,fun k h _ _=>h⟩
 ·show -1<D % 2;omega
 ·show D % 2≤1;omega
 ·show 1<(D % 2 - D) / 4∨(1=(D % 2 - D) / 4∧0≤D % 2)
  omega
 ·show D % 2*(D % 2) - 4*1*((D % 2 - D) / 4)=D;rw[e];omega
theorem zCK {D:Int} (hD1:-2000≤D) (hD2:D<0) {f:F3} (h:PrRc D f):CF D f:=by
 obtain⟨r,ra⟩:=zHC hD1 h;obtain⟨h1,h2,h3,h4⟩:=h;obtain⟨r1,r2,r3,r4,r5,r6⟩:=r;refine⟨⟨h1,by omega,by omega,by omega,r5,by omega,h3,hD2,.inr (by omega),fun k=>⟨fun⟨a,b,c⟩=>h4 k a b c,fun t=>?_⟩⟩,by omega⟩;exact⟨zw t (Int.one_dvd _),zw t (Int.one_dvd _),zw t (Int.one_dvd _)⟩
theorem z3Z {D:Int} {f:F3} (h:CF D f):0<f.1:=by have:=h.1.a1;omega
theorem zWc {D:Int} {f:F3} (h:CF D f):fD f=D:=h.1.dis
theorem cf_4 {D:Int} {f:F3} (h:CF D f):D % 4≤1:=(zRp (zWc h)).1
theorem zVq {D:Int} {hD:D<0} {f g:F3} (hf:PrRc D f) (hg:PrRc D g) (h:gC D hD f=gC D hD g):f=g:=z2F hD hf hg (z5f.1 h)
theorem zOl {D:Int} (hD1:-2000≤D) (hD:D<0) {f g:F3} (hf:CF D f) (hg:CF D g):∃h,jI f g=some h∧zAI f g=some h∧PrRc D h∧CF D h∧gC D hD h=gM (gC D hD f) (gC D hD g):=by
 obtain⟨h,h1,h2,h3,h4,h5⟩:=zW1 hD1 hD hf hg;exact⟨h,h1,h2,h3,h4,(z2q h5).symm⟩
theorem redG {D:Int} (hD:D<0) {f:F3} (hf:CF D f):∃g,zZ f=some g∧jG f=some g∧PrRc D g∧CF D g∧gC D hD g=gC D hD f:=by
 obtain⟨g,m1,m2,m3,m4,k1,k2,k3,k4,k5,k6,k7,k8,k9,k10⟩:=zVo hf;exact⟨g,by simp only[zZ,k1,za],by simp only[jG,k2,za],k3,k10,z5f.2 (zNu (z3Z hf) (zWc hf) k4 (zFz k3))⟩
theorem zF1 {D:Int} (hD1:-2000≤D) (hD:D<0) {f:F3} (hf:PrRc D f):zZ f=some f∧jG f=some f:=by
 obtain⟨g,h1,h2,h3,h4,h5⟩:=redG hD (zCK hD1 hD hf);have:=zVq h3 hf h5;rw[this]at h1 h2;exact⟨h1,h2⟩
def opF (f:F3):F3:=(f.1,-f.2.1,f.2.2)
theorem z32 {D:Int} {f:F3} (h:CF D f):CF D (opF f):=by
 obtain⟨⟨a1,aM,b1,b2,c1,cM,dis,neg,nrm,con⟩,h2⟩:=h;refine⟨⟨a1,aM,by show -1900000≤-f.2.1;omega,by show -f.2.1≤1900000;omega,c1,cM,?_,neg,.inr h2,fun k=>?_⟩,h2⟩
 ·show -f.2.1*-f.2.1 - 4*f.1*f.2.2=D;rw[←dis];grind
 ·rw[←con k];constructor
  ·rintro⟨x,y,z⟩;exact⟨x,(Int.dvd_neg).1 y,z⟩
  ·rintro⟨x,y,z⟩;exact⟨x,(Int.dvd_neg).2 y,z⟩
theorem zZz {D:Int} {f:F3} (h:CF D f):zAy f=some (opF f):=by
 have:=h.1.b1;have:=h.1.b2;simp only[zAy,zN];rw[zA (n:=0 - f.2.1) (by omega)];simp[opF]
theorem z6q {D:Int} {hD:D<0} {f:F3} (h:CF D f):gM (gC D hD f) (gC D hD (opF f))=g1 D hD:=by
 obtain⟨x,y,z,hx⟩:=bez3 (z0Y h.1);have hp:=zRp (a:=f.1) (b:=f.2.1) (c:=f.2.2) h.1.dis;exact z2q (z7I (a:=f.1) (b:=f.2.1) (c:=f.2.2) (m:=(f.2.1+D % 2) / 2) (z3Z h) h.1.dis.symm (by omega) hx)
def gP {D:Int} {hD:D<0} (x:GG D hD):Nat→GG D hD
 |0=>g1 D hD
 |n+1=>gM (gP x n) x
def gF {D:Int} {hD:D<0} (x:GG D hD):Prop:=gM (g1 D hD) x=x
theorem zXs {D:Int} {hD:D<0} {f:F3} (h:CF D f):gF (gC D hD f):=z2l (zWc h)
theorem z6p {D:Int} {hD:D<0} {x y:GG D hD} (h:gF x):gF (gM x y):=by
 unfold gF at h ⊢;rw[←zDc,h]
theorem zRi {D:Int} (hD:D<0) (h4:D % 4≤1) (hD1:-2000≤D):gF (g1 D hD):=zXs (zCK hD1 hD (zNi hD1 hD h4))
theorem gP_F {D:Int} {hD:D<0} {x:GG D hD} (h1:gF (g1 D hD)):∀n,gF (gP x n)
 |0=>h1
 |n+1=>z6p (gP_F h1 n)
theorem z2p {D:Int} {hD:D<0} {x:GG D hD} (h1:gF (g1 D hD)) (m:Nat):∀n,gP x (m+n)=gM (gP x m) (gP x n)
 |0=>by rw[zJa];exact (gP_F h1 m).symm
 |n+1=>by
  show gM (gP x (m+n)) x=gM (gP x m) (gM (gP x n) x);rw[z2p h1 m n,zDc]
theorem z2n {D:Int} {hD:D<0} {x:GG D hD} (h1:gF (g1 D hD)):∀n,gP (gM x x) n=gP x (2*n)
 |0=>rfl
 |n+1=>by
  show gM (gP (gM x x) n) (gM x x)=gM (gM (gP x (2*n)) x) x;rw[z2n h1 n,zDc]
theorem z2o {D:Int} {hD:D<0} {x y:GG D hD} (h1:gF (g1 D hD)) (h:gM x y=g1 D hD):∀n,gM (gP x n) (gP y n)=g1 D hD
 |0=>h1
 |n+1=>by
  show gM (gM (gP x n) x) (gM (gP y n) y)=_;have e:gM (gM (gP x n) x) (gM (gP y n) y)=gM (gM (gP x n) (gP y n)) (gM x y):=by
   rw[zDc,zDc];congr 1;rw[←zDc,zJa x,zDc]
  rw[e,z2o h1 h n,h];exact h1
theorem z4i {D:Int} {hD:D<0} {x y z w:GG D hD} (hy:gF y) (hz:gF z) (h:gM x w=g1 D hD) (e:gM x y=gM x z):y=z:=by
 have e2:gM w (gM x y)=gM w (gM x z):=by rw[e]
 rw[←zDc,←zDc,zJa w x,h,hy,hz]at e2;exact e2
end Go.Proofs.YtahdjphocippeaaGreatDoor
namespace Go.Proofs.YtahdjphocippeaaGreatDoor
theorem zDd {D:Int} (hD1:-2000≤D) {f:F3} (h:CF D f):zL f=some D:=by
 obtain⟨a,b,c⟩:=f;have:=h.1.dis;have hn:=h.1.neg;simp only[]at this;rw[zWZ,this,zA (by omega)]
theorem zGB {D:Int} (hD1:-2000≤D) (hD:D<0) {f:F3} (h:PrRc D f):zP f=some true∧zL f=some D:=by
 obtain⟨r,ra⟩:=zHC hD1 h;have hdv:=zDd hD1 (zCK hD1 hD h);obtain⟨a,b,c⟩:=f;obtain⟨h1,h2,h3,h4⟩:=h;obtain⟨r1,r2,r3,r4,r5,r6⟩:=r;dsimp only at h1 h2 h3 h4 r1 r2 r3 r4 r5 r6;have ha:inN a=true:=zBF.2 (by omega);have hb:inN b=true:=zBF.2 (by omega);have hc:inN c=true:=zBF.2 (by omega);have hg:Int.gcd a (Int.gcd b c)=1:=by
  have h5:((Int.gcd a (Int.gcd b c):Nat):Int)∣1:=h4 _ (Int.gcd_dvd_left _ _) (zw (Int.gcd_dvd_right _ _) (Int.gcd_dvd_left _ _)) (zw (Int.gcd_dvd_right _ _) (Int.gcd_dvd_right _ _));have h6:=Int.eq_one_of_dvd_one (by omega) h5;omega
 refine⟨?_,hdv⟩;simp only[zP,qS,zS,zEt,ha,hb,hc,Bool.and_true,za,hdv,zb,zE3 ha hb hc,hg,zG,qT,zd (show D<0 by omega),zd (show 0<a by omega),zd hD1];rfl
def CFc (D:Int) (f:F3):Prop:=zP f=some true∧zL f=some D∧CF D f∧-2000≤D∧D<0
theorem z7J {f:F3} (h:zP f=some true):CFc (f.2.1*f.2.1 - 4*f.1*f.2.2) f:=by
 have h1:=zYG h;obtain⟨_,_,_,k1,k2,_⟩:=zLF (a:=f.1) (b:=f.2.1) (c:=f.2.2) h;exact⟨h,zDd k2 h1,h1,k2,k1⟩
theorem z4y {D:Int} (hD1:-2000≤D) (hD:D<0) {f:F3} (h:PrRc D f):CFc D f:=⟨(zGB hD1 hD h).1,(zGB hD1 hD h).2,zCK hD1 hD h,hD1,hD⟩
theorem z4z {D:Int} {f:F3} (h:CFc D f):zAy f=some (opF f)∧CF D (opF f):=⟨zZz h.2.2.1,z32 h.2.2.1⟩
theorem zXg {D:Int} (hD1:-2000≤D) (hD:D<0) (h4:D % 4≤1):zAO D=some (pF D):=by
 simp only[zAO];rw[zBB (by omega) (by omega)];simp only[za,zN];rw[zA (n:=D % 2 - D) (by omega),tdv (a:=D % 2 - D) (b:=4) (c:=(D % 2 - D) / 4) (by decide) (by omega),zA (by omega)];rfl
theorem zWE {D:Int} (hD:D<0) {f:F3} (hD1:-2000≤D) (h:CF D f):∃b,zBm f=some b∧(b=true↔gC D hD f=g1 D hD):=by
 obtain⟨g,j1,j2,j3,j4,j5⟩:=redG hD h;have h4:=cf_4 h;have hp:=zNi hD1 hD h4;obtain⟨k1,_⟩:=zF1 hD1 hD hp;refine⟨((g.1==(pF D).1)&&((g.2.1==(pF D).2.1)&&(g.2.2==(pF D).2.2))),by simp only[zBm,j1,zDd hD1 h,zXg hD1 hD h4,k1,za],?_⟩;rw[zj,zj,beq_iff_eq,beq_iff_eq,beq_iff_eq,←j5];constructor
 ·rintro⟨e1,e2,e3⟩;have:g=pF D:=Prod.ext e1 (Prod.ext e2 e3);rw[this];rfl
 ·intro e;have:=zVq j3 hp e;rw[this];exact⟨rfl,rfl,rfl⟩
theorem zZE {D:Int} {hD:D<0} {x:GG D hD} (h:gF x):gM x (g1 D hD)=x:=by rw[zJa];exact h
theorem zNg {D:Int} (hD1:-2000≤D) (hD:D<0):∀(n k:Nat) (p f:F3),k<n→k≤1000000→CF D p→PrRc D p→CF D f→∃h,zAw n (k:Int) p.1 p.2.1 p.2.2 f.1 f.2.1 f.2.2=some h∧PrRc D h∧gC D hD h=gM (gC D hD p) (gP (gC D hD f) k)
 |0,k,p,f,hk,_,_,_,_=>by omega
 |n+1,k,p,f,hk,hM,hp,hpp,hf=>by
  rw[zAw,zG];have h1:=zRi hD (cf_4 hf) hD1;by_cases h0:k=0
  ·subst h0;rw[ze (by omega),zc];exact⟨p,rfl,hpp,(zZE (zXs hp)).symm⟩
  ·rw[zd (show (0:Int)<(k:Int) by omega),zb];have et:Int.tmod (k:Int) 2=((k % 2:Nat):Int):=rfl;have ed:Int.tdiv (k:Int) 2=((k / 2:Nat):Int):=rfl;obtain⟨ff,f1,f2,f3,f4,f5⟩:=zOl hD1 hD hf hf;have hsplit:=z2n (x:=gC D hD f) h1 (k / 2);by_cases ho:k % 2=1
   ·obtain⟨j,j1,j2,j3,j4,j5⟩:=zOl hD1 hD hp hf;have e1:eqI (Int.tmod (k:Int) 2) 1=true:=by rw[et,ho];rfl
    have e2:jI (p.1,p.2.1,p.2.2) (f.1,f.2.1,f.2.2)=some j:=j1;have e3:jI (f.1,f.2.1,f.2.2) (f.1,f.2.1,f.2.2)=some ff:=f1;rw[e1,zb,e2];simp only[za,e3,zN,ed];rw[zA (n:=((k / 2:Nat):Int)) (by omega)];obtain⟨h,i1,i2,i3⟩:=zNg hD1 hD n (k / 2) j ff (by omega) (by omega) j4 j3 f4;refine⟨h,i1,i2,?_⟩;rw[i3,j5,f5,hsplit,zDc,zJa (gC D hD f) (gP _ _)];have:k=2*(k / 2)+1:=by omega
    exact congrArg (fun z=>gM (gC D hD p) (gP (gC D hD f) z)) this.symm
   ·have e1:eqI (Int.tmod (k:Int) 2) 1=false:=by rw[et,show k % 2=0 by omega];rfl
    have e3:jI (f.1,f.2.1,f.2.2) (f.1,f.2.1,f.2.2)=some ff:=f1;rw[e1,zc];simp only[za,e3,zN,ed];rw[zA (n:=((k / 2:Nat):Int)) (by omega)];obtain⟨h,i1,i2,i3⟩:=zNg hD1 hD n (k / 2) p ff (by omega) (by omega) hp hpp f4;refine⟨h,i1,i2,?_⟩;rw[i3,f5,hsplit];have:k=2*(k / 2):=by omega
    exact congrArg (fun z=>gM (gC D hD p) (gP (gC D hD f) z)) this.symm
def gZ {D:Int} {hD:D<0} (x y:GG D hD) (k:Int):GG D hD:=if k<0 then gP y (-k).toNat else gP x k.toNat
theorem zU1 {α:Type} [DecidableEq α]:∀(l L:List α),l.Nodup→(∀x∈l,x∈L)→l.length≤L.length
 |[],L,_,_=>Nat.zero_le _
 |a::t,L,h,hs=>by
  have ha:a∈L:=hs a (by simp);obtain⟨h1,h2⟩:=List.nodup_cons.1 h;have:=zU1 t (L.erase a) h2 fun x hx=>(List.mem_erase_of_ne (by intro e;rw[e]at hx;exact h1 hx)).2 (hs x (by simp[hx]));rw[List.length_erase_of_mem ha]at this;have hl:0<L.length:=List.length_pos_of_mem ha;simp only[zf];omega
theorem zRZ {D:Int} (hD1:-2000≤D) (hD:D<0) {f:F3} (hf:CF D f):∀k:Nat,∃h,PrRc D h∧gC D hD h=gP (gC D hD f) k
 |0=>⟨pF D,zNi hD1 hD (cf_4 hf),rfl⟩
 |k+1=>by
  obtain⟨h,h1,h2⟩:=zRZ hD1 hD hf k;obtain⟨g,_,_,j3,_,j5⟩:=zOl hD1 hD (zCK hD1 hD h1) hf;exact⟨g,j3,by rw[j5,h2];rfl⟩
def boxL:List (Int×Int):=(List.range 26).flatMap fun (a:Nat)=>(List.range 60).map fun (b:Nat)=>(Int.ofNat a,Int.ofNat b - 30)
theorem z36:boxL.length=1560:=by decide+kernel
theorem z35 {a b:Int} (h1:0≤a) (h2:a≤25) (h3:-26≤b) (h4:b≤26):(a,b)∈boxL:=by
 unfold boxL;refine List.mem_flatMap.2 ⟨a.toNat,List.mem_range.2 (by omega),List.mem_map.2 ⟨(b+30).toNat,List.mem_range.2 (by omega),?_⟩⟩;refine Prod.ext ?_ ?_
 ·show ((a.toNat:Nat):Int)=a;omega
 ·show (((b+30).toNat:Nat):Int) - 30=b;omega
theorem z2K {D:Int} (hD1:-2000≤D) (hD:D<0) {f:F3} (hf:CF D f):∃M:Nat,1≤M∧M≤1600∧gP (gC D hD f) M=g1 D hD:=by
 have h1:=zRi hD (cf_4 hf) hD1
 let h:Nat→F3:=fun k=>(zRZ hD1 hD hf k).choose
 have hh:∀k,PrRc D (h k)∧gC D hD (h k)=gP (gC D hD f) k:=fun k=>(zRZ hD1 hD hf k).choose_spec;have hcol:∃i j,i<j∧j≤1600∧h i=h j:=by
  refine Classical.byContradiction fun hno=>?_
  have hinj:∀i j,i<j→j≤1600→h i≠h j:=fun i j a b e=>hno ⟨i,j,a,b,e⟩;have nd:((List.range 1601).map fun k=>((h k).1,(h k).2.1)).Nodup:=by
   unfold List.Nodup;rw[List.pairwise_map];refine List.Pairwise.imp_of_mem ?_ (List.pairwise_lt_range (n:=1601))
   intro i j hi hj hij e;have hj':j<1601:=List.mem_range.1 hj;refine hinj i j hij (by omega) ?_
   have e1:(h i).1=(h j).1:=(Prod.mk.inj e).1;have e2:(h i).2.1=(h j).2.1:=(Prod.mk.inj e).2;obtain⟨q1,q2,q3,q4⟩:=(hh i).1;obtain⟨r1,r2,r3,r4⟩:=(hh j).1;rw[e1,e2]at q3;have e3:(h i).2.2=(h j).2.2:=zU8 (a:=(h j).1) r1 (by omega);exact Prod.ext e1 (Prod.ext e2 e3)
  have:=zU1 _ boxL nd fun x hx=>by
   obtain⟨k,_,e⟩:=List.mem_map.1 hx;rw[←e];obtain⟨r,ra⟩:=zHC hD1 (hh k).1;exact z35 (by have:=r.a1;omega) ra r.b1 r.b2
  rw[z36,List.length_map,List.length_range]at this;omega
 obtain⟨i,j,hij,hj,e⟩:=hcol;refine⟨j - i,by omega,by omega,?_⟩;have e2:gP (gC D hD f) i=gP (gC D hD f) j:=by rw[←(hh i).2,←(hh j).2,e]
 have e3:gM (gP (gC D hD f) i) (gP (gC D hD f) (j - i))=gM (gP (gC D hD f) i) (g1 D hD):=by
  rw[←z2p h1,show i+(j - i)=j by omega,←e2,zZE (gP_F h1 i)]
 exact z4i (gP_F h1 _) h1 (z2o h1 (z6q hf) i) e3
theorem zUY {D:Int} (hD1:-2000≤D) (hD:D<0) {f:F3} (hf:CF D f) {M:Nat} (hM:M≤1600) (hMe:gP (gC D hD f) M=g1 D hD):∀(n k:Nat) (p:F3),M - k<n→1≤k→k≤M→CF D p→gC D hD p=gP (gC D hD f) k→∃r:Nat,zBl f n (k:Int) p.1 p.2.1 p.2.2=some (r:Int)∧k≤r∧r≤M∧gP (gC D hD f) r=g1 D hD∧∀j,k≤j→j<r→gP (gC D hD f) j≠g1 D hD
 |0,k,p,hn,h1,h2,hp,e=>by omega
 |n+1,k,p,hn,h1,h2,hp,e=>by
  rw[zBl];obtain⟨b,b1,b2⟩:=zWE hD hD1 hp;have b1':zBm (p.1,p.2.1,p.2.2)=some b:=b1;rw[b1',za];cases b with
  |true=>
   rw[zg,zc];exact⟨k,rfl,Nat.le_refl _,h2,by rw[←e];exact b2.1 rfl,fun j h3 h4=>by omega⟩
  |false=>
   have hne:gP (gC D hD f) k≠g1 D hD:=by
    intro h3;rw[←e]at h3;exact absurd (b2.2 h3) (by decide)
   have hkM:k≠M:=fun h3=>hne (h3▸hMe);obtain⟨g,j1,j2,j3,j4,j5⟩:=zOl hD1 hD hp hf;have j1':jI (p.1,p.2.1,p.2.2) f=some g:=j1;simp only[zh,zb,zN,j1',za];rw[zB9 (by omega)];obtain⟨r,r1,r2,r3,r4,r5⟩:=zUY hD1 hD hf hM hMe n (k+1) g (by omega) (by omega) (by omega) j4 (by rw[j5,e];rfl);refine⟨r,r1,by omega,r3,r4,fun j h3 h4=>?_⟩;by_cases hj:j=k
   ·rw[hj];exact hne
   ·exact r5 j (by omega) h4
theorem zXr {D:Int} {hD:D<0} {x:GG D hD} (h:gF x):gP x 1=x:=h
def fB (f:Int×Int×Int):List UInt8:=((((([40]++Go.Lib.itoa f.1)++[44])++Go.Lib.itoa f.2.1)++[44])++Go.Lib.itoa f.2.2)++[41]
theorem zLE {f:Int×Int×Int} (h1:sm18 f.1) (h2:sm18 f.2.1) (h3:sm18 f.2.2):(fB f).length≤100:=by
 have a1:=zAS h1;have a2:=zAS h2;have a3:=zAS h3;simp[fB];omega
theorem zFL {f:Int×Int×Int} (h1:sm18 f.1) (h2:sm18 f.2.1) (h3:sm18 f.2.2):zAe f=some (bl (fB f)):=by
 have a1:=zAS h1;have a2:=zAS h2;have a3:=zAS h3;have e1:(⟨#[40]⟩:ByteArray)=bl [40]:=rfl;have e2:(⟨#[44]⟩:ByteArray)=bl [44]:=rfl;have e3:(⟨#[41]⟩:ByteArray)=bl [41]:=rfl;unfold zAe;rw[zF3 h1,za,e1,e2,e3,zAi (by simp;omega),za,jM,zAi (by simp;omega),za,jM,zF3 h2,za,zAi (by simp;omega),za,jM,zAi (by simp;omega),za,jM,zF3 h3,za,zAi (by simp;omega),za,jM,zAi (by simp;omega),za,jM];rfl
theorem zCb {f:Int×Int×Int} (h1:sm18 f.1) (h2:sm18 f.2.1) (h3:sm18 f.2.2):jP f=some (bl (fB f)):=by
 have a1:=zAS h1;have a2:=zAS h2;have a3:=zAS h3;have e1:(⟨#[40]⟩:ByteArray)=bl [40]:=rfl;have e2:(⟨#[44]⟩:ByteArray)=bl [44]:=rfl;have e3:(⟨#[41]⟩:ByteArray)=bl [41]:=rfl;unfold jP;rw[zFR h1,za,e1,e2,e3,zAi (by simp;omega),za,jM,zAi (by simp;omega),za,jM,zFR h2,za,zAi (by simp;omega),za,jM,zAi (by simp;omega),za,jM,zFR h3,za,zAi (by simp;omega),za,jM,zAi (by simp;omega),za,jM];rfl
def mB (m:Int×Int×Int×Int):List UInt8:=((((((([91]++Go.Lib.itoa m.1)++[44])++Go.Lib.itoa m.2.1)++[59])++Go.Lib.itoa m.2.2.1)++[44])++Go.Lib.itoa m.2.2.2)++[93]
theorem zYw {m:Int×Int×Int×Int} (h1:sm18 m.1) (h2:sm18 m.2.1) (h3:sm18 m.2.2.1) (h4:sm18 m.2.2.2):(mB m).length≤100:=by
 have a1:=zAS h1;have a2:=zAS h2;have a3:=zAS h3;have a4:=zAS h4;simp[mB];omega
theorem zLB {m:Int×Int×Int×Int} (h1:sm18 m.1) (h2:sm18 m.2.1) (h3:sm18 m.2.2.1) (h4:sm18 m.2.2.2):zA3 m=some (bl (mB m)):=by
 have a1:=zAS h1;have a2:=zAS h2;have a3:=zAS h3;have a4:=zAS h4;have e1:(⟨#[91]⟩:ByteArray)=bl [91]:=rfl;have e2:(⟨#[44]⟩:ByteArray)=bl [44]:=rfl;have e3:(⟨#[59]⟩:ByteArray)=bl [59]:=rfl;have e4:(⟨#[93]⟩:ByteArray)=bl [93]:=rfl;unfold zA3;rw[zF3 h1,za,e1,e2,e3,e4,zAi (by simp;omega),za,jM,zAi (by simp;omega),za,jM,zF3 h2,za,zAi (by simp;omega),za,jM,zAi (by simp;omega),za,jM,zF3 h3,za,zAi (by simp;omega),za,jM,zAi (by simp;omega),za,jM,zF3 h4,za,zAi (by simp;omega),za,jM,zAi (by simp;omega),za,jM];rfl
theorem zKz {m:Int×Int×Int×Int} (h1:sm18 m.1) (h2:sm18 m.2.1) (h3:sm18 m.2.2.1) (h4:sm18 m.2.2.2):zBM m=some (bl (mB m)):=by
 have a1:=zAS h1;have a2:=zAS h2;have a3:=zAS h3;have a4:=zAS h4;have e1:(⟨#[91]⟩:ByteArray)=bl [91]:=rfl;have e2:(⟨#[44]⟩:ByteArray)=bl [44]:=rfl;have e3:(⟨#[59]⟩:ByteArray)=bl [59]:=rfl;have e4:(⟨#[93]⟩:ByteArray)=bl [93]:=rfl;unfold zBM;rw[zFR h1,za,e1,e2,e3,e4,zAi (by simp;omega),za,jM,zAi (by simp;omega),za,jM,zFR h2,za,zAi (by simp;omega),za,jM,zAi (by simp;omega),za,jM,zFR h3,za,zAi (by simp;omega),za,jM,zAi (by simp;omega),za,jM,zFR h4,za,zAi (by simp;omega),za,jM,zAi (by simp;omega),za,jM];rfl
theorem zNX {D:Int} (hD1:-2000≤D) (hD:D<0) (h4:D % 4≤1):zDk D=some (pF D):=by
 simp only[zDk];rw[zGk,zBB (by omega) (by omega)];simp only[za,zN];rw[zA (n:=D % 2 - D) (by omega),tdv (a:=D % 2 - D) (b:=4) (c:=(D % 2 - D) / 4) (by decide) (by omega),zA (by omega)];rfl
theorem zQp {D:Int} (hD1:-2000≤D) (hD:D<0):∀(n k:Nat) (p f:F3),k<n→k≤1000000→CF D p→PrRc D p→CF D f→∃h,zB1 n (k:Int) p.1 p.2.1 p.2.2 f.1 f.2.1 f.2.2=some h∧PrRc D h∧gC D hD h=gM (gC D hD p) (gP (gC D hD f) k)
 |0,k,p,f,hk,_,_,_,_=>by omega
 |n+1,k,p,f,hk,hM,hp,hpp,hf=>by
  rw[zB1,zG];have h1:=zRi hD (cf_4 hf) hD1;by_cases h0:k=0
  ·subst h0;rw[ze (by omega),zc];exact⟨p,rfl,hpp,(zZE (zXs hp)).symm⟩
  ·rw[zd (show (0:Int)<(k:Int) by omega),zb];have et:Int.tmod (k:Int) 2=((k % 2:Nat):Int):=rfl;have ed:Int.tdiv (k:Int) 2=((k / 2:Nat):Int):=rfl;obtain⟨ff,f1,f2,f3,f4,f5⟩:=zOl hD1 hD hf hf;have hsplit:=z2n (x:=gC D hD f) h1 (k / 2);by_cases ho:k % 2=1
   ·obtain⟨j,j1,j2,j3,j4,j5⟩:=zOl hD1 hD hp hf;have e1:eqI (Int.tmod (k:Int) 2) 1=true:=by rw[et,ho];rfl
    have e2:zAI (p.1,p.2.1,p.2.2) (f.1,f.2.1,f.2.2)=some j:=j2;have e3:zAI (f.1,f.2.1,f.2.2) (f.1,f.2.1,f.2.2)=some ff:=f2;rw[e1,zb,e2];simp only[za,e3,zN,ed];rw[zA (n:=((k / 2:Nat):Int)) (by omega)];obtain⟨h,i1,i2,i3⟩:=zQp hD1 hD n (k / 2) j ff (by omega) (by omega) j4 j3 f4;refine⟨h,i1,i2,?_⟩;rw[i3,j5,f5,hsplit,zDc,zJa (gC D hD f) (gP _ _)];have:k=2*(k / 2)+1:=by omega
    exact congrArg (fun z=>gM (gC D hD p) (gP (gC D hD f) z)) this.symm
   ·have e1:eqI (Int.tmod (k:Int) 2) 1=false:=by rw[et,show k % 2=0 by omega];rfl
    have e3:zAI (f.1,f.2.1,f.2.2) (f.1,f.2.1,f.2.2)=some ff:=f2;rw[e1,zc];simp only[za,e3,zN,ed];rw[zA (n:=((k / 2:Nat):Int)) (by omega)];obtain⟨h,i1,i2,i3⟩:=zQp hD1 hD n (k / 2) p ff (by omega) (by omega) hp hpp f4;refine⟨h,i1,i2,?_⟩;rw[i3,f5,hsplit];have:k=2*(k / 2):=by omega
    exact congrArg (fun z=>gM (gC D hD p) (gP (gC D hD f) z)) this.symm
theorem zQs {D:Int} (hD1:-2000≤D) (hD:D<0) {f:F3} (hf:PrRc D f) {M:Nat} (hM:M≤1600) (hMe:gP (gC D hD f) M=g1 D hD):∀(n k:Nat) (p:F3),M - k<n→1≤k→k≤M→PrRc D p→gC D hD p=gP (gC D hD f) k→∃r:Nat,zBj f n (k:Int) p.1 p.2.1 p.2.2=some (r:Int)∧k≤r∧r≤M∧gP (gC D hD f) r=g1 D hD∧∀j,k≤j→j<r→gP (gC D hD f) j≠g1 D hD
 |0,k,p,hn,h1,h2,hp,e=>by omega
 |n+1,k,p,hn,h1,h2,hp,e=>by
  have hcf:=zCK hD1 hD hf;have hcp:=zCK hD1 hD hp;have h4:=cf_4 hcf;have hpp:=zNi hD1 hD h4;rw[zBj,zGA,zDd hD1 hcf,za,zNX hD1 hD h4,za];by_cases he:p=pF D
  ·have hb:((p.1==(pF D).1)&&((p.2.1==(pF D).2.1)&&(p.2.2==(pF D).2.2)))=true:=by rw[he];simp
   rw[hb,zg,zc];exact⟨k,rfl,Nat.le_refl _,h2,by rw[←e,he];rfl,fun j h3 h4=>by omega⟩
  ·have hb:((p.1==(pF D).1)&&((p.2.1==(pF D).2.1)&&(p.2.2==(pF D).2.2)))=false:=by
    rw[Bool.eq_false_iff];intro hh;rw[zj,zj,beq_iff_eq,beq_iff_eq,beq_iff_eq]at hh;exact he (Prod.ext hh.1 (Prod.ext hh.2.1 hh.2.2))
   have hne:gP (gC D hD f) k≠g1 D hD:=fun h3=>he (zVq hp hpp (by rw[e,h3];rfl));have hkM:k≠M:=fun h3=>hne (h3▸hMe);obtain⟨g,_,j1,j3,j4,j5⟩:=zOl hD1 hD hcp hcf;have j1':zAI (p.1,p.2.1,p.2.2) f=some g:=j1;rw[hb];simp only[zh,zb,zN,j1',za];rw[zB9 (by omega)];obtain⟨r,r1,r2,r3,r4,r5⟩:=zQs hD1 hD hf hM hMe n (k+1) g (by omega) (by omega) (by omega) j3 (by rw[j5,e];rfl);refine⟨r,r1,by omega,r3,r4,fun j h3 h4=>?_⟩;by_cases hj:j=k
   ·rw[hj];exact hne
   ·exact r5 j (by omega) h4
theorem zR5 {r:Nat} (h:r≤1000000):zAG FU (r:Int)=some (bl (Go.Lib.itoa (r:Int)))∧qJ (r:Int)=some (bl (Go.Lib.itoa (r:Int)))∧(Go.Lib.itoa (r:Int)).length≤19:=by
 have hs:sm18 (r:Int):=⟨by omega,by omega⟩
 have h1:=zF3 hs;unfold zAn at h1;rw[zG,ze (by omega),zc]at h1;refine⟨?_,zFR hs,zAS hs⟩;cases hh:zAG FU (r:Int) with
 |none=>rw[hh]at h1;cases h1
 |some y=>rw[hh]at h1;exact h1
theorem z2a {D:Int} (hD:D<0) {f:F3} (h:CFc D f) {k:Int} (hk:-1000000≤k∧k≤1000000):∃g,zB4 f k=some g∧PrRc D g∧gC D hD g=gZ (gC D hD f) (gC D hD (opF f)) k:=by
 have hF:=FUge;have hD1:=h.2.2.2.1;have hcf:=h.2.2.1;have h4:=cf_4 hcf;have hp:=zNi hD1 hD h4;obtain⟨kp,_⟩:=zF1 hD1 hD hp;have run:∀(m:Nat) (u:F3),m≤1000000→CF D u→∃g,((zL u).bind fun y7=>(zAO y7).bind fun y8=>(zZ y8).bind fun y9=>(zZ u).bind fun y10=>(zAw FU (m:Int) y9.1 y9.2.1 y9.2.2 y10.1 y10.2.1 y10.2.2).bind fun o19=>some o19)=some g∧PrRc D g∧gC D hD g=gP (gC D hD u) m:=by
  intro m u hm hu;obtain⟨ru,j1,j2,j3,j4,j5⟩:=redG hD hu;obtain⟨g,i1,i2,i3⟩:=zNg hD1 hD FU m (pF D) ru (Nat.lt_of_le_of_lt hm (by decide)) hm (zCK hD1 hD hp) hp j4;refine⟨g,by simp only[zDd hD1 hu,zXg hD1 hD h4,kp,j1,za,i1],i2,?_⟩;rw[i3,j5];exact gP_F (zRi hD h4 hD1) m
 have fin:∃g,zB4 f k=some g∧PrRc D g∧gC D hD g=gZ (gC D hD f) (gC D hD (opF f)) k:=by
  unfold zB4 gZ;rw[zG];by_cases hneg:k<0
  ·obtain⟨o1,o2⟩:=z4z h;obtain⟨g,i1,i2,i3⟩:=run (-k).toNat (opF f) (by omega) o2;rw[zd hneg,zb,o1,if_pos hneg];refine⟨g,?_,i2,i3⟩;have e:(((-k).toNat:Nat):Int)=w64 (0 - k):=by rw[zA (by omega)];omega
   rw[e]at i1;simp only[za,zN];exact i1
  ·obtain⟨g,i1,i2,i3⟩:=run k.toNat f (by omega) hcf;rw[ze hneg,zc,if_neg hneg];refine⟨g,?_,i2,i3⟩;have e:((k.toNat:Nat):Int)=k:=by omega
   rw[e]at i1;simp only[za];exact i1
 exact fin
theorem z0i {D:Int} (hD:D<0) {f:F3} (h:PrRc D f) (hD1:-2000≤D) {k:Int} (hk:-1000000≤k∧k≤1000000):∃g,zCo f k=some g∧PrRc D g∧gC D hD g=gZ (gC D hD f) (gC D hD (opF f)) k:=by
 have hF:=FUge;have hcf:=zCK hD1 hD h;have h4:=cf_4 hcf;have hp:=zNi hD1 hD h4;obtain⟨_,ks⟩:=zF1 hD1 hD h;have run:∀(m:Nat) (u:F3),m≤1000000→CF D u→∃g,zB1 FU (m:Int) (pF D).1 (pF D).2.1 (pF D).2.2 u.1 u.2.1 u.2.2=some g∧PrRc D g∧gC D hD g=gP (gC D hD u) m:=by
  intro m u hm hu;obtain⟨g,i1,i2,i3⟩:=zQp hD1 hD FU m (pF D) u (Nat.lt_of_le_of_lt hm (by decide)) hm (zCK hD1 hD hp) hp hu;refine⟨g,i1,i2,?_⟩;rw[i3];exact gP_F (zRi hD h4 hD1) m
 unfold zCo gZ;rw[ks,za,zG];by_cases hneg:k<0
 ·have o2:=z32 hcf;obtain⟨ro,j1,j2,j3,j4,j5⟩:=redG hD o2;have o1:zCp f=some ro:=by
   have:zDS f=some (opF f):=zZz hcf;simp only[zCp,this,za,j2]
  obtain⟨g,i1,i2,i3⟩:=run (-k).toNat ro (by omega) j4;have e:(((-k).toNat:Nat):Int)=w64 (0 - k):=by rw[zA (by omega)];omega
  rw[e]at i1;have ed:qN (ro.1,ro.2.1,ro.2.2)=some D:=by rw[zGA];exact zDd hD1 j4
  rw[zd hneg,zb,o1,if_pos hneg];simp only[za,zN,ed,zNX hD1 hD h4];exact⟨g,by rw[i1];rfl,i2,by rw[i3,j5]⟩
 ·obtain⟨g,i1,i2,i3⟩:=run k.toNat f (by omega) hcf;have e:((k.toNat:Nat):Int)=k:=by omega
  rw[e]at i1;have ed:qN (f.1,f.2.1,f.2.2)=some D:=by rw[zGA];exact zDd hD1 hcf
  rw[ze hneg,zc,if_neg hneg];simp only[za,zN,ed,zNX hD1 hD h4];exact⟨g,by rw[i1];rfl,i2,i3⟩
theorem z7A {D:Int} (hD1:-2000≤D) (hD:D<0) {f:F3} (h:PrRc D f) {k:Int} (hk:-1000000≤k∧k≤1000000):∃g,zB4 f k=some g∧zCo f k=some g∧PrRc D g:=by
 obtain⟨g,h1,h2,h3⟩:=z2a hD (z4y hD1 hD h) hk;obtain⟨g2,k1,k2,k3⟩:=z0i hD h hD1 hk;have e:=zVq h2 k2 (h3.trans k3.symm);subst e;exact⟨g,h1,k1,h2⟩
theorem z7C {D:Int} (hD1:-2000≤D) (hD:D<0) {f g:F3} (hf:PrRc D f) (hg:PrRc D g):∃h,jI f g=some h∧zAI f g=some h∧PrRc D h:=by
 obtain⟨h,h1,h2,h3,_⟩:=zOl hD1 hD (zCK hD1 hD hf) (zCK hD1 hD hg);exact⟨h,h1,h2,h3⟩
theorem z7B {D:Int} (hD1:-2000≤D) (hD:D<0) {f:F3} (h:PrRc D f):∃r:Nat,zD7 f=some (r:Int)∧zD6 f=some (r:Int)∧r≤1600:=by
 have hF:=FUge;have hcf:=zCK hD1 hD h;obtain⟨ks,ks2⟩:=zF1 hD1 hD h;obtain⟨M,m1,m2,m3⟩:=z2K hD1 hD hcf;obtain⟨r,r1,r2,r3,r4,r5⟩:=zUY hD1 hD hcf m2 m3 FU 1 f (by omega) (by omega) m1 hcf (by rw[zXr (zXs hcf)]);obtain⟨q,q1,q2,q3,q4,q5⟩:=zQs hD1 hD h (show r≤1600 by omega) r4 FU 1 f (by omega) (by omega) r2 h (zXr (zXs hcf)).symm;have hqr:q=r:=by
  rcases Nat.lt_trichotomy q r with h|h|h
  ·exact absurd q4 (r5 q q2 h)
  ·exact h
  ·exact absurd r4 (q5 r r2 h)
 subst hqr;have r1':zBl f FU 1 f.1 f.2.1 f.2.2=some (q:Int):=r1;have q1':zBj f FU 1 f.1 f.2.1 f.2.2=some (q:Int):=q1;exact⟨q,by simp only[zD7,ks,za,r1'],by simp only[zD6,ks2,za,q1'],by omega⟩
theorem z4t (d:Int):∃b,qR d=some b∧zCF d=some b∧(b=true→-2000≤d∧d≤-3∧d % 4≤1):=by
 rw[zR7,zOc];exact⟨_,rfl,rfl,fun h=>by simpa using h⟩
theorem z6z (f:F3):∃b,zP f=some b∧zDN f=some b∧(b=true→∃D,zL f=some D∧qN f=some D∧-2000≤D∧D<0∧∃g,zZ f=some g∧jG f=some g∧PrRc D g):=by
 obtain⟨b,hb⟩:=zZT f;refine⟨b,hb,by rw[z1G,hb],fun ht=>?_⟩;subst ht;have h:=z7J hb;obtain⟨g,g1,g2,g3,_⟩:=redG h.2.2.2.2 h.2.2.1;exact⟨_,h.2.1,by rw[zGA];exact h.2.1,h.2.2.2.1,h.2.2.2.2,g,g1,g2,g3⟩
theorem z3P {d p:Int} (hd1:-2000≤d) (hd2:d≤-3) (hp1:2≤p) (hp2:p≤10000):∀(n:Nat) (b:Int),0≤b→b≤p+1→p+1 - b<n→∃q,zBy d p n b=some q∧zCn d p n b=some q∧
  ∀f,q=.inr (f,true)→∃b0 c0,f=(p,b0,c0)∧0≤b0∧b0≤p∧b0*b0 - d=4*p*c0∧1≤c0∧c0≤10000∧Int.gcd p (Int.gcd b0 c0)=1
 |0,b,h1,h2,h3=>by omega
 |n+1,b,h1,h2,h3=>by
  unfold zBy zCn;rw[qT];by_cases hb:b≤p
  ·have hbb:0≤b*b:=Int.mul_nonneg h1 h1;have hbb2:b*b≤10000*10000:=Int.mul_le_mul (by omega) (by omega) h1 (by omega);have e1:w64 (4*p)=4*p:=zA (by omega);have e2:w64 ((w64 (b*b)) - d)=b*b - d:=by rw[zA (n:=b*b) (by omega),zA (by omega)]
   have hz:nz (4*p)=some ():=zF2 (by omega);rw[zd hb,zb,zb,e1,e2,hz];simp only[za,zN];by_cases hm:Int.tmod (b*b - d) (4*p)=0
   ·have hc:b*b - d=4*p*Int.tdiv (b*b - d) (4*p):=by
     have:=Int.mul_tdiv_add_tmod (b*b - d) (4*p);rw[hm]at this;omega
    generalize Int.tdiv (b*b - d) (4*p)=c at hc;have hc1:1≤c:=by
     rcases Int.lt_or_le 0 c with h|h
     ·omega
     ·have:4*p*c≤0:=Int.mul_nonpos_of_nonneg_of_nonpos (by omega) h;omega
    have hc2:c≤10000:=by
     rcases Int.lt_or_le c 10001 with h|h
     ·omega
     ·have h4:4*p*10001≤4*p*c:=zo h (by omega);have h5:b*b≤p*b:=Int.mul_le_mul_of_nonneg_right hb h1;have h6:p*b≤p*10000:=zo (by omega) (by omega);omega
    have ha:inN p=true:=zBF.2 (by omega);have hb':inN b=true:=zBF.2 (by omega);have hc':inN c=true:=zBF.2 (by omega);have em:eqI (Int.tmod (b*b - d) (4*p)) 0=true:=by rw[hm];rfl
    rw[em,zb,zb,zA (n:=c) (by omega),zE3 ha hb' hc',zLt ha hb' hc'];simp only[za];refine⟨_,rfl,rfl,fun f hf=>?_⟩;injection hf with hf;injection hf with hf hg;refine⟨b,c,hf.symm,h1,hb,hc,hc1,hc2,?_⟩;rw[jD]at hg;have:=of_decide_eq_true hg;omega
   ·have em:eqI (Int.tmod (b*b - d) (4*p)) 0=false:=by rw[jD];exact ze hm
    rw[em,zc,zc,zA (n:=b+1) (by omega)];exact z3P hd1 hd2 hp1 hp2 n (b+1) (by omega) (by omega) (by omega)
  ·rw[ze hb,zc,zc];exact⟨_,rfl,rfl,fun f hf=>by cases hf⟩
theorem z3Q {d:Int} (hd1:-2000≤d) (hd2:d≤-3) (hd4:d % 4≤1) (p:Int):∃f b,zCa d p=some (f,b)∧zC9 d p=some (f,b)∧(b=true→PrRc d f):=by
 have hF:=FUge;have hnd:qR d=some true:=by rw[zOc,zd ⟨hd1,hd2,hd4⟩]
 have hnd2:zCF d=some true:=by rw[zR7];exact hnd
 unfold zCa zC9 zDn;rw[hnd,hnd2];simp only[za,zg,zc,zCk,zEh,zAu,z2E,qT];by_cases h2:2≤p
 ·by_cases h3:p≤10000
  ·obtain⟨b,hb⟩:=zYp p (by omega);rw[zd h2,zd h3];simp only[zb,hb,za];cases b with
   |false=>exact⟨_,_,rfl,rfl,fun h=>by cases h⟩
   |true=>
    obtain⟨q,q1,q2,q3⟩:=z3P hd1 hd2 h2 h3 FU 0 (by omega) (by omega) (by omega);simp only[zg,zc,zDl,zFQ,q1,q2,za];cases q with
    |inl u=>exact⟨_,_,rfl,rfl,fun h=>by cases h⟩
    |inr y=>
     obtain⟨f,c⟩:=y;cases c with
     |false=>exact⟨_,_,rfl,rfl,fun h=>by cases h⟩
     |true=>
      obtain⟨b0,c0,rfl,k1,k2,k3,k4,k5,k6⟩:=q3 f rfl;have hcf:CF d (p,b0,c0):=by
       refine⟨⟨by show 1≤p;omega,by show p≤1000000;omega,by show -1900000≤b0;omega,by show b0≤1900000;omega,k4,by show c0≤1250000;omega,by show b0*b0 - 4*p*c0=d;omega,by omega,.inr (by show c0≤1000000;omega),fun k=>⟨fun⟨a1,a2,a3⟩=>?_,fun hk=>?_⟩⟩,by show c0≤1000000;omega⟩
       ·have:=Int.dvd_coe_gcd (a:=p) (b:=((Int.gcd b0 c0:Nat):Int)) a1 (Int.dvd_coe_gcd a2 a3);rw[k6]at this;exact this
       ·exact⟨zw hk (Int.one_dvd _),zw hk (Int.one_dvd _),zw hk (Int.one_dvd _)⟩
      obtain⟨g,g1,g2,g3,_⟩:=redG (by omega) hcf;simp only[za,zg,zc,g1,g2];exact⟨g,true,rfl,rfl,fun _=>g3⟩
  ·rw[zd h2,ze h3];exact⟨_,_,rfl,rfl,fun h=>by cases h⟩
 ·have hf:zBO p=some false:=by
   unfold zBO;rw[zG,zd (by omega)];rfl
  rw[ze h2,zd (by omega)];simp only[zb,zc,hf,za];exact⟨_,_,rfl,rfl,fun h=>by cases h⟩
end Go.Proofs.YtahdjphocippeaaGreatDoor
