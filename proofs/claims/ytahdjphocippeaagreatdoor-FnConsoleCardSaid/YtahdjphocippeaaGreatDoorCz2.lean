/-
  Rules of walks, plain functions and their laws, part 2.
  Conditions: none.
-/
import GoSem.Core.Utf8
import Derived.Test.YtahdjphocippeaaGreatDoorCz1
set_option linter.unusedSimpArgs false
set_option linter.unusedVariables false
namespace Go.Proofs.YtahdjphocippeaaGreatDoor
def zBA(b2:Int)(vs1:qf):Nat→Int→Int→List qf→Option (Int×(List qf))
 |0,_,_,_=>none
 |n+1,vfrom3,i4,l5=>
  bif (ltI i4 ((vs1.size:Int))) then
   (
    (getB vs1 i4).bind fun e9=>
    bif (eqI e9 b2) then
     (
      (slc vs1.size vfrom3 i4).bind fun u11=>
      (room (l5.length+([vs1.extract (Int.toNat vfrom3) (Int.toNat i4)]).length)).bind fun u12=>
      sI (w64 (i4+1)) fun vfrom13=>
      sI (w64 (i4+1)) fun i14=>
      zBA b2 vs1 n vfrom13 i14 (l5++([vs1.extract (Int.toNat vfrom3) (Int.toNat i4)]))
     )
    else
     (
      sI (w64 (i4+1)) fun i15=>
      zBA b2 vs1 n vfrom3 i15 l5
     )
   )
  else
   (
    some (vfrom3,l5)
   )
def zBJ(vs1:qf)(b2:Int):Option (List qf):=
 (zBA b2 vs1 FU 0 0 (([]:List qf))).bind fun o7=>
 (slc vs1.size o7.1 ((vs1.size:Int))).bind fun u16=>
 (room (o7.2.length+([vs1.extract (Int.toNat o7.1) (Int.toNat ((vs1.size:Int)))]).length)).bind fun u17=>
 (some (o7.2++([vs1.extract (Int.toNat o7.1) (Int.toNat ((vs1.size:Int)))]))).bind fun l18=>
 some l18
def zEK(vs1:qf)(bytes2:Int)(most3:Int):Option ((List qf)×Bool):=
 (bif (ltI bytes2 ((vs1.size:Int))) then some true else ((bif (!(vs1.toList==((⟨#[]⟩:qf)).toList)) then ((getB vs1 (w64 (((vs1.size:Int)) - 1))).bind fun e6=>some (!eqI e6 10)) else some false).bind fun b7=>some b7)).bind fun b8=>
 bif b8 then
  (
   some ((([]:List qf),false))
  )
 else
  (
   (zBJ vs1 10).bind fun y10=>
   (slc y10.length 0 (w64 (((y10.length:Int)) - 1))).bind fun u11=>
   (some (leI (((subl y10 0 (w64 (((y10.length:Int)) - 1))).length:Int)) most3)).bind fun t12=>
   some ((subl y10 0 (w64 (((y10.length:Int)) - 1)),t12))
  )
def zF4:Option ((Int×qf×(List (Int×Int×Int)))×(List (Int×qf×(List (Int×Int×Int))))):=
 some (((-23,qg,([]:List (Int×Int×Int))),([]:List (Int×qf×(List (Int×Int×Int))))))
def zDa(word1:qf):Option (qf×Bool):=
 (some (word1.toList==((⟨#[100,105,115,99]⟩:qf)).toList)).bind fun t2=>
 bif t2 then
  (
   some (((⟨#[110]⟩:qf),true))
  )
 else
  (
   bif (word1.toList==((⟨#[115,101,116]⟩:qf)).toList) then
    (
     some (((⟨#[108,102]⟩:qf),true))
    )
   else
    (
     (
      (some (word1.toList==((⟨#[112,114,105,109,101]⟩:qf)).toList)).bind fun t6=>
      bif t6 then
       (
        some t6
       )
      else
       (
        (some (word1.toList==((⟨#[118,97,108,117,101]⟩:qf)).toList)).bind fun t8=>
        some t8
       )
     ).bind fun j5=>
     bif j5 then
      (
       some (((⟨#[108,110]⟩:qf),true))
      )
     else
      (
       bif (word1.toList==((⟨#[109,117,108]⟩:qf)).toList) then
        (
         some (((⟨#[108,108,108]⟩:qf),true))
        )
       else
        (
         bif (word1.toList==((⟨#[112,111,119]⟩:qf)).toList) then
          (
           some (((⟨#[108,108,110]⟩:qf),true))
          )
         else
          (
           (some (word1.toList==((⟨#[115,97,109,101]⟩:qf)).toList)).bind fun t12=>
           bif t12 then
            (
             some (((⟨#[108,108]⟩:qf),true))
            )
           else
            (
             (
              (some (word1.toList==((⟨#[102,114,101,101]⟩:qf)).toList)).bind fun t15=>
              bif t15 then
               (
                some t15
               )
              else
               (
                (some (word1.toList==((⟨#[115,104,111,119]⟩:qf)).toList)).bind fun t17=>
                bif t17 then
                 (
                  some t17
                 )
                else
                 (
                  (some (word1.toList==((⟨#[105,110,100,101,120]⟩:qf)).toList)).bind fun t19=>
                  bif t19 then
                   (
                    some t19
                   )
                  else
                   (
                    (some (word1.toList==((⟨#[111,114,100,101,114]⟩:qf)).toList)).bind fun t21=>
                    bif t21 then
                     (
                      some t21
                     )
                    else
                     (
                      (some (word1.toList==((⟨#[103,101,110,117,115]⟩:qf)).toList)).bind fun t23=>
                      some t23
                     )
                   )
                 )
               )
             ).bind fun j14=>
             bif j14 then
              (
               some (((⟨#[108]⟩:qf),true))
              )
             else
              (
               (some (word1.toList==((⟨#[110,97,109,101,115]⟩:qf)).toList)).bind fun t25=>
               bif t25 then
                (
                 bif t25 then
                  (
                   some (((⟨#[]⟩:qf),true))
                  )
                 else
                  (
                   some (((⟨#[]⟩:qf),false))
                  )
                )
               else
                (
                 (some (word1.toList==((⟨#[117,110,100,111]⟩:qf)).toList)).bind fun t28=>
                 bif t28 then
                  (
                   some (((⟨#[]⟩:qf),true))
                  )
                 else
                  (
                   some (((⟨#[]⟩:qf),false))
                  )
                )
              )
            )
          )
        )
      )
    )
  )
def zAS(w1:qf):Option Bool:=
 (bif (eqI ((w1.size:Int)) 1) then ((getB w1 0).bind fun e3=>some (leI 97 e3)) else some false).bind fun b4=>
 (bif b4 then ((getB w1 0).bind fun e6=>some (leI e6 122)) else some false).bind fun b7=>
 some b7
def zBn(vs1:qf)(first2:Int)(last3:Int):Option (qf×Bool):=
 (bif (ltI ((vs1.size:Int)) 2) then some true else ((getB vs1 0).bind fun e5=>some (!eqI e5 first2))).bind fun b6=>
 (bif b6 then some true else ((getB vs1 (w64 (((vs1.size:Int)) - 1))).bind fun e8=>some (!eqI e8 last3))).bind fun b9=>
 bif b9 then
  (
   some (((⟨#[]⟩:qf),false))
  )
 else
  (
   (slc vs1.size 1 (w64 (((vs1.size:Int)) - 1))).bind fun u11=>
   some ((vs1.extract (Int.toNat 1) (Int.toNat (w64 (((vs1.size:Int)) - 1))),true))
  )
def zBZ(vn1:Int)(lo2:Int)(hi3:Int):Option Bool:=
 some (bif (leI lo2 vn1) then (leI vn1 hi3) else false)
def zBb(vs1:qf):Nat→Int→Int→Option (Int ⊕ Int)
 |0,_,_=>none
 |n+1,vn8,i9=>
  bif (ltI i9 ((vs1.size:Int))) then
   (
    (getB vs1 i9).bind fun e13=>
    (bif (ltI e13 48) then some true else ((getB vs1 i9).bind fun e15=>some (ltI 57 e15))).bind fun b16=>
    bif b16 then
     (
      some (.inr ((-1)))
     )
    else
     (
      (getB vs1 i9).bind fun e18=>
      sI (w64 ((w64 (10*vn8))+(IntKind.i64.wrap (IntKind.u8.wrap (e18 - 48))))) fun vn19=>
      sI (w64 (i9+1)) fun i20=>
      zBb vs1 n vn19 i20
     )
   )
  else
   (
    some (.inl vn8)
   )
def zGF(vs1:qf):Option Int:=
 (zBZ ((vs1.size:Int)) 1 10).bind fun y2=>
 (bif (!y2) then some true else ((getB vs1 0).bind fun e4=>some (bif (eqI e4 48) then (ltI 1 ((vs1.size:Int))) else false))).bind fun b6=>
 bif b6 then
  (
   some (-1)
  )
 else
  (
   (zBb vs1 FU 0 0).bind fun qo11=>
   match qo11 with
   | .inr r=>some r
   | .inl o11=>some o11
  )
def zBc(vs1:qf):Option (Int×Bool):=
 (bif (ltI 1 ((vs1.size:Int))) then ((getB vs1 0).bind fun e3=>some (eqI e3 45)) else some false).bind fun b4=>
 (
  bif b4 then
   (
    (slc vs1.size 1 ((vs1.size:Int))).bind fun u7=>
    some (vs1.extract (Int.toNat 1) (Int.toNat ((vs1.size:Int))))
   )
  else
   (
    some vs1
   )
 ).bind fun j5=>
 (zGF j5).bind fun y8=>
 (some (bif (bif (ltI y8 0) then true else (bif b4 then (eqI y8 0) else false)) then true else (ltI 1000000 y8))).bind fun t12=>
 bif t12 then
  (
   some ((0,false))
  )
 else
  (
   bif b4 then
    (
     sI (w64 (0 - y8)) fun t15=>
     some ((t15,true))
    )
   else
    (
     some ((y8,true))
    )
  )
def zAp(y4:List qf):Nat→Int→List Int→Option (List Int ⊕ List Int)
 |0,_,_=>none
 |n+1,t6,l7=>
  bif (ltI t6 ((y4.length:Int))) then
   (
    (getI y4 t6).bind fun e11=>
    (getI y4 t6).bind fun e12=>
    (zBc e12).bind fun y13=>
    bif (!y13.2) then
     (
      some (.inr ((([]:List Int))))
     )
    else
     (
      (room (l7.length+([y13.1]).length)).bind fun u15=>
      sI (w64 (t6+1)) fun t16=>
      zAp y4 n t16 (l7++([y13.1]))
     )
   )
  else
   (
    some (.inl l7)
   )
def zCI(vs1:qf)(b2:Int)(count3:Int):Option (List Int):=
 (zBJ vs1 b2).bind fun y4=>
 bif (!eqI ((y4.length:Int)) count3) then
  (
   some (([]:List Int))
  )
 else
  (
   (zAp y4 FU 0 (([]:List Int))).bind fun qo9=>
   match qo9 with
   | .inr r=>some r
   | .inl o9=>some o9
  )
def zCH(vs1:qf):Option ((Int×Int×Int)×Bool):=
 (zBn vs1 40 41).bind fun y2=>
 (zCI y2.1 44 3).bind fun y3=>
 bif (bif (!y2.2) then true else (!eqI ((y3.length:Int)) 3)) then
  (
   some (((0,0,0),false))
  )
 else
  (
   (getI y3 0).bind fun e6=>
   (getI y3 0).bind fun e7=>
   (getI y3 1).bind fun e8=>
   (getI y3 1).bind fun e9=>
   (getI y3 2).bind fun e10=>
   (getI y3 2).bind fun e11=>
   some (((e7,e9,e11),true))
  )
def jG(y2:List qf)(y5:(qf×Bool)):Nat→Bool→Int→List qf→Int→Int→Int→Int→Option (Bool×(List qf)×Int×Int×Int×Int)
 |0,_,_,_,_,_,_,_=>none
 |n+1,ok9,i10,l11,f12,f13,f14,f15=>
  bif (ltI i10 ((y5.1.size:Int))) then
   (
    (getI y2 (w64 (i10+1))).bind fun e19=>
    (getI y2 (w64 (i10+1))).bind fun e20=>
    (zAS e20).bind fun y21=>
    (getB y5.1 i10).bind fun e22=>
    bif (eqI e22 108) then
     (
      (getI y2 (w64 (i10+1))).bind fun e24=>
      (getI y2 (w64 (i10+1))).bind fun e25=>
      (room (l11.length+([e25]).length)).bind fun u26=>
      sI (w64 (i10+1)) fun i28=>
      jG y2 y5 n (bif ok9 then y21 else false) i28 (l11++([e25])) f12 f13 f14 f15
     )
    else
     (
      bif (eqI e22 102) then
       (
        (getI y2 (w64 (i10+1))).bind fun e30=>
        (getI y2 (w64 (i10+1))).bind fun e31=>
        (zCH e31).bind fun y32=>
        sI (w64 (i10+1)) fun i34=>
        jG y2 y5 n (bif ok9 then y32.2 else false) i34 l11 y32.1.1 y32.1.2.1 y32.1.2.2 f15
       )
      else
       (
        (getI y2 (w64 (i10+1))).bind fun e35=>
        (getI y2 (w64 (i10+1))).bind fun e36=>
        (zBc e36).bind fun y37=>
        sI (w64 (i10+1)) fun i39=>
        jG y2 y5 n (bif ok9 then y37.2 else false) i39 l11 f12 f13 f14 y37.1
       )
     )
   )
  else
   (
    some (ok9,l11,f12,f13,f14,f15)
   )
def qL(t1:qf):Option (qf×((List qf)×(Int×Int×Int)×Int)×Bool):=
 (zBJ t1 32).bind fun y2=>
 (getI y2 0).bind fun e3=>
 (getI y2 0).bind fun e4=>
 (zDa e4).bind fun y5=>
 (some (bif (!y5.2) then true else (!eqI ((y2.length:Int)) (w64 (((y5.1.size:Int))+1))))).bind fun t7=>
 bif t7 then
  (
   some (((⟨#[]⟩:qf),(([]:List qf),(0,0,0),0),false))
  )
 else
  (
   (jG y2 y5 FU y5.2 0 (([]:List qf)) 0 0 0 0).bind fun o17=>
   (getI y2 0).bind fun e40=>
   (getI y2 0).bind fun e41=>
   some ((e41,(o17.2.1,(o17.2.2.1,o17.2.2.2.1,o17.2.2.2.2.1),o17.2.2.2.2.2),o17.1))
  )
def jS(a1:Int)(vm2:Int):Option Int:=
 (nz vm2).bind fun z3=>
 sI (Int.tmod a1 vm2) fun vr4=>
 bif (ltI vr4 0) then
  (
   sI (w64 (vr4+vm2)) fun vr6=>
   some vr6
  )
 else
  (
   some vr4
  )
def zCh(d1:Int):Option Bool:=
 (zBZ d1 (-2000) (-3)).bind fun y2=>
 (bif y2 then ((jS d1 4).bind fun y4=>some (ltI y4 2)) else some false).bind fun b5=>
 some b5
def jQ(x1:((Int×qf×(List (Int×Int×Int)))×(List (Int×qf×(List (Int×Int×Int))))))(vs2:(Int×qf×(List (Int×Int×Int)))):Option (qf×((Int×qf×(List (Int×Int×Int)))×(List (Int×qf×(List (Int×Int×Int)))))):=
 (room (x1.2.length+([x1.1]).length)).bind fun u3=>
 some (((⟨#[111,107]⟩:qf),(vs2,x1.2++([x1.1]))))
def zBI(vn1:Int):Option Bool:=
 (zBZ vn1 (-1000000) 1000000).bind fun y2=>
 some y2
def zEB(f1:(Int×Int×Int)):Option Bool:=
 (zBI f1.1).bind fun y2=>
 (bif y2 then ((zBI f1.2.1).bind fun y4=>some y4) else some false).bind fun b5=>
 (bif b5 then ((zBI f1.2.2).bind fun y7=>some y7) else some false).bind fun b8=>
 some b8
def qX(f1:(Int×Int×Int)):Option Int:=
 sI (w64 ((w64 (f1.2.1*f1.2.1)) - (w64 ((w64 (4*f1.1))*f1.2.2)))) fun t2=>
 some t2
def zA1(f1:(Int×Int×Int)):Option Bool:=
 (zEB f1).bind fun y2=>
 (bif y2 then ((qX f1).bind fun y4=>some (ltI y4 0)) else some false).bind fun b5=>
 some (bif b5 then (ltI 0 f1.1) else false)
def zD0(f1:(Int×Int×Int)):Option Bool:=
 (zA1 f1).bind fun y2=>
 (bif y2 then ((qX f1).bind fun y4=>some (leI (-2000) y4)) else some false).bind fun b5=>
 some b5
def zD1(a1:Int)(b2:Int):Option Int:=
 bif (ltI b2 a1) then
  (
   some a1
  )
 else
  (
   some b2
  )
def zDj(vn1:Int):Option Int:=
 (zD1 vn1 (w64 (0 - vn1))).bind fun y2=>
 some y2
def zBR:Nat→Int→Int→Option Int
 |0,_,_=>none
 |n+1,a5,b6=>
  bif (!eqI b6 0) then
   (
    (nz b6).bind fun z10=>
    sI (Int.tmod a5 b6) fun b11=>
    zBR n b6 b11
   )
  else
   (
    some a5
   )
def zAo(a1:Int)(b2:Int):Option Int:=
 (zDj a1).bind fun y3=>
 (zDj b2).bind fun y4=>
 (zBR FU y3 y4).bind fun o8=>
 some o8
def zAD(f1:(Int×Int×Int)):Option Int:=
 (zAo f1.1 f1.2.1).bind fun y2=>
 (zAo y2 f1.2.2).bind fun y3=>
 some y3
def zEC(f1:(Int×Int×Int)):Option Bool:=
 (zD0 f1).bind fun y2=>
 (bif y2 then ((zAD f1).bind fun y4=>some (eqI y4 1)) else some false).bind fun b5=>
 some b5
def zDO(f1:(Int×Int×Int)):Option Bool:=
 (some (bif (bif (ltI (w64 (0 - f1.1)) f1.2.1) then (leI f1.2.1 f1.1) else false) then (bif (ltI f1.1 f1.2.2) then true else (bif (eqI f1.1 f1.2.2) then (leI 0 f1.2.1) else false)) else false)).bind fun t6=>
 some t6
def zEx(f1:(Int×Int×Int)):Option Int:=
 (jS (w64 (f1.1 - f1.2.1)) (w64 (2*f1.1))).bind fun y2=>
 (nz (w64 (2*f1.1))).bind fun z3=>
 sI (w64 (Int.tdiv (w64 ((w64 (f1.1 - f1.2.1)) - y2)) (w64 (2*f1.1)))) fun t4=>
 some t4
def zDz(f1:(Int×Int×Int)):Option (Int×Int×Int×Int):=
 (zEx f1).bind fun y2=>
 bif (!eqI y2 0) then
  (
   some ((1,y2,0,1))
  )
 else
  (
   (zDO f1).bind fun y4=>
   bif y4 then
    (
     some ((1,0,0,1))
    )
   else
    (
     some ((0,-1,1,0))
    )
  )
def zBK(f1:(Int×Int×Int))(x2:Int)(y3:Int):Option Int:=
 sI (w64 ((w64 ((w64 ((w64 (f1.1*x2))*x2))+(w64 ((w64 (f1.2.1*x2))*y3))))+(w64 ((w64 (f1.2.2*y3))*y3)))) fun t4=>
 some t4
def zDc(f1:(Int×Int×Int))(x2:Int)(y3:Int)(u4:Int)(v5:Int):Option Int:=
 sI (w64 ((w64 ((w64 ((w64 ((w64 (2*f1.1))*x2))*u4))+(w64 (f1.2.1*(w64 ((w64 (x2*v5))+(w64 (y3*u4))))))))+(w64 ((w64 ((w64 (2*f1.2.2))*y3))*v5)))) fun t6=>
 some t6
def zDk(f1:(Int×Int×Int))(vm2:(Int×Int×Int×Int)):Option (Int×Int×Int):=
 (zBK f1 vm2.1 vm2.2.2.1).bind fun y3=>
 (zDc f1 vm2.1 vm2.2.2.1 vm2.2.1 vm2.2.2.2).bind fun y4=>
 (zBK f1 vm2.2.1 vm2.2.2.2).bind fun y5=>
 some ((y3,y4,y5))
def qJ(vm1:(Int×Int×Int×Int))(vn2:(Int×Int×Int×Int)):Option (Int×Int×Int×Int):=
 sI (w64 ((w64 (vm1.1*vn2.1))+(w64 (vm1.2.1*vn2.2.2.1)))) fun f3=>
 sI (w64 ((w64 (vm1.1*vn2.2.1))+(w64 (vm1.2.1*vn2.2.2.2)))) fun f4=>
 sI (w64 ((w64 (vm1.2.2.1*vn2.1))+(w64 (vm1.2.2.2*vn2.2.2.1)))) fun f5=>
 sI (w64 ((w64 (vm1.2.2.1*vn2.2.1))+(w64 (vm1.2.2.2*vn2.2.2.2)))) fun f6=>
 some ((f3,f4,f5,f6))
def zCt:Nat→Int→Int→Int→Int→Int→Int→Int→Option (Int×Int×Int×Int×Int×Int×Int)
 |0,_,_,_,_,_,_,_=>none
 |n+1,f2,f3,f4,f5,f6,f7,f8=>
  (zDO ((f6,f7,f8))).bind fun y11=>
  bif (!y11) then
   (
    (zDz ((f6,f7,f8))).bind fun y13=>
    (zDk ((f6,f7,f8)) y13).bind fun y14=>
    (qJ ((f2,f3,f4,f5)) y13).bind fun y15=>
    zCt n y15.1 y15.2.1 y15.2.2.1 y15.2.2.2 y14.1 y14.2.1 y14.2.2
   )
  else
   (
    some (f2,f3,f4,f5,f6,f7,f8)
   )
def qI(f1:(Int×Int×Int)):Option ((Int×Int×Int)×(Int×Int×Int×Int)):=
 (zCt FU 1 0 0 1 f1.1 f1.2.1 f1.2.2).bind fun o10=>
 some ((o10.2.2.2.2,(o10.1,o10.2.1,o10.2.2.1,o10.2.2.2.1)))
def jR(f1:(Int×Int×Int)):Option (Int×Int×Int):=
 (qI f1).bind fun y2=>
 some y2.1
def zAO(name2:qf)(vs1:(Int×qf×(List (Int×Int×Int)))):Nat→Int→Option (Unit ⊕ Int)
 |0,_=>none
 |n+1,i3=>
  bif (ltI i3 ((vs1.2.1.size:Int))) then
   (
    (getB vs1.2.1 i3).bind fun e7=>
    (getB name2 0).bind fun e8=>
    bif (eqI e7 e8) then
     (
      some (.inr i3)
     )
    else
     (
      sI (w64 (i3+1)) fun i10=>
      zAO name2 vs1 n i10
     )
   )
  else
   (
    some (.inl ())
   )
def zAu(vs1:(Int×qf×(List (Int×Int×Int))))(name2:qf):Option Int:=
 (zAO name2 vs1 FU 0).bind fun qo5=>
 match qo5 with
 | .inr r=>some r
 | .inl o5=>some (-1)
def zAm(f3:(Int×Int×Int))(vn2:qf)(x1:((Int×qf×(List (Int×Int×Int)))×(List (Int×qf×(List (Int×Int×Int)))))):Nat→Int→Option Int
 |0,_=>none
 |n+1,k13=>
  (bif (ltI k13 ((x1.1.2.1.size:Int))) then ((getB x1.1.2.1 k13).bind fun e17=>(getB vn2 0).bind fun e18=>some (ltI e17 e18)) else some false).bind fun b19=>
  bif b19 then
   (
    sI (w64 (k13+1)) fun k21=>
    zAm f3 vn2 x1 n k21
   )
  else
   (
    some k13
   )
def jW(x1:((Int×qf×(List (Int×Int×Int)))×(List (Int×qf×(List (Int×Int×Int))))))(vn2:qf)(f3:(Int×Int×Int)):Option (qf×((Int×qf×(List (Int×Int×Int)))×(List (Int×qf×(List (Int×Int×Int)))))):=
 (room ((([]:List (Int×Int×Int))).length+x1.1.2.2.length)).bind fun u4=>
 (zAu x1.1 vn2).bind fun y5=>
 bif (leI 0 y5) then
  (
   (getI ((([]:List (Int×Int×Int)))++x1.1.2.2) y5).bind fun e7=>
   (getI ((([]:List (Int×Int×Int)))++x1.1.2.2) y5).bind fun e8=>
   (some (((([]:List (Int×Int×Int)))++x1.1.2.2).set (Int.toNat (y5)) f3)).bind fun l9=>
   (jQ x1 ((x1.1.1,x1.1.2.1,l9))).bind fun y10=>
   some ((y10.1,y10.2))
  )
 else
  (
   (some (leI 8 ((((([]:List (Int×Int×Int)))++x1.1.2.2).length:Int)))).bind fun t11=>
   bif t11 then
    (
     some (((⟨#[110,111]⟩:qf),x1))
    )
   else
    (
     (zAm f3 vn2 x1 FU 0).bind fun o15=>
     (slc ((([]:List (Int×Int×Int)))++x1.1.2.2).length 0 o15).bind fun u22=>
     (slc x1.1.2.2.length o15 ((x1.1.2.2.length:Int))).bind fun u23=>
     (room (([f3]).length+(subl x1.1.2.2 o15 ((x1.1.2.2.length:Int))).length)).bind fun u24=>
     (room ((subl ((([]:List (Int×Int×Int)))++x1.1.2.2) 0 o15).length+(([f3])++(subl x1.1.2.2 o15 ((x1.1.2.2.length:Int)))).length)).bind fun u25=>
     (some ((subl ((([]:List (Int×Int×Int)))++x1.1.2.2) 0 o15)++(([f3])++(subl x1.1.2.2 o15 ((x1.1.2.2.length:Int)))))).bind fun l26=>
     (slc x1.1.2.1.size 0 o15).bind fun u27=>
     (catR (x1.1.2.1.extract (Int.toNat 0) (Int.toNat o15)) vn2).bind fun u28=>
     (slc x1.1.2.1.size o15 ((x1.1.2.1.size:Int))).bind fun u29=>
     (catR ((x1.1.2.1.extract (Int.toNat 0) (Int.toNat o15))++vn2) (x1.1.2.1.extract (Int.toNat o15) (Int.toNat ((x1.1.2.1.size:Int))))).bind fun u30=>
     (jQ x1 ((x1.1.1,((x1.1.2.1.extract (Int.toNat 0) (Int.toNat o15))++vn2)++(x1.1.2.1.extract (Int.toNat o15) (Int.toNat ((x1.1.2.1.size:Int)))),l26))).bind fun y31=>
     some ((y31.1,y31.2))
    )
  )
def zDP(vn1:Int):Nat→Int→Option (Unit ⊕ Bool)
 |0,_=>none
 |n+1,d3=>
  bif (leI (w64 (d3*d3)) vn1) then
   (
    (nz d3).bind fun z7=>
    bif (eqI (Int.tmod vn1 d3) 0) then
     (
      some (.inr false)
     )
    else
     (
      sI (w64 (d3+1)) fun d9=>
      zDP vn1 n d9
     )
   )
  else
   (
    some (.inl ())
   )
def zEL(vn1:Int):Option Bool:=
 bif (ltI vn1 2) then
  (
   some false
  )
 else
  (
   (zDP vn1 FU 2).bind fun qo5=>
   match qo5 with
   | .inr r=>some r
   | .inl o5=>some true
  )
def zF6(p1:Int):Option Bool:=
 (zBZ p1 2 10000).bind fun y2=>
 (bif y2 then ((zEL p1).bind fun y4=>some y4) else some false).bind fun b5=>
 some b5
def zDb(d1:Int)(p2:Int):Nat→Int→Option (Unit ⊕ ((Int×Int×Int)×Bool))
 |0,_=>none
 |n+1,b3=>
  bif (leI b3 p2) then
   (
    (nz (w64 (4*p2))).bind fun z7=>
    bif (eqI (Int.tmod (w64 ((w64 (b3*b3)) - d1)) (w64 (4*p2))) 0) then
     (
      (nz (w64 (4*p2))).bind fun z9=>
      sI (w64 (Int.tdiv (w64 ((w64 (b3*b3)) - d1)) (w64 (4*p2)))) fun f10=>
      (zAD ((p2,b3,f10))).bind fun y11=>
      some (.inr ((((p2,b3,f10),eqI y11 1))))
     )
    else
     (
      sI (w64 (b3+1)) fun b12=>
      zDb d1 p2 n b12
     )
   )
  else
   (
    some (.inl ())
   )
def zGG(d1:Int)(p2:Int):Option ((Int×Int×Int)×Bool):=
 (zDb d1 p2 FU 0).bind fun qo5=>
 match qo5 with
 | .inr r=>some r
 | .inl o5=>some (((0,0,0),false))
def zDS(d1:Int)(p2:Int):Option ((Int×Int×Int)×Bool):=
 (zCh d1).bind fun y3=>
 (bif (!y3) then some true else ((zF6 p2).bind fun y5=>some (!y5))).bind fun b6=>
 bif b6 then
  (
   some (((0,0,0),false))
  )
 else
  (
   (zGG d1 p2).bind fun y8=>
   bif (!y8.2) then
    (
     some (((0,0,0),false))
    )
   else
    (
     (jR y8.1).bind fun y10=>
     some ((y10,true))
    )
  )
def zBV(x1:((Int×qf×(List (Int×Int×Int)))×(List (Int×qf×(List (Int×Int×Int))))))(vn2:qf):Option (qf×((Int×qf×(List (Int×Int×Int)))×(List (Int×qf×(List (Int×Int×Int)))))):=
 (zAu x1.1 vn2).bind fun y3=>
 bif (ltI y3 0) then
  (
   some (((⟨#[110,111]⟩:qf),x1))
  )
 else
  (
   (slc x1.1.2.2.length 0 y3).bind fun u5=>
   (room ((([]:List (Int×Int×Int))).length+(subl x1.1.2.2 0 y3).length)).bind fun u6=>
   (slc x1.1.2.2.length (w64 (y3+1)) ((x1.1.2.2.length:Int))).bind fun u7=>
   (room (((([]:List (Int×Int×Int)))++(subl x1.1.2.2 0 y3)).length+(subl x1.1.2.2 (w64 (y3+1)) ((x1.1.2.2.length:Int))).length)).bind fun u8=>
   (some (((([]:List (Int×Int×Int)))++(subl x1.1.2.2 0 y3))++(subl x1.1.2.2 (w64 (y3+1)) ((x1.1.2.2.length:Int))))).bind fun l9=>
   (slc x1.1.2.1.size 0 y3).bind fun u10=>
   (slc x1.1.2.1.size (w64 (y3+1)) ((x1.1.2.1.size:Int))).bind fun u11=>
   (catR (x1.1.2.1.extract (Int.toNat 0) (Int.toNat y3)) (x1.1.2.1.extract (Int.toNat (w64 (y3+1))) (Int.toNat ((x1.1.2.1.size:Int))))).bind fun u12=>
   (jQ x1 ((x1.1.1,(x1.1.2.1.extract (Int.toNat 0) (Int.toNat y3))++(x1.1.2.1.extract (Int.toNat (w64 (y3+1))) (Int.toNat ((x1.1.2.1.size:Int)))),l9))).bind fun y13=>
   some ((y13.1,y13.2))
  )
def zBv(x1:((Int×qf×(List (Int×Int×Int)))×(List (Int×qf×(List (Int×Int×Int)))))):Option (qf×((Int×qf×(List (Int×Int×Int)))×(List (Int×qf×(List (Int×Int×Int)))))):=
 bif (eqI ((x1.2.length:Int)) 0) then
  (
   some (((⟨#[110,111]⟩:qf),x1))
  )
 else
  (
   (getI x1.2 (w64 (((x1.2.length:Int)) - 1))).bind fun e3=>
   (getI x1.2 (w64 (((x1.2.length:Int)) - 1))).bind fun e4=>
   (slc x1.2.length 0 (w64 (((x1.2.length:Int)) - 1))).bind fun u5=>
   some (((⟨#[111,107]⟩:qf),(e4,subl x1.2 0 (w64 (((x1.2.length:Int)) - 1)))))
  )
def zCw(a2:Int)(g1:(Int×Int×Int))(k3:Int)(x7:Int):Nat→Int→Option (Unit ⊕ (Int×Int))
 |0,_=>none
 |n+1,y11=>
  bif (leI y11 k3) then
   (
    (zD1 x7 y11).bind fun y15=>
    (bif (eqI y15 k3) then ((zAo x7 y11).bind fun y17=>some (eqI y17 1)) else some false).bind fun b18=>
    (bif b18 then ((zBK g1 x7 y11).bind fun y20=>(zAo y20 a2).bind fun y21=>some (eqI y21 1)) else some false).bind fun b22=>
    bif b22 then
     (
      some (.inr (((x7,y11))))
     )
    else
     (
      sI (w64 (y11+1)) fun y24=>
      zCw a2 g1 k3 x7 n y24
     )
   )
  else
   (
    some (.inl ())
   )
def zDQ(a2:Int)(g1:(Int×Int×Int))(k3:Int):Nat→Int→Option (Unit ⊕ (Int×Int))
 |0,_=>none
 |n+1,x7=>
  bif (leI x7 k3) then
   (
    (zCw a2 g1 k3 x7 FU 0).bind fun qo13=>
    match qo13 with
    | .inr r=>some (.inr r)
    | .inl o13=>
     sI (w64 (x7+1)) fun x25=>
     zDQ a2 g1 k3 n x25
   )
  else
   (
    some (.inl ())
   )
def zDR(a2:Int)(g1:(Int×Int×Int)):Nat→Int→Option (Unit ⊕ (Int×Int))
 |0,_=>none
 |n+1,k3=>
  bif (leI k3 100) then
   (
    (zDQ a2 g1 k3 FU 0).bind fun qo9=>
    match qo9 with
    | .inr r=>some (.inr r)
    | .inl o9=>
     sI (w64 (k3+1)) fun k26=>
     zDR a2 g1 n k26
   )
  else
   (
    some (.inl ())
   )
def zCx(g1:(Int×Int×Int))(a2:Int):Option (Int×Int):=
 (zDR a2 g1 FU 1).bind fun qo5=>
 match qo5 with
 | .inr r=>some r
 | .inl o5=>some ((1,0))
def zIG(vn1:Int):Option Int:=
 bif (ltI 0 vn1) then
  (
   some 1
  )
 else
  (
   bif (ltI vn1 0) then
    (
     some (-1)
    )
   else
    (
     some 0
    )
  )
def zC7(vm2:Int):Nat→Int→Int→Int→Int→Option (Int×Int)
 |0,_,_,_,_=>none
 |n+1,vr4,next5,x6,y7=>
  bif (!eqI next5 0) then
   (
    (nz next5).bind fun z11=>
    sI (w64 (Int.tdiv vr4 next5)) fun q12=>
    sI (w64 (vr4 - (w64 (q12*next5)))) fun next13=>
    sI (w64 (x6 - (w64 (q12*y7)))) fun y14=>
    zC7 vm2 n next5 next13 y7 y14
   )
  else
   (
    some (vr4,x6)
   )
def zCm(a1:Int)(vm2:Int):Option Int:=
 (jS a1 vm2).bind fun y3=>
 (zC7 vm2 FU vm2 y3 0 1).bind fun o9=>
 bif (!eqI o9.1 1) then
  (
   some (-1)
  )
 else
  (
   (jS o9.2 vm2).bind fun y16=>
   some y16
  )
def zDv(a1:Int)(b2:Int):Option (Int×Int×Int):=
 (zAo a1 b2).bind fun y3=>
 bif (eqI b2 0) then
  (
   (zIG a1).bind fun y5=>
   some ((y3,y5,0))
  )
 else
  (
   (nz y3).bind fun z6=>
   (zDj b2).bind fun y7=>
   (nz y3).bind fun z8=>
   (zCm (w64 (Int.tdiv a1 y3)) (w64 (Int.tdiv y7 y3))).bind fun y9=>
   (nz b2).bind fun z10=>
   sI (w64 (Int.tdiv (w64 (y3 - (w64 (a1*y9)))) b2)) fun t11=>
   some ((y3,y9,t11))
  )
def zAz(f1:(Int×Int×Int))(x2:Int)(y3:Int):Option ((Int×Int×Int)×(Int×Int×Int×Int)):=
 (zDv x2 y3).bind fun y4=>
 (zBK f1 x2 y3).bind fun y5=>
 sI (w64 (0 - y4.2.2)) fun q6=>
 (zDc f1 x2 y3 q6 y4.2.1).bind fun y7=>
 (jS y7 (w64 (2*y5))).bind fun y8=>
 (nz (w64 (2*y5))).bind fun z9=>
 sI (w64 (Int.tdiv (w64 (y8 - y7)) (w64 (2*y5)))) fun t10=>
 sI (w64 (q6+(w64 (x2*t10)))) fun f11=>
 sI (w64 (y4.2.1+(w64 (y3*t10)))) fun f12=>
 sI (w64 (y7+(w64 ((w64 (2*y5))*t10)))) fun b13=>
 (qX f1).bind fun y14=>
 (nz (w64 (4*y5))).bind fun z15=>
 sI (w64 (Int.tdiv (w64 ((w64 (b13*b13)) - y14)) (w64 (4*y5)))) fun f16=>
 some (((y5,b13,f16),(x2,f11,y3,f12)))
def zDJ(a1:Int)(vm2:Int)(b3:Int)(vn4:Int):Option (Int×Int×Bool):=
 (zAo vm2 vn4).bind fun y5=>
 (nz y5).bind fun z6=>
 bif (!eqI (Int.tmod (w64 (b3 - a1)) y5) 0) then
  (
   some ((0,0,false))
  )
 else
  (
   (nz y5).bind fun z8=>
   (nz y5).bind fun z9=>
   (nz y5).bind fun z10=>
   (zCm (w64 (Int.tdiv vm2 y5)) (w64 (Int.tdiv vn4 y5))).bind fun y11=>
   (nz y5).bind fun z12=>
   (jS (w64 ((w64 (Int.tdiv (w64 (b3 - a1)) y5))*y11)) (w64 (Int.tdiv vn4 y5))).bind fun y13=>
   (nz y5).bind fun z14=>
   sI (w64 ((w64 (Int.tdiv vm2 y5))*vn4)) fun all15=>
   (jS (w64 (a1+(w64 (vm2*y13)))) all15).bind fun y16=>
   some ((y16,all15,true))
  )
def zEO(t1:Int):Option (Int×Int×Int×Int):=
 some ((1,t1,0,1))
def zCv(f1:(Int×Int×Int))(g2:(Int×Int×Int)):Option ((Int×Int×Int)×(Int×Int×Int)×(Int×Int×Int×Int)×(Int×Int×Int×Int)):=
 (qI f1).bind fun y3=>
 (qI g2).bind fun y4=>
 (zCx y4.1 y3.1.1).bind fun y5=>
 (zAz y4.1 y5.1 y5.2).bind fun y6=>
 (qJ y4.2 y6.2).bind fun y7=>
 (jS y3.1.2.1 (w64 (2*y3.1.1))).bind fun y8=>
 (zDJ y8 (w64 (2*y3.1.1)) y6.1.2.1 (w64 (2*y6.1.1))).bind fun y9=>
 (nz (w64 (2*y3.1.1))).bind fun z10=>
 (zEO (w64 (Int.tdiv (w64 (y9.1 - y3.1.2.1)) (w64 (2*y3.1.1))))).bind fun y11=>
 (qJ y3.2 y11).bind fun y12=>
 (nz (w64 (2*y6.1.1))).bind fun z13=>
 (zEO (w64 (Int.tdiv (w64 (y9.1 - y6.1.2.1)) (w64 (2*y6.1.1))))).bind fun y14=>
 (qJ y7 y14).bind fun y15=>
 (qX y3.1).bind fun y16=>
 (nz (w64 ((w64 (4*y3.1.1))*y6.1.1))).bind fun z17=>
 sI (w64 (Int.tdiv (w64 ((w64 (y9.1*y9.1)) - y16)) (w64 ((w64 (4*y3.1.1))*y6.1.1)))) fun cc18=>
 sI (w64 (y3.1.1*cc18)) fun f19=>
 sI (w64 (y6.1.1*cc18)) fun f20=>
 some (((y3.1.1,y9.1,f20),(y6.1.1,y9.1,f19),y12,y15))
def zEy(a1:(Int×Int×Int))(e2:(Int×Int×Int)):Option (Int×Int×Int):=
 (nz e2.1).bind fun z3=>
 sI (w64 (a1.1*e2.1)) fun f4=>
 sI (w64 (Int.tdiv a1.2.2 e2.1)) fun f5=>
 some ((f4,a1.2.1,f5))
def zA2(f1:(Int×Int×Int))(g2:(Int×Int×Int)):Option (Int×Int×Int):=
 (zCv f1 g2).bind fun y3=>
 (zEy y3.1 y3.2.1).bind fun y4=>
 (jR y4).bind fun y5=>
 some y5
def zEF(f1:(Int×Int×Int)):Option (Int×Int×Int):=
 sI (w64 (0 - f1.2.1)) fun f2=>
 some ((f1.1,f2,f1.2.2))
def zDe(f1:(Int×Int×Int)):Option (Int×Int×Int):=
 (zEF f1).bind fun y2=>
 (jR y2).bind fun y3=>
 some y3
def zE3(d1:Int):Option (Int×Int×Int):=
 (jS d1 2).bind fun y2=>
 sI (w64 (Int.tdiv (w64 (y2 - d1)) 4)) fun f3=>
 some ((1,y2,f3))
def zBx:Nat→Int→Int→Int→Int→Int→Int→Int→Option (Int×Int×Int)
 |0,_,_,_,_,_,_,_=>none
 |n+1,k10,f11,f12,f13,f14,f15,f16=>
  bif (ltI 0 k10) then
   (
    (
     bif (eqI (Int.tmod k10 2) 1) then
      (
       (zA2 ((f11,f12,f13)) ((f14,f15,f16))).bind fun y22=>
       some (y22.1,y22.2.1,y22.2.2)
      )
     else
      (
       some (f11,f12,f13)
      )
    ).bind fun j20=>
    (zA2 ((f14,f15,f16)) ((f14,f15,f16))).bind fun y23=>
    sI (w64 (Int.tdiv k10 2)) fun k24=>
    zBx n k24 j20.1 j20.2.1 j20.2.2 y23.1 y23.2.1 y23.2.2
   )
  else
   (
    some (f11,f12,f13)
   )
def zDd(f1:(Int×Int×Int))(k2:Int):Option (Int×Int×Int):=
 (jR f1).bind fun y3=>
 (
  bif (ltI k2 0) then
   (
    (zDe y3).bind fun y6=>
    sI (w64 (0 - k2)) fun k7=>
    some (k7,y6.1,y6.2.1,y6.2.2)
   )
  else
   (
    some (k2,y3.1,y3.2.1,y3.2.2)
   )
 ).bind fun j4=>
 (qX j4.2).bind fun y8=>
 (zE3 y8).bind fun y9=>
 (zBx FU j4.1 y9.1 y9.2.1 y9.2.2 j4.2.1 j4.2.2.1 j4.2.2.2).bind fun o18=>
 some o18
def zA0:Nat→Int→Option qf
 |0,_=>none
 |n+1,vn1=>
  bif (ltI vn1 10) then
   (
    some (zAy ([IntKind.u8.wrap (w64 (48+vn1))]))
   )
  else
   (
    (zA0 n (w64 (Int.tdiv vn1 10))).bind fun y3=>
    (catR y3 (zAy ([IntKind.u8.wrap (w64 (48+(Int.tmod vn1 10)))]))).bind fun u4=>
    some (y3++(zAy ([IntKind.u8.wrap (w64 (48+(Int.tmod vn1 10)))])))
   )
def jD(vn1:Int):Option qf:=
 bif (ltI vn1 0) then
  (
   (zA0 FU (w64 (0 - vn1))).bind fun y3=>
   (catR ((⟨#[45]⟩:qf)) y3).bind fun u4=>
   some (((⟨#[45]⟩:qf))++y3)
  )
 else
  (
   (zA0 FU vn1).bind fun y5=>
   some y5
  )
def zAV(f1:(Int×Int×Int)):Option qf:=
 (jD f1.1).bind fun y2=>
 (catR ((⟨#[40]⟩:qf)) y2).bind fun u3=>
 (catR (((⟨#[40]⟩:qf))++y2) ((⟨#[44]⟩:qf))).bind fun u4=>
 (jD f1.2.1).bind fun y5=>
 (catR ((((⟨#[40]⟩:qf))++y2)++((⟨#[44]⟩:qf))) y5).bind fun u6=>
 (catR (((((⟨#[40]⟩:qf))++y2)++((⟨#[44]⟩:qf)))++y5) ((⟨#[44]⟩:qf))).bind fun u7=>
 (jD f1.2.2).bind fun y8=>
 (catR ((((((⟨#[40]⟩:qf))++y2)++((⟨#[44]⟩:qf)))++y5)++((⟨#[44]⟩:qf))) y8).bind fun u9=>
 (catR (((((((⟨#[40]⟩:qf))++y2)++((⟨#[44]⟩:qf)))++y5)++((⟨#[44]⟩:qf)))++y8) ((⟨#[41]⟩:qf))).bind fun u10=>
 some ((((((((⟨#[40]⟩:qf))++y2)++((⟨#[44]⟩:qf)))++y5)++((⟨#[44]⟩:qf)))++y8)++((⟨#[41]⟩:qf)))
def zBw(a2:Int)(d1:Int):Nat→Int→List (Int×Int×Int)→Option (List (Int×Int×Int))
 |0,_,_=>none
 |n+1,b8,l9=>
  bif (leI b8 a2) then
   (
    (nz (w64 (4*a2))).bind fun z13=>
    sI (w64 (Int.tdiv (w64 ((w64 (b8*b8)) - d1)) (w64 (4*a2)))) fun f14=>
    (qX ((a2,b8,f14))).bind fun y15=>
    (bif (eqI y15 d1) then ((zDO ((a2,b8,f14))).bind fun y17=>some y17) else some false).bind fun b18=>
    bif b18 then
     (
      (room (l9.length+([(a2,b8,f14)]).length)).bind fun u20=>
      sI (w64 (b8+1)) fun b21=>
      zBw a2 d1 n b21 (l9++([(a2,b8,f14)]))
     )
    else
     (
      sI (w64 (b8+1)) fun b22=>
      zBw a2 d1 n b22 l9
     )
   )
  else
   (
    some l9
   )
def zC3(d1:Int):Nat→Int→List (Int×Int×Int)→Option (List (Int×Int×Int))
 |0,_,_=>none
 |n+1,a2,l3=>
  bif (leI (w64 ((w64 (3*a2))*a2)) (w64 (0 - d1))) then
   (
    sI (w64 (1 - a2)) fun b7=>
    (zBw a2 d1 FU b7 l3).bind fun o11=>
    sI (w64 (a2+1)) fun a23=>
    zC3 d1 n a23 o11
   )
  else
   (
    some l3
   )
def zF5(d1:Int):Option (List (Int×Int×Int)):=
 (zC3 d1 FU 1 (([]:List (Int×Int×Int)))).bind fun o5=>
 some o5
def zAn(y2:List (Int×Int×Int)):Nat→Int→List (Int×Int×Int)→Option (List (Int×Int×Int))
 |0,_,_=>none
 |n+1,t3,l4=>
  bif (ltI t3 ((y2.length:Int))) then
   (
    (getI y2 t3).bind fun e8=>
    (getI y2 t3).bind fun e9=>
    (zAD e9).bind fun y10=>
    bif (eqI y10 1) then
     (
      (room (l4.length+([e9]).length)).bind fun u12=>
      sI (w64 (t3+1)) fun t13=>
      zAn y2 n t13 (l4++([e9]))
     )
    else
     (
      sI (w64 (t3+1)) fun t14=>
      zAn y2 n t14 l4
     )
   )
  else
   (
    some l4
   )
def zCG(d1:Int):Option (List (Int×Int×Int)):=
 (zF5 d1).bind fun y2=>
 (zAn y2 FU 0 (([]:List (Int×Int×Int)))).bind fun o6=>
 some o6
def zCR(f2:(Int×Int×Int))(l1:List (Int×Int×Int)):Nat→Int→Option (Unit ⊕ Int)
 |0,_=>none
 |n+1,t3=>
  bif (ltI t3 ((l1.length:Int))) then
   (
    (getI l1 t3).bind fun e7=>
    (some (((e7.1==f2.1)&&((e7.2.1==f2.2.1)&&(e7.2.2==f2.2.2))))).bind fun t8=>
    bif t8 then
     (
      some (.inr t3)
     )
    else
     (
      sI (w64 (t3+1)) fun t10=>
      zCR f2 l1 n t10
     )
   )
  else
   (
    some (.inl ())
   )
def zEN(l1:List (Int×Int×Int))(f2:(Int×Int×Int)):Option Int:=
 (zCR f2 l1 FU 0).bind fun qo5=>
 match qo5 with
 | .inr r=>some r
 | .inl o5=>some (-1)
def zCS(y2:(Int×Int×Int)):Nat→Int→Int→Int→Int→Option Int
 |0,_,_,_,_=>none
 |n+1,k3,f4,f5,f6=>
  (qX y2).bind fun y9=>
  (zE3 y9).bind fun y10=>
  bif (!((f4==y10.1)&&((f5==y10.2.1)&&(f6==y10.2.2)))) then
   (
    (zA2 ((f4,f5,f6)) y2).bind fun y12=>
    sI (w64 (k3+1)) fun k13=>
    zCS y2 n k13 y12.1 y12.2.1 y12.2.2
   )
  else
   (
    some k3
   )
def zEP(f1:(Int×Int×Int)):Option Int:=
 (jR f1).bind fun y2=>
 (zCS y2 FU 1 y2.1 y2.2.1 y2.2.2).bind fun o8=>
 some o8
def zFD(f1:(Int×Int×Int))(vr3:Int)(x6:Int)(y2:Int):Nat→Int→Option (Unit ⊕ Int)
 |0,_=>none
 |n+1,y10=>
  bif (leI y10 vr3) then
   (
    (zBK f1 x6 y10).bind fun y14=>
    (bif (bif (eqI x6 vr3) then true else (eqI y10 vr3)) then ((zAo y14 (w64 (2*y2))).bind fun y17=>some (eqI y17 1)) else some false).bind fun b18=>
    bif b18 then
     (
      some (.inr y14)
     )
    else
     (
      sI (w64 (y10+1)) fun y20=>
      zFD f1 vr3 x6 y2 n y20
     )
   )
  else
   (
    some (.inl ())
   )
def zF7(f1:(Int×Int×Int))(vr3:Int)(y2:Int):Nat→Int→Option (Unit ⊕ Int)
 |0,_=>none
 |n+1,x6=>
  bif (leI x6 vr3) then
   (
    (zFD f1 vr3 x6 y2 FU 0).bind fun qo12=>
    match qo12 with
    | .inr r=>some (.inr r)
    | .inl o12=>
     sI (w64 (x6+1)) fun x21=>
     zF7 f1 vr3 y2 n x21
   )
  else
   (
    some (.inl ())
   )
def zF8(f1:(Int×Int×Int))(y2:Int):Nat→Int→Option (Unit ⊕ Int)
 |0,_=>none
 |n+1,vr3=>
  (zF7 f1 vr3 y2 FU 0).bind fun qo8=>
  match qo8 with
  | .inr r=>some (.inr r)
  | .inl o8=>
   sI (w64 (vr3+1)) fun vr22=>
   zF8 f1 y2 n vr22
def zHQ(f1:(Int×Int×Int)):Option Int:=
 (qX f1).bind fun y2=>
 (zF8 f1 y2 FU 1).bind fun qo5=>
 match qo5 with
 | .inr r=>some r
 | .inl _=>none
def zEM(d3:Int):Nat→Int→List Int→Option (Int×(List Int))
 |0,_,_=>none
 |n+1,vn8,l9=>
  (nz d3).bind fun z12=>
  bif (eqI (Int.tmod vn8 d3) 0) then
   (
    (room (l9.length+([d3]).length)).bind fun u14=>
    (nz d3).bind fun z15=>
    sI (w64 (Int.tdiv vn8 d3)) fun vn16=>
    zEM d3 n vn16 (l9++([d3]))
   )
  else
   (
    some (vn8,l9)
   )
def zEk:Nat→Int→Int→List Int→Option (Int×(List Int))
 |0,_,_,_=>none
 |n+1,vn2,d3,l4=>
  bif (leI (w64 (d3*d3)) vn2) then
   (
    (zEM d3 FU vn2 l4).bind fun o11=>
    sI (w64 (d3+1)) fun d17=>
    zEk n o11.1 d17 o11.2
   )
  else
   (
    some (vn2,l4)
   )
def zFz(vn1:Int):Option (List Int):=
 (zEk FU vn1 2 (([]:List Int))).bind fun o6=>
 bif (ltI 1 o6.1) then
  (
   (room (o6.2.length+([o6.1]).length)).bind fun u19=>
   some (o6.2++([o6.1]))
  )
 else
  (
   some o6.2
  )
def zG7(l1:List Int)(vn2:Int):Nat→Int→Option Int
 |0,_=>none
 |n+1,k3=>
  (bif (ltI k3 ((l1.length:Int))) then ((getI l1 k3).bind fun e7=>some (ltI e7 vn2)) else some false).bind fun b8=>
  bif b8 then
   (
    sI (w64 (k3+1)) fun k10=>
    zG7 l1 vn2 n k10
   )
  else
   (
    some k3
   )
def zIn(l1:List Int)(vn2:Int):Option (List Int):=
 (zG7 l1 vn2 FU 0).bind fun o5=>
 (bif (ltI o5 ((l1.length:Int))) then ((getI l1 o5).bind fun e12=>some (eqI e12 vn2)) else some false).bind fun b13=>
 bif b13 then
  (
   some l1
  )
 else
  (
   (slc l1.length 0 o5).bind fun u15=>
   (room ((([]:List Int)).length+(subl l1 0 o5).length)).bind fun u16=>
   (room (((([]:List Int))++(subl l1 0 o5)).length+([vn2]).length)).bind fun u17=>
   (slc l1.length o5 ((l1.length:Int))).bind fun u18=>
   (room ((((([]:List Int))++(subl l1 0 o5))++([vn2])).length+(subl l1 o5 ((l1.length:Int))).length)).bind fun u19=>
   (some ((((([]:List Int))++(subl l1 0 o5))++([vn2]))++(subl l1 o5 ((l1.length:Int))))).bind fun l20=>
   some l20
  )
def zFC(y2:List Int):Nat→List Int→Int→Option (List Int)
 |0,_,_=>none
 |n+1,out3,t4=>
  bif (ltI t4 ((y2.length:Int))) then
   (
    (getI y2 t4).bind fun e8=>
    (getI y2 t4).bind fun e9=>
    (zIn out3 e9).bind fun y10=>
    sI (w64 (t4+1)) fun t11=>
    zFC y2 n y10 t11
   )
  else
   (
    some out3
   )
def zG6(vn1:Int):Option (List Int):=
 (zFz vn1).bind fun y2=>
 (zFC y2 FU (([]:List Int)) 0).bind fun o6=>
 some o6
def zEz(d1:Int)(y2:List Int):Nat→Int→List (Int×Int)→Option (List (Int×Int))
 |0,_,_=>none
 |n+1,t3,l4=>
  bif (ltI t3 ((y2.length:Int))) then
   (
    (getI y2 t3).bind fun e8=>
    bif (ltI 2 e8) then
     (
      (room (l4.length+([(1,e8)]).length)).bind fun u10=>
      sI (w64 (t3+1)) fun t11=>
      zEz d1 y2 n t11 (l4++([(1,e8)]))
     )
    else
     (
      sI (w64 (t3+1)) fun t12=>
      zEz d1 y2 n t12 l4
     )
   )
  else
   (
    some l4
   )
def zIp(d1:Int):Option (List (Int×Int)):=
 (zG6 (w64 (0 - d1))).bind fun y2=>
 (zEz d1 y2 FU 0 (([]:List (Int×Int)))).bind fun o6=>
 bif (!eqI (Int.tmod d1 2) 0) then
  (
   some o6
  )
 else
  (
   sI (w64 (Int.tdiv (w64 (0 - d1)) 4)) fun vn14=>
   bif (eqI (Int.tmod vn14 4) 3) then
    (
     some o6
    )
   else
    (
     (some (bif (eqI (Int.tmod vn14 4) 1) then true else (eqI (Int.tmod vn14 8) 4))).bind fun t17=>
     bif t17 then
      (
       (room (o6.length+([(2,0)]).length)).bind fun u19=>
       some (o6++([(2,0)]))
      )
     else
      (
       bif (eqI (Int.tmod vn14 8) 2) then
        (
         (room (o6.length+([(4,0)]).length)).bind fun u21=>
         some (o6++([(4,0)]))
        )
       else
        (
         bif (eqI (Int.tmod vn14 8) 6) then
          (
           (room (o6.length+([(3,0)]).length)).bind fun u23=>
           some (o6++([(3,0)]))
          )
         else
          (
           (room (o6.length+([(2,0),(3,0)]).length)).bind fun u24=>
           some (o6++([(2,0),(3,0)]))
          )
        )
      )
    )
  )
def zIm(vs1:(Int×Int×Int)):Option Bool:=
 some (bif (eqI vs1.1 0) then true else (eqI vs1.1 1))
def zGs(a1:Int):Option Int:=
 (jS a1 8).bind fun y2=>
 bif (eqI y2 1) then
  (
   bif (eqI y2 1) then
    (
     some 1
    )
   else
    (
     bif (eqI y2 3) then
      (
       bif (eqI y2 3) then
        (
         some (-1)
        )
       else
        (
         some 0
        )
      )
     else
      (
       bif (eqI y2 5) then
        (
         some (-1)
        )
       else
        (
         some 0
        )
      )
    )
  )
 else
  (
   bif (eqI y2 7) then
    (
     some 1
    )
   else
    (
     bif (eqI y2 3) then
      (
       bif (eqI y2 3) then
        (
         some (-1)
        )
       else
        (
         some 0
        )
      )
     else
      (
       bif (eqI y2 5) then
        (
         some (-1)
        )
       else
        (
         some 0
        )
      )
    )
  )
def zFA(vs1:(Int×Int×Int)):Option (Int×Int×Int):=
 (zBZ vs1.1 0 (w64 (vs1.2.1 - 1))).bind fun y2=>
 bif (!y2) then
  (
   (jS vs1.1 vs1.2.1).bind fun y4=>
   some ((y4,vs1.2.1,vs1.2.2))
  )
 else
  (
   bif (eqI (Int.tmod vs1.1 2) 0) then
    (
     sI (w64 (Int.tdiv vs1.1 2)) fun f6=>
     (zGs vs1.2.1).bind fun y7=>
     sI (w64 (vs1.2.2*y7)) fun f8=>
     some ((f6,vs1.2.1,f8))
    )
   else
    (
     (
      (some (bif (eqI (Int.tmod vs1.1 4) 3) then (eqI (Int.tmod vs1.2.1 4) 3) else false)).bind fun t11=>
      bif t11 then
       (
        sI (w64 (0 - vs1.2.2)) fun f13=>
        some f13
       )
      else
       (
        some vs1.2.2
       )
     ).bind fun j9=>
     some ((vs1.2.1,vs1.1,j9))
    )
  )
def zFB:Nat→Int→Int→Int→Option (Int×Int×Int)
 |0,_,_,_=>none
 |n+1,f3,f4,f5=>
  (zIm ((f3,f4,f5))).bind fun y8=>
  bif (!y8) then
   (
    (zFA ((f3,f4,f5))).bind fun y10=>
    zFB n y10.1 y10.2.1 y10.2.2
   )
  else
   (
    some (f3,f4,f5)
   )
def zG5(a1:Int)(vn2:Int):Option Int:=
 (zFB FU a1 vn2 1).bind fun o7=>
 bif (bif (eqI o7.1 0) then (ltI 1 o7.2.1) else false) then
  (
   some 0
  )
 else
  (
   some o7.2.2
  )
def zKB(x1:(Int×Int))(vn2:Int):Option Int:=
 bif (eqI x1.1 1) then
  (
   (zG5 vn2 x1.2).bind fun y4=>
   some y4
  )
 else
  (
   bif (eqI (Int.tmod vn2 2) 0) then
    (
     some 0
    )
   else
    (
     (jS vn2 4).bind fun y6=>
     (zGs vn2).bind fun y7=>
     sI (w64 (2 - y6)) fun delta8=>
     bif (eqI x1.1 2) then
      (
       some delta8
      )
     else
      (
       bif (eqI x1.1 3) then
        (
         some y7
        )
       else
        (
         sI (w64 (delta8*y7)) fun t11=>
         some t11
        )
      )
    )
  )
def zGA(vn2:Int)(y3:List (Int×Int)):Nat→Int→List Int→Option (List Int)
 |0,_,_=>none
 |n+1,t4,l5=>
  bif (ltI t4 ((y3.length:Int))) then
   (
    (getI y3 t4).bind fun e9=>
    (getI y3 t4).bind fun e10=>
    (zKB e10 vn2).bind fun y11=>
    (room (l5.length+([y11]).length)).bind fun u12=>
    sI (w64 (t4+1)) fun t13=>
    zGA vn2 y3 n t13 (l5++([y11]))
   )
  else
   (
    some l5
   )
def zIH(d1:Int)(vn2:Int):Option (List Int):=
 (zIp d1).bind fun y3=>
 (zGA vn2 y3 FU 0 (([]:List Int))).bind fun o7=>
 some o7
def zFP(f1:(Int×Int×Int)):Option (List Int):=
 (qX f1).bind fun y2=>
 (jR f1).bind fun y3=>
 (zHQ y3).bind fun y4=>
 (zIH y2 y4).bind fun y5=>
 some y5
def zF3(vn1:Int):Option Bool:=
 (zBZ vn1 1 10000).bind fun y2=>
 some y2
def zCl(vn1:Int):Nat→Int→Int→Option Int
 |0,_,_=>none
 |n+1,lo2,hi3=>
  bif (ltI lo2 hi3) then
   (
    sI (w64 (Int.tdiv (w64 ((w64 (lo2+hi3))+1)) 2)) fun mid7=>
    bif (leI (w64 (mid7*mid7)) vn1) then
     (
      zCl vn1 n mid7 hi3
     )
    else
     (
      sI (w64 (mid7 - 1)) fun hi9=>
      zCl vn1 n lo2 hi9
     )
   )
  else
   (
    some lo2
   )
def zEr(vn1:Int):Option Int:=
 (zCl vn1 FU 0 1000000000).bind fun o5=>
 some o5
def zDI(l1:List (Int×Int))(p2:(Int×Int)):Nat→Int→Option (Unit ⊕ Bool)
 |0,_=>none
 |n+1,t3=>
  bif (ltI t3 ((l1.length:Int))) then
   (
    (getI l1 t3).bind fun e7=>
    bif (((e7.1==p2.1)&&(e7.2==p2.2))) then
     (
      some (.inr true)
     )
    else
     (
      sI (w64 (t3+1)) fun t9=>
      zDI l1 p2 n t9
     )
   )
  else
   (
    some (.inl ())
   )
def zDi(l1:List (Int×Int))(p2:(Int×Int)):Option Bool:=
 (zDI l1 p2 FU 0).bind fun qo5=>
 match qo5 with
 | .inr r=>some r
 | .inl o5=>some false
def zDH(l1:List (Int×Int))(p2:(Int×Int)):Nat→Int→Option Int
 |0,_=>none
 |n+1,k3=>
  (bif (ltI k3 ((l1.length:Int))) then ((getI l1 k3).bind fun e7=>(bif (ltI e7.1 p2.1) then some true else ((getI l1 k3).bind fun e9=>(bif (eqI e9.1 p2.1) then ((getI l1 k3).bind fun e11=>some (ltI e11.2 p2.2)) else some false).bind fun b12=>some b12)).bind fun b13=>some b13) else some false).bind fun b14=>
  bif b14 then
   (
    sI (w64 (k3+1)) fun k16=>
    zDH l1 p2 n k16
   )
  else
   (
    some k3
   )
def zE1(l1:List (Int×Int))(p2:(Int×Int)):Option (List (Int×Int)):=
 (zDH l1 p2 FU 0).bind fun o5=>
 (slc l1.length 0 o5).bind fun u17=>
 (room ((([]:List (Int×Int))).length+(subl l1 0 o5).length)).bind fun u18=>
 (room (((([]:List (Int×Int)))++(subl l1 0 o5)).length+([p2]).length)).bind fun u19=>
 (slc l1.length o5 ((l1.length:Int))).bind fun u20=>
 (room ((((([]:List (Int×Int)))++(subl l1 0 o5))++([p2])).length+(subl l1 o5 ((l1.length:Int))).length)).bind fun u21=>
 (some ((((([]:List (Int×Int)))++(subl l1 0 o5))++([p2]))++(subl l1 o5 ((l1.length:Int))))).bind fun l22=>
 some l22
def zAR(e21:Int)(f1:(Int×Int×Int))(t14:Int)(t16:Int)(t22:Int)(vn2:Int)(y10:Int)(y3:Int)(y4:Int):Nat→List (Int×Int)→Int→Option (List (Int×Int))
 |0,_,_=>none
 |n+1,out23,t24=>
  bif (ltI t24 t22) then
   (
    (getI ([y10,w64 (0 - y10)]:List Int) t24).bind fun e28=>
    (getI ([y10,w64 (0 - y10)]:List Int) t24).bind fun e29=>
    (nz (w64 (2*f1.1))).bind fun z30=>
    (some (eqI (Int.tmod (w64 (e29 - (w64 (f1.2.1*e21)))) (w64 (2*f1.1))) 0)).bind fun t31=>
    bif t31 then
     (
      (nz (w64 (2*f1.1))).bind fun z33=>
      sI (w64 (Int.tdiv (w64 (e29 - (w64 (f1.2.1*e21)))) (w64 (2*f1.1)))) fun f34=>
      (zDi out23 ((f34,e21))).bind fun y35=>
      bif (!y35) then
       (
        (zE1 out23 ((f34,e21))).bind fun y37=>
        sI (w64 (t24+1)) fun t38=>
        zAR e21 f1 t14 t16 t22 vn2 y10 y3 y4 n y37 t38
       )
      else
       (
        sI (w64 (t24+1)) fun t39=>
        zAR e21 f1 t14 t16 t22 vn2 y10 y3 y4 n out23 t39
       )
     )
    else
     (
      sI (w64 (t24+1)) fun t40=>
      zAR e21 f1 t14 t16 t22 vn2 y10 y3 y4 n out23 t40
     )
   )
  else
   (
    some out23
   )
def zBl(f1:(Int×Int×Int))(t14:Int)(vn2:Int)(y10:Int)(y3:Int)(y4:Int):Nat→List (Int×Int)→Int→Option (List (Int×Int))
 |0,_,_=>none
 |n+1,out15,t16=>
  bif (ltI t16 t14) then
   (
    (getI ([y4,w64 (0 - y4)]:List Int) t16).bind fun e20=>
    (getI ([y4,w64 (0 - y4)]:List Int) t16).bind fun e21=>
    sI ((([y10,w64 (0 - y10)]).length:Int)) fun t22=>
    (zAR e21 f1 t14 t16 t22 vn2 y10 y3 y4 FU out15 0).bind fun o26=>
    sI (w64 (t16+1)) fun t41=>
    zBl f1 t14 vn2 y10 y3 y4 n o26 t41
   )
  else
   (
    some out15
   )
def zD9(f1:(Int×Int×Int))(vn2:Int)(y3:Int):Nat→Int→List (Int×Int)→Option (List (Int×Int))
 |0,_,_=>none
 |n+1,y4,out5=>
  (some (leI (w64 ((w64 ((w64 (0 - y3))*y4))*y4)) (w64 ((w64 (4*f1.1))*vn2)))).bind fun t8=>
  bif t8 then
   (
    (zEr (w64 ((w64 ((w64 (y3*y4))*y4))+(w64 ((w64 (4*f1.1))*vn2))))).bind fun y10=>
    (some (!eqI (w64 (y10*y10)) (w64 ((w64 ((w64 (y3*y4))*y4))+(w64 ((w64 (4*f1.1))*vn2)))))).bind fun t11=>
    bif t11 then
     (
      sI (w64 (y4+1)) fun y13=>
      zD9 f1 vn2 y3 n y13 out5
     )
    else
     (
      sI ((([y4,w64 (0 - y4)]).length:Int)) fun t14=>
      (zBl f1 t14 vn2 y10 y3 y4 FU out5 0).bind fun o18=>
      sI (w64 (y4+1)) fun y42=>
      zD9 f1 vn2 y3 n y42 o18
     )
   )
  else
   (
    some out5
   )
def zFO(f1:(Int×Int×Int))(vn2:Int):Option (List (Int×Int)):=
 (qX f1).bind fun y3=>
 (zD9 f1 vn2 y3 FU 0 (([]:List (Int×Int)))).bind fun o7=>
 some o7
def zA3(f1:(Int×Int×Int))(vn2:Int):Option (Int×Bool):=
 (zD0 f1).bind fun y3=>
 (bif (!y3) then some true else ((zF3 vn2).bind fun y5=>some (!y5))).bind fun b6=>
 bif b6 then
  (
   some ((0,false))
  )
 else
  (
   (zFO f1 vn2).bind fun y8=>
   some (((y8.length:Int),true))
  )
def zIo(vm1:(Int×Int×Int×Int)):Option Int:=
 sI (w64 ((w64 (vm1.1*vm1.2.2.2)) - (w64 (vm1.2.1*vm1.2.2.1)))) fun t2=>
 some t2
def zE2(vm1:(Int×Int×Int×Int)):Option (Int×Int×Int×Int):=
 (zIo vm1).bind fun y2=>
 sI (w64 (y2*vm1.2.2.2)) fun f3=>
 sI (w64 ((w64 (0 - y2))*vm1.2.1)) fun f4=>
 sI (w64 ((w64 (0 - y2))*vm1.2.2.1)) fun f5=>
 sI (w64 (y2*vm1.1)) fun f6=>
 some ((f3,f4,f5,f6))
def zDw(vm1:(Int×Int×Int×Int)):Option Bool:=
 (zBI vm1.1).bind fun y2=>
 (bif y2 then ((zBI vm1.2.1).bind fun y4=>some y4) else some false).bind fun b5=>
 (bif b5 then ((zBI vm1.2.2.1).bind fun y7=>some y7) else some false).bind fun b8=>
 (bif b8 then ((zBI vm1.2.2.2).bind fun y10=>some y10) else some false).bind fun b11=>
 some b11
def zBL(f1:(Int×Int×Int))(g2:(Int×Int×Int)):Option ((Int×Int×Int×Int)×Bool):=
 (zA1 f1).bind fun y3=>
 (bif (!y3) then some true else ((zA1 g2).bind fun y5=>some (!y5))).bind fun b6=>
 bif b6 then
  (
   some (((0,0,0,0),false))
  )
 else
  (
   (qI f1).bind fun y8=>
   (qI g2).bind fun y9=>
   (zE2 y9.2).bind fun y10=>
   (qJ y8.2 y10).bind fun y11=>
   (bif (!((y8.1.1==y9.1.1)&&((y8.1.2.1==y9.1.2.1)&&(y8.1.2.2==y9.1.2.2)))) then some true else ((zDw y11).bind fun y13=>some (!y13))).bind fun b14=>
   bif b14 then
    (
     some (((0,0,0,0),false))
    )
   else
    (
     some ((y11,true))
    )
  )
def zAw(vm1:(Int×Int×Int×Int)):Option qf:=
 (jD vm1.1).bind fun y2=>
 (catR ((⟨#[91]⟩:qf)) y2).bind fun u3=>
 (catR (((⟨#[91]⟩:qf))++y2) ((⟨#[44]⟩:qf))).bind fun u4=>
 (jD vm1.2.1).bind fun y5=>
 (catR ((((⟨#[91]⟩:qf))++y2)++((⟨#[44]⟩:qf))) y5).bind fun u6=>
 (catR (((((⟨#[91]⟩:qf))++y2)++((⟨#[44]⟩:qf)))++y5) ((⟨#[59]⟩:qf))).bind fun u7=>
 (jD vm1.2.2.1).bind fun y8=>
 (catR ((((((⟨#[91]⟩:qf))++y2)++((⟨#[44]⟩:qf)))++y5)++((⟨#[59]⟩:qf))) y8).bind fun u9=>
 (catR (((((((⟨#[91]⟩:qf))++y2)++((⟨#[44]⟩:qf)))++y5)++((⟨#[59]⟩:qf)))++y8) ((⟨#[44]⟩:qf))).bind fun u10=>
 (jD vm1.2.2.2).bind fun y11=>
 (catR ((((((((⟨#[91]⟩:qf))++y2)++((⟨#[44]⟩:qf)))++y5)++((⟨#[59]⟩:qf)))++y8)++((⟨#[44]⟩:qf))) y11).bind fun u12=>
 (catR (((((((((⟨#[91]⟩:qf))++y2)++((⟨#[44]⟩:qf)))++y5)++((⟨#[59]⟩:qf)))++y8)++((⟨#[44]⟩:qf)))++y11) ((⟨#[93]⟩:qf))).bind fun u13=>
 some ((((((((((⟨#[91]⟩:qf))++y2)++((⟨#[44]⟩:qf)))++y5)++((⟨#[59]⟩:qf)))++y8)++((⟨#[44]⟩:qf)))++y11)++((⟨#[93]⟩:qf)))
def zBY(l1:List qf):Nat→qf→Int→Option qf
 |0,_,_=>none
 |n+1,out2,t3=>
  bif (ltI t3 ((l1.length:Int))) then
   (
    (getI l1 t3).bind fun e7=>
    bif (ltI 0 t3) then
     (
      (catR out2 ((⟨#[32]⟩:qf))).bind fun u9=>
      (catR (out2++((⟨#[32]⟩:qf))) e7).bind fun u10=>
      sI (w64 (t3+1)) fun t11=>
      zBY l1 n ((out2++((⟨#[32]⟩:qf)))++e7) t11
     )
    else
     (
      (catR out2 e7).bind fun u12=>
      sI (w64 (t3+1)) fun t13=>
      zBY l1 n (out2++e7) t13
     )
   )
  else
   (
    some out2
   )
def zEA(l1:List qf):Option qf:=
 (zBY l1 FU ((⟨#[]⟩:qf)) 0).bind fun o5=>
 some o5
def zAI(f1:(Int×Int×Int))(g2:(Int×Int×Int)):Option (qf×Bool):=
 (zBL f1 g2).bind fun y3=>
 bif (!y3.2) then
  (
   some (((⟨#[]⟩:qf),false))
  )
 else
  (
   (zAV f1).bind fun y5=>
   (zAV g2).bind fun y6=>
   (zAw y3.1).bind fun y7=>
   (zEA ([(⟨#[101,113,117,105,118,97,108,101,110,116]⟩:qf),y5,y6,y7])).bind fun y8=>
   some ((y8,true))
  )
def zAT(f1:(Int×Int×Int))(g2:(Int×Int×Int)):Option (qf×Bool):=
 (zA1 f1).bind fun y3=>
 (bif (!y3) then some true else ((zA1 g2).bind fun y5=>some (!y5))).bind fun b6=>
 bif b6 then
  (
   some (((⟨#[]⟩:qf),false))
  )
 else
  (
   (qI f1).bind fun y8=>
   (qI g2).bind fun y9=>
   (some (((y8.1.1==y9.1.1)&&((y8.1.2.1==y9.1.2.1)&&(y8.1.2.2==y9.1.2.2))))).bind fun t10=>
   bif t10 then
    (
     some (((⟨#[]⟩:qf),false))
    )
   else
    (
     (zAV f1).bind fun y12=>
     (zAw y8.2).bind fun y13=>
     (zAV y8.1).bind fun y14=>
     (zAV g2).bind fun y15=>
     (zAw y9.2).bind fun y16=>
     (zAV y9.1).bind fun y17=>
     (zEA ([(⟨#[100,105,102,102,101,114,101,110,116]⟩:qf),y12,y13,y14,y15,y16,y17])).bind fun y18=>
     some ((y18,true))
    )
  )
def jJ(j4:List qf)(w3:((List qf)×(Int×Int×Int)×Int))(word2:qf)(x1:((Int×qf×(List (Int×Int×Int)))×(List (Int×qf×(List (Int×Int×Int)))))):Nat→Int→List (Int×Int×Int)→Option (List (Int×Int×Int) ⊕ (qf×((Int×qf×(List (Int×Int×Int)))×(List (Int×qf×(List (Int×Int×Int)))))))
 |0,_,_=>none
 |n+1,t9,l10=>
  bif (ltI t9 ((j4.length:Int))) then
   (
    (getI j4 t9).bind fun e14=>
    (zAu x1.1 e14).bind fun y15=>
    bif (ltI y15 0) then
     (
      some (.inr ((((⟨#[110,111]⟩:qf),x1))))
     )
    else
     (
      (getI x1.1.2.2 y15).bind fun e17=>
      (room (l10.length+([e17]).length)).bind fun u18=>
      sI (w64 (t9+1)) fun t19=>
      jJ j4 w3 word2 x1 n t19 (l10++([e17]))
     )
   )
  else
   (
    some (.inl l10)
   )
def zAY(x1:((Int×qf×(List (Int×Int×Int)))×(List (Int×qf×(List (Int×Int×Int))))))(y56:List Int):Nat→qf→Int→Option qf
 |0,_,_=>none
 |n+1,out57,t58=>
  bif (ltI t58 ((y56.length:Int))) then
   (
    (getI y56 t58).bind fun e62=>
    (getI y56 t58).bind fun e63=>
    bif (ltI 0 e63) then
     (
      (catR out57 ((⟨#[43]⟩:qf))).bind fun u65=>
      sI (w64 (t58+1)) fun t66=>
      zAY x1 y56 n (out57++((⟨#[43]⟩:qf))) t66
     )
    else
     (
      (catR out57 ((⟨#[45]⟩:qf))).bind fun u67=>
      sI (w64 (t58+1)) fun t68=>
      zAY x1 y56 n (out57++((⟨#[45]⟩:qf))) t68
     )
   )
  else
   (
    some out57
   )
def qE(x1:((Int×qf×(List (Int×Int×Int)))×(List (Int×qf×(List (Int×Int×Int))))))(word2:qf)(w3:((List qf)×(Int×Int×Int)×Int)):Option (qf×((Int×qf×(List (Int×Int×Int)))×(List (Int×qf×(List (Int×Int×Int)))))):=
 (
  (some (bif (word2.toList==((⟨#[109,117,108]⟩:qf)).toList) then true else (word2.toList==((⟨#[112,111,119]⟩:qf)).toList))).bind fun t6=>
  bif t6 then
   (
    (slc w3.1.length 1 ((w3.1.length:Int))).bind fun u8=>
    some (subl w3.1 1 ((w3.1.length:Int)))
   )
  else
   (
    some w3.1
   )
 ).bind fun j4=>
 (jJ j4 w3 word2 x1 FU 0 (([]:List (Int×Int×Int)))).bind fun qo12=>
 match qo12 with
 | .inr r=>some r
 | .inl o12=>
  bif (word2.toList==((⟨#[109,117,108]⟩:qf)).toList) then
   (
    (getI w3.1 0).bind fun e21=>
    (getI o12 0).bind fun e22=>
    (getI o12 0).bind fun e23=>
    (getI o12 1).bind fun e24=>
    (getI o12 1).bind fun e25=>
    (zA2 e23 e25).bind fun y26=>
    (jW x1 e21 y26).bind fun y27=>
    some ((y27.1,y27.2))
   )
  else
   (
    bif (word2.toList==((⟨#[112,111,119]⟩:qf)).toList) then
     (
      (getI w3.1 0).bind fun e29=>
      (getI o12 0).bind fun e30=>
      (getI o12 0).bind fun e31=>
      (zDd e31 w3.2.2).bind fun y32=>
      (jW x1 e29 y32).bind fun y33=>
      some ((y33.1,y33.2))
     )
    else
     (
      (some (word2.toList==((⟨#[115,104,111,119]⟩:qf)).toList)).bind fun t34=>
      bif t34 then
       (
        (getI o12 0).bind fun e36=>
        (getI o12 0).bind fun e37=>
        (zAV e37).bind fun y38=>
        some ((y38,x1))
       )
      else
       (
        (some (word2.toList==((⟨#[105,110,100,101,120]⟩:qf)).toList)).bind fun t39=>
        bif t39 then
         (
          (zCG x1.1.1).bind fun y41=>
          (getI o12 0).bind fun e42=>
          (getI o12 0).bind fun e43=>
          (zEN y41 e43).bind fun y44=>
          (zA0 FU y44).bind fun y45=>
          some ((y45,x1))
         )
        else
         (
          (some (word2.toList==((⟨#[111,114,100,101,114]⟩:qf)).toList)).bind fun t46=>
          bif t46 then
           (
            (getI o12 0).bind fun e48=>
            (getI o12 0).bind fun e49=>
            (zEP e49).bind fun y50=>
            (zA0 FU y50).bind fun y51=>
            some ((y51,x1))
           )
          else
           (
            (some (word2.toList==((⟨#[103,101,110,117,115]⟩:qf)).toList)).bind fun t52=>
            bif t52 then
             (
              (getI o12 0).bind fun e54=>
              (getI o12 0).bind fun e55=>
              (zFP e55).bind fun y56=>
              (zAY x1 y56 FU ((⟨#[]⟩:qf)) 0).bind fun o60=>
              some ((o60,x1))
             )
            else
             (
              (some (word2.toList==((⟨#[118,97,108,117,101]⟩:qf)).toList)).bind fun t69=>
              bif t69 then
               (
                (getI o12 0).bind fun e71=>
                (getI o12 0).bind fun e72=>
                (zA3 e72 w3.2.2).bind fun y73=>
                bif (!y73.2) then
                 (
                  some (((⟨#[110,111]⟩:qf),x1))
                 )
                else
                 (
                  (zA0 FU y73.1).bind fun y75=>
                  some ((y75,x1))
                 )
               )
              else
               (
                (getI o12 0).bind fun e76=>
                (getI o12 0).bind fun e77=>
                (getI o12 1).bind fun e78=>
                (getI o12 1).bind fun e79=>
                (zAI e77 e79).bind fun y80=>
                bif (!y80.2) then
                 (
                  (getI o12 0).bind fun e82=>
                  (getI o12 0).bind fun e83=>
                  (getI o12 1).bind fun e84=>
                  (getI o12 1).bind fun e85=>
                  (zAT e83 e85).bind fun y86=>
                  bif (!y86.2) then
                   (
                    some (((⟨#[110,111]⟩:qf),x1))
                   )
                  else
                   (
                    some ((y86.1,x1))
                   )
                 )
                else
                 (
                  bif (!y80.2) then
                   (
                    some (((⟨#[110,111]⟩:qf),x1))
                   )
                  else
                   (
                    some ((y80.1,x1))
                   )
                 )
               )
             )
           )
         )
       )
     )
   )
def zN(x1:((Int×qf×(List (Int×Int×Int)))×(List (Int×qf×(List (Int×Int×Int))))))(t2:qf):Option (qf×((Int×qf×(List (Int×Int×Int)))×(List (Int×qf×(List (Int×Int×Int)))))):=
 (qL t2).bind fun y3=>
 bif (!y3.2.2) then
  (
   some (((⟨#[119,104,97,116]⟩:qf),x1))
  )
 else
  (
   bif (y3.1.toList==((⟨#[100,105,115,99]⟩:qf)).toList) then
    (
     (zCh y3.2.1.2.2).bind fun y6=>
     bif (!y6) then
      (
       some (((⟨#[110,111]⟩:qf),x1))
      )
     else
      (
       (jQ x1 ((y3.2.1.2.2,qg,([]:List (Int×Int×Int))))).bind fun y8=>
       some ((y8.1,y8.2))
      )
    )
   else
    (
     bif (y3.1.toList==((⟨#[115,101,116]⟩:qf)).toList) then
      (
       (zEC y3.2.1.2.1).bind fun y10=>
       (bif (!y10) then some true else ((qX y3.2.1.2.1).bind fun y12=>some (!eqI y12 x1.1.1))).bind fun b13=>
       bif b13 then
        (
         some (((⟨#[110,111]⟩:qf),x1))
        )
       else
        (
         (getI y3.2.1.1 0).bind fun e15=>
         (jR y3.2.1.2.1).bind fun y16=>
         (jW x1 e15 y16).bind fun y17=>
         some ((y17.1,y17.2))
        )
      )
     else
      (
       (some (y3.1.toList==((⟨#[112,114,105,109,101]⟩:qf)).toList)).bind fun t18=>
       bif t18 then
        (
         (zDS x1.1.1 y3.2.1.2.2).bind fun y20=>
         bif (!y20.2) then
          (
           some (((⟨#[110,111]⟩:qf),x1))
          )
         else
          (
           (getI y3.2.1.1 0).bind fun e22=>
           (jW x1 e22 y20.1).bind fun y23=>
           some ((y23.1,y23.2))
          )
        )
       else
        (
         (some (y3.1.toList==((⟨#[102,114,101,101]⟩:qf)).toList)).bind fun t24=>
         bif t24 then
          (
           (getI y3.2.1.1 0).bind fun e26=>
           (zBV x1 e26).bind fun y27=>
           some ((y27.1,y27.2))
          )
         else
          (
           (some (y3.1.toList==((⟨#[110,97,109,101,115]⟩:qf)).toList)).bind fun t28=>
           bif t28 then
            (
             bif (x1.1.2.1.toList==((⟨#[]⟩:qf)).toList) then
              (
               some (((⟨#[110,111,110,101]⟩:qf),x1))
              )
             else
              (
               some ((x1.1.2.1,x1))
              )
            )
           else
            (
             (some (y3.1.toList==((⟨#[117,110,100,111]⟩:qf)).toList)).bind fun t31=>
             bif t31 then
              (
               (zBv x1).bind fun y33=>
               some ((y33.1,y33.2))
              )
             else
              (
               (qE x1 y3.1 y3.2.1).bind fun y34=>
               some ((y34.1,y34.2))
              )
            )
          )
        )
      )
    )
  )
def zCk(y2:((List qf)×Bool)):Nat→Int→List (Int×qf×(List (Int×Int×Int)))→List qf→Int→qf→List (Int×Int×Int)→Option ((List (Int×qf×(List (Int×Int×Int))))×(List qf)×Int×qf×(List (Int×Int×Int)))
 |0,_,_,_,_,_,_=>none
 |n+1,t5,l6,l7,f8,f9,f10=>
  bif (ltI t5 ((y2.1.length:Int))) then
   (
    (getI y2.1 t5).bind fun e14=>
    (zN (((f8,f9,f10),l6)) e14).bind fun y15=>
    (room (l7.length+([y15.1]).length)).bind fun u16=>
    sI (w64 (t5+1)) fun t17=>
    zCk y2 n t17 y15.2.2 (l7++([y15.1])) y15.2.1.1 y15.2.1.2.1 y15.2.1.2.2
   )
  else
   (
    some (l6,l7,f8,f9,f10)
   )
def zCF(script1:qf):Option (((Int×qf×(List (Int×Int×Int)))×(List (Int×qf×(List (Int×Int×Int)))))×(List qf)×Bool):=
 (zEK script1 2000 60).bind fun y2=>
 (zF4).bind fun y3=>
 bif (!y2.2) then
  (
   some ((((y3.1.1,y3.1.2.1,([]:List (Int×Int×Int))),([]:List (Int×qf×(List (Int×Int×Int))))),([]:List qf),false))
  )
 else
  (
   (zCk y2 FU 0 (([]:List (Int×qf×(List (Int×Int×Int))))) (([]:List qf)) y3.1.1 y3.1.2.1 (([]:List (Int×Int×Int)))).bind fun o12=>
   some (((o12.2.2,o12.1),o12.2.1,true))
  )
def zCb(script1:qf):Option ((List (Int×Int×Int))×Bool):=
 (zCF script1).bind fun y2=>
 (room ((([]:List (Int×Int×Int))).length+y2.1.1.2.2.length)).bind fun u3=>
 some (((([]:List (Int×Int×Int)))++y2.1.1.2.2,y2.2.2))
def qO(vs1:qf)(suffix2:qf):Option Bool:=
 (bif (leI ((suffix2.size:Int)) ((vs1.size:Int))) then ((slc vs1.size (w64 (((vs1.size:Int)) - ((suffix2.size:Int)))) ((vs1.size:Int))).bind fun u4=>some ((vs1.extract (Int.toNat (w64 (((vs1.size:Int)) - ((suffix2.size:Int))))) (Int.toNat ((vs1.size:Int)))).toList==suffix2.toList)) else some false).bind fun b5=>
 some b5
def jP(vs1:qf)(suffix2:qf):Option qf:=
 (qO vs1 suffix2).bind fun y3=>
 bif y3 then
  (
   (slc vs1.size 0 (w64 (((vs1.size:Int)) - ((suffix2.size:Int))))).bind fun u5=>
   some (vs1.extract (Int.toNat 0) (Int.toNat (w64 (((vs1.size:Int)) - ((suffix2.size:Int))))))
  )
 else
  (
   some vs1
  )
def zCL(vs1:qf)(suffix2:qf):Option qf:=
 (jP vs1 suffix2).bind fun y3=>
 some y3
def zC6(vs1:qf)(suffix2:qf):Option Bool:=
 (qO vs1 suffix2).bind fun y3=>
 some y3
def zDA(vs1:qf):Option ((List qf)×Bool):=
 bif (vs1.toList==((⟨#[]⟩:qf)).toList) then
  (
   some ((([]:List qf),true))
  )
 else
  (
   (zCL vs1 ((⟨#[10]⟩:qf))).bind fun y3=>
   (zAB y3 ((⟨#[10]⟩:qf))).bind fun y4=>
   (zC6 vs1 ((⟨#[10]⟩:qf))).bind fun y5=>
   some ((y4,y5))
  )
def zCo(word1:qf):Option (qf×Bool):=
 (some (mPut ((⟨#[117,110,100,111]⟩:qf)) ((⟨#[]⟩:qf)) (mPut ((⟨#[110,97,109,101,115]⟩:qf)) ((⟨#[]⟩:qf)) (mPut ((⟨#[115,97,109,101]⟩:qf)) ((⟨#[65,65]⟩:qf)) (mPut ((⟨#[118,97,108,117,101]⟩:qf)) ((⟨#[65,110]⟩:qf)) (mPut ((⟨#[103,101,110,117,115]⟩:qf)) ((⟨#[65]⟩:qf)) (mPut ((⟨#[111,114,100,101,114]⟩:qf)) ((⟨#[65]⟩:qf)) (mPut ((⟨#[105,110,100,101,120]⟩:qf)) ((⟨#[65]⟩:qf)) (mPut ((⟨#[115,104,111,119]⟩:qf)) ((⟨#[65]⟩:qf)) (mPut ((⟨#[102,114,101,101]⟩:qf)) ((⟨#[65]⟩:qf)) (mPut ((⟨#[112,111,119]⟩:qf)) ((⟨#[65,65,110]⟩:qf)) (mPut ((⟨#[109,117,108]⟩:qf)) ((⟨#[65,65,65]⟩:qf)) (mPut ((⟨#[112,114,105,109,101]⟩:qf)) ((⟨#[65,110]⟩:qf)) (mPut ((⟨#[115,101,116]⟩:qf)) ((⟨#[65,102]⟩:qf)) (mPut ((⟨#[100,105,115,99]⟩:qf)) ((⟨#[110]⟩:qf)) (([]:List (qf×qf)))))))))))))))))).bind fun l2=>
 some ((mAt word1 l2 qg,mHas word1 l2))
def zD2(w1:qf):Option (Int×Bool):=
 (bif (!eqI ((w1.size:Int)) 1) then some true else ((getB w1 0).bind fun e3=>some (ltI e3 97))).bind fun b4=>
 (bif b4 then some true else ((getB w1 0).bind fun e6=>some (ltI 122 e6))).bind fun b7=>
 bif b7 then
  (
   some ((0,false))
  )
 else
  (
   (getB w1 0).bind fun e9=>
   sI (IntKind.i64.wrap (IntKind.u8.wrap (e9 - 97))) fun t10=>
   some ((t10,true))
  )
def zBk(c1:Int):Option Bool:=
 (some (bif (!eqI c1 45) then (bif (ltI c1 48) then true else (ltI 57 c1)) else false)).bind fun t4=>
 some t4
def qR(y2:List qf):Nat→Int→List Int→Option (List Int ⊕ List Int)
 |0,_,_=>none
 |n+1,t3,l4=>
  bif (ltI t3 ((y2.length:Int))) then
   (
    (getI y2 t3).bind fun e8=>
    (getI y2 t3).bind fun e9=>
    (zAb e9).bind fun y10=>
    bif (!y10.2) then
     (
      some (.inr ((([]:List Int))))
     )
    else
     (
      (room (l4.length+([y10.1]).length)).bind fun u12=>
      sI (w64 (t3+1)) fun t13=>
      qR y2 n t13 (l4++([y10.1]))
     )
   )
  else
   (
    some (.inl l4)
   )
def zBB(vs1:qf):Option (List Int):=
 (zBX (pOf zBk) vs1).bind fun y2=>
 (qR y2 FU 0 (([]:List Int))).bind fun qo6=>
 match qo6 with
 | .inr r=>some r
 | .inl o6=>some o6
def zCN(list1:List Int):Nat→Int→Option (Unit ⊕ Bool)
 |0,_=>none
 |n+1,t2=>
  bif (ltI t2 ((list1.length:Int))) then
   (
    (getI list1 t2).bind fun e6=>
    bif (bif (ltI e6 (-1000000)) then true else (ltI 1000000 e6)) then
     (
      some (.inr false)
     )
    else
     (
      sI (w64 (t2+1)) fun t9=>
      zCN list1 n t9
     )
   )
  else
   (
    some (.inl ())
   )
def zBC(list1:List Int):Option Bool:=
 (zCN list1 FU 0).bind fun qo4=>
 match qo4 with
 | .inr r=>some r
 | .inl o4=>some true
def zCi(f1:(Int×Int×Int)):Option Bool:=
 (zBC ([f1.1,f1.2.1,f1.2.2])).bind fun y2=>
 some y2
def zAC(f1:(Int×Int×Int)):Option qf:=
 (qS f1.1).bind fun y2=>
 (catR ((⟨#[40]⟩:qf)) y2).bind fun u3=>
 (catR (((⟨#[40]⟩:qf))++y2) ((⟨#[44]⟩:qf))).bind fun u4=>
 (qS f1.2.1).bind fun y5=>
 (catR ((((⟨#[40]⟩:qf))++y2)++((⟨#[44]⟩:qf))) y5).bind fun u6=>
 (catR (((((⟨#[40]⟩:qf))++y2)++((⟨#[44]⟩:qf)))++y5) ((⟨#[44]⟩:qf))).bind fun u7=>
 (qS f1.2.2).bind fun y8=>
 (catR ((((((⟨#[40]⟩:qf))++y2)++((⟨#[44]⟩:qf)))++y5)++((⟨#[44]⟩:qf))) y8).bind fun u9=>
 (catR (((((((⟨#[40]⟩:qf))++y2)++((⟨#[44]⟩:qf)))++y5)++((⟨#[44]⟩:qf)))++y8) ((⟨#[41]⟩:qf))).bind fun u10=>
 some ((((((((⟨#[40]⟩:qf))++y2)++((⟨#[44]⟩:qf)))++y5)++((⟨#[44]⟩:qf)))++y8)++((⟨#[41]⟩:qf)))
def zCD(vs1:qf):Option ((Int×Int×Int)×Bool):=
 (zBB vs1).bind fun y2=>
 bif (!eqI ((y2.length:Int)) 3) then
  (
   some (((0,0,0),false))
  )
 else
  (
   (getI y2 0).bind fun e4=>
   (getI y2 0).bind fun e5=>
   (getI y2 1).bind fun e6=>
   (getI y2 1).bind fun e7=>
   (getI y2 2).bind fun e8=>
   (getI y2 2).bind fun e9=>
   (zCi ((e5,e7,e9))).bind fun y10=>
   (bif (!y10) then some true else ((zAC ((e5,e7,e9))).bind fun y12=>some (!(y12.toList==vs1.toList)))).bind fun b13=>
   bif b13 then
    (
     some (((0,0,0),false))
    )
   else
    (
     some (((e5,e7,e9),true))
    )
  )
def zDK(w1:qf):Option (Int×Bool):=
 (zAb w1).bind fun y2=>
 (bif y2.2 then ((zBC ([y2.1])).bind fun y4=>some y4) else some false).bind fun b5=>
 (bif b5 then ((qS y2.1).bind fun y7=>some (y7.toList==w1.toList)) else some false).bind fun b8=>
 some ((y2.1,b8))
def jC(e4:qf)(t10:Int)(y2:List qf)(y5:(qf×Bool)):Nat→Int→List Int→Int→Int→Int→Int→Option (((List Int)×Int×Int×Int×Int) ⊕ ((qf×(List Int)×(Int×Int×Int)×Int)×Bool))
 |0,_,_,_,_,_,_=>none
 |n+1,t11,l12,f13,f14,f15,f16=>
  bif (ltI t11 t10) then
   (
    (getI (subl y2 1 ((y2.length:Int))) t11).bind fun e20=>
    (getB y5.1 t11).bind fun e21=>
    bif (eqI e21 65) then
     (
      (zD2 e20).bind fun y23=>
      (room (l12.length+([y23.1]).length)).bind fun u24=>
      bif (!y23.2) then
       (
        some (.inr ((((qg,([]:List Int),(0,0,0),0),false))))
       )
      else
       (
        sI (w64 (t11+1)) fun t26=>
        jC e4 t10 y2 y5 n t26 (l12++([y23.1])) f13 f14 f15 f16
       )
     )
    else
     (
      bif (eqI e21 102) then
       (
        (zCD e20).bind fun y28=>
        bif (!y28.2) then
         (
          some (.inr ((((qg,([]:List Int),(0,0,0),0),false))))
         )
        else
         (
          sI (w64 (t11+1)) fun t30=>
          jC e4 t10 y2 y5 n t30 l12 y28.1.1 y28.1.2.1 y28.1.2.2 f16
         )
       )
      else
       (
        (zDK e20).bind fun y31=>
        bif (!y31.2) then
         (
          some (.inr ((((qg,([]:List Int),(0,0,0),0),false))))
         )
        else
         (
          sI (w64 (t11+1)) fun t33=>
          jC e4 t10 y2 y5 n t33 l12 f13 f14 f15 y31.1
         )
       )
     )
   )
  else
   (
    some (.inl (l12,f13,f14,f15,f16))
   )
def zM(vs1:qf):Option ((qf×(List Int)×(Int×Int×Int)×Int)×Bool):=
 (zAB vs1 ((⟨#[32]⟩:qf))).bind fun y2=>
 (getI y2 0).bind fun e3=>
 (getI y2 0).bind fun e4=>
 (zCo e4).bind fun y5=>
 (some (bif (!y5.2) then true else (!eqI ((y2.length:Int)) (w64 (((y5.1.size:Int))+1))))).bind fun t7=>
 bif t7 then
  (
   some (((qg,([]:List Int),(0,0,0),0),false))
  )
 else
  (
   (slc y2.length 1 ((y2.length:Int))).bind fun u9=>
   sI (((subl y2 1 ((y2.length:Int))).length:Int)) fun t10=>
   (jC e4 t10 y2 y5 FU 0 (([]:List Int)) 0 0 0 0).bind fun qo18=>
   match qo18 with
   | .inr r=>some r
   | .inl o18=>some (((e4,o18.1,(o18.2.1,o18.2.2.1,o18.2.2.2.1),o18.2.2.2.2),true))
  )
def zAE(l2:(qf×(List Int)×(Int×Int×Int)×Int))(vs1:(Int×(Nat→(Int×Int×Int)))):Nat→Int→List (Int×Int×Int)→Option (List (Int×Int×Int) ⊕ ((List (Int×Int×Int))×Bool))
 |0,_,_=>none
 |n+1,t3,l4=>
  bif (ltI t3 ((l2.2.1.length:Int))) then
   (
    (getI l2.2.1 t3).bind fun e8=>
    (getA 26 vs1.2 e8).bind fun e9=>
    (getA 26 vs1.2 e8).bind fun e10=>
    (bif (eqI t3 0) then (some (bif (bif (bif (l2.1.toList==((⟨#[115,101,116]⟩:qf)).toList) then true else (l2.1.toList==((⟨#[112,114,105,109,101]⟩:qf)).toList)) then true else (l2.1.toList==((⟨#[109,117,108]⟩:qf)).toList)) then true else (l2.1.toList==((⟨#[112,111,119]⟩:qf)).toList))) else some false).bind fun b15=>
    (some (bif (((e10.1==0)&&((e10.2.1==0)&&(e10.2.2==0)))) then (!b15) else false)).bind fun t17=>
    bif t17 then
     (
      some (.inr (((([]:List (Int×Int×Int)),false))))
     )
    else
     (
      (room (l4.length+([e10]).length)).bind fun u19=>
      sI (w64 (t3+1)) fun t20=>
      zAE l2 vs1 n t20 (l4++([e10]))
     )
   )
  else
   (
    some (.inl l4)
   )
def zP(vs1:(Int×(Nat→(Int×Int×Int))))(l2:(qf×(List Int)×(Int×Int×Int)×Int)):Option ((List (Int×Int×Int))×Bool):=
 (zAE l2 vs1 FU 0 (([]:List (Int×Int×Int)))).bind fun qo6=>
 match qo6 with
 | .inr r=>some r
 | .inl o6=>some ((o6,true))
def zAg(a1:Int)(vm2:Int):Option Int:=
 (nz vm2).bind fun z3=>
 sI (Int.tmod a1 vm2) fun vr4=>
 bif (ltI vr4 0) then
  (
   sI (w64 (vr4+vm2)) fun vr6=>
   some vr6
  )
 else
  (
   some vr4
  )
def qT(d1:Int):Option Bool:=
 (bif (bif (leI (-2000) d1) then (leI d1 (-3)) else false) then ((zAg d1 4).bind fun y4=>some (leI y4 1)) else some false).bind fun b5=>
 some b5
def zL(f1:(Int×Int×Int)):Option Int:=
 sI (w64 ((w64 (f1.2.1*f1.2.1)) - (w64 ((w64 (4*f1.1))*f1.2.2)))) fun t2=>
 some t2
def zR(f1:(Int×Int×Int)):Option Bool:=
 (zCi f1).bind fun y2=>
 (bif y2 then ((zL f1).bind fun y4=>some (ltI y4 0)) else some false).bind fun b5=>
 some (bif b5 then (ltI 0 f1.1) else false)
def jA(f1:(Int×Int×Int)):Option Bool:=
 (zR f1).bind fun y2=>
 (bif y2 then ((zL f1).bind fun y4=>some (leI (-2000) y4)) else some false).bind fun b5=>
 some b5
def zET(vn1:Int):Option Int:=
 sI (mxI vn1 (w64 (0 - (mxI vn1 (-9223372036854775807))))) fun t2=>
 some t2
def zBM:Nat→Int→Int→Option Int
 |0,_,_=>none
 |n+1,a3,b4=>
  bif (!eqI b4 0) then
   (
    (nz b4).bind fun z8=>
    sI (Int.tmod a3 b4) fun b9=>
    zBM n b4 b9
   )
  else
   (
    some a3
   )
def zES(a1:Int)(b2:Int):Option Int:=
 (zBM FU a1 b2).bind fun o6=>
 (zET o6).bind fun y10=>
 some y10
def zAX(f1:(Int×Int×Int)):Option Int:=
 (zES f1.2.1 f1.2.2).bind fun y2=>
 (zES f1.1 y2).bind fun y3=>
 some y3
def zV(f1:(Int×Int×Int)):Option Bool:=
 (jA f1).bind fun y2=>
 (bif y2 then ((zAX f1).bind fun y4=>some (eqI y4 1)) else some false).bind fun b5=>
 some b5
def zAZ(vs1:(Int×(Nat→(Int×Int×Int)))):Nat→qf→Int→Option qf
 |0,_,_=>none
 |n+1,list2,t3=>
  bif (ltI t3 26) then
   (
    (getA 26 vs1.2 t3).bind fun e7=>
    bif (!((e7.1==0)&&((e7.2.1==0)&&(e7.2.2==0)))) then
     (
      (catR list2 (Utf8.encode (IntKind.i32.wrap (w64 (97+t3))))).bind fun u9=>
      sI (w64 (t3+1)) fun t10=>
      zAZ vs1 n (list2++(Utf8.encode (IntKind.i32.wrap (w64 (97+t3))))) t10
     )
    else
     (
      sI (w64 (t3+1)) fun t11=>
      zAZ vs1 n list2 t11
     )
   )
  else
   (
    some list2
   )
def zBz(vs1:(Int×(Nat→(Int×Int×Int)))):Option qf:=
 (zAZ vs1 FU ((⟨#[]⟩:qf)) 0).bind fun o5=>
 some o5
def zFF:Option (Int×Int×Int×Int):=
 some ((1,0,0,1))
def qM(f1:(Int×Int×Int)):Option Bool:=
 (some (bif (ltI (w64 (0 - f1.1)) f1.2.1) then (leI f1.2.1 f1.1) else false)).bind fun t3=>
 some t3
def qG(f1:(Int×Int×Int)):Option Bool:=
 (qM f1).bind fun y2=>
 (some (bif y2 then (bif (ltI f1.1 f1.2.2) then true else (bif (eqI f1.1 f1.2.2) then (leI 0 f1.2.1) else false)) else false)).bind fun t6=>
 some t6
def zBS(a1:Int)(vm2:Int):Option Int:=
 (zAg a1 vm2).bind fun y3=>
 (nz vm2).bind fun z4=>
 sI (w64 (Int.tdiv (w64 (a1 - y3)) vm2)) fun t5=>
 some t5
def qU(f1:(Int×Int×Int)):Option (Int×Int×Int×Int):=
 (qG f1).bind fun y2=>
 bif y2 then
  (
   (zFF).bind fun y4=>
   some y4
  )
 else
  (
   (qM f1).bind fun y5=>
   bif (!y5) then
    (
     (zBS (w64 (f1.1 - f1.2.1)) (w64 (2*f1.1))).bind fun y7=>
     some ((1,y7,0,1))
    )
   else
    (
     some ((0,-1,1,0))
    )
  )
def zAi(f1:(Int×Int×Int))(x2:Int)(y3:Int):Option Int:=
 sI (w64 ((w64 ((w64 ((w64 (f1.1*x2))*x2))+(w64 ((w64 (f1.2.1*x2))*y3))))+(w64 ((w64 (f1.2.2*y3))*y3)))) fun t4=>
 some t4
def zBE(f1:(Int×Int×Int))(x2:Int)(y3:Int)(u4:Int)(v5:Int):Option Int:=
 sI (w64 ((w64 ((w64 ((w64 ((w64 (2*f1.1))*x2))*u4))+(w64 (f1.2.1*(w64 ((w64 (x2*v5))+(w64 (y3*u4))))))))+(w64 ((w64 ((w64 (2*f1.2.2))*y3))*v5)))) fun t6=>
 some t6
def qF(f1:(Int×Int×Int))(vm2:(Int×Int×Int×Int)):Option (Int×Int×Int):=
 (zAi f1 vm2.1 vm2.2.2.1).bind fun y3=>
 (zBE f1 vm2.1 vm2.2.2.1 vm2.2.1 vm2.2.2.2).bind fun y4=>
 (zAi f1 vm2.2.1 vm2.2.2.2).bind fun y5=>
 some ((y3,y4,y5))
def qC(vm1:(Int×Int×Int×Int))(vn2:(Int×Int×Int×Int)):Option (Int×Int×Int×Int):=
 sI (w64 ((w64 (vm1.1*vn2.1))+(w64 (vm1.2.1*vn2.2.2.1)))) fun f3=>
 sI (w64 ((w64 (vm1.1*vn2.2.1))+(w64 (vm1.2.1*vn2.2.2.2)))) fun f4=>
 sI (w64 ((w64 (vm1.2.2.1*vn2.1))+(w64 (vm1.2.2.2*vn2.2.2.1)))) fun f5=>
 sI (w64 ((w64 (vm1.2.2.1*vn2.2.1))+(w64 (vm1.2.2.2*vn2.2.2.2)))) fun f6=>
 some ((f3,f4,f5,f6))
def zBe:Nat→Int→Int→Int→Int→Int→Int→Int→Option (Int×Int×Int×Int×Int×Int×Int)
 |0,_,_,_,_,_,_,_=>none
 |n+1,f3,f4,f5,f6,f7,f8,f9=>
  (qG ((f7,f8,f9))).bind fun y12=>
  bif (!y12) then
   (
    (qU ((f7,f8,f9))).bind fun y14=>
    (qF ((f7,f8,f9)) y14).bind fun y15=>
    (qC ((f3,f4,f5,f6)) y14).bind fun y16=>
    zBe n y16.1 y16.2.1 y16.2.2.1 y16.2.2.2 y15.1 y15.2.1 y15.2.2
   )
  else
   (
    some (f3,f4,f5,f6,f7,f8,f9)
   )
def jE(f1:(Int×Int×Int)):Option ((Int×Int×Int)×(Int×Int×Int×Int)):=
 (zFF).bind fun y2=>
 (zBe FU y2.1 y2.2.1 y2.2.2.1 y2.2.2.2 f1.1 f1.2.1 f1.2.2).bind fun o11=>
 some ((o11.2.2.2.2,(o11.1,o11.2.1,o11.2.2.1,o11.2.2.2.1)))
def qD(f1:(Int×Int×Int)):Option (Int×Int×Int):=
 (jE f1).bind fun y2=>
 some y2.1
def zAq(vs1:(Int×(Nat→(Int×Int×Int))))(name2:Int)(f3:(Int×Int×Int)):Option (Bool×(Int×(Nat→(Int×Int×Int)))):=
 (getA 26 vs1.2 name2).bind fun e4=>
 (getA 26 vs1.2 name2).bind fun e5=>
 (bif (((e5.1==0)&&((e5.2.1==0)&&(e5.2.2==0)))) then ((zBz vs1).bind fun y7=>some (eqI ((y7.size:Int)) 8)) else some false).bind fun b8=>
 bif b8 then
  (
   some ((false,vs1))
  )
 else
  (
   (qD f3).bind fun y10=>
   (getA 26 vs1.2 name2).bind fun e11=>
   ((getA 26 vs1.2 name2).map fun _=>upA vs1.2 (Int.toNat name2) y10).bind fun g12=>
   some ((true,(vs1.1,g12)))
  )
def zBg(vn1:Int):Nat→Int→Option (Unit ⊕ Bool)
 |0,_=>none
 |n+1,p3=>
  bif (leI (w64 (p3*p3)) vn1) then
   (
    (nz p3).bind fun z7=>
    bif (eqI (Int.tmod vn1 p3) 0) then
     (
      some (.inr false)
     )
    else
     (
      sI (w64 (p3+1)) fun p9=>
      zBg vn1 n p9
     )
   )
  else
   (
    some (.inl ())
   )
def zBh(vn1:Int):Option Bool:=
 bif (ltI vn1 2) then
  (
   some false
  )
 else
  (
   (zBg vn1 FU 2).bind fun qo5=>
   match qo5 with
   | .inr r=>some r
   | .inl o5=>some true
  )
def zD8(p1:Int):Option Bool:=
 (bif (leI p1 10000) then ((zBh p1).bind fun y3=>some y3) else some false).bind fun b4=>
 some b4
def zCd(d1:Int)(p2:Int):Nat→Int→Option (Unit ⊕ ((Int×Int×Int)×Bool))
 |0,_=>none
 |n+1,b3=>
  bif (leI b3 p2) then
   (
    (nz (w64 (4*p2))).bind fun z7=>
    bif (eqI (Int.tmod (w64 ((w64 (b3*b3)) - d1)) (w64 (4*p2))) 0) then
     (
      (nz (w64 (4*p2))).bind fun z9=>
      sI (w64 (Int.tdiv (w64 ((w64 (b3*b3)) - d1)) (w64 (4*p2)))) fun f10=>
      (zAX ((p2,b3,f10))).bind fun y11=>
      some (.inr ((((p2,b3,f10),eqI y11 1))))
     )
    else
     (
      sI (w64 (b3+1)) fun b12=>
      zCd d1 p2 n b12
     )
   )
  else
   (
    some (.inl ())
   )
def zE4(d1:Int)(p2:Int):Option ((Int×Int×Int)×Bool):=
 (zCd d1 p2 FU 0).bind fun qo5=>
 match qo5 with
 | .inr r=>some r
 | .inl o5=>some (((0,0,0),false))
def zE6(d1:Int)(p2:Int):Option ((Int×Int×Int)×Bool):=
 (qT d1).bind fun y3=>
 (bif (!y3) then some true else ((zD8 p2).bind fun y5=>some (!y5))).bind fun b6=>
 bif b6 then
  (
   some (((0,0,0),false))
  )
 else
  (
   (zE4 d1 p2).bind fun y8=>
   bif (!y8.2) then
    (
     some (((0,0,0),false))
    )
   else
    (
     some ((y8.1,true))
    )
  )
def zDT(d1:Int)(p2:Int):Option ((Int×Int×Int)×Bool):=
 (zE6 d1 p2).bind fun y3=>
 bif (!y3.2) then
  (
   some (((0,0,0),false))
  )
 else
  (
   (qD y3.1).bind fun y5=>
   some ((y5,true))
  )
def zBr(a2:Int)(g1:(Int×Int×Int))(size3:Int)(x6:Int):Nat→Int→Option (Unit ⊕ (Int×Int))
 |0,_=>none
 |n+1,y10=>
  bif (leI y10 size3) then
   (
    (bif (eqI (mxI x6 y10) size3) then ((zES x6 y10).bind fun y15=>some (eqI y15 1)) else some false).bind fun b16=>
    (bif b16 then ((zAi g1 x6 y10).bind fun y18=>(zES y18 a2).bind fun y19=>some (eqI y19 1)) else some false).bind fun b20=>
    bif b20 then
     (
      some (.inr (((x6,y10))))
     )
    else
     (
      sI (w64 (y10+1)) fun y22=>
      zBr a2 g1 size3 x6 n y22
     )
   )
  else
   (
    some (.inl ())
   )
def zCM(a2:Int)(g1:(Int×Int×Int))(size3:Int):Nat→Int→Option (Unit ⊕ (Int×Int))
 |0,_=>none
 |n+1,x6=>
  bif (leI x6 size3) then
   (
    (zBr a2 g1 size3 x6 FU 0).bind fun qo12=>
    match qo12 with
    | .inr r=>some (.inr r)
    | .inl o12=>
     sI (w64 (x6+1)) fun x23=>
     zCM a2 g1 size3 n x23
   )
  else
   (
    some (.inl ())
   )
def zAh(a2:Int)(g1:(Int×Int×Int)):Nat→Int→Option (Unit ⊕ (Int×Int))
 |0,_=>none
 |n+1,size3=>
  (zCM a2 g1 size3 FU 0).bind fun qo8=>
  match qo8 with
  | .inr r=>some (.inr r)
  | .inl o8=>
   sI (w64 (size3+1)) fun size24=>
   zAh a2 g1 n size24
def zCX(g1:(Int×Int×Int))(a2:Int):Option (Int×Int):=
 (zAh a2 g1 FU 0).bind fun qo5=>
 match qo5 with
 | .inr r=>some r
 | .inl _=>none
def zFb(vm2:Int):Nat→Int→Int→Int→Int→Option Int
 |0,_,_,_,_=>none
 |n+1,x4,y5,vr6,vs7=>
  bif (!eqI vs7 0) then
   (
    (nz vs7).bind fun z11=>
    sI (w64 (Int.tdiv vr6 vs7)) fun q12=>
    sI (w64 (vr6 - (w64 (q12*vs7)))) fun vs13=>
    sI (w64 (x4 - (w64 (q12*y5)))) fun y14=>
    zFb vm2 n y5 y14 vs7 vs13
   )
  else
   (
    some x4
   )
def zER(a1:Int)(vm2:Int):Option Int:=
 (zAg a1 vm2).bind fun y3=>
 (zFb vm2 FU 1 0 y3 vm2).bind fun o9=>
 (zAg o9 vm2).bind fun y15=>
 some y15
def zB6(f1:(Int×Int×Int))(x2:Int)(y3:Int):Option ((Int×Int×Int)×(Int×Int×Int×Int)):=
 (
  bif (eqI y3 0) then
   (
    some (0,x2)
   )
  else
   (
    (zET y3).bind fun y6=>
    (zER x2 y6).bind fun y7=>
    (nz y3).bind fun z8=>
    sI (w64 (Int.tdiv (w64 ((w64 (x2*y7)) - 1)) y3)) fun f9=>
    some (f9,y7)
   )
 ).bind fun j4=>
 (qF f1 ((x2,j4.1,y3,j4.2))).bind fun y10=>
 (zBS y10.2.1 (w64 (2*y10.1))).bind fun y11=>
 sI (w64 (0 - y11)) fun t12=>
 sI (w64 (j4.1+(w64 (t12*x2)))) fun f13=>
 sI (w64 (j4.2+(w64 (t12*y3)))) fun f14=>
 (qF f1 ((x2,f13,y3,f14))).bind fun y15=>
 some ((y15,(x2,f13,y3,f14)))
def zDy(f1:(Int×Int×Int))(y4:((Int×Int×Int)×(Int×Int×Int×Int))):Nat→Int→Option Int
 |0,_=>none
 |n+1,f6=>
  (zAg (w64 (f6 - y4.1.2.1)) (w64 (2*y4.1.1))).bind fun y9=>
  bif (!eqI y9 0) then
   (
    sI (w64 (f6+(w64 (2*f1.1)))) fun f11=>
    zDy f1 y4 n f11
   )
  else
   (
    some f6
   )
def zDm(f1:(Int×Int×Int))(g2:(Int×Int×Int)):Option (Int×Int×Int×Int×(Int×Int×Int×Int)×(Int×Int×Int×Int)):=
 (zCX g2 f1.1).bind fun y3=>
 (zB6 g2 y3.1 y3.2).bind fun y4=>
 (zAg f1.2.1 (w64 (2*f1.1))).bind fun y5=>
 (zDy f1 y4 FU y5).bind fun o8=>
 (zAg o8 (w64 ((w64 (2*f1.1))*y4.1.1))).bind fun y12=>
 (zL f1).bind fun y13=>
 (nz (w64 ((w64 (4*f1.1))*y4.1.1))).bind fun z14=>
 sI (w64 (Int.tdiv (w64 ((w64 (y12*y12)) - y13)) (w64 ((w64 (4*f1.1))*y4.1.1)))) fun f15=>
 (nz (w64 (2*f1.1))).bind fun z16=>
 sI (w64 (Int.tdiv (w64 (y12 - f1.2.1)) (w64 (2*f1.1)))) fun f17=>
 (nz (w64 (2*y4.1.1))).bind fun z18=>
 (qC y4.2 ((1,w64 (Int.tdiv (w64 (y12 - y4.1.2.1)) (w64 (2*y4.1.1))),0,1))).bind fun y19=>
 some ((f1.1,y4.1.1,y12,f15,(1,f17,0,1),y19))
def zCU(u1:(Int×Int×Int×Int×(Int×Int×Int×Int)×(Int×Int×Int×Int))):Option (Int×Int×Int):=
 sI (w64 (u1.1*u1.2.1)) fun f2=>
 some ((f2,u1.2.2.1,u1.2.2.2.1))
def jT(f1:(Int×Int×Int))(g2:(Int×Int×Int)):Option (Int×Int×Int):=
 (qD f1).bind fun y3=>
 (qD g2).bind fun y4=>
 (zDm y3 y4).bind fun y5=>
 (zCU y5).bind fun y6=>
 (qD y6).bind fun y7=>
 some y7
def zB5(f1:(Int×Int×Int)):Option (Int×Int×Int):=
 sI (w64 (0 - f1.2.1)) fun f2=>
 some ((f1.1,f2,f1.2.2))
def zAf(d1:Int):Option (Int×Int×Int):=
 (zAg d1 2).bind fun y2=>
 sI (w64 (Int.tdiv (w64 (y2 - d1)) 4)) fun f3=>
 some ((1,y2,f3))
def zB3:Nat→Int→Int→Int→Int→Int→Int→Int→Option (Int×Int×Int)
 |0,_,_,_,_,_,_,_=>none
 |n+1,k11,f12,f13,f14,f15,f16,f17=>
  bif (ltI 0 k11) then
   (
    (
     bif (eqI (Int.tmod k11 2) 1) then
      (
       (jT ((f12,f13,f14)) ((f15,f16,f17))).bind fun y23=>
       some (y23.1,y23.2.1,y23.2.2)
      )
     else
      (
       some (f12,f13,f14)
      )
    ).bind fun j21=>
    (jT ((f15,f16,f17)) ((f15,f16,f17))).bind fun y24=>
    sI (w64 (Int.tdiv k11 2)) fun k25=>
    zB3 n k25 j21.1 j21.2.1 j21.2.2 y24.1 y24.2.1 y24.2.2
   )
  else
   (
    some (f12,f13,f14)
   )
def zCA(f1:(Int×Int×Int))(k2:Int):Option (Int×Int×Int):=
 (
  bif (ltI k2 0) then
   (
    (zB5 f1).bind fun y5=>
    sI (w64 (0 - k2)) fun k6=>
    some (k6,y5.1,y5.2.1,y5.2.2)
   )
  else
   (
    some (k2,f1.1,f1.2.1,f1.2.2)
   )
 ).bind fun j3=>
 (zL j3.2).bind fun y7=>
 (zAf y7).bind fun y8=>
 (qD y8).bind fun y9=>
 (qD j3.2).bind fun y10=>
 (zB3 FU j3.1 y9.1 y9.2.1 y9.2.2 y10.1 y10.2.1 y10.2.2).bind fun o19=>
 some o19
def zH(vs1:(Int×(Nat→(Int×Int×Int))))(l2:(qf×(List Int)×(Int×Int×Int)×Int))(forms3:List (Int×Int×Int)):Option (Bool×Bool×(Int×(Nat→(Int×Int×Int)))):=
 bif (l2.1.toList==((⟨#[100,105,115,99]⟩:qf)).toList) then
  (
   (qT l2.2.2.2).bind fun y5=>
   some ((y5,true,(l2.2.2.2,(fun _=>(0,0,0)))))
  )
 else
  (
   bif (l2.1.toList==((⟨#[115,101,116]⟩:qf)).toList) then
    (
     (
      (zV l2.2.2.1).bind fun y7=>
      bif y7 then
       (
        (zL l2.2.2.1).bind fun y8=>
        bif (eqI y8 vs1.1) then
         (
          (getI l2.2.1 0).bind fun e9=>
          (zAq vs1 e9 l2.2.2.1).bind fun y10=>
          some ((y10.1,y10.2.1,y10.2.2))
         )
        else
         (
          some ((false,vs1.1,vs1.2))
         )
       )
      else
       (
        some ((false,vs1.1,vs1.2))
       )
     ).bind fun j11=>
     some ((j11.1,true,j11.2))
    )
   else
    (
     (some (l2.1.toList==((⟨#[112,114,105,109,101]⟩:qf)).toList)).bind fun t12=>
     bif t12 then
      (
       (zDT vs1.1 l2.2.2.2).bind fun y14=>
       (
        bif y14.2 then
         (
          (getI l2.2.1 0).bind fun e15=>
          (zAq vs1 e15 y14.1).bind fun y16=>
          some ((y16.1,y16.2.1,y16.2.2))
         )
        else
         (
          some ((false,vs1.1,vs1.2))
         )
       ).bind fun j17=>
       some ((j17.1,true,j17.2))
      )
     else
      (
       bif (l2.1.toList==((⟨#[109,117,108]⟩:qf)).toList) then
        (
         (getI l2.2.1 0).bind fun e19=>
         (getI forms3 1).bind fun e20=>
         (getI forms3 2).bind fun e21=>
         (jT e20 e21).bind fun y22=>
         (zAq vs1 e19 y22).bind fun y23=>
         some ((y23.1,true,y23.2))
        )
       else
        (
         bif (l2.1.toList==((⟨#[112,111,119]⟩:qf)).toList) then
          (
           (getI l2.2.1 0).bind fun e25=>
           (getI forms3 1).bind fun e26=>
           (zCA e26 l2.2.2.2).bind fun y27=>
           (zAq vs1 e25 y27).bind fun y28=>
           some ((y28.1,true,y28.2))
          )
         else
          (
           (some (l2.1.toList==((⟨#[102,114,101,101]⟩:qf)).toList)).bind fun t29=>
           bif t29 then
            (
             (getI l2.2.1 0).bind fun e31=>
             (getA 26 vs1.2 e31).bind fun e32=>
             ((getA 26 vs1.2 e31).map fun _=>upA vs1.2 (Int.toNat e31) ((0,0,0))).bind fun g33=>
             some ((true,true,(vs1.1,g33)))
            )
           else
            (
             some ((false,false,vs1))
            )
          )
        )
      )
    )
  )
def jZ(a2:Int)(d1:Int):Nat→Int→List (Int×Int×Int)→Option (List (Int×Int×Int))
 |0,_,_=>none
 |n+1,b8,l9=>
  bif (leI b8 a2) then
   (
    (nz (w64 (4*a2))).bind fun z13=>
    (some (!eqI (Int.tmod (w64 ((w64 (b8*b8)) - d1)) (w64 (4*a2))) 0)).bind fun t14=>
    bif t14 then
     (
      sI (w64 (b8+1)) fun b16=>
      jZ a2 d1 n b16 l9
     )
    else
     (
      (nz (w64 (4*a2))).bind fun z17=>
      sI (w64 (Int.tdiv (w64 ((w64 (b8*b8)) - d1)) (w64 (4*a2)))) fun f18=>
      (qG ((a2,b8,f18))).bind fun y19=>
      bif y19 then
       (
        (room (l9.length+([(a2,b8,f18)]).length)).bind fun u21=>
        sI (w64 (b8+1)) fun b22=>
        jZ a2 d1 n b22 (l9++([(a2,b8,f18)]))
       )
      else
       (
        sI (w64 (b8+1)) fun b23=>
        jZ a2 d1 n b23 l9
       )
     )
   )
  else
   (
    some l9
   )
def zB4(d1:Int):Nat→Int→List (Int×Int×Int)→Option (List (Int×Int×Int))
 |0,_,_=>none
 |n+1,a2,l3=>
  bif (leI (w64 ((w64 (3*a2))*a2)) (w64 (0 - d1))) then
   (
    sI (w64 (1 - a2)) fun b7=>
    (jZ a2 d1 FU b7 l3).bind fun o11=>
    sI (w64 (a2+1)) fun a24=>
    zB4 d1 n a24 o11
   )
  else
   (
    some l3
   )
def zEG(d1:Int):Option (List (Int×Int×Int)):=
 (zB4 d1 FU 1 (([]:List (Int×Int×Int)))).bind fun o5=>
 some o5
def zBG(forms1:List (Int×Int×Int)):Nat→Int→List (Int×Int×Int)→Option (List (Int×Int×Int))
 |0,_,_=>none
 |n+1,t2,l3=>
  bif (ltI t2 ((forms1.length:Int))) then
   (
    (getI forms1 t2).bind fun e7=>
    (zAX e7).bind fun y8=>
    bif (eqI y8 1) then
     (
      (room (l3.length+([e7]).length)).bind fun u10=>
      sI (w64 (t2+1)) fun t11=>
      zBG forms1 n t11 (l3++([e7]))
     )
    else
     (
      sI (w64 (t2+1)) fun t12=>
      zBG forms1 n t12 l3
     )
   )
  else
   (
    some l3
   )
def zDn(forms1:List (Int×Int×Int)):Option (List (Int×Int×Int)):=
 (zBG forms1 FU 0 (([]:List (Int×Int×Int)))).bind fun o5=>
 some o5
def zCc(d1:Int):Option (List (Int×Int×Int)):=
 (zEG d1).bind fun y2=>
 (zDn y2).bind fun y3=>
 some y3
def zBi(y2:List (Int×Int×Int)):Nat→Int→List ((Int×Int×Int)×Int)→Option (List ((Int×Int×Int)×Int))
 |0,_,_=>none
 |n+1,t3,l4=>
  bif (ltI t3 ((y2.length:Int))) then
   (
    (getI y2 t3).bind fun e8=>
    sI (w64 (t3+1)) fun t9=>
    zBi y2 n t9 (mPut e8 t3 l4)
   )
  else
   (
    some l4
   )
def zFc(d1:Int):Option ((List (Int×Int×Int))×(List ((Int×Int×Int)×Int))):=
 (zCc d1).bind fun y2=>
 (zBi y2 FU 0 (([]:List ((Int×Int×Int)×Int)))).bind fun o6=>
 some ((y2,o6))
def zCY(f1:(Int×Int×Int)):Option (Int×Bool):=
 (zV f1).bind fun y2=>
 bif (!y2) then
  (
   some ((0,false))
  )
 else
  (
   (zL f1).bind fun y4=>
   (zFc y4).bind fun y5=>
   (qD f1).bind fun y6=>
   sI (mAt y6 y5.2 0) fun t7=>
   some ((t7,true))
  )
def zCW(f1:(Int×Int×Int)):Option Bool:=
 (qD f1).bind fun y2=>
 (zL f1).bind fun y3=>
 (zAf y3).bind fun y4=>
 (qD y4).bind fun y5=>
 (some (((y2.1==y5.1)&&((y2.2.1==y5.2.1)&&(y2.2.2==y5.2.2))))).bind fun t6=>
 some t6
def zCV(f1:(Int×Int×Int)):Nat→Int→Int→Int→Int→Option Int
 |0,_,_,_,_=>none
 |n+1,k3,f4,f5,f6=>
  (zCW ((f4,f5,f6))).bind fun y9=>
  bif (!y9) then
   (
    sI (w64 (k3+1)) fun k11=>
    (jT ((f4,f5,f6)) f1).bind fun y12=>
    zCV f1 n k11 y12.1 y12.2.1 y12.2.2
   )
  else
   (
    some k3
   )
def zEQ(f1:(Int×Int×Int)):Option Int:=
 (qD f1).bind fun y2=>
 (zCV f1 FU 1 y2.1 y2.2.1 y2.2.2).bind fun o8=>
 some o8
def zFG(p3:Int):Nat→Int→List Int→Option (Int×(List Int))
 |0,_,_=>none
 |n+1,vn8,l9=>
  (nz p3).bind fun z12=>
  bif (eqI (Int.tmod vn8 p3) 0) then
   (
    (room (l9.length+([p3]).length)).bind fun u14=>
    (nz p3).bind fun z15=>
    sI (w64 (Int.tdiv vn8 p3)) fun vn16=>
    zFG p3 n vn16 (l9++([p3]))
   )
  else
   (
    some (vn8,l9)
   )
def zFd:Nat→Int→Int→List Int→Option (Int×(List Int))
 |0,_,_,_=>none
 |n+1,vn2,p3,l4=>
  bif (leI (w64 (p3*p3)) vn2) then
   (
    (zFG p3 FU vn2 l4).bind fun o11=>
    sI (w64 (p3+1)) fun p17=>
    zFd n o11.1 p17 o11.2
   )
  else
   (
    some (vn2,l4)
   )
def zHR(vn1:Int):Option (List Int):=
 (zFd FU vn1 2 (([]:List Int))).bind fun o6=>
 bif (ltI 1 o6.1) then
  (
   (room (o6.2.length+([o6.1]).length)).bind fun u19=>
   some (o6.2++([o6.1]))
  )
 else
  (
   some o6.2
  )
def zDo(y2:List Int):Nat→Int→List Int→Option (List Int)
 |0,_,_=>none
 |n+1,t3,l4=>
  bif (ltI t3 ((y2.length:Int))) then
   (
    (getI y2 t3).bind fun e8=>
    (getI y2 t3).bind fun e9=>
    (bif (eqI ((l4.length:Int)) 0) then some true else ((getI l4 (w64 (((l4.length:Int)) - 1))).bind fun e11=>(getI l4 (w64 (((l4.length:Int)) - 1))).bind fun e12=>some (!eqI e12 e9))).bind fun b13=>
    bif b13 then
     (
      (room (l4.length+([e9]).length)).bind fun u15=>
      sI (w64 (t3+1)) fun t16=>
      zDo y2 n t16 (l4++([e9]))
     )
    else
     (
      sI (w64 (t3+1)) fun t17=>
      zDo y2 n t17 l4
     )
   )
  else
   (
    some l4
   )
def zG9(vn1:Int):Option (List Int):=
 (zHR vn1).bind fun y2=>
 (zDo y2 FU 0 (([]:List Int))).bind fun o6=>
 some o6
def zDp(d1:Int)(y2:List Int):Nat→Int→List (Int×Int)→Option (List (Int×Int))
 |0,_,_=>none
 |n+1,t3,l4=>
  bif (ltI t3 ((y2.length:Int))) then
   (
    (getI y2 t3).bind fun e8=>
    (getI y2 t3).bind fun e9=>
    bif (ltI 2 e9) then
     (
      (room (l4.length+([(1,e9)]).length)).bind fun u11=>
      sI (w64 (t3+1)) fun t12=>
      zDp d1 y2 n t12 (l4++([(1,e9)]))
     )
    else
     (
      sI (w64 (t3+1)) fun t13=>
      zDp d1 y2 n t13 l4
     )
   )
  else
   (
    some l4
   )
def zGa(d1:Int):Option (List (Int×Int)):=
 (zG9 (w64 (0 - d1))).bind fun y2=>
 (zDp d1 y2 FU 0 (([]:List (Int×Int)))).bind fun o6=>
 bif (!eqI (Int.tmod d1 2) 0) then
  (
   some o6
  )
 else
  (
   sI (w64 (Int.tdiv (w64 (0 - d1)) 4)) fun vn15=>
   sI (Int.tmod vn15 8) fun t16=>
   (
    bif (eqI t16 1) then
     (
      some (eqI t16 1)
     )
    else
     (
      bif (eqI t16 5) then
       (
        some (eqI t16 5)
       )
      else
       (
        some (eqI t16 4)
       )
     )
   ).bind fun j17=>
   bif j17 then
    (
     (room (o6.length+([(2,0)]).length)).bind fun u21=>
     some (o6++([(2,0)]))
    )
   else
    (
     bif (eqI t16 2) then
      (
       (room (o6.length+([(4,0)]).length)).bind fun u23=>
       some (o6++([(4,0)]))
      )
     else
      (
       bif (eqI t16 6) then
        (
         (room (o6.length+([(3,0)]).length)).bind fun u25=>
         some (o6++([(3,0)]))
        )
       else
        (
         bif (eqI t16 0) then
          (
           (room (o6.length+([(2,0),(3,0)]).length)).bind fun u27=>
           some (o6++([(2,0),(3,0)]))
          )
         else
          (
           some o6
          )
        )
      )
    )
  )
def zCz(vn1:Int):Option Int:=
 (zAg vn1 8).bind fun y2=>
 bif (bif (eqI y2 1) then true else (eqI y2 7)) then
  (
   some 1
  )
 else
  (
   some (-1)
  )
def zF9(vn5:Int):Nat→Int→Int→Option (Int×Int)
 |0,_,_=>none
 |n+1,a10,vs11=>
  bif (eqI (Int.tmod a10 2) 0) then
   (
    sI (w64 (Int.tdiv a10 2)) fun a15=>
    (zCz vn5).bind fun y16=>
    sI (w64 (vs11*y16)) fun vs17=>
    zF9 vn5 n a15 vs17
   )
  else
   (
    some (a10,vs11)
   )
def zE5:Nat→Int→Int→Int→Option (Int×Int)
 |0,_,_,_=>none
 |n+1,a4,vn5,vs6=>
  bif (!eqI a4 0) then
   (
    (zF9 vn5 FU a4 vs6).bind fun o13=>
    (some (bif (eqI (Int.tmod o13.1 4) 3) then (eqI (Int.tmod vn5 4) 3) else false)).bind fun t19=>
    bif t19 then
     (
      sI (w64 (0 - o13.2)) fun vs21=>
      (nz o13.1).bind fun z22=>
      sI (Int.tmod vn5 o13.1) fun a23=>
      zE5 n a23 o13.1 vs21
     )
    else
     (
      (nz o13.1).bind fun z24=>
      sI (Int.tmod vn5 o13.1) fun a25=>
      zE5 n a25 o13.1 o13.2
     )
   )
  else
   (
    some (vn5,vs6)
   )
def zII(a1:Int)(vn2:Int):Option Int:=
 (zAg a1 vn2).bind fun y3=>
 (zE5 FU y3 vn2 1).bind fun o8=>
 bif (!eqI o8.1 1) then
  (
   some 0
  )
 else
  (
   some o8.2
  )
def zDq(x1:(Int×Int))(vn2:Int):Option Int:=
 bif (eqI x1.1 1) then
  (
   (zII vn2 x1.2).bind fun y4=>
   some y4
  )
 else
  (
   bif (eqI (Int.tmod vn2 2) 0) then
    (
     some 0
    )
   else
    (
     (zAg vn2 4).bind fun y6=>
     sI (w64 (2 - y6)) fun delta7=>
     bif (eqI x1.1 2) then
      (
       some delta7
      )
     else
      (
       bif (eqI x1.1 3) then
        (
         (zCz vn2).bind fun y10=>
         some y10
        )
       else
        (
         (zCz vn2).bind fun y11=>
         sI (w64 (delta7*y11)) fun t12=>
         some t12
        )
      )
    )
  )
def zFE(vn2:Int)(y3:List (Int×Int)):Nat→Int→List Int→Option (List Int)
 |0,_,_=>none
 |n+1,t4,l5=>
  bif (ltI t4 ((y3.length:Int))) then
   (
    (getI y3 t4).bind fun e9=>
    (getI y3 t4).bind fun e10=>
    (zDq e10 vn2).bind fun y11=>
    (room (l5.length+([y11]).length)).bind fun u12=>
    sI (w64 (t4+1)) fun t13=>
    zFE vn2 y3 n t13 (l5++([y11]))
   )
  else
   (
    some l5
   )
def zG8(d1:Int)(vn2:Int):Option (List Int):=
 (zGa d1).bind fun y3=>
 (zFE vn2 y3 FU 0 (([]:List Int))).bind fun o7=>
 some o7
def zCB(f1:(Int×Int×Int)):Option (List Int):=
 (qD f1).bind fun y2=>
 (zL y2).bind fun y3=>
 (zCX y2 (w64 (2*y3))).bind fun y4=>
 (zAi y2 y4.1 y4.2).bind fun y5=>
 (zG8 y3 y5).bind fun y6=>
 some y6
def zFa(vn1:Int):Option Bool:=
 some (bif (leI 1 vn1) then (leI vn1 10000) else false)
def zBd(vn1:Int):Nat→Int→Int→Option Int
 |0,_,_=>none
 |n+1,low2,high3=>
  bif (ltI low2 high3) then
   (
    sI (w64 (Int.tdiv (w64 ((w64 (low2+high3))+1)) 2)) fun vm7=>
    bif (leI (w64 (vm7*vm7)) vn1) then
     (
      zBd vn1 n vm7 high3
     )
    else
     (
      sI (w64 (vm7 - 1)) fun high9=>
      zBd vn1 n low2 high9
     )
   )
  else
   (
    some low2
   )
def zDg(vn1:Int):Option Int:=
 (zBd vn1 FU 0 3000000000).bind fun o5=>
 some o5
def zC4(vn1:Int):Option Bool:=
 (bif (leI 0 vn1) then ((zDg vn1).bind fun y3=>(zDg vn1).bind fun y4=>some (eqI (w64 (y3*y4)) vn1)) else some false).bind fun b5=>
 some b5
def j0(f1:(Int×Int×Int))(vn2:Int)(y3:Int)(y5:Int):Nat→Int→List (Int×Int)→Option (List (Int×Int))
 |0,_,_=>none
 |n+1,x7,l8=>
  bif (leI x7 y5) then
   (
    sI (w64 ((w64 ((w64 (y3*x7))*x7))+(w64 ((w64 (4*f1.2.2))*vn2)))) fun square12=>
    (zC4 square12).bind fun y13=>
    bif (!y13) then
     (
      sI (w64 (x7+1)) fun x15=>
      j0 f1 vn2 y3 y5 n x15 l8
     )
    else
     (
      (zDg square12).bind fun y16=>
      (
       (nz (w64 (2*f1.2.2))).bind fun z18=>
       (some (eqI (Int.tmod (w64 ((w64 ((w64 (0 - f1.2.1))*x7)) - y16)) (w64 (2*f1.2.2))) 0)).bind fun t19=>
       bif t19 then
        (
         (nz (w64 (2*f1.2.2))).bind fun z21=>
         (room (l8.length+([(x7,w64 (Int.tdiv (w64 ((w64 ((w64 (0 - f1.2.1))*x7)) - y16)) (w64 (2*f1.2.2))))]).length)).bind fun u22=>
         (some (l8++([(x7,w64 (Int.tdiv (w64 ((w64 ((w64 (0 - f1.2.1))*x7)) - y16)) (w64 (2*f1.2.2))))]))).bind fun l23=>
         some l23
        )
       else
        (
         some l8
        )
      ).bind fun j17=>
      (bif (ltI 0 y16) then ((nz (w64 (2*f1.2.2))).bind fun z25=>some (eqI (Int.tmod (w64 ((w64 ((w64 (0 - f1.2.1))*x7))+y16)) (w64 (2*f1.2.2))) 0)) else some false).bind fun b26=>
      bif b26 then
       (
        (nz (w64 (2*f1.2.2))).bind fun z28=>
        (room (j17.length+([(x7,w64 (Int.tdiv (w64 ((w64 ((w64 (0 - f1.2.1))*x7))+y16)) (w64 (2*f1.2.2))))]).length)).bind fun u29=>
        (some (j17++([(x7,w64 (Int.tdiv (w64 ((w64 ((w64 (0 - f1.2.1))*x7))+y16)) (w64 (2*f1.2.2))))]))).bind fun l30=>
        sI (w64 (x7+1)) fun x31=>
        j0 f1 vn2 y3 y5 n x31 l30
       )
      else
       (
        sI (w64 (x7+1)) fun x32=>
        j0 f1 vn2 y3 y5 n x32 j17
       )
     )
   )
  else
   (
    some l8
   )
def zCE(f1:(Int×Int×Int))(vn2:Int):Option (List (Int×Int)):=
 (zL f1).bind fun y3=>
 (nz (w64 (0 - y3))).bind fun z4=>
 (zDg (w64 (Int.tdiv (w64 ((w64 (4*f1.2.2))*vn2)) (w64 (0 - y3))))).bind fun y5=>
 sI (w64 (0 - y5)) fun x6=>
 (j0 f1 vn2 y3 y5 FU x6 (([]:List (Int×Int)))).bind fun o10=>
 some o10
def zCf(f1:(Int×Int×Int))(vn2:Int):Option ((List (Int×Int))×Bool):=
 (jA f1).bind fun y3=>
 (bif (!y3) then some true else ((zFa vn2).bind fun y5=>some (!y5))).bind fun b6=>
 bif b6 then
  (
   some ((([]:List (Int×Int)),false))
  )
 else
  (
   (zCE f1 vn2).bind fun y8=>
   some ((y8,true))
  )
def zA4(f1:(Int×Int×Int))(vn2:Int):Option (Int×Bool):=
 (zCf f1 vn2).bind fun y3=>
 some (((y3.1.length:Int),y3.2))
def zEH(vm1:(Int×Int×Int×Int)):Option Int:=
 sI (w64 ((w64 (vm1.1*vm1.2.2.2)) - (w64 (vm1.2.1*vm1.2.2.1)))) fun t2=>
 some t2
def zBH(vm1:(Int×Int×Int×Int)):Option (Int×Int×Int×Int):=
 (zEH vm1).bind fun y2=>
 sI (w64 (y2*vm1.2.2.2)) fun f3=>
 sI (w64 ((w64 (0 - y2))*vm1.2.1)) fun f4=>
 sI (w64 ((w64 (0 - y2))*vm1.2.2.1)) fun f5=>
 sI (w64 (y2*vm1.1)) fun f6=>
 some ((f3,f4,f5,f6))
def zDL(vm1:(Int×Int×Int×Int)):Option Bool:=
 (zBC ([vm1.1,vm1.2.1,vm1.2.2.1,vm1.2.2.2])).bind fun y2=>
 some y2
def zFe(vm1:(Int×Int×Int×Int)):Option ((Int×Int×Int×Int)×Bool):=
 (zDL vm1).bind fun y2=>
 bif (!y2) then
  (
   some (((0,0,0,0),false))
  )
 else
  (
   some ((vm1,true))
  )
def zBN(f1:(Int×Int×Int))(g2:(Int×Int×Int)):Option ((Int×Int×Int×Int)×Bool):=
 (zR f1).bind fun y3=>
 (bif (!y3) then some true else ((zR g2).bind fun y5=>some (!y5))).bind fun b6=>
 bif b6 then
  (
   some (((0,0,0,0),false))
  )
 else
  (
   (jE f1).bind fun y8=>
   (jE g2).bind fun y9=>
   (some (!((y8.1.1==y9.1.1)&&((y8.1.2.1==y9.1.2.1)&&(y8.1.2.2==y9.1.2.2))))).bind fun t10=>
   bif t10 then
    (
     some (((0,0,0,0),false))
    )
   else
    (
     (zBH y9.2).bind fun y12=>
     (qC y8.2 y12).bind fun y13=>
     (zFe y13).bind fun y14=>
     some ((y14.1,y14.2))
    )
  )
def zBf(vm1:(Int×Int×Int×Int)):Option qf:=
 (qS vm1.1).bind fun y2=>
 (catR ((⟨#[91]⟩:qf)) y2).bind fun u3=>
 (catR (((⟨#[91]⟩:qf))++y2) ((⟨#[44]⟩:qf))).bind fun u4=>
 (qS vm1.2.1).bind fun y5=>
 (catR ((((⟨#[91]⟩:qf))++y2)++((⟨#[44]⟩:qf))) y5).bind fun u6=>
 (catR (((((⟨#[91]⟩:qf))++y2)++((⟨#[44]⟩:qf)))++y5) ((⟨#[59]⟩:qf))).bind fun u7=>
 (qS vm1.2.2.1).bind fun y8=>
 (catR ((((((⟨#[91]⟩:qf))++y2)++((⟨#[44]⟩:qf)))++y5)++((⟨#[59]⟩:qf))) y8).bind fun u9=>
 (catR (((((((⟨#[91]⟩:qf))++y2)++((⟨#[44]⟩:qf)))++y5)++((⟨#[59]⟩:qf)))++y8) ((⟨#[44]⟩:qf))).bind fun u10=>
 (qS vm1.2.2.2).bind fun y11=>
 (catR ((((((((⟨#[91]⟩:qf))++y2)++((⟨#[44]⟩:qf)))++y5)++((⟨#[59]⟩:qf)))++y8)++((⟨#[44]⟩:qf))) y11).bind fun u12=>
 (catR (((((((((⟨#[91]⟩:qf))++y2)++((⟨#[44]⟩:qf)))++y5)++((⟨#[59]⟩:qf)))++y8)++((⟨#[44]⟩:qf)))++y11) ((⟨#[93]⟩:qf))).bind fun u13=>
 some ((((((((((⟨#[91]⟩:qf))++y2)++((⟨#[44]⟩:qf)))++y5)++((⟨#[59]⟩:qf)))++y8)++((⟨#[44]⟩:qf)))++y11)++((⟨#[93]⟩:qf)))
def zCC(kind1:qf)(words2:List qf):Option qf:=
 (catR kind1 ((⟨#[32]⟩:qf))).bind fun u3=>
 (zCs words2 ((⟨#[32]⟩:qf))).bind fun y4=>
 (catR (kind1++((⟨#[32]⟩:qf))) y4).bind fun u5=>
 some ((kind1++((⟨#[32]⟩:qf)))++y4)
def zAJ(f1:(Int×Int×Int))(g2:(Int×Int×Int)):Option (qf×Bool):=
 (zBN f1 g2).bind fun y3=>
 bif (!y3.2) then
  (
   some (((⟨#[]⟩:qf),false))
  )
 else
  (
   (zAC f1).bind fun y5=>
   (zAC g2).bind fun y6=>
   (zBf y3.1).bind fun y7=>
   (zCC ((⟨#[101,113,117,105,118,97,108,101,110,116]⟩:qf)) ([y5,y6,y7])).bind fun y8=>
   some ((y8,true))
  )
def zBD(f1:(Int×Int×Int)):Option ((Int×Int×Int)×(Int×Int×Int×Int)×Bool):=
 (zR f1).bind fun y2=>
 bif (!y2) then
  (
   some (((0,0,0),(0,0,0,0),false))
  )
 else
  (
   (jE f1).bind fun y4=>
   (zDL y4.2).bind fun y5=>
   bif (!y5) then
    (
     some (((0,0,0),(0,0,0,0),false))
    )
   else
    (
     some ((y4.1,y4.2,true))
    )
  )
def zAU(f1:(Int×Int×Int))(g2:(Int×Int×Int)):Option (qf×Bool):=
 (zBD f1).bind fun y3=>
 (zBD g2).bind fun y4=>
 (some (bif (bif (!y3.2.2) then true else (!y4.2.2)) then true else (((y3.1.1==y4.1.1)&&((y3.1.2.1==y4.1.2.1)&&(y3.1.2.2==y4.1.2.2)))))).bind fun t7=>
 bif t7 then
  (
   some (((⟨#[]⟩:qf),false))
  )
 else
  (
   (zAC f1).bind fun y9=>
   (zBf y3.2.1).bind fun y10=>
   (zAC y3.1).bind fun y11=>
   (zAC g2).bind fun y12=>
   (zBf y4.2.1).bind fun y13=>
   (zAC y4.1).bind fun y14=>
   (zCC ((⟨#[100,105,102,102,101,114,101,110,116]⟩:qf)) ([y9,y10,y11,y12,y13,y14])).bind fun y15=>
   some ((y15,true))
  )
def zB2(vs1:(Int×(Nat→(Int×Int×Int))))(y21:List Int):Nat→qf→Int→Option qf
 |0,_,_=>none
 |n+1,signs22,t23=>
  bif (ltI t23 ((y21.length:Int))) then
   (
    (getI y21 t23).bind fun e27=>
    (getI y21 t23).bind fun e28=>
    (getB ((⟨#[45,43]⟩:qf)) (w64 (Int.tdiv (w64 (e28+1)) 2))).bind fun e29=>
    (catR signs22 (Utf8.encode e29)).bind fun u30=>
    sI (w64 (t23+1)) fun t31=>
    zB2 vs1 y21 n (signs22++(Utf8.encode e29)) t31
   )
  else
   (
    some signs22
   )
def jF(vs1:(Int×(Nat→(Int×Int×Int))))(l2:(qf×(List Int)×(Int×Int×Int)×Int))(forms3:List (Int×Int×Int)):Option (qf×Bool):=
 (some (l2.1.toList==((⟨#[115,104,111,119]⟩:qf)).toList)).bind fun t4=>
 bif t4 then
  (
   (getI forms3 0).bind fun e6=>
   (zAC e6).bind fun y7=>
   some ((y7,true))
  )
 else
  (
   (some (l2.1.toList==((⟨#[105,110,100,101,120]⟩:qf)).toList)).bind fun t8=>
   bif t8 then
    (
     (getI forms3 0).bind fun e10=>
     (zCY e10).bind fun y11=>
     (qS y11.1).bind fun y12=>
     some ((y12,y11.2))
    )
   else
    (
     (some (l2.1.toList==((⟨#[111,114,100,101,114]⟩:qf)).toList)).bind fun t13=>
     bif t13 then
      (
       (getI forms3 0).bind fun e15=>
       (zEQ e15).bind fun y16=>
       (qS y16).bind fun y17=>
       some ((y17,true))
      )
     else
      (
       (some (l2.1.toList==((⟨#[103,101,110,117,115]⟩:qf)).toList)).bind fun t18=>
       bif t18 then
        (
         (getI forms3 0).bind fun e20=>
         (zCB e20).bind fun y21=>
         (zB2 vs1 y21 FU ((⟨#[]⟩:qf)) 0).bind fun o25=>
         some ((o25,true))
        )
       else
        (
         (some (l2.1.toList==((⟨#[118,97,108,117,101]⟩:qf)).toList)).bind fun t32=>
         bif t32 then
          (
           (getI forms3 0).bind fun e34=>
           (zA4 e34 l2.2.2.2).bind fun y35=>
           (qS y35.1).bind fun y36=>
           some ((y36,y35.2))
          )
         else
          (
           bif (l2.1.toList==((⟨#[115,97,109,101]⟩:qf)).toList) then
            (
             (getI forms3 0).bind fun e38=>
             (getI forms3 1).bind fun e39=>
             (zAJ e38 e39).bind fun y40=>
             bif y40.2 then
              (
               some ((y40.1,true))
              )
             else
              (
               (getI forms3 0).bind fun e42=>
               (getI forms3 1).bind fun e43=>
               (zAU e42 e43).bind fun y44=>
               some ((y44.1,y44.2))
              )
            )
           else
            (
             (zBz vs1).bind fun y45=>
             bif (!(y45.toList==((⟨#[]⟩:qf)).toList)) then
              (
               some ((y45,true))
              )
             else
              (
               some (((⟨#[110,111,110,101]⟩:qf),true))
              )
            )
          )
        )
      )
    )
  )
def zS(cc1:((Int×(Nat→(Int×Int×Int)))×(List (Int×(Nat→(Int×Int×Int))))))(vs2:qf):Option (qf×((Int×(Nat→(Int×Int×Int)))×(List (Int×(Nat→(Int×Int×Int)))))):=
 (zM vs2).bind fun y3=>
 bif (!y3.2) then
  (
   some (((⟨#[119,104,97,116]⟩:qf),cc1))
  )
 else
  (
   (some (y3.1.1.toList==((⟨#[117,110,100,111]⟩:qf)).toList)).bind fun t5=>
   bif t5 then
    (
     bif (eqI ((cc1.2.length:Int)) 0) then
      (
       some (((⟨#[110,111]⟩:qf),cc1))
      )
     else
      (
       (getI cc1.2 (w64 (((cc1.2.length:Int)) - 1))).bind fun e8=>
       (getI cc1.2 (w64 (((cc1.2.length:Int)) - 1))).bind fun e9=>
       (slc cc1.2.length 0 (w64 (((cc1.2.length:Int)) - 1))).bind fun u10=>
       some (((⟨#[111,107]⟩:qf),(e9,subl cc1.2 0 (w64 (((cc1.2.length:Int)) - 1)))))
      )
    )
   else
    (
     (zP cc1.1 y3.1).bind fun y11=>
     bif (!y11.2) then
      (
       some (((⟨#[110,111]⟩:qf),cc1))
      )
     else
      (
       (zH cc1.1 y3.1 y11.1).bind fun y13=>
       bif y13.2.1 then
        (
         bif (!y13.1) then
          (
           some (((⟨#[110,111]⟩:qf),cc1))
          )
         else
          (
           (room (8*(cc1.2.length+([cc1.1]).length))).bind fun u16=>
           some (((⟨#[111,107]⟩:qf),(y13.2.2,cc1.2++([cc1.1]))))
          )
        )
       else
        (
         (jF cc1.1 y3.1 y11.1).bind fun y17=>
         bif (!y17.2) then
          (
           some (((⟨#[110,111]⟩:qf),cc1))
          )
         else
          (
           some ((y17.1,cc1))
          )
        )
      )
    )
  )
def zQ(y2:((List qf)×Bool)):Nat→Int→List qf→List (Int×(Nat→(Int×Int×Int)))→Int→(Nat→(Int×Int×Int))→Option ((List qf)×(List (Int×(Nat→(Int×Int×Int))))×Int×(Nat→(Int×Int×Int)))
 |0,_,_,_,_,_=>none
 |n+1,t7,l8,l9,f10,l11=>
  bif (ltI t7 ((y2.1.length:Int))) then
   (
    (getI y2.1 t7).bind fun e15=>
    (getI y2.1 t7).bind fun e16=>
    (zS (((f10,l11),l9)) e16).bind fun y17=>
    (room (l8.length+([y17.1]).length)).bind fun u18=>
    sI (w64 (t7+1)) fun t19=>
    zQ y2 n t19 (l8++([y17.1])) y17.2.2 y17.2.1.1 y17.2.1.2
   )
  else
   (
    some (l8,l9,f10,l11)
   )
def zU(script1:qf):Option (Option ((Int×(Nat→(Int×Int×Int)))×(List (Int×(Nat→(Int×Int×Int))))×(List qf))):=
 (zDA script1).bind fun y2=>
 (some (bif (bif (!y2.2) then true else (ltI 2000 ((script1.size:Int)))) then true else (ltI 60 ((y2.1.length:Int))))).bind fun t5=>
 bif t5 then
  (
   some none
  )
 else
  (
   (zQ y2 FU 0 (([]:List qf)) (([]:List (Int×(Nat→(Int×Int×Int))))) (-23) ((fun _=>(0,0,0)))).bind fun o13=>
   some (some ((o13.2.2,o13.2.1,o13.1)))
  )
def jV(cc3:((Int×(Nat→(Int×Int×Int)))×(List (Int×(Nat→(Int×Int×Int))))×(List qf))):Nat→Int→List (Int×Int×Int)→Option (List (Int×Int×Int))
 |0,_,_=>none
 |n+1,t5,l6=>
  bif (ltI t5 26) then
   (
    (getA 26 cc3.1.2 t5).bind fun e10=>
    bif (!((e10.1==0)&&((e10.2.1==0)&&(e10.2.2==0)))) then
     (
      (room (l6.length+([e10]).length)).bind fun u12=>
      sI (w64 (t5+1)) fun t13=>
      jV cc3 n t13 (l6++([e10]))
     )
    else
     (
      sI (w64 (t5+1)) fun t14=>
      jV cc3 n t14 l6
     )
   )
  else
   (
    some l6
   )
def jO(script1:qf):Option ((List (Int×Int×Int))×Bool):=
 (zU script1).bind fun vcc3=>
 elO vcc3 (
  some ((([]:List (Int×Int×Int)),false))
 ) fun cc3=>
 (jV cc3 FU 0 (([]:List (Int×Int×Int)))).bind fun o8=>
 some ((o8,true))
def zAd(script1:qf):Option (Int×Bool):=
 (zCF script1).bind fun y2=>
 bif (!y2.2.2) then
  (
   some ((0,false))
  )
 else
  (
   some ((y2.1.1.1,true))
  )
def qH(script1:qf):Option (Int×Bool):=
 (zU script1).bind fun vcc3=>
 elO vcc3 (
  some ((0,false))
 ) fun cc3=>
 some ((cc3.1.1,true))
def jU(cc3:((Int×(Nat→(Int×Int×Int)))×(List (Int×(Nat→(Int×Int×Int))))×(List qf))):Nat→Int→Int→Int→Option (Int×Int)
 |0,_,_,_=>none
 |n+1,no5,t6,what7=>
  bif (ltI t6 ((cc3.2.2.length:Int))) then
   (
    (getI cc3.2.2 t6).bind fun e11=>
    bif (e11.toList==((⟨#[110,111]⟩:qf)).toList) then
     (
      sI (w64 (no5+1)) fun no13=>
      sI (w64 (t6+1)) fun t14=>
      jU cc3 n no13 t14 what7
     )
    else
     (
      bif (e11.toList==((⟨#[119,104,97,116]⟩:qf)).toList) then
       (
        sI (w64 (what7+1)) fun what16=>
        sI (w64 (t6+1)) fun t17=>
        jU cc3 n no5 t17 what16
       )
      else
       (
        sI (w64 (t6+1)) fun t18=>
        jU cc3 n no5 t18 what7
       )
     )
   )
  else
   (
    some (no5,what7)
   )
def zAx(script1:qf):Option (Int×Int×Int×Bool):=
 (zU script1).bind fun vcc3=>
 elO vcc3 (
  some ((0,0,0,false))
 ) fun cc3=>
 (jU cc3 FU 0 0 0).bind fun o9=>
 sI (w64 ((w64 (((cc3.2.2.length:Int)) - o9.1)) - o9.2)) fun t19=>
 some ((o9.1,o9.2,t19,true))
def jY(y2:(((Int×qf×(List (Int×Int×Int)))×(List (Int×qf×(List (Int×Int×Int)))))×(List qf)×Bool)):Nat→Int→List Int→Option (List Int)
 |0,_,_=>none
 |n+1,t3,l4=>
  bif (ltI t3 ((y2.2.1.length:Int))) then
   (
    (getI y2.2.1 t3).bind fun e8=>
    (getI y2.2.1 t3).bind fun e9=>
    (some (bif (e9.toList==((⟨#[110,111]⟩:qf)).toList) then true else (e9.toList==((⟨#[119,104,97,116]⟩:qf)).toList))).bind fun t11=>
    bif t11 then
     (
      (room (l4.length+([w64 (t3+1)]).length)).bind fun u13=>
      sI (w64 (t3+1)) fun t14=>
      jY y2 n t14 (l4++([w64 (t3+1)]))
     )
    else
     (
      sI (w64 (t3+1)) fun t15=>
      jY y2 n t15 l4
     )
   )
  else
   (
    some l4
   )
def zCy(script1:qf):Option ((List Int)×Bool):=
 (zCF script1).bind fun y2=>
 (jY y2 FU 0 (([]:List Int))).bind fun o6=>
 some ((o6,y2.2.2))
def zAA(cc3:((Int×(Nat→(Int×Int×Int)))×(List (Int×(Nat→(Int×Int×Int))))×(List qf))):Nat→Int→List Int→Option (List Int)
 |0,_,_=>none
 |n+1,t5,l6=>
  bif (ltI t5 ((cc3.2.2.length:Int))) then
   (
    (getI cc3.2.2 t5).bind fun e10=>
    (some (bif (e10.toList==((⟨#[110,111]⟩:qf)).toList) then true else (e10.toList==((⟨#[119,104,97,116]⟩:qf)).toList))).bind fun t12=>
    bif t12 then
     (
      (room (l6.length+([w64 (t5+1)]).length)).bind fun u14=>
      sI (w64 (t5+1)) fun t15=>
      zAA cc3 n t15 (l6++([w64 (t5+1)]))
     )
    else
     (
      sI (w64 (t5+1)) fun t16=>
      zAA cc3 n t16 l6
     )
   )
  else
   (
    some l6
   )
def zAP(script1:qf):Option ((List Int)×Bool):=
 (zU script1).bind fun vcc3=>
 elO vcc3 (
  some ((([]:List Int),false))
 ) fun cc3=>
 (zAA cc3 FU 0 (([]:List Int))).bind fun o8=>
 some ((o8,true))
def zAc(y2:(((Int×qf×(List (Int×Int×Int)))×(List (Int×qf×(List (Int×Int×Int)))))×(List qf)×Bool)):Nat→qf→Int→Option qf
 |0,_,_=>none
 |n+1,out3,t4=>
  bif (ltI t4 ((y2.2.1.length:Int))) then
   (
    (getI y2.2.1 t4).bind fun e8=>
    (getI y2.2.1 t4).bind fun e9=>
    (catR e9 ((⟨#[10]⟩:qf))).bind fun u10=>
    (catR out3 (e9++((⟨#[10]⟩:qf)))).bind fun u11=>
    sI (w64 (t4+1)) fun t12=>
    zAc y2 n (out3++(e9++((⟨#[10]⟩:qf)))) t12
   )
  else
   (
    some out3
   )
def zCT(script1:qf):Option (qf×Bool):=
 (zCF script1).bind fun y2=>
 (zAc y2 FU ((⟨#[]⟩:qf)) 0).bind fun o6=>
 some ((o6,y2.2.2))
def rm47(n:Nat):Option Unit:=bif Nat.ble n 140737488355328 then some () else none
def zAW(l1:List qf):Nat→Int→List UInt8→Option (List UInt8)
 |0,_,_=>none
 |n+1,k2,acc4=>
  bif (ltI k2 ((l1.length:Int))) then
   (
    (getI l1 k2).bind fun e5=>
    (catR e5 (⟨#[10]⟩:qf)).bind fun u6=>
    (rm47 (acc4.length+(e5++(⟨#[10]⟩:qf)).size)).bind fun u7=>
    zAW l1 n (w64 (k2+1)) (acc4++(e5++(⟨#[10]⟩:qf)).data.toList)
   )
  else
   (
    some acc4
   )
def zAH(script1:qf):Option (qf×Bool):=
 (zU script1).bind fun vcc3=>
 elO vcc3 (
  some (((⟨#[]⟩:qf),false))
 ) fun cc3=>
 (zAW cc3.2.2 FU 0 []).bind fun o8=>
 some (((⟨o8.toArray⟩:qf),true))
def zDl(code1:List Int)(more2:List Int):Option Bool:=
 (some (bif (ltI 1048576 ((code1.length:Int))) then true else (ltI (w64 (1048576 - ((code1.length:Int)))) ((more2.length:Int))))).bind fun t4=>
 some t4
def zCQ(cc1:((List Int)×Int×Int)):Option (Int×((List Int)×Int×Int)):=
 (
  bif (ltI cc1.2.1 ((cc1.1.length:Int))) then
   (
    (getI cc1.1 cc1.2.1).bind fun e4=>
    sI (IntKind.i64.wrap e4) fun b5=>
    some b5
   )
  else
   (
    some 0
   )
 ).bind fun j2=>
 sI (w64 (cc1.2.1+1)) fun f6=>
 sI (IntKind.u64.wrap ((IntKind.u64.wrap ((IntKind.u64.wrap (cc1.2.2*6364136223846793005))+(IntKind.u64.wrap j2)))+1442695040888963407)) fun f7=>
 bif (leI f6 ((cc1.1.length:Int))) then
  (
   some ((j2,(cc1.1,f6,f7)))
  )
 else
  (
   sI (IntKind.i64.wrap (andI .u64 (shrI .u64 f7 40) 255)) fun t9=>
   some ((t9,(cc1.1,f6,f7)))
  )
def zO(cc1:((List Int)×Int×Int))(vn2:Int):Option (Int×((List Int)×Int×Int)):=
 bif (leI vn2 1) then
  (
   some ((0,cc1))
  )
 else
  (
   (zCQ cc1).bind fun y4=>
   bif (ltI 200 vn2) then
    (
     (zCQ y4.2).bind fun y6=>
     sI (w64 ((w64 (y4.1*256))+y6.1)) fun x7=>
     (nz vn2).bind fun z8=>
     sI (Int.tmod x7 vn2) fun t9=>
     some ((t9,y6.2))
    )
   else
    (
     (nz vn2).bind fun z10=>
     sI (Int.tmod y4.1 vn2) fun t11=>
     some ((t11,y4.2))
    )
  )
def jX(cc1:((List Int)×Int×Int))(list2:List Int):Option (Int×((List Int)×Int×Int)):=
 (zO cc1 ((list2.length:Int))).bind fun y3=>
 (getI list2 y3.1).bind fun e4=>
 some ((e4,y3.2))
def zBm(cc1:((List Int)×Int×Int))(list2:List qf):Option (qf×((List Int)×Int×Int)):=
 (zO cc1 ((list2.length:Int))).bind fun y3=>
 (getI list2 y3.1).bind fun e4=>
 some ((e4,y3.2))
def zAv(cc1:((List Int)×Int×Int)):Option (qf×((List Int)×Int×Int)):=
 (zBm cc1 ([(⟨#[97]⟩:qf),(⟨#[98]⟩:qf),(⟨#[99]⟩:qf),(⟨#[97]⟩:qf),(⟨#[98]⟩:qf),(⟨#[100]⟩:qf),(⟨#[122]⟩:qf),(⟨#[109]⟩:qf),(⟨#[113]⟩:qf)])).bind fun y2=>
 some ((y2.1,y2.2))
def zB0(cc1:((List Int)×Int×Int))(d2:Int):Option ((Int×Int×Int)×((List Int)×Int×Int)):=
 (zCG d2).bind fun y3=>
 (zO cc1 ((y3.length:Int))).bind fun y4=>
 (getI y3 y4.1).bind fun e5=>
 (getI y3 y4.1).bind fun e6=>
 some ((e6,y4.2))
def jL:Nat→Int→Int→Int→Int→Int→List Int→Int→Int→Option (Int×Int×Int×Int×(List Int)×Int×Int)
 |0,_,_,_,_,_,_,_,_=>none
 |n+1,k3,f4,f5,f6,f7,f8,f9,f10=>
  bif (ltI 0 k3) then
   (
    (zO ((f8,f9,f10)) 9).bind fun y14=>
    sI (w64 (y14.1 - 4)) fun t15=>
    (zO y14.2 3).bind fun y16=>
    bif (eqI y16.1 0) then
     (
      (qJ ((f4,f5,f6,f7)) ((1,t15,0,1))).bind fun y18=>
      sI (w64 (k3 - 1)) fun k19=>
      jL n k19 y18.1 y18.2.1 y18.2.2.1 y18.2.2.2 y16.2.1 y16.2.2.1 y16.2.2.2
     )
    else
     (
      bif (eqI y16.1 1) then
       (
        (qJ ((f4,f5,f6,f7)) ((1,0,t15,1))).bind fun y21=>
        sI (w64 (k3 - 1)) fun k22=>
        jL n k22 y21.1 y21.2.1 y21.2.2.1 y21.2.2.2 y16.2.1 y16.2.2.1 y16.2.2.2
       )
      else
       (
        (qJ ((f4,f5,f6,f7)) ((0,-1,1,0))).bind fun y23=>
        sI (w64 (k3 - 1)) fun k24=>
        jL n k24 y23.1 y23.2.1 y23.2.2.1 y23.2.2.2 y16.2.1 y16.2.2.1 y16.2.2.2
       )
     )
   )
  else
   (
    some (f4,f5,f6,f7,f8,f9,f10)
   )
def zCa(cc1:((List Int)×Int×Int)):Option ((Int×Int×Int×Int)×((List Int)×Int×Int)):=
 (zO cc1 6).bind fun y2=>
 (jL FU y2.1 1 0 0 1 y2.2.1 y2.2.2.1 y2.2.2.2).bind fun o12=>
 some (((o12.1,o12.2.1,o12.2.2.1,o12.2.2.2.1),o12.2.2.2.2))
def zCu(cc1:((List Int)×Int×Int))(f2:(Int×Int×Int)):Option ((Int×Int×Int)×((List Int)×Int×Int)):=
 (zCa cc1).bind fun y3=>
 (zDk f2 y3.1).bind fun y4=>
 (zEB y4).bind fun y5=>
 bif (!y5) then
  (
   some ((f2,y3.2))
  )
 else
  (
   some ((y4,y3.2))
  )
def jK(vwith3:qf):Nat→qf→Int→List Int→Int→Int→Option (qf×(List Int)×Int×Int)
 |0,_,_,_,_,_=>none
 |n+1,t6,vn7,f8,f9,f10=>
  bif (bif (ltI 0 vn7) then (ltI 0 ((t6.size:Int))) else false) then
   (
    (zO ((f8,f9,f10)) ((t6.size:Int))).bind fun y15=>
    (zO y15.2 ((vwith3.size:Int))).bind fun y16=>
    (getB vwith3 y16.1).bind fun e17=>
    (zO y16.2 3).bind fun y18=>
    bif (eqI y18.1 0) then
     (
      (slc t6.size 0 y15.1).bind fun u20=>
      (catR (t6.extract (Int.toNat 0) (Int.toNat y15.1)) (zAy ([e17]))).bind fun u21=>
      (slc t6.size y15.1 ((t6.size:Int))).bind fun u22=>
      (catR ((t6.extract (Int.toNat 0) (Int.toNat y15.1))++(zAy ([e17]))) (t6.extract (Int.toNat y15.1) (Int.toNat ((t6.size:Int))))).bind fun u23=>
      sI (w64 (vn7 - 1)) fun vn24=>
      jK vwith3 n (((t6.extract (Int.toNat 0) (Int.toNat y15.1))++(zAy ([e17])))++(t6.extract (Int.toNat y15.1) (Int.toNat ((t6.size:Int))))) vn24 y18.2.1 y18.2.2.1 y18.2.2.2
     )
    else
     (
      bif (eqI y18.1 1) then
       (
        (slc t6.size 0 y15.1).bind fun u26=>
        (catR (t6.extract (Int.toNat 0) (Int.toNat y15.1)) (zAy ([e17]))).bind fun u27=>
        (slc t6.size (w64 (y15.1+1)) ((t6.size:Int))).bind fun u28=>
        (catR ((t6.extract (Int.toNat 0) (Int.toNat y15.1))++(zAy ([e17]))) (t6.extract (Int.toNat (w64 (y15.1+1))) (Int.toNat ((t6.size:Int))))).bind fun u29=>
        sI (w64 (vn7 - 1)) fun vn30=>
        jK vwith3 n (((t6.extract (Int.toNat 0) (Int.toNat y15.1))++(zAy ([e17])))++(t6.extract (Int.toNat (w64 (y15.1+1))) (Int.toNat ((t6.size:Int))))) vn30 y18.2.1 y18.2.2.1 y18.2.2.2
       )
      else
       (
        (slc t6.size 0 y15.1).bind fun u31=>
        (slc t6.size (w64 (y15.1+1)) ((t6.size:Int))).bind fun u32=>
        (catR (t6.extract (Int.toNat 0) (Int.toNat y15.1)) (t6.extract (Int.toNat (w64 (y15.1+1))) (Int.toNat ((t6.size:Int))))).bind fun u33=>
        sI (w64 (vn7 - 1)) fun vn34=>
        jK vwith3 n ((t6.extract (Int.toNat 0) (Int.toNat y15.1))++(t6.extract (Int.toNat (w64 (y15.1+1))) (Int.toNat ((t6.size:Int))))) vn34 y18.2.1 y18.2.2.1 y18.2.2.2
       )
     )
   )
  else
   (
    some (t6,f8,f9,f10)
   )
def zC8(cc1:((List Int)×Int×Int))(t2:qf)(vwith3:qf):Option (qf×((List Int)×Int×Int)):=
 (zO cc1 2).bind fun y4=>
 sI (w64 (1+y4.1)) fun vn5=>
 (jK vwith3 FU t2 vn5 y4.2.1 y4.2.2.1 y4.2.2.2).bind fun o12=>
 some ((o12.1,o12.2))
def zC9(cc1:((List Int)×Int×Int))(d2:Int):Option (qf×((List Int)×Int×Int)):=
 (zAv cc1).bind fun y3=>
 (zAv y3.2).bind fun y4=>
 (zAv y4.2).bind fun y5=>
 (zO y5.2 16).bind fun y6=>
 bif (eqI y6.1 0) then
  (
   (jX y6.2 ([-23,-84,-420,-3,-4,-47,-20,-5,5,-2000])).bind fun y8=>
   (jD y8.1).bind fun y9=>
   (catR ((⟨#[100,105,115,99,32]⟩:qf)) y9).bind fun u10=>
   some ((((⟨#[100,105,115,99,32]⟩:qf))++y9,y8.2))
  )
 else
  (
   (
    bif (eqI y6.1 1) then
     (
      some (eqI y6.1 1)
     )
    else
     (
      some (eqI y6.1 2)
     )
   ).bind fun j11=>
   bif j11 then
    (
     (catR ((⟨#[115,101,116,32]⟩:qf)) y3.1).bind fun u14=>
     (catR (((⟨#[115,101,116,32]⟩:qf))++y3.1) ((⟨#[32]⟩:qf))).bind fun u15=>
     (zB0 y6.2 d2).bind fun y16=>
     (zCu y16.2 y16.1).bind fun y17=>
     (zAV y17.1).bind fun y18=>
     (catR ((((⟨#[115,101,116,32]⟩:qf))++y3.1)++((⟨#[32]⟩:qf))) y18).bind fun u19=>
     some ((((((⟨#[115,101,116,32]⟩:qf))++y3.1)++((⟨#[32]⟩:qf)))++y18,y17.2))
    )
   else
    (
     (
      bif (eqI y6.1 3) then
       (
        some (eqI y6.1 3)
       )
      else
       (
        some (eqI y6.1 4)
       )
     ).bind fun j20=>
     bif j20 then
      (
       (catR ((⟨#[112,114,105,109,101,32]⟩:qf)) y3.1).bind fun u23=>
       (catR (((⟨#[112,114,105,109,101,32]⟩:qf))++y3.1) ((⟨#[32]⟩:qf))).bind fun u24=>
       (jX y6.2 ([2,3,5,7,11,13,23,4,-2])).bind fun y25=>
       (jD y25.1).bind fun y26=>
       (catR ((((⟨#[112,114,105,109,101,32]⟩:qf))++y3.1)++((⟨#[32]⟩:qf))) y26).bind fun u27=>
       some ((((((⟨#[112,114,105,109,101,32]⟩:qf))++y3.1)++((⟨#[32]⟩:qf)))++y26,y25.2))
      )
     else
      (
       (
        bif (eqI y6.1 5) then
         (
          some (eqI y6.1 5)
         )
        else
         (
          some (eqI y6.1 6)
         )
       ).bind fun j28=>
       bif j28 then
        (
         (catR ((⟨#[109,117,108,32]⟩:qf)) y3.1).bind fun u31=>
         (catR (((⟨#[109,117,108,32]⟩:qf))++y3.1) ((⟨#[32]⟩:qf))).bind fun u32=>
         (catR ((((⟨#[109,117,108,32]⟩:qf))++y3.1)++((⟨#[32]⟩:qf))) y4.1).bind fun u33=>
         (catR (((((⟨#[109,117,108,32]⟩:qf))++y3.1)++((⟨#[32]⟩:qf)))++y4.1) ((⟨#[32]⟩:qf))).bind fun u34=>
         (catR ((((((⟨#[109,117,108,32]⟩:qf))++y3.1)++((⟨#[32]⟩:qf)))++y4.1)++((⟨#[32]⟩:qf))) y5.1).bind fun u35=>
         some ((((((((⟨#[109,117,108,32]⟩:qf))++y3.1)++((⟨#[32]⟩:qf)))++y4.1)++((⟨#[32]⟩:qf)))++y5.1,y6.2))
        )
       else
        (
         bif (eqI y6.1 7) then
          (
           (catR ((⟨#[112,111,119,32]⟩:qf)) y3.1).bind fun u37=>
           (catR (((⟨#[112,111,119,32]⟩:qf))++y3.1) ((⟨#[32]⟩:qf))).bind fun u38=>
           (catR ((((⟨#[112,111,119,32]⟩:qf))++y3.1)++((⟨#[32]⟩:qf))) y4.1).bind fun u39=>
           (catR (((((⟨#[112,111,119,32]⟩:qf))++y3.1)++((⟨#[32]⟩:qf)))++y4.1) ((⟨#[32]⟩:qf))).bind fun u40=>
           (zO y6.2 15).bind fun y41=>
           (jD (w64 (y41.1 - 5))).bind fun y42=>
           (catR ((((((⟨#[112,111,119,32]⟩:qf))++y3.1)++((⟨#[32]⟩:qf)))++y4.1)++((⟨#[32]⟩:qf))) y42).bind fun u43=>
           some ((((((((⟨#[112,111,119,32]⟩:qf))++y3.1)++((⟨#[32]⟩:qf)))++y4.1)++((⟨#[32]⟩:qf)))++y42,y41.2))
          )
         else
          (
           bif (eqI y6.1 8) then
            (
             (catR ((⟨#[102,114,101,101,32]⟩:qf)) y3.1).bind fun u45=>
             some ((((⟨#[102,114,101,101,32]⟩:qf))++y3.1,y6.2))
            )
           else
            (
             bif (eqI y6.1 9) then
              (
               (zBm y6.2 ([(⟨#[115,104,111,119,32]⟩:qf),(⟨#[105,110,100,101,120,32]⟩:qf),(⟨#[111,114,100,101,114,32]⟩:qf),(⟨#[103,101,110,117,115,32]⟩:qf),(⟨#[115,104,111,119,32]⟩:qf)])).bind fun y47=>
               (catR y47.1 y4.1).bind fun u48=>
               some ((y47.1++y4.1,y47.2))
              )
             else
              (
               bif (eqI y6.1 10) then
                (
                 (catR ((⟨#[118,97,108,117,101,32]⟩:qf)) y4.1).bind fun u50=>
                 (catR (((⟨#[118,97,108,117,101,32]⟩:qf))++y4.1) ((⟨#[32]⟩:qf))).bind fun u51=>
                 (zO y6.2 60).bind fun y52=>
                 (jD y52.1).bind fun y53=>
                 (catR ((((⟨#[118,97,108,117,101,32]⟩:qf))++y4.1)++((⟨#[32]⟩:qf))) y53).bind fun u54=>
                 some ((((((⟨#[118,97,108,117,101,32]⟩:qf))++y4.1)++((⟨#[32]⟩:qf)))++y53,y52.2))
                )
               else
                (
                 bif (eqI y6.1 11) then
                  (
                   (catR ((⟨#[115,97,109,101,32]⟩:qf)) y4.1).bind fun u56=>
                   (catR (((⟨#[115,97,109,101,32]⟩:qf))++y4.1) ((⟨#[32]⟩:qf))).bind fun u57=>
                   (catR ((((⟨#[115,97,109,101,32]⟩:qf))++y4.1)++((⟨#[32]⟩:qf))) y5.1).bind fun u58=>
                   some ((((((⟨#[115,97,109,101,32]⟩:qf))++y4.1)++((⟨#[32]⟩:qf)))++y5.1,y6.2))
                  )
                 else
                  (
                   bif (eqI y6.1 12) then
                    (
                     some (((⟨#[110,97,109,101,115]⟩:qf),y6.2))
                    )
                   else
                    (
                     bif (eqI y6.1 13) then
                      (
                       some (((⟨#[117,110,100,111]⟩:qf),y6.2))
                      )
                     else
                      (
                       bif (eqI y6.1 14) then
                        (
                         (catR ((⟨#[109,117,108,32]⟩:qf)) y3.1).bind fun u62=>
                         (catR (((⟨#[109,117,108,32]⟩:qf))++y3.1) ((⟨#[32]⟩:qf))).bind fun u63=>
                         (catR ((((⟨#[109,117,108,32]⟩:qf))++y3.1)++((⟨#[32]⟩:qf))) y4.1).bind fun u64=>
                         (catR (((((⟨#[109,117,108,32]⟩:qf))++y3.1)++((⟨#[32]⟩:qf)))++y4.1) ((⟨#[32]⟩:qf))).bind fun u65=>
                         (catR ((((((⟨#[109,117,108,32]⟩:qf))++y3.1)++((⟨#[32]⟩:qf)))++y4.1)++((⟨#[32]⟩:qf))) y5.1).bind fun u66=>
                         (zC8 y6.2 (((((((⟨#[109,117,108,32]⟩:qf))++y3.1)++((⟨#[32]⟩:qf)))++y4.1)++((⟨#[32]⟩:qf)))++y5.1) ((⟨#[97,98,99,109,117,108,32,45,48,49,32]⟩:qf))).bind fun y67=>
                         some ((y67.1,y67.2))
                        )
                       else
                        (
                         (zBm y6.2 ([(⟨#[]⟩:qf),(⟨#[32]⟩:qf),(⟨#[102,108,121]⟩:qf),(⟨#[110,97,109,101,115,32]⟩:qf),(⟨#[115,104,111,119,32,65]⟩:qf),(⟨#[115,101,116,32,97,32,40,49,44,49,44,54]⟩:qf),(⟨#[100,105,115,99,32,45,48,50,51]⟩:qf),(⟨#[115,104,111,119,32,97,98]⟩:qf),(⟨#[111,114,100,101,114,32,32,97]⟩:qf)])).bind fun y68=>
                         some ((y68.1,y68.2))
                        )
                      )
                    )
                  )
                )
              )
            )
          )
        )
      )
    )
  )
def zAN(y2:(Int×((List Int)×Int×Int))):Nat→qf→Int→List Int→Int→Int→Option (qf×(List Int)×Int×Int)
 |0,_,_,_,_,_=>none
 |n+1,vs9,vn10,f11,f12,f13=>
  bif (ltI 0 vn10) then
   (
    (zC9 ((f11,f12,f13)) y2.1).bind fun y17=>
    (catR y17.1 ((⟨#[10]⟩:qf))).bind fun u18=>
    (catR vs9 (y17.1++((⟨#[10]⟩:qf)))).bind fun u19=>
    sI (w64 (vn10 - 1)) fun vn20=>
    zAN y2 n (vs9++(y17.1++((⟨#[10]⟩:qf)))) vn20 y17.2.1 y17.2.2.1 y17.2.2.2
   )
  else
   (
    some (vs9,f11,f12,f13)
   )
def zAM:Nat→qf→Int→Option qf
 |0,_,_=>none
 |n+1,vs27,vn28=>
  bif (ltI 0 vn28) then
   (
    (catR vs27 ((⟨#[110,97,109,101,115,10]⟩:qf))).bind fun u32=>
    sI (w64 (vn28 - 1)) fun vn33=>
    zAM n (vs27++((⟨#[110,97,109,101,115,10]⟩:qf))) vn33
   )
  else
   (
    some vs27
   )
def zAL:Nat→qf→Int→Option qf
 |0,_,_=>none
 |n+1,vs35,k36=>
  bif (ltI k36 9) then
   (
    (slc ((⟨#[97,98,99,100,101,102,103,104,105]⟩:qf)).size k36 (w64 (k36+1))).bind fun u40=>
    (catR ((⟨#[112,114,105,109,101,32]⟩:qf)) (((⟨#[97,98,99,100,101,102,103,104,105]⟩:qf)).extract (Int.toNat k36) (Int.toNat (w64 (k36+1))))).bind fun u41=>
    (catR (((⟨#[112,114,105,109,101,32]⟩:qf))++(((⟨#[97,98,99,100,101,102,103,104,105]⟩:qf)).extract (Int.toNat k36) (Int.toNat (w64 (k36+1))))) ((⟨#[32,50,10]⟩:qf))).bind fun u42=>
    (catR vs35 ((((⟨#[112,114,105,109,101,32]⟩:qf))++(((⟨#[97,98,99,100,101,102,103,104,105]⟩:qf)).extract (Int.toNat k36) (Int.toNat (w64 (k36+1)))))++((⟨#[32,50,10]⟩:qf)))).bind fun u43=>
    sI (w64 (k36+1)) fun k44=>
    zAL n (vs35++((((⟨#[112,114,105,109,101,32]⟩:qf))++(((⟨#[97,98,99,100,101,102,103,104,105]⟩:qf)).extract (Int.toNat k36) (Int.toNat (w64 (k36+1)))))++((⟨#[32,50,10]⟩:qf)))) k44
   )
  else
   (
    some vs35
   )
def zBq(code1:List Int):Option qf:=
 (jX ((code1,0,0)) ([-23,-23,-84,-420,-47])).bind fun y2=>
 (
  bif (!eqI y2.1 (-23)) then
   (
    (jD y2.1).bind fun y5=>
    (catR ((⟨#[100,105,115,99,32]⟩:qf)) y5).bind fun u6=>
    (catR (((⟨#[100,105,115,99,32]⟩:qf))++y5) ((⟨#[10]⟩:qf))).bind fun u7=>
    some ((((⟨#[100,105,115,99,32]⟩:qf))++y5)++((⟨#[10]⟩:qf)))
   )
  else
   (
    some ((⟨#[]⟩:qf))
   )
 ).bind fun j3=>
 (zO y2.2 24).bind fun y8=>
 (zAN y2 FU j3 y8.1 y8.2.1 y8.2.2.1 y8.2.2.2).bind fun o15=>
 (zO o15.2 20).bind fun y21=>
 bif (eqI y21.1 0) then
  (
   bif (!(o15.1.toList==((⟨#[]⟩:qf)).toList)) then
    (
     (slc o15.1.size 0 (w64 (((o15.1.size:Int)) - 1))).bind fun u24=>
     some (o15.1.extract (Int.toNat 0) (Int.toNat (w64 (((o15.1.size:Int)) - 1))))
    )
   else
    (
     some o15.1
    )
  )
 else
  (
   bif (eqI y21.1 1) then
    (
     (jX y21.2 ([50,59,60,61])).bind fun y26=>
     (zAM FU o15.1 y26.1).bind fun o30=>
     some o30
    )
   else
    (
     bif (eqI y21.1 2) then
      (
       (zAL FU o15.1 0).bind fun o38=>
       (catR o38 ((⟨#[110,97,109,101,115,10,117,110,100,111,10,117,110,100,111,10,110,97,109,101,115,10]⟩:qf))).bind fun u45=>
       some (o38++((⟨#[110,97,109,101,115,10,117,110,100,111,10,117,110,100,111,10,110,97,109,101,115,10]⟩:qf)))
      )
     else
      (
       some o15.1
      )
    )
  )
def zCn(a1:List (Int×Int×Int))(b2:List (Int×Int×Int)):Nat→Int→Option (Unit ⊕ Bool)
 |0,_=>none
 |n+1,t4=>
  bif (ltI t4 ((a1.length:Int))) then
   (
    (getI a1 t4).bind fun e8=>
    (getI b2 t4).bind fun e9=>
    (some (!((e8.1==e9.1)&&((e8.2.1==e9.2.1)&&(e8.2.2==e9.2.2))))).bind fun t10=>
    bif t10 then
     (
      some (.inr false)
     )
    else
     (
      sI (w64 (t4+1)) fun t12=>
      zCn a1 b2 n t12
     )
   )
  else
   (
    some (.inl ())
   )
def zED(a1:List (Int×Int×Int))(b2:List (Int×Int×Int)):Option Bool:=
 bif (!eqI ((a1.length:Int)) ((b2.length:Int))) then
  (
   some false
  )
 else
  (
   (zCn a1 b2 FU 0).bind fun qo6=>
   match qo6 with
   | .inr r=>some r
   | .inl o6=>some true
  )
def zBy(a1:List Int)(b2:List Int):Nat→Int→Option (Unit ⊕ Bool)
 |0,_=>none
 |n+1,t4=>
  bif (ltI t4 ((a1.length:Int))) then
   (
    (getI a1 t4).bind fun e8=>
    (getI b2 t4).bind fun e9=>
    bif (!eqI e8 e9) then
     (
      some (.inr false)
     )
    else
     (
      sI (w64 (t4+1)) fun t11=>
      zBy a1 b2 n t11
     )
   )
  else
   (
    some (.inl ())
   )
def zDx(a1:List Int)(b2:List Int):Option Bool:=
 bif (!eqI ((a1.length:Int)) ((b2.length:Int))) then
  (
   some false
  )
 else
  (
   (zBy a1 b2 FU 0).bind fun qo6=>
   match qo6 with
   | .inr r=>some r
   | .inl o6=>some true
  )
def zCe(f1:(Int×Int×Int)):Option (Int×Bool):=
 (zCi f1).bind fun y2=>
 bif (!y2) then
  (
   some ((0,false))
  )
 else
  (
   (zL f1).bind fun y4=>
   some ((y4,true))
  )
def zCO(f1:(Int×Int×Int)):Option (Bool×Bool):=
 (zR f1).bind fun y2=>
 bif (!y2) then
  (
   some ((false,false))
  )
 else
  (
   (qG f1).bind fun y4=>
   some ((y4,true))
  )
def zDB(f1:(Int×Int×Int)):Option Bool:=
 (zV f1).bind fun y2=>
 some y2
def zAe(y10:(Int×Bool))(y12:(Int×Int×Int×Bool))(y13:((List Int)×Bool))(y5:qf)(y6:(qf×Bool))(y8:((List (Int×Int×Int))×Bool)):Nat→Int→Int→Option Int
 |0,_,_=>none
 |n+1,lines31,i32=>
  bif (ltI i32 ((y5.size:Int))) then
   (
    (getB y5 i32).bind fun e36=>
    bif (eqI e36 10) then
     (
      sI (w64 (lines31+1)) fun lines38=>
      sI (w64 (i32+1)) fun i39=>
      zAe y10 y12 y13 y5 y6 y8 n lines38 i39
     )
    else
     (
      sI (w64 (i32+1)) fun i40=>
      zAe y10 y12 y13 y5 y6 y8 n lines31 i40
     )
   )
  else
   (
    some lines31
   )
def zB1(o34:Int)(y10:(Int×Bool))(y5:qf)(y6:(qf×Bool))(y8:((List (Int×Int×Int))×Bool)):Nat→Int→Option (Unit ⊕ Bool)
 |0,_=>none
 |n+1,t45=>
  bif (ltI t45 ((y8.1.length:Int))) then
   (
    (getI y8.1 t45).bind fun e49=>
    (getI y8.1 t45).bind fun e50=>
    (zCe e50).bind fun y51=>
    (zCO e50).bind fun y52=>
    (bif (bif (bif (bif (!y51.2) then true else (!eqI y51.1 y10.1)) then true else (!y52.2)) then true else (!y52.1)) then some true else ((zDB e50).bind fun y57=>some (!y57))).bind fun b58=>
    bif b58 then
     (
      some (.inr false)
     )
    else
     (
      sI (w64 (t45+1)) fun t60=>
      zB1 o34 y10 y5 y6 y8 n t60
     )
   )
  else
   (
    some (.inl ())
   )
def zGB(code1:List Int)(more2:List Int):Option Bool:=
 (zDl code1 more2).bind fun y3=>
 bif y3 then
  (
   some true
  )
 else
  (
   (zBq code1).bind fun y5=>
   (zAH y5).bind fun y6=>
   (zCT y5).bind fun y7=>
   (jO y5).bind fun y8=>
   (zCb y5).bind fun y9=>
   (qH y5).bind fun y10=>
   (zAd y5).bind fun y11=>
   (zAx y5).bind fun y12=>
   (zAP y5).bind fun y13=>
   (zCy y5).bind fun y14=>
   (bif (bif (bif (y6.2 != y7.2) then true else (!(y6.1.toList==y7.1.toList))) then true else (y8.2 != y9.2)) then some true else ((zED y8.1 y9.1).bind fun y18=>some (!y18))).bind fun b19=>
   (bif (bif (bif (bif (bif (bif (bif b19 then true else (y10.2 != y11.2)) then true else (!eqI y10.1 y11.1)) then true else (y8.2 != y6.2)) then true else (y10.2 != y6.2)) then true else (y12.2.2.2 != y6.2)) then true else (y13.2 != y14.2)) then some true else ((zDx y13.1 y14.1).bind fun y27=>some (!y27))).bind fun b28=>
   bif b28 then
    (
     some false
    )
   else
    (
     bif (!y6.2) then
      (
       some true
      )
     else
      (
       (zAe y10 y12 y13 y5 y6 y8 FU 0 0).bind fun o34=>
       (some (bif (bif (!eqI (w64 ((w64 (y12.1+y12.2.1))+y12.2.2.1)) o34) then true else (!eqI (w64 (y12.1+y12.2.1)) ((y13.1.length:Int)))) then true else (ltI 8 ((y8.1.length:Int))))).bind fun t43=>
       bif t43 then
        (
         some false
        )
       else
        (
         (zB1 o34 y10 y5 y6 y8 FU 0).bind fun qo47=>
         match qo47 with
         | .inr r=>some r
         | .inl o47=>
          (catR y5 ((⟨#[100,105,115,99,32,45,56,52,10,117,110,100,111,10]⟩:qf))).bind fun u61=>
          (some (bif (leI (((y5++((⟨#[100,105,115,99,32,45,56,52,10,117,110,100,111,10]⟩:qf))).size:Int)) 2000) then (leI (w64 (o34+2)) 60) else false)).bind fun t63=>
          bif t63 then
           (
            (jO (y5++((⟨#[100,105,115,99,32,45,56,52,10,117,110,100,111,10]⟩:qf)))).bind fun y65=>
            (qH (y5++((⟨#[100,105,115,99,32,45,56,52,10,117,110,100,111,10]⟩:qf)))).bind fun y66=>
            (zAH (y5++((⟨#[100,105,115,99,32,45,56,52,10,117,110,100,111,10]⟩:qf)))).bind fun y67=>
            (bif y65.2 then ((zED y65.1 y8.1).bind fun y69=>some y69) else some false).bind fun b70=>
            (bif (bif (bif (bif b70 then y66.2 else false) then (eqI y66.1 y10.1) else false) then y67.2 else false) then ((catR y6.1 ((⟨#[111,107,10,111,107,10]⟩:qf))).bind fun u75=>some (y67.1.toList==(y6.1++((⟨#[111,107,10,111,107,10]⟩:qf))).toList)) else some false).bind fun b76=>
            some b76
           )
          else
           (
            some true
           )
        )
      )
    )
  )
theorem zXR:zBK=zAi:=rfl
theorem z43:zDc=zBE:=rfl
theorem z8a:zDk=qF:=rfl
theorem zZB:qJ=qC:=rfl
theorem z89:zE2=zBH:=rfl
theorem z2V(f:Int×Int×Int):zDO f=qG f:=by simp only[zDO,qG,qM,za]
theorem zHn(a m:Int):jS a m=zAg a m:=by simp only[jS,zAg,zI]
theorem z44(a m:Int):((jS a m).bind fun y2=>(nz m).bind fun _=>sI (w64 (Int.tdiv (w64 (a - y2)) m)) fun t4=>some t4)=zBS a m:=by simp only[zBS,zHn]
theorem z2U(f:Int×Int×Int):zEx f=zBS (w64 (f.1 - f.2.1)) (w64 (2*f.1)):=z44 _ _
theorem z5K{a m:Int}(hm:1≤m)(h:a.tmod m<0):a.tmod m+m=a % m:=by have e:=Int.tmod_eq_emod (a:=a) (b:=m);have h1:=qc a (b:=m) (by omega);have h2:=qd a (b:=m) (by omega);split at e<;>omega
theorem z5J{a m:Int}(hm:1≤m)(h:0≤a.tmod m):a.tmod m=a % m:=by have e:=Int.tmod_eq_emod (a:=a) (b:=m);have h1:=qc a (b:=m) (by omega);have h2:=qd a (b:=m) (by omega);split at e<;>omega
theorem zB8{a m:Int}(h1:1≤m)(h2:m≤9223372036854775807):zAg a m=some (a % m):=by
 have h3:=qc a (b:=m) (by omega);have h4:=qd a (b:=m) (by omega);have hz:nz m=some ():=by
  unfold nz;rw[jN];have:(m==0)=false:=by rw[zw];omega
  rw[this];rfl
 simp only[zAg,hz,za,zI,zE];by_cases h:a.tmod m<0
 ·rw[zd h,zb,z5K h1 h,zA (by omega)]
 ·rw[ze h,zc,z5J h1 (by omega)]
theorem zGI{a m:Int}(h1:1≤m)(h2:m≤4611686018427387904)(h3:-4611686018427387904≤a)(h4:a≤4611686018427387904):zBS a m=some (a / m):=by
 have e1:=qc a (b:=m) (by omega);have e2:=qd a (b:=m) (by omega);have hz:nz m=some ():=by
  unfold nz;rw[jN];have:(m==0)=false:=by rw[zw];omega
  rw[this];rfl
 have e3:a - a % m=m*(a / m):=by have:=Int.emod_add_mul_ediv a m;omega
 have e4:Int.tdiv (a - a % m) m=a / m:=by rw[e3];exact Int.mul_tdiv_cancel_left _ (by omega)
 have e5:a / m≤4611686018427387904∧-4611686018427387904≤a / m:=by
  constructor
  ·rcases Int.lt_or_le a 0 with h|h
   ·have:=Int.ediv_neg_of_neg_of_pos h (show 0<m by omega);omega
   ·have:=Int.ediv_le_self m h;omega
  ·have:=Int.le_ediv_of_mul_le (c:=m) (a:=-4611686018427387904) (b:=a) (by omega) (by
    have:-4611686018427387904*m≤-4611686018427387904:=by omega
    omega)
   omega
 simp only[zBS,zB8 h1 (by omega),hz,za,zI];rw[zA (n:=a - a % m) (by omega),e4,zA (by omega)]
theorem z6g{a b c:Int}(ha:1≤a)(haM:a≤2000000)(hb1:-2000000≤b)(hb2:b≤2000000)(hr:qG (a,b,c)=some false):zDz (a,b,c)=qU (a,b,c):=by
 have hf:=zGI (a:=a - b) (m:=2*a) (by omega) (by omega) (by omega) (by omega);have hn:qM (a,b,c)=some (decide (-a<b∧b≤a)):=by
  simp only[qM,za,zE,qP];rw[zA (by omega)];by_cases h1:-a<b<;>by_cases h2:b≤a<;>simp[h1,h2]
  all_goals omega
 have hq:(a - b) / (2*a)=0↔(-a<b∧b≤a):=by
  constructor
  ·intro h;have h1:=Int.emod_add_mul_ediv (a - b) (2*a);have h2:=qc (a - b) (b:=2*a) (by omega);have h3:=qd (a - b) (b:=2*a) (by omega);rw[h]at h1;omega
  ·rintro⟨h1,h2⟩;exact Int.ediv_eq_zero_of_lt (by omega) (by omega)
 simp only[zDz,qU,z2U,z2V,hr,za,hn];rw[zA (n:=a - b) (by omega),zA (n:=2*a) (by omega),hf];simp only[za,zc,jN];by_cases h:(a - b) / (2*a)=0
 ·have h2:=hq.1 h;simp[h,h2]
 ·have h2:¬(-a<b∧b≤a):=fun x=>h (hq.2 x);have h3:((a - b) / (2*a)==0)=false:=by rw[zw];exact h
  simp[h3,h2]
theorem qB{n:Int}(h:n.natAbs≤9223372036854775807):w64 n=n:=zA (by omega)
theorem qA{x y:Int}{A B:Nat}(hx:x.natAbs≤A)(hy:y.natAbs≤B):(x*y).natAbs≤A*B:=by rw[Int.natAbs_mul];exact Nat.mul_le_mul hx hy
theorem zOc{a b c:Int}(ha:a.natAbs≤2000000)(hb:b.natAbs≤2000000)(hc:c.natAbs≤2000000):qF (a,b,c) (0,-1,1,0)=some (c,-b,a):=by simp only[qF,zAi,zBE,zI,za,Int.mul_zero,Int.zero_mul,Int.mul_one,Int.add_zero,Int.zero_add,Int.one_mul];rw[show w64 0=0 from rfl];simp only[Int.mul_zero,Int.zero_mul,Int.mul_one,Int.add_zero,Int.zero_add,Int.one_mul];rw[show w64 0=0 from rfl];simp only[Int.mul_zero,Int.zero_mul,Int.mul_one,Int.add_zero,Int.zero_add,Int.one_mul,Int.mul_neg,Int.neg_mul,Int.neg_neg];have e1:w64 c=c:=qB (by omega);have e2:w64 (-1)=-1:=rfl;have e3:w64 a=a:=qB (by omega);have e4:w64 (-a)=-a:=qB (by omega);have e5:w64 (-b)=-b:=qB (by omega);simp only[e1,e2,e3,e4,e5,Int.mul_neg,Int.neg_mul,Int.neg_neg,Int.mul_one,Int.one_mul,Int.add_zero,Int.zero_add,show w64 0=0 from rfl]
theorem zOd{a b c s:Int}(ha:a.natAbs≤2000000)(hb:b.natAbs≤2000000)(hc:c.natAbs≤2000000)(hs:s.natAbs≤2000000):qF (a,b,c) (1,s,0,1)=some (a,2*a*s+b,a*s*s+b*s+c):=by have m1:=qA ha hs;have m2:=qA hb hs;have m3:=qA m1 hs;have m4:(2*a*s).natAbs≤2*2000000*2000000:=qA (qA (x:=2) (A:=2) (by decide) ha) hs;simp only[qF,zAi,zBE,zI,za,Int.mul_zero,Int.zero_mul,Int.mul_one,Int.add_zero,Int.zero_add,Int.one_mul];have z:w64 0=0:=rfl;have o:w64 1=1:=rfl;have e1:w64 c=c:=qB (by omega);have e3:w64 a=a:=qB (by omega);have e4:w64 b=b:=qB (by omega);have e5:w64 (2*a)=2*a:=qB (by omega);have e6:w64 (2*a*s)=2*a*s:=qB (by omega);have e7:w64 (a*s)=a*s:=qB (by omega);have e8:w64 (a*s*s)=a*s*s:=qB (by omega);have e9:w64 (b*s)=b*s:=qB (by omega);have e10:w64 (a*s*s+b*s)=a*s*s+b*s:=qB (by omega);have e11:w64 (a*s*s+b*s+c)=a*s*s+b*s+c:=qB (by omega);have e12:w64 (2*a*s+b)=2*a*s+b:=qB (by omega);simp only[z,o,e1,e3,e4,e5,e6,e7,e8,e9,e10,e11,e12,Int.mul_one,Int.one_mul,Int.add_zero,Int.zero_add,Int.mul_zero,Int.zero_mul]
theorem z8p{n:Int}(h:n.natAbs≤9223372036854775806):zET n=some (n.natAbs:Int):=by
 simp only[zET,zI,mxI,zE];by_cases h1:n< -9223372036854775807
 ·omega
 ·rw[ze h1,zc,zA (by omega)];by_cases h2:n<0 - n
  ·rw[zd h2,zb];congr 1;omega
  ·rw[ze h2,zc];congr 1;omega
theorem zOE{n:Int}(h:n.natAbs≤9223372036854775806):zDj n=some (n.natAbs:Int):=by
 simp only[zDj,zD1,za,zE];rw[zA (by omega)];by_cases h2:0 - n<n
 ·rw[zd h2,zb,za];congr 1;omega
 ·rw[ze h2,zc,za];congr 1;omega
theorem zFg{b:Int}(h:b≠0):nz b=some ():=by
 unfold nz;rw[jN];have:(b==0)=false:=by rw[zw];exact h
 rw[this];rfl
theorem zE8{a b:Int}(h:a≠b):eqI a b=false:=by rw[jN,zw];exact h
theorem zBj(a:Int):eqI a a=true:=by rw[jN];exact beq_self_eq_true a
theorem zKx(a b:Int):Int.gcd b (a.tmod b)=Int.gcd a b:=by unfold Int.gcd;rw[Int.natAbs_tmod,Nat.gcd_comm,←Nat.gcd_rec,Nat.gcd_comm]
theorem z38{x y:Nat}(k:Nat)(hy:0<y)(hxy:y<x)(h:x<2 ^(k+1)):x % y<2 ^k:=by have h1:=Nat.mod_lt x hy;have h2:=Nat.div_add_mod x y;have h3:1≤x / y:=Nat.div_pos (Nat.le_of_lt hxy) hy;have h4:y*1≤y*(x / y):=Nat.mul_le_mul_left y h3;rw[Nat.pow_succ]at h;omega
theorem zYl:∀(k n:Nat)(a b:Int),b.natAbs<2 ^k→2*k+1≤n→∃r,zBM n a b=some r∧r.natAbs=Int.gcd a b
 |k,0,a,b,_,hn=>by omega
 |0,n+1,a,b,hb,hn=>by
  have:b=0:=by simp at hb;omega
  subst this;unfold zBM;rw[zBj];exact⟨a,rfl,by simp⟩
 |k+1,n+1,a,b,hb,hn=>by
  unfold zBM;by_cases h0:b=0
  ·subst h0;rw[zBj];exact⟨a,rfl,by simp⟩
  ·rw[zE8 h0,zFg h0];simp only[zi,zb,za,zI];rw[←zKx a b]
   match n,hn with
   |n+1,hn=>
    unfold zBM;by_cases h1:a.tmod b=0
    ·rw[h1,zBj];exact⟨b,rfl,by simp⟩
    ·rw[zE8 h1,zFg h1];simp only[zi,zb,za,zI];rw[←zKx b (a.tmod b)];refine zYl k n _ _ ?_ (by omega)
     rw[Int.natAbs_tmod];have h2:(a.tmod b).natAbs<b.natAbs:=by rw[Int.natAbs_tmod];exact Nat.mod_lt _ (by omega)
     exact z38 k (by omega) h2 hb
theorem zZ3(k:Nat)(h:k≤1000000):k≤FU:=Nat.le_trans h (by decide)
theorem zYm{a b:Int}{M:Nat}(ha:a.natAbs≤M)(hb:b.natAbs≤M):Int.gcd a b≤M:=by
 by_cases h:b=0
 ·subst h;simpa using ha
 ·have:Int.gcd a b∣b.natAbs:=Nat.gcd_dvd_right _ _;exact Nat.le_trans (Nat.le_of_dvd (by omega) this) hb
theorem zS8{a b:Int}(ha:a.natAbs≤9223372036854775806)(hb:b.natAbs≤9223372036854775806):zES a b=some (Int.gcd a b:Int):=by obtain⟨r,h1,h2⟩:=zYl 64 FU a b (by omega) (zZ3 129 (by decide));have h3:=zYm ha hb;simp only[zES,h1,za,z8p (n:=r) (by omega),h2]
theorem z0F:∀(n:Nat)(a b:Int),zBR n a b=zBM n a b
 |0,a,b=>rfl
 |n+1,a,b=>by unfold zBR zBM;simp only[zI,z0F n]
theorem zMG(a b:Int):Int.gcd (a.natAbs:Int) (b.natAbs:Int)=Int.gcd a b:=by unfold Int.gcd;simp
theorem z5o:∀(n:Nat)(a b r:Int),0≤a→0≤b→zBM n a b=some r→0≤r
 |0,a,b,r,_,_,h=>by cases h
 |n+1,a,b,r,ha,hb,h=>by
  unfold zBM at h;by_cases h0:b=0
  ·subst h0;rw[zBj]at h;have h:some a=some r:=h;injection h with h;omega
  ·rw[zE8 h0,zFg h0]at h;simp only[zi,zb,za,zI]at h;exact z5o n _ _ _ hb (Int.tmod_nonneg _ ha) h
theorem zJj{a b:Int}(ha:a.natAbs≤9223372036854775806)(hb:b.natAbs≤9223372036854775806):zAo a b=some (Int.gcd a b:Int):=by obtain⟨r,h1,h2⟩:=zYl 64 FU (a.natAbs:Int) (b.natAbs:Int) (by omega) (zZ3 129 (by decide));have h3:=z5o _ _ _ _ (by omega) (by omega) h1;rw[zMG]at h2;simp only[zAo,zOE ha,zOE hb,za,z0F,h1];congr 1;omega
def inN(x:Int):Bool:=leI (-1000000) x&&leI x 1000000
theorem zA7{x:Int}:inN x=true↔-1000000≤x∧x≤1000000:=by unfold inN;rw[qP,qP];simp
theorem z3U(l:List Int)(hl:l.length<1000000):∀(n i:Nat),i≤l.length→l.length - i<n→zCN l n (i:Int)=some (if (l.drop i).all inN then .inl () else .inr false)
 |0,i,_,h=>by omega
 |n+1,i,hi,h=>by
  unfold zCN;rw[zE];by_cases h1:(i:Int)<(l.length:Int)
  ·have h2:i<l.length:=by omega
   rw[zd h1,zb];have h3:getI l (i:Int)=some l[i]:=by unfold getI;rw[qP,zd (by omega:(0:Int)≤(i:Int)),zb];simp[h2]
   rw[h3,za,List.drop_eq_getElem_cons h2,List.all_cons];simp only[zE,inN,qP,zI];rw[zA (by omega)];have ih:=z3U l hl n (i+1) (by omega) (by omega);rw[show ((i:Int)+1)=((i+1:Nat):Int) by omega,ih];by_cases h4:l[i]< -1000000
   ·have h6:¬(-1000000≤l[i]):=by omega
    simp[h4,h6]
   ·by_cases h5:1000000<l[i]
    ·have h6:¬(l[i]≤1000000):=by omega
     simp[h4,h5,h6]
    ·have h6:-1000000≤l[i]:=by omega
     have h7:l[i]≤1000000:=by omega
     simp only[h4,h5,h6,h7,decide_true,decide_false,zc,zb,Bool.and_true,Bool.true_and]
  ·rw[ze h1,zc,List.drop_eq_nil_of_le (by omega)];rfl
theorem zS4(l:List Int)(hl:l.length<1000000):zBC l=some (l.all inN):=by have h:=z3U l hl FU 0 (Nat.zero_le _) (by (have:(1000000:Nat)≤FU:=by decide);omega);simp only[zBC,show (0:Int)=((0:Nat):Int) from rfl,h,List.drop_zero];cases l.all inN<;>rfl
theorem z08(n:Int):zBI n=some (inN n):=by simp only[zBI,zBZ,za,inN];cases leI (-1000000) n<;>rfl
theorem zEv(f:Int×Int×Int):zCi f=some (inN f.1&&(inN f.2.1&&inN f.2.2)):=by simp only[zCi,zS4 _ (show [f.1,f.2.1,f.2.2].length<1000000 by simp),za,List.all_cons,List.all_nil,Bool.and_true]
theorem zWv(f:Int×Int×Int):zEB f=some (inN f.1&&(inN f.2.1&&inN f.2.2)):=by simp only[zEB,z08,za];cases inN f.1<;>cases inN f.2.1<;>cases inN f.2.2<;>rfl
theorem zGu:qX=zL:=rfl
theorem z0h{a b c:Int}(ha:inN a=true)(hb:inN b=true)(hc:inN c=true):zL (a,b,c)=some (b*b - 4*a*c):=by rw[zA7]at ha hb hc;have m1:=qA (x:=b) (y:=b) (A:=1000000) (B:=1000000) (by omega) (by omega);have m2:=qA (x:=4*a) (y:=c) (A:=4000000) (B:=1000000) (by omega) (by omega);simp only[zL,zI];rw[qB (n:=b*b) (by omega),qB (n:=4*a) (by omega),qB (n:=4*a*c) (by omega),qB (by omega)]
theorem zZE(f:Int×Int×Int):zA1 f=zR f:=by simp only[zA1,zR,zEv,zWv,zGu]
theorem zWu(f:Int×Int×Int):zD0 f=jA f:=by simp only[zD0,jA,zZE,zGu]
theorem zFS{a b c:Int}(ha:inN a=true)(hb:inN b=true)(hc:inN c=true):zAX (a,b,c)=some (Int.gcd a (Int.gcd b c):Int):=by rw[zA7]at ha hb hc;have h:=zYm (a:=b) (b:=c) (M:=1000000) (by omega) (by omega);simp only[zAX,zS8 (a:=b) (b:=c) (by omega) (by omega),za];rw[zS8 (by omega) (by omega)];rfl
theorem zOD{a b c:Int}(ha:inN a=true)(hb:inN b=true)(hc:inN c=true):zAD (a,b,c)=some (Int.gcd a (Int.gcd b c):Int):=by rw[zA7]at ha hb hc;have h:=zYm (a:=a) (b:=b) (M:=1000000) (by omega) (by omega);simp only[zAD,zJj (a:=a) (b:=b) (by omega) (by omega),za];rw[zJj (by omega) (by omega),za];congr 2;unfold Int.gcd;simp[Nat.gcd_assoc]
theorem zMe{a b c:Int}(h:jA (a,b,c)=some true):inN a=true∧inN b=true∧inN c=true∧b*b - 4*a*c<0∧-2000≤b*b - 4*a*c∧0<a:=by
 simp only[jA,zR,zEv,za]at h;cases ha:inN a<;>cases hb:inN b<;>cases hc:inN c<;>simp only[ha,hb,hc,Bool.and_true,Bool.and_false,Bool.true_and,Bool.false_and,zb,zc,za]at h
 all_goals first
  |(exfalso;exact absurd (zZ h) (by decide))
  |skip
 rw[z0h ha hb hc]at h;simp only[za,zE,qP]at h;by_cases h1:b*b - 4*a*c<0<;>by_cases h2:0<a<;>by_cases h3:-2000≤b*b - 4*a*c<;>simp[h1,h2,h3]at h;exact⟨rfl,rfl,rfl,h1,h3,h2⟩
theorem zKO(f:Int×Int×Int):∃b,zR f=some b:=by simp only[zR,zEv,za,zL,zI];cases (inN f.1&&(inN f.2.1&&inN f.2.2))<;>exact⟨_,rfl⟩
theorem zIh(f:Int×Int×Int):∃b,jA f=some b:=by obtain⟨b,hb⟩:=zKO f;simp only[jA,hb,za,zL,zI];cases b<;>exact⟨_,rfl⟩
theorem z49(f:Int×Int×Int):zEC f=zV f:=by
 simp only[zEC,zV,zWu];obtain⟨b,hb⟩:=zIh f;rw[hb];cases b with
 |false=>rfl
 |true=>obtain⟨a,b,c⟩:=f;obtain⟨ha,hb,hc,_⟩:=zMe hb;simp only[za,zb,zFS ha hb hc,zOD ha hb hc]
theorem z23(f:Int×Int×Int):∃b,zV f=some b:=by
 obtain⟨b,hb⟩:=zIh f;simp only[zV,hb,za];cases b with
 |false=>exact⟨_,rfl⟩
 |true=>obtain⟨a,b,c⟩:=f;obtain⟨ha,hb,hc,_⟩:=zMe hb;simp only[za,zb,zFS ha hb hc];exact⟨_,rfl⟩
theorem zNE{a b c:Int}(h:zV (a,b,c)=some true):inN a=true∧inN b=true∧inN c=true∧b*b - 4*a*c<0∧-2000≤b*b - 4*a*c∧0<a∧Int.gcd a (Int.gcd b c)=1:=by
 simp only[zV]at h;obtain⟨s,hs⟩:=zIh (a,b,c);rw[hs]at h;cases s with
 |false=>exfalso;exact absurd (zZ h) (by decide)
 |true=>obtain⟨h1,h2,h3,h4,h5,h6⟩:=zMe hs;simp only[za,zb,zFS h1 h2 h3,jN]at h;have h7:=zZ h;refine⟨h1,h2,h3,h4,h5,h6,?_⟩;have:=eq_of_beq h7;omega
theorem zWw(v:Int):∀(n:Nat)(d:Int),zDP v n d=zBg v n d
 |0,d=>rfl
 |n+1,d=>by unfold zDP zBg;simp only[zI,zWw v n]
theorem z5b(v:Int):zEL v=zBh v:=by unfold zEL zBh;rw[zWw]
theorem zKC(v:Int)(hv:v≤1000000):∀(n:Nat)(d:Int),1≤d→d≤1001→1002 - d≤n→∃r,zBg v n d=some r
 |0,d,h1,h2,h3=>by omega
 |n+1,d,h1,h2,h3=>by
  unfold zBg;have m1:=qA (x:=d) (y:=d) (A:=1001) (B:=1001) (by omega) (by omega);rw[qB (n:=d*d) (by omega),qP];by_cases h4:d*d≤v
  ·have h5:d≤1000:=by
    rcases Int.lt_or_le 1000 d with h|h
    ·have:1001*1001≤d*d:=Int.mul_le_mul (by omega) (by omega) (by omega) (by omega);omega
    ·exact h
   rw[zd h4,zb,zFg (by omega),za];cases eqI (Int.tmod v d) 0 with
   |true=>exact⟨_,rfl⟩
   |false=>simp only[zc,zI];rw[zA (by omega)];exact zKC v hv n (d+1) (by omega) (by omega) (by omega)
  ·rw[ze h4,zc];exact⟨_,rfl⟩
theorem z1s(v:Int)(hv:v≤1000000):∃b,zBh v=some b:=by
 unfold zBh;cases ltI v 2 with
 |true=>exact⟨_,rfl⟩
 |false=>obtain⟨r,hr⟩:=zKC v hv FU 2 (by omega) (by omega) (by (have:(1002:Nat)≤FU:=by decide);omega);rw[zc,hr];cases r<;>exact⟨_,rfl⟩
theorem zTw(d:Int):zCh d=qT d:=by
 simp only[zCh,zBZ,qT,za,zHn];cases h:(bif leI (-2000) d then leI d (-3) else false) with
 |false=>rfl
 |true=>simp only[zb];rw[zB8 (by omega) (by omega)];simp only[za,zE,qP];congr 1;simp only[decide_eq_decide];omega
theorem zQp(d:Int):qT d=some (decide (-2000≤d∧d≤-3∧d % 4≤1)):=by simp only[qT,qP];by_cases h1:-2000≤d<;>by_cases h2:d≤-3<;>simp[h1,h2];rw[zB8 (by omega) (by omega)];rfl
structure RedInv (a b c d g:Int):Prop where
  a1:1≤a
  aM:a≤1000000
  b1:-1900000≤b
  b2:b≤1900000
  c1:1≤c
  cM:c≤1250000
  dis:b*b - 4*a*c=d
  neg:d<0
  nrm:(-a<b∧b≤a)∨c≤1000000
  con:∀k:Int,(k∣a∧k∣b∧k∣c)↔k∣g
def zCP(a b c:Int):Prop:=(-a<b∧b≤a)∧(a<c∨(a=c∧0≤b))
instance (a b c:Int):Decidable (zCP a b c):=inferInstanceAs (Decidable ((-a<b∧b≤a)∧(a<c∨(a=c∧0≤b))))
theorem zIF{a b c:Int}(ha:1≤a)(haM:a≤1000000):qG (a,b,c)=some (decide (zCP a b c)):=by
 have hn:qM (a,b,c)=some (decide (-a<b∧b≤a)):=by
  simp only[qM,za,zE,qP];rw[zA (by omega)];by_cases h1:-a<b<;>by_cases h2:b≤a<;>simp[h1,h2]
  all_goals omega
 simp only[qG,hn,za,zE,qP,jN];unfold zCP;by_cases h1:-a<b<;>by_cases h2:b≤a<;>by_cases h3:a<c<;>by_cases h4:a=c<;>by_cases h5:0≤b<;>simp[h1,h2,h3,h4,h5]
theorem z0T{a b c d g:Int}(h:RedInv a b c d g)(hr:¬zCP a b c):∃m a2 b2 c2,qU (a,b,c)=some m∧qF (a,b,c) m=some (a2,b2,c2)∧RedInv a2 b2 c2 d g∧
  ((¬(-a<b∧b≤a)∧a2=a∧(-a2<b2∧b2≤a2))∨((-a<b∧b≤a)∧a2<a)∨((-a<b∧b≤a)∧zCP a2 b2 c2∧a2≤a)):=by
 obtain⟨a1,aM,b1,b2,c1,cM,dis,neg,nrm,con⟩:=h;have hn:qM (a,b,c)=some (decide (-a<b∧b≤a)):=by
  simp only[qM,za,zE,qP];rw[zA (by omega)];by_cases h1:-a<b<;>by_cases h2:b≤a<;>simp[h1,h2]
  all_goals omega
 by_cases hN:-a<b∧b≤a
 ·have hst:qU (a,b,c)=some (0,-1,1,0):=by
   simp only[qU,zIF a1 aM,hn,za,ze hr,zd hN];rfl
  refine⟨_,c,-b,a,hst,zOc (by omega) (by omega) (by omega),?_,?_⟩
  ·have hca:c≤a:=by
    unfold zCP at hr;have:¬(a<c∨(a=c∧0≤b)):=fun x=>hr ⟨hN,x⟩;omega
   exact⟨c1,by omega,by omega,by omega,a1,by omega,by grind,neg,.inr aM,fun k=>by rw[←con k,Int.dvd_neg];exact⟨fun h=>⟨h.2.2,h.2.1,h.1⟩,fun h=>⟨h.2.2,h.2.1,h.1⟩⟩⟩
  ·have h2:¬(a<c∨(a=c∧0≤b)):=fun x=>hr ⟨hN,x⟩;by_cases hac:a=c
   ·refine .inr (.inr ⟨hN,⟨?_,.inr ?_⟩,?_⟩)<;>omega
   ·exact .inr (.inl ⟨hN,by omega⟩)
 ·have hf:=zGI (a:=a - b) (m:=2*a) (by omega) (by omega) (by omega) (by omega);have e1:=qc (a - b) (b:=2*a) (by omega);have e2:=qd (a - b) (b:=2*a) (by omega);have e3:=Int.emod_add_mul_ediv (a - b) (2*a);generalize hs:(a - b) / (2*a)=s at*;generalize hq:(a - b) % (2*a)=q at*;have hs1:s≤1000000:=by
   rcases Int.lt_or_le 1000000 s with h|h
   ·have:2*a*1000001≤2*a*s:=zp (by omega) (by omega);omega
   ·exact h
  have hs2:-1000001≤s:=by
   rcases Int.lt_or_le s (-1000001) with h|h
   ·have:2*a*s≤2*a*(-1000002):=zp (by omega) (by omega);omega
   ·exact h
  have hst:qU (a,b,c)=some (1,s,0,1):=by simp only[qU,zIF a1 aM,hn,za,ze hr,ze hN,zc,zi,zb];rw[zA (n:=a - b) (by omega),zA (n:=2*a) (by omega),hf];rfl
  have hb:-a<2*a*s+b∧2*a*s+b≤a:=by omega
  have hid:4*a*(a*s*s+b*s+c)=(2*a*s+b)*(2*a*s+b) - d:=by grind
  have hsq:0≤(2*a*s+b)*(2*a*s+b):=by
   rcases Int.le_total 0 (2*a*s+b) with h|h
   ·exact Int.mul_nonneg h h
   ·exact Int.mul_nonneg_of_nonpos_of_nonpos h h
  have hsq2:(2*a*s+b)*(2*a*s+b)≤a*a:=by
   have:=qA (x:=2*a*s+b) (y:=2*a*s+b) (A:=a.natAbs) (B:=a.natAbs) (by omega) (by omega);have h2:((2*a*s+b)*(2*a*s+b)).natAbs≤(a*a).natAbs:=by rw[Int.natAbs_mul a a];exact this
   have h3:0≤a*a:=Int.mul_nonneg (by omega) (by omega);omega
  have hbb:0≤b*b:=by
   rcases Int.le_total 0 b with h|h
   ·exact Int.mul_nonneg h h
   ·exact Int.mul_nonneg_of_nonpos_of_nonpos h h
  have hc:1≤a*s*s+b*s+c:=by
   rcases Int.lt_or_le 0 (a*s*s+b*s+c) with h|h
   ·exact h
   ·have:4*a*(a*s*s+b*s+c)≤4*a*0:=zp h (by omega);omega
  have hcc:c≤1000000:=nrm.resolve_left hN;have hcM:a*s*s+b*s+c≤1250000:=by
   have h4:4*a*(a*s*s+b*s+c)≤a*a+4*a*c:=by omega
   have h5:a*a+4*a*c≤a*5000000:=by
    have:a*(a+4*c)≤a*5000000:=zp (by omega) (by omega);have e:a*(a+4*c)=a*a+4*a*c:=by grind
    omega
   rcases Int.lt_or_le 1250000 (a*s*s+b*s+c) with h|h
   ·have:4*a*1250001≤4*a*(a*s*s+b*s+c):=zp (by omega) (by omega);omega
   ·exact h
  have hcon:∀k:Int,(k∣a∧k∣2*a*s+b∧k∣a*s*s+b*s+c)↔k∣g:=by
   intro k;rw[←con k];constructor
   ·rintro⟨u1,u2,u3⟩;have v1:k∣b:=by
     have w1:k∣2*a*s:=Int.dvd_mul_of_dvd_left (Int.dvd_mul_of_dvd_right u1);exact (Int.dvd_add_right w1).1 u2
    have w2:k∣a*s*s+b*s:=Int.dvd_add (Int.dvd_mul_of_dvd_left (Int.dvd_mul_of_dvd_left u1)) (Int.dvd_mul_of_dvd_left v1);exact⟨u1,v1,(Int.dvd_add_right w2).1 u3⟩
   ·rintro⟨u1,u2,u3⟩;have w1:k∣2*a*s:=Int.dvd_mul_of_dvd_left (Int.dvd_mul_of_dvd_right u1);have w2:k∣a*s*s+b*s:=Int.dvd_add (Int.dvd_mul_of_dvd_left (Int.dvd_mul_of_dvd_left u1)) (Int.dvd_mul_of_dvd_left u2);exact⟨u1,Int.dvd_add w1 u2,Int.dvd_add w2 u3⟩
  refine⟨_,a,2*a*s+b,a*s*s+b*s+c,hst,zOd (by omega) (by omega) (by omega) (by omega),⟨a1,aM,by omega,by omega,hc,hcM,by grind,neg,.inl hb,hcon⟩,.inl ⟨hN,rfl,hb⟩⟩
theorem zSl(m n:Int×Int×Int×Int):∃y,qC m n=some y:=by simp only[qC,zI];exact⟨_,rfl⟩
theorem z3G:∀(n:Nat)(a b c d g p q r s:Int),RedInv a b c d g→4*a+(if -a<b∧b≤a then 0 else 2)+(if zCP a b c then 0 else 1)≤(n:Int)→
  ∃m1 m2 m3 m4 a2 b2 c2,zBe n p q r s a b c=some (m1,m2,m3,m4,a2,b2,c2)∧zCt n p q r s a b c=some (m1,m2,m3,m4,a2,b2,c2)∧RedInv a2 b2 c2 d g∧zCP a2 b2 c2
 |0,a,b,c,d,g,p,q,r,s,h,hm=>by have:=h.a1;split at hm<;>split at hm<;>omega
 |n+1,a,b,c,d,g,p,q,r,s,h,hm=>by
  unfold zBe zCt;rw[z2V,zIF h.a1 h.aM];by_cases hr:zCP a b c
  ·refine⟨p,q,r,s,a,b,c,?_,?_,h,hr⟩<;>simp[hr]
  ·obtain⟨m,a2,b2,c2,h1,h2,h3,h4⟩:=z0T h hr;obtain⟨y,hy⟩:=zSl (p,q,r,s) m;obtain⟨y1,y2,y3,y4⟩:=y;have hstep:zDz (a,b,c)=qU (a,b,c):=z6g h.a1 (by have:=h.aM;omega) (by have:=h.b1;omega) (by have:=h.b2;omega) (by rw[zIF h.a1 h.aM,ze hr]);have e1:(!decide (zCP a b c))=true:=by simp[hr]
   simp only[za,hstep,h1,z8a,zZB,h2,hy,e1,zb];refine z3G n a2 b2 c2 d g y1 y2 y3 y4 h3 ?_
   rcases h4 with⟨g1,g2,g3⟩|⟨g1,g2⟩|⟨g1,g2,g3⟩
   ·rw[if_neg g1,if_neg hr]at hm;rw[if_pos g3];split<;>omega
   ·rw[if_pos g1,if_neg hr]at hm;split<;>split<;>omega
   ·rw[if_pos g1,if_neg hr]at hm;rw[if_pos g2.1,if_pos g2];omega
theorem z0U{a b c d g:Int}(h:RedInv a b c d g):∃m a2 b2 c2,jE (a,b,c)=some ((a2,b2,c2),m)∧qI (a,b,c)=some ((a2,b2,c2),m)∧RedInv a2 b2 c2 d g∧zCP a2 b2 c2:=by
 obtain⟨m1,m2,m3,m4,a2,b2,c2,h1,h2,h3,h4⟩:=z3G FU a b c d g 1 0 0 1 h (by have e:((FU:Nat):Int)=1000000000:=rfl;rw[e];have:=h.aM;split<;>split<;>omega)
 refine⟨(m1,m2,m3,m4),a2,b2,c2,?_,?_,h3,h4⟩
 ·simp only[jE,zFF,za,h1]
 ·simp only[qI,h2,za]
theorem zY2{a b c:Int}(h:zV (a,b,c)=some true):RedInv a b c (b*b - 4*a*c) 1:=by
 obtain⟨ha,hb,hc,hneg,hbig,hpos,hg⟩:=zNE h;rw[zA7]at ha hb hc;have hbb:0≤b*b:=by
  rcases Int.le_total 0 b with h|h
  ·exact Int.mul_nonneg h h
  ·exact Int.mul_nonneg_of_nonpos_of_nonpos h h
 have hc1:1≤c:=by
  rcases Int.lt_or_le 0 c with h|h
  ·exact h
  ·have:4*a*c≤4*a*0:=zp h (by omega);omega
 refine⟨by omega,by omega,by omega,by omega,hc1,by omega,rfl,hneg,.inr (by omega),fun k=>?_⟩;constructor
 ·rintro⟨u1,u2,u3⟩;have h1:k∣(Int.gcd b c:Int):=Int.dvd_coe_gcd u2 u3;have h2:k∣(Int.gcd a (Int.gcd b c):Int):=Int.dvd_coe_gcd u1 h1;rw[hg]at h2;exact h2
 ·intro h1;exact⟨Int.dvd_trans h1 (Int.one_dvd _),Int.dvd_trans h1 (Int.one_dvd _),Int.dvd_trans h1 (Int.one_dvd _)⟩
theorem FUge:1000000≤FU:=by decide
theorem nzOk{b:Int}(h:b≠0):nz b=some ():=by
 unfold nz;rw[jN];have:(b==0)=false:=by rw[zw];exact h
 rw[this];rfl
theorem zUO(a:Int):eqI a a=true:=by rw[jN];exact beq_self_eq_true a
theorem eqNe{a b:Int}(h:a≠b):eqI a b=false:=by rw[jN,zw];exact h
theorem zAa{n:Nat}(h:n≤1000000000):room n=some ():=by unfold room;rw[Nat.ble_eq_true_of_le (by omega),zb]
theorem zA6{α:Type}{l:List α}{k:Nat}(hk:k<l.length):getI l (k:Int)=some (l[k]'hk):=by unfold getI;rw[qP,zd (by omega),zb];simp
theorem zA9{k:Nat}(h:k<1000000000):w64 ((k:Int)+1)=((k+1:Nat):Int):=by rw[zA (by omega)];push_cast;omega
def bl(l:List UInt8):qf:=⟨l.toArray⟩
theorem jH(a b:List UInt8):bl a++bl b=bl (a++b):=by apply ByteArray.ext;simp[bl]
theorem qZ(l:List UInt8):(bl l).size=l.length:=by simp[bl,ByteArray.size]
theorem zDV(l:List UInt8):(bl l).data.toList=l:=by simp[bl]
theorem zBO{a b:List UInt8}(h:a.length+b.length≤9223372036854775807):catR (bl a) (bl b)=some ():=by unfold catR;rw[if_pos (by rw[qZ,qZ];exact h)]
theorem zXX{d:Int}(h0:0≤d)(h1:d≤9):zAy [IntKind.u8.wrap (w64 (48+d))]=bl [UInt8.ofNat (48+d.toNat)]:=by
 rw[zA (by omega),IntKind.wrap_u8];have e:(48+d) % 256=48+d:=by omega
 have e2:(48+d).toNat=48+d.toNat:=by omega
 apply ByteArray.ext;simp only[zAy,List.foldl_cons,List.foldl_nil,e,e2];rfl
theorem zPy:∀(n k u:Nat),u<10 ^k→k≤18→k<n→zA0 n (u:Int)=some (bl (Go.Lib.decDigits u))
 |0,k,u,_,_,h=>by omega
 |n+1,k,u,h1,h18,h2=>by
  rw[zA0,zE];by_cases hu:u<10
  ·rw[zd (by omega),zb,zXX (by omega) (by omega),Go.Lib.decDigits_one hu];rfl
  ·have hk:k≠0:=by
    intro e;subst e;simp at h1;omega
   obtain⟨j,rfl⟩:∃j,k=j+1:=⟨k - 1,by omega⟩
   have h3:u / 10<10 ^j:=by rw[Nat.pow_succ]at h1;omega
   have hbig:10 ^(j+1)≤10 ^18:=Nat.pow_le_pow_right (by decide) h18;have hb2:u<1000000000000000000:=Nat.lt_of_lt_of_le h1 hbig;have e1:w64 (Int.tdiv (u:Int) 10)=((u / 10:Nat):Int):=by rw[show Int.tdiv (u:Int) 10=((u / 10:Nat):Int) from rfl,zA (by omega)]
   have e2:Int.tmod (u:Int) 10=((u % 10:Nat):Int):=rfl;rw[ze (by omega),zc,e1,zPy n j (u / 10) h3 (by omega) (by omega),e2];simp only[za];rw[zXX (by omega) (by omega)];have h4:Go.Lib.nDigits (u / 10)≤20:=by
    rcases Nat.lt_or_ge 20 (Go.Lib.nDigits (u / 10)) with h5|h5
    ·exfalso
     have h6:∀(m v:Nat),v<10 ^m→1≤m→Go.Lib.nDigits v≤m:=by
      intro m
      induction m with
      |zero=>intro v hv h;omega
      |succ m ih=>
       intro v hv _;by_cases hv10:v<10
       ·rw[Go.Lib.nDigits_small hv10];omega
       ·rw[Go.Lib.nDigits_big hv10];have:m≠0:=by intro e;subst e;simp at hv;omega
        have:=ih (v / 10) (by rw[Nat.pow_succ]at hv;omega) (by omega);omega
     have:=h6 20 (u / 10) (by omega) (by omega);omega
    ·exact h5
   rw[zBO (by rw[Go.Lib.decDigits_length];simp;omega),za,jH];have e3:Go.Lib.decDigits u=Go.Lib.decDigits (u / 10)++[UInt8.ofNat (48+u % 10)]:=by rw[Go.Lib.decDigits,dif_neg hu]
   rw[e3];rfl
theorem zO5:∀(m v:Nat),v<10 ^m→1≤m→Go.Lib.nDigits v≤m
 |0,v,hv,h=>by omega
 |m+1,v,hv,_=>by
  by_cases hv10:v<10
  ·rw[Go.Lib.nDigits_small hv10];omega
  ·rw[Go.Lib.nDigits_big hv10];have:m≠0:=by intro e;subst e;simp at hv;omega
   have:=zO5 m (v / 10) (by rw[Nat.pow_succ]at hv;omega) (by omega);omega
def sm18(n:Int):Prop:=-1000000000000000000<n∧n<1000000000000000000
theorem zA5{n:Int}(h:sm18 n):(Go.Lib.itoa n).length≤19:=by
 obtain⟨h0,h1⟩:=h;unfold Go.Lib.itoa;split
 ·rw[zg,Go.Lib.decDigits_length];have:=zO5 18 n.natAbs (by omega) (by omega);omega
 ·rw[Go.Lib.decDigits_length];have:=zO5 18 n.toNat (by omega) (by omega);omega
theorem zFh{n:Int}(h:sm18 n):jD n=some (bl (Go.Lib.itoa n)):=by
 have hl:=zA5 h;obtain⟨h0,h1⟩:=h;have hF:=FUge;unfold jD;unfold Go.Lib.itoa at hl ⊢;rw[zE];by_cases hn:n<0
 ·rw[zd hn,zb,if_pos hn];rw[if_pos hn]at hl;have e1:w64 (0 - n)=((n.natAbs:Nat):Int):=by rw[zA (by omega)];omega
  rw[e1,zPy FU 18 n.natAbs (by omega) (by omega) (by omega)];have e2:(⟨#[45]⟩:qf)=bl [45]:=rfl;simp only[za];rw[e2,zBO (by simp at hl ⊢;omega),za,jH];rfl
 ·rw[ze hn,zc,if_neg hn];have e1:n=((n.toNat:Nat):Int):=by omega
  rw[e1,zPy FU 18 n.toNat (by omega) (by omega) (by omega)];rfl
theorem zGH{n:Int}(h:sm18 n):qS n=some (bl (Go.Lib.itoa n)):=by obtain⟨h0,h1⟩:=h;unfold qS;rw[if_pos (by omega)];rfl
theorem zZq(ls:List (List UInt8))(h:∀x∈ls,x.length≤1000):(Go.Lib.joinTail [32] ls).length≤1001*ls.length:=by
 induction ls with
 |nil=>simp[Go.Lib.joinTail]
 |cons x r ih=>have h1:=ih fun y hy=>h y (zn _ hy);have h2:=h x zm;simp only[Go.Lib.joinTail,List.map_cons,List.flatten_cons,zf,zg,List.length_nil]at h1 ⊢;omega
theorem zWs(x:List UInt8)(r:List (List UInt8)):Go.Lib.joinTail [32] (x::r)=32::(x++Go.Lib.joinTail [32] r):=by simp[Go.Lib.joinTail]
theorem zTl(ls:List (List UInt8))(hN:ls.length≤100)(hL:∀x∈ls,x.length≤1000):∀(n k:Nat)(out:List UInt8),1≤k→k≤ls.length→ls.length - k<n→out.length≤2000*k→
  zBY (ls.map bl) n (bl out) (k:Int)=some (bl (out++Go.Lib.joinTail [32] (ls.drop k)))
 |0,k,out,_,_,h,_=>by omega
 |n+1,k,out,h1,h0,h,ho=>by
  unfold zBY;rw[zE,List.length_map];by_cases hk:k<ls.length
  ·have e3:ls.drop k=ls[k]::ls.drop (k+1):=List.drop_eq_getElem_cons hk;have hx:=hL (ls[k]) (zx hk);rw[zd (by omega),zb,zA6 (by rw[List.length_map];exact hk)];simp only[za,List.getElem_map];rw[zE,zd (by omega),zb];have e2:(⟨#[32]⟩:qf)=bl [32]:=rfl;rw[e2,zBO (by simp;omega),za,jH,zBO (by simp;omega),za,jH,zI,zA9 (by omega)];rw[zTl ls hN hL n (k+1) _ (by omega) (by omega) (by omega) (by simp;omega),e3,zWs];simp
  ·have e:k=ls.length:=by omega
   rw[ze (by omega),zc,e,List.drop_length];simp[Go.Lib.joinTail]
theorem zWx(x:List UInt8)(r:List (List UInt8))(hN:r.length≤99)(hL:∀y∈x::r,y.length≤1000):zEA (bl x::r.map bl)=some (bl (x++Go.Lib.joinTail [32] r)):=by
 have hF:=FUge;obtain⟨m,hm⟩:∃m,FU=m+1:=⟨FU - 1,by omega⟩
 have hx:=hL x zm;have key:zBY (bl x::r.map bl) FU (bl []) 0=some (bl (x++Go.Lib.joinTail [32] r)):=by rw[hm];unfold zBY;have e1:getI (bl x::r.map bl) 0=some (bl x):=rfl;have e2:=zA9 (k:=0) (by omega);rw[zE,zd (by simp only[zg];omega),zb,e1];simp only[za];rw[zE,ze (by omega),zc,zBO (by simp;omega),za,jH,zI];have e3:w64 (0+1)=((0+1:Nat):Int):=e2;rw[e3];have:=zTl (x::r) (by simp;omega) hL m 1 ([]++x) (by omega) (by simp) (by simp only[zg];omega) (by simp;omega);simpa using this
 unfold zEA;have e0:(⟨#[]⟩:qf)=bl []:=rfl;rw[e0,key];rfl
theorem z3p(x:List UInt8)(r:List (List UInt8))(hr:r≠[])(hN:r.length≤99)(hL:∀y∈x::r,y.length≤1000):zCC (bl x) (r.map bl)=some (bl (x++Go.Lib.joinTail [32] r)):=by
 have hx:=hL x zm;have ht:=zZq r fun y hy=>hL y (zn _ hy);have e2:(⟨#[32]⟩:qf)=bl [32]:=rfl;have e4:(r.map bl).map (fun b:qf=>b.data.toList)=r:=by
  rw[List.map_map]
  conv=>rhs;rw[←List.map_id r]
  exact List.map_congr_left fun y _=>zDV y
 have e5:Go.Lib.joinTail [32] r=32::Go.Lib.join r [32]:=by
  cases r with
  |nil=>exact absurd rfl hr
  |cons y s=>rw[zWs,Go.Lib.join_cons]
 have e6:(Go.Lib.join r [32]).length≤1001*r.length:=by rw[e5]at ht;simp at ht;omega
 have hj:zCs (r.map bl) (bl [32])=some (bl (Go.Lib.join r [32])):=by unfold zCs;rw[e4,zDV,if_pos ⟨by rw[List.length_map];omega,by omega⟩];rfl
 unfold zCC;rw[e2,zBO (by simp;omega),za,hj,za,jH,zBO (by simp;omega),za,jH,e5];simp
def upz:Nat→Int→List Int
 |0,_=>[]
 |f+1,y=>y::upz f (y+1)
theorem zYe:∀(f:Nat)(y z:Int),z∈upz f y↔y≤z∧z<y+f
 |0,y,z=>by simp[upz]
 |f+1,y,z=>by rw[upz,zl,zYe f (y+1) z];push_cast;omega
theorem z4z:∀(f:Nat)(y:Int),(upz f y).Pairwise (·<·)
 |0,y=>List.Pairwise.nil
 |f+1,y=>by rw[upz,List.pairwise_cons];refine⟨fun z hz=>?_,z4z f (y+1)⟩;have:=(zYe f (y+1) z).1 hz;omega
theorem zXb:∀(f:Nat)(y:Int),(upz f y).length=f
 |0,y=>rfl
 |f+1,y=>by rw[upz,zg,zXb f (y+1)]
theorem z7v{a b c:Int}(ha:1≤a)(haM:a≤1000000):zDO (a,b,c)=some (decide (zCP a b c)):=by rw[z2V];exact zIF ha haM
def cfR(d a b:Int):Int×Int×Int:=(a,b,Int.tdiv (b*b - d) (4*a))
def okR(d:Int)(f:Int×Int×Int):Bool:=eqI (f.2.1*f.2.1 - 4*f.1*f.2.2) d&&decide (zCP f.1 f.2.1 f.2.2)
def rowR(d a:Int)(n:Nat)(b:Int):List (Int×Int×Int):=((upz n b).map (cfR d a)).filter (okR d)
theorem zTj{d a b:Int}{n:Nat}{f:Int×Int×Int}(h:f∈rowR d a n b):f.1=a:=by unfold rowR at h;obtain⟨b',_,hb⟩:=List.mem_map.1 (List.mem_filter.1 h).1;rw[←hb];rfl
theorem z2u{x m:Int}(hm:1≤m):(Int.tdiv x m).natAbs≤x.natAbs:=by rw[Int.natAbs_tdiv];exact Nat.div_le_self _ _
theorem zJw{d a:Int}(ha1:1≤a)(ha:a≤1000)(hd1:-2000≤d)(hd2:d≤-3):∀(m fu:Nat)(b:Int)(acc:List (Int×Int×Int)),b+m=a+1→-1000≤b→m<fu→acc.length+m≤100000000→
  zBw a d fu b acc=some (acc++rowR d a m b)
 |m,0,b,acc,_,_,h,_=>by omega
 |0,fu+1,b,acc,hb,hb0,hf,hl=>by rw[zBw,qP,ze (by omega),zc];simp[rowR,upz]
 |m+1,fu+1,b,acc,hb,hb0,hf,hl=>by
  rw[zBw,qP,zd (by omega),zb];have b1:=qA (x:=b) (y:=b) (A:=1000) (B:=1000) (by omega) (by omega);have e4:w64 (4*a)=4*a:=zA (by omega);have e5:w64 (w64 (b*b) - d)=b*b - d:=by rw[qB (n:=b*b) (by omega),qB (by omega)]
  have q1:=z2u (x:=b*b - d) (m:=4*a) (by omega);generalize hc:Int.tdiv (b*b - d) (4*a)=c at q1;have b2:=qA (x:=4*a) (y:=c) (A:=4000) (B:=1002000) (by omega) (by omega);have ed:qX (a,b,c)=some (b*b - 4*a*c):=by simp only[qX,zI];rw[qB (n:=b*b) (by omega),e4,qB (n:=4*a*c) (by omega),qB (by omega)]
  have ew:w64 (b+1)=b+1:=zA (by omega);have hcf:cfR d a b=(a,b,c):=by unfold cfR;rw[hc]
  rw[e4,nzOk (by omega),e5,hc,qB (n:=c) (by omega)];simp only[za,zI,ed,z7v ha1 (show a≤1000000 by omega),ew];have hrow:rowR d a (m+1) b=(if okR d (a,b,c) then [(a,b,c)] else [])++rowR d a m (b+1):=by unfold rowR;rw[upz,List.map_cons,List.filter_cons,hcf];cases okR d (a,b,c)<;>simp
  rw[hrow];unfold okR;dsimp only;cases h1:eqI (b*b - 4*a*c) d with
  |true=>
   rw[zb];simp only[za,Bool.true_and];cases h2:decide (zCP a b c) with
   |true=>rw[zb,zAa (by simp;omega)];simp only[za];rw[zJw ha1 ha hd1 hd2 m fu (b+1) _ (by omega) (by omega) (by omega) (by simp;omega)];simp
   |false=>rw[zc];rw[zJw ha1 ha hd1 hd2 m fu (b+1) _ (by omega) (by omega) (by omega) (by omega)];simp
  |false=>rw[zc];simp only[za,Bool.false_and,zc];rw[zJw ha1 ha hd1 hd2 m fu (b+1) _ (by omega) (by omega) (by omega) (by omega)];simp
theorem zIc{a b:Int}(h0:0≤a)(h:a≤b):a*a≤b*b:=Int.mul_le_mul h h h0 (by omega)
theorem zUu{d:Int}(hd1:-2000≤d)(hd2:d≤-3):∀(m fu:Nat)(a:Int)(acc:List (Int×Int×Int)),1≤a→a+m=27→m<fu→(acc.length:Int)≤1000*a→
  ∃L,zC3 d fu a acc=some (acc++L)∧(L.length:Int)+1000*a≤28000∧(∀f,f∈L↔a≤f.1∧3*f.1*f.1≤-d∧f∈rowR d f.1 (2*f.1).toNat (1 - f.1))∧∃asq:List Int,asq.Pairwise (·<·)∧(∀x∈asq,a≤x∧x≤26)∧L=asq.flatMap fun a=>rowR d a (2*a).toNat (1 - a)
 |m,0,a,acc,_,_,h,_=>by omega
 |m,fu+1,a,acc,ha,hm,hf,hl=>by
  have b1:=qA (x:=3*a) (y:=a) (A:=81) (B:=27) (by omega) (by omega);have e1:w64 (w64 (3*a)*a)=3*a*a:=by rw[zA (n:=3*a) (by omega),qB (by omega)]
  have e2:w64 (0 - d)=-d:=by rw[zA (by omega)];omega
  rw[zC3,e1,e2,qP];by_cases h:3*a*a≤-d
  ·have ha2:a≤26:=by
    rcases Int.lt_or_le 26 a with h2|h2
    ·have h3:=zIc (a:=27) (b:=a) (by omega) (by omega);have e:3*a*a=3*(a*a):=by grind
     omega
    ·exact h2
   obtain⟨m',rfl⟩:∃m',m=m'+1:=⟨m - 1,by omega⟩
   have hF:=FUge;rw[zd h,zb,zA (n:=1 - a) (by omega),zA (n:=a+1) (by omega)];simp only[zI];rw[zJw ha (by omega) hd1 hd2 (2*a).toNat FU (1 - a) acc (by omega) (by omega) (by omega) (by omega)];simp only[za];have hrl:(rowR d a (2*a).toNat (1 - a)).length≤(2*a).toNat:=by
    unfold rowR;refine Nat.le_trans (List.length_filter_le _ _) ?_
    rw[List.length_map,zXb];exact Nat.le_refl _
   obtain⟨L,k1,k2,k3,asq,k4,k5,k6⟩:=zUu hd1 hd2 m' fu (a+1) (acc++rowR d a (2*a).toNat (1 - a)) (by omega) (by omega) (by omega) (by rw[zf];omega);refine⟨rowR d a (2*a).toNat (1 - a)++L,by rw[k1,zu],by rw[zf];omega,fun f=>?_,a::asq,?_,?_,?_⟩
   ·rw[List.mem_append,k3];constructor
    ·rintro (h1|⟨h1,h2,h3⟩)
     ·rw[zTj h1];exact⟨Int.le_refl _,h,h1⟩
     ·exact⟨by omega,h2,h3⟩
    ·rintro⟨h1,h2,h3⟩;by_cases hfa:f.1=a
     ·rw[hfa]at h3;exact .inl h3
     ·exact .inr ⟨by omega,h2,h3⟩
   ·rw[List.pairwise_cons];exact⟨fun x hx=>by have:=k5 x hx;omega,k4⟩
   ·intro x hx;rcases List.mem_cons.1 hx with e|e
    ·omega
    ·have:=k5 x e;omega
   ·rw[List.flatMap_cons,k6]
  ·rw[ze h,zc];refine⟨[],by simp,by simp;omega,fun f=>?_,[],List.Pairwise.nil,fun x hx=>(by cases hx),rfl⟩;refine⟨fun hf=>(by cases hf),fun hf=>?_⟩;obtain⟨h1,h2,h3⟩:=hf
   exfalso
   have h4:=zIc (a:=a) (b:=f.1) (by omega) h1;have e3:3*a*a=3*(a*a):=by grind
   have e4:3*f.1*f.1=3*(f.1*f.1):=by grind
   omega
theorem zZo:∀(k n:Nat)(a b:Int),0≤a→0≤b→b.natAbs<2 ^k→2*k+1≤n→∃r,zBR n a b=some r∧r.natAbs=Int.gcd a b∧0≤r
 |k,0,a,b,_,_,_,hn=>by omega
 |0,n+1,a,b,ha,hb0,hb,hn=>by
  have:b=0:=by simp at hb;omega
  subst this;unfold zBR;rw[zBj];exact⟨a,rfl,by simp,ha⟩
 |k+1,n+1,a,b,ha,hb0,hb,hn=>by
  unfold zBR;by_cases h0:b=0
  ·subst h0;rw[zBj];exact⟨a,rfl,by simp,ha⟩
  ·rw[zE8 h0,zFg h0];simp only[zi,zb,za,zI];rw[←zKx a b]
   match n,hn with
   |n+1,hn=>
    unfold zBR;by_cases h1:a.tmod b=0
    ·rw[h1,zBj];exact⟨b,rfl,by simp,hb0⟩
    ·rw[zE8 h1,zFg h1];simp only[zi,zb,za,zI];rw[←zKx b (a.tmod b)];refine zZo k n _ _ (Int.tmod_nonneg _ ha) (Int.tmod_nonneg _ hb0) ?_ (by omega)
     rw[Int.natAbs_tmod];have h2:(a.tmod b).natAbs<b.natAbs:=by rw[Int.natAbs_tmod];exact Nat.mod_lt _ (by omega)
     exact z38 k (by omega) h2 hb
theorem zZn{a b:Int}(ha:a.natAbs≤9223372036854775806)(hb:b.natAbs≤9223372036854775806):zAo a b=some (Int.gcd a b:Int):=by obtain⟨r,h1,h2,h3⟩:=zZo 64 FU (a.natAbs:Int) (b.natAbs:Int) (by omega) (by omega) (by omega) (zZ3 129 (by decide));rw[zMG]at h2;simp only[zAo,zOE ha,zOE hb,za,h1];congr 1;omega
theorem zNf{a b c:Int}(ha:inN a=true)(hb:inN b=true)(hc:inN c=true):zAD (a,b,c)=some (Int.gcd a (Int.gcd b c):Int):=by rw[zA7]at ha hb hc;have h:=zYm (a:=a) (b:=b) (M:=1000000) (by omega) (by omega);simp only[zAD,zZn (a:=a) (b:=b) (by omega) (by omega),za];rw[zZn (by omega) (by omega),za];congr 2;unfold Int.gcd;simp[Nat.gcd_assoc]
theorem zJz{l:List (Int×Int×Int)}(hl:l.length≤1000000)(hb:∀f∈l,inN f.1=true∧inN f.2.1=true∧inN f.2.2=true):∀(fu k:Nat)(acc:List (Int×Int×Int)),k≤l.length→l.length - k<fu→acc.length≤k→
  zAn l fu (k:Int) acc=some (acc++(l.drop k).filter fun f=>eqI (Int.gcd f.1 (Int.gcd f.2.1 f.2.2):Int) 1)
 |0,k,acc,h0,h1,h2=>by omega
 |fu+1,k,acc,h0,h1,h2=>by
  rw[zAn];rw[zE];by_cases hk:k<l.length
  ·obtain⟨c1,c2,c3⟩:=hb (l[k]) (zx hk);have hcon:zAD l[k]=some (Int.gcd l[k].1 (Int.gcd l[k].2.1 l[k].2.2):Int):=zNf c1 c2 c3;rw[zd (by omega),zb,zA6 hk,List.drop_eq_getElem_cons hk,List.filter_cons];simp only[za,hcon,zI,zA9 (show k<1000000000 by omega)];cases eqI (Int.gcd l[k].1 (Int.gcd l[k].2.1 l[k].2.2):Int) 1 with
   |true=>rw[zb,zAa (by simp;omega),if_pos rfl];simp only[za];rw[zJz hl hb fu (k+1) _ (by omega) (by omega) (by simp;omega)];simp
   |false=>rw[zc,if_neg (by simp)];exact zJz hl hb fu (k+1) acc (by omega) (by omega) (by omega)
  ·rw[ze (by omega),zc,List.drop_eq_nil_of_le (by omega)];simp
def PrR(d:Int)(f:Int×Int×Int):Prop:=1≤f.1∧zCP f.1 f.2.1 f.2.2∧f.2.1*f.2.1 - 4*f.1*f.2.2=d∧Int.gcd f.1 (Int.gcd f.2.1 f.2.2)=1
theorem zY1{a b c d:Int}(ha:1≤a)(h:zCP a b c)(hd:b*b - 4*a*c=d):3*a*a≤-d:=by
 have h1:b*b≤a*a:=by
  obtain⟨⟨h2,h3⟩,_⟩:=h;rcases Int.le_total 0 b with h4|h4
  ·exact zIc h4 h3
  ·have:=zIc (a:=-b) (b:=a) (by omega) (by omega);have e:(-b)*(-b)=b*b:=by grind
   omega
 have h5:a≤c:=by obtain⟨_,h6⟩:=h;omega
 have h7:4*a*a≤4*a*c:=zp h5 (by omega);have e:4*a*a=4*(a*a):=by grind
 have e2:3*a*a=3*(a*a):=by grind
 omega
theorem zYZ{d:Int}{f:Int×Int×Int}(hd1:-2000≤d)(hd2:d≤-3):(1≤f.1∧3*f.1*f.1≤-d∧f∈rowR d f.1 (2*f.1).toNat (1 - f.1))↔(1≤f.1∧zCP f.1 f.2.1 f.2.2∧f.2.1*f.2.1 - 4*f.1*f.2.2=d):=by
 obtain⟨a,b,c⟩:=f;unfold rowR;rw[List.mem_filter,List.mem_map];constructor
 ·rintro⟨h1,h2,⟨b',h3,h4⟩,h5⟩;unfold okR at h5;rw[zk,decide_eq_true_eq,jN,beq_iff_eq]at h5;exact⟨h1,h5.2,h5.1⟩
 ·rintro⟨h1,h2,h3⟩;have h1':1≤a:=h1;have h2':zCP a b c:=h2;have h3':b*b - 4*a*c=d:=h3;refine⟨h1,zY1 h1' h2' h3',⟨b,(zYe _ _ _).2 ⟨?_,?_⟩,?_⟩,?_⟩
  ·obtain⟨⟨h4,h5⟩,_⟩:=h2';show 1 - a≤b;omega
  ·obtain⟨⟨h4,h5⟩,_⟩:=h2';show b<1 - a+((2*a).toNat:Int);omega
  ·unfold cfR;have e:b*b - d=4*a*c:=by omega
   show (a,b,Int.tdiv (b*b - d) (4*a))=(a,b,c)
   rw[e,Int.mul_tdiv_cancel_left _ (by omega)]
  ·unfold okR;rw[zk,decide_eq_true_eq,jN,beq_iff_eq];exact⟨h3,h2⟩
theorem zTk{d:Int}(hd1:-2000≤d)(hd2:d≤-3):∃L,zCG d=some L∧L.length≤27000∧(∀f,f∈L↔PrR d f)∧L.Nodup:=by
 have hF:=FUge;obtain⟨L,k1,k2,k3,asq,k4,k5,k6⟩:=zUu hd1 hd2 26 FU 1 [] (by omega) (by omega) (by omega) (by simp);rw[zt]at k1;have hLl:L.length≤27000:=by omega
 have hmem:∀f∈L,1≤f.1∧zCP f.1 f.2.1 f.2.2∧f.2.1*f.2.1 - 4*f.1*f.2.2=d:=fun f hf=>(zYZ hd1 hd2).1 ((k3 f).1 hf);have hbd:∀f∈L,inN f.1=true∧inN f.2.1=true∧inN f.2.2=true:=by
  intro f hf;obtain⟨h1,h2,h3⟩:=hmem f hf;have h4:=zY1 h1 h2 h3;obtain⟨⟨h5,h6⟩,h7⟩:=h2;have ha:f.1≤26:=by
   rcases Int.lt_or_le 26 f.1 with h8|h8
   ·have:=zIc (a:=27) (b:=f.1) (by omega) (by omega);have e:3*f.1*f.1=3*(f.1*f.1):=by grind
    omega
   ·exact h8
  have hb:=qA (x:=f.2.1) (y:=f.2.1) (A:=26) (B:=26) (by omega) (by omega);have hc:f.2.2≤1000:=by
   have h9:4*1*f.2.2≤4*f.1*f.2.2:=by have:4*1*f.2.2≤(4*f.1)*f.2.2:=Int.mul_le_mul_of_nonneg_right (by omega) (by omega);exact this
   omega
  rw[zA7,zA7,zA7];omega
 have h2:=zJz (l:=L) (by omega) hbd FU 0 [] (by omega) (by omega) (by simp);rw[zt,List.drop_zero]at h2;refine⟨_,by simp only[zCG,zF5,k1,za];exact congrArg (fun z=>z.bind fun o=>some o) h2,Nat.le_trans (List.length_filter_le _ _) hLl,fun f=>?_,?_⟩
 ·rw[List.mem_filter,k3,zYZ hd1 hd2,jN,beq_iff_eq];unfold PrR;constructor
  ·rintro⟨⟨a1,a2,a3⟩,a4⟩;exact⟨a1,a2,a3,by omega⟩
  ·rintro⟨a1,a2,a3,a4⟩;exact⟨⟨a1,a2,a3⟩,by omega⟩
 ·refine List.Pairwise.filter _ ?_
  rw[k6];have hrow:∀a:Int,(rowR d a (2*a).toNat (1 - a)).Nodup:=by
   intro a;unfold rowR;refine List.Pairwise.filter _ ?_
   rw[List.pairwise_map];refine (z4z (2*a).toNat (1 - a)).imp ?_
   intro x y hxy e;have:=congrArg (fun f:Int×Int×Int=>f.2.1) e;simp only[cfR]at this;omega
  rw[List.pairwise_flatMap];refine⟨fun a _=>hrow a,k4.imp ?_⟩;intro x y hxy f hf g hg e;have fx:=zTj hf;have gy:=zTj hg;rw[e]at fx;omega
theorem z5a{d:Int}(hd1:-2000≤d)(hd2:d≤-3)(h4:d % 4≤1):PrR d (1,d % 2,(d % 2 - d) / 4):=by
 have e:(d % 2)*(d % 2)=d % 2:=by rcases (by omega:d % 2=0∨d % 2=1) with h|h<;>rw[h]<;>rfl
 refine⟨Int.le_refl 1,⟨⟨?_,?_⟩,?_⟩,?_,?_⟩
 ·show -1<d % 2;omega
 ·show d % 2≤1;omega
 ·show 1<(d % 2 - d) / 4∨(1=(d % 2 - d) / 4∧0≤d % 2)
  omega
 ·show d % 2*(d % 2) - 4*1*((d % 2 - d) / 4)=d;rw[e];omega
 ·simp
structure CurB (k:Nat) (c:List Int×Int×Int):Prop where
  lo:0≤c.2.1
  hi:c.2.1≤(k:Int)
  len:c.1.length≤1048576
  by8:∀x∈c.1,0≤x∧x≤255
theorem CurB.up{k k2:Nat}{c:List Int×Int×Int}(h:CurB k c)(hk:k≤k2):CurB k2 c:=⟨h.lo,by have:=h.hi;omega,h.len,h.by8⟩
theorem CurB.start{code:List Int}(h1:code.length≤1048576)(h2:∀x∈code,0≤x∧x≤255):CurB 0 (code,0,0):=⟨Int.le_refl _,Int.le_refl _,h1,h2⟩
theorem z8m{code more:List Int}:zDl code more=some (decide (1048576<code.length∨1048576 - (code.length:Int)<more.length))∨1048576<code.length∧zDl code more=some true:=by
 by_cases h:1048576<code.length
 ·right;refine⟨h,?_⟩;simp only[zDl,za,zE,zd (show (1048576:Int)<(code.length:Int) by omega),zb]
 ·left;simp only[zDl,za,zE,ze (show ¬(1048576:Int)<(code.length:Int) by omega),zc];rw[zA (by omega)];congr 1;simp only[decide_eq_decide];omega
theorem z4f(code more:List Int):zDl code more=some true∨(zDl code more=some false∧code.length≤1048576∧more.length≤1048576):=by
 rcases z8m (code:=code) (more:=more) with h|h
 ·by_cases h1:1048576<code.length∨1048576 - (code.length:Int)<more.length
  ·exact .inl (by rw[h,zd h1])
  ·refine .inr ⟨by rw[h,ze h1],?_,?_⟩<;>omega
 ·exact .inl h.2
theorem wrap_u8{x:Int}(h:0≤x∧x≤255):IntKind.i64.wrap x=x:=zKk (by omega)
theorem z7K(a:Int):0≤IntKind.i64.wrap (andI .u64 a 255)∧IntKind.i64.wrap (andI .u64 a 255)≤255:=by
 have h:0≤andI .u64 a 255∧andI .u64 a 255≤255:=by
  unfold andI;have h1:(BitVec.ofInt IntKind.u64.bits a&&& BitVec.ofInt IntKind.u64.bits 255).toNat≤255:=by rw[BitVec.toNat_and];exact Nat.and_le_right
  generalize (BitVec.ofInt IntKind.u64.bits a&&& BitVec.ofInt IntKind.u64.bits 255).toNat=q at h1;rw[show IntKind.u64.wrap (q:Int)=(q:Int) by show (q:Int) % 18446744073709551616=q;omega]
  omega
 rw[wrap_u8 h];exact h
theorem z3V{k:Nat}{c:List Int×Int×Int}(h:CurB k c)(hk:k≤1099511627776):∃b c',zCQ c=some (b,c')∧0≤b∧b≤255∧CurB (k+1) c':=by
 obtain⟨xs,p,q⟩:=c;obtain⟨h1,h2,h3,h4⟩:=h;simp only at h1 h2 h3 h4;have e1:w64 (p+1)=p+1:=zA (by omega);have nextB:∀q',CurB (k+1) (xs,p+1,q'):=fun q'=>⟨by show 0≤p+1;omega,by show p+1≤((k+1:Nat):Int);omega,h3,h4⟩
 simp only[zCQ,zI,zE,qP,e1];by_cases hp:p<(xs.length:Int)
 ·have hi:p.toNat<xs.length:=by omega
  have hg:getI xs p=some xs[p.toNat]:=by unfold getI;rw[qP,zd h1,zb];simp[hi]
  have hb:=h4 xs[p.toNat] (zx hi);simp only[zd hp,zb,hg,za,wrap_u8 hb];by_cases hl:p+1≤(xs.length:Int)
  ·simp only[zd hl,zb];exact⟨_,_,rfl,hb.1,hb.2,nextB _⟩
  ·omega
 ·simp only[ze hp,zc,za];simp only[ze (show ¬p+1≤(xs.length:Int) by omega),zc];exact⟨_,_,rfl,(z7K _).1,(z7K _).2,nextB _⟩
theorem zSk{x n:Int}(hx:0≤x)(hn:0<n):0≤x.tmod n∧x.tmod n<n:=⟨Int.tmod_nonneg _ hx,Int.tmod_lt_of_pos _ hn⟩
theorem zHe{k:Nat}{c:List Int×Int×Int}(n:Int)(h:CurB k c)(hk:k≤1000000000000):∃x c',zO c n=some (x,c')∧0≤x∧(n≤1→x=0)∧(1<n→x<n)∧CurB (k+2) c':=by
 simp only[zO,qP,zE];by_cases h1:n≤1
 ·rw[zd h1,zb];exact⟨0,c,rfl,Int.le_refl _,fun _=>rfl,fun h2=>by omega,h.up (by omega)⟩
 ·rw[ze h1,zc];obtain⟨b,c1,e1,b1,b2,hc1⟩:=z3V h (by omega);rw[e1,za];by_cases h2:200<n
  ·obtain⟨d,c2,e2,d1,d2,hc2⟩:=z3V hc1 (by omega);simp only[zd h2,zb,e2,za,zI,zFg (show n≠0 by omega)];rw[zA (n:=b*256) (by omega),zA (n:=b*256+d) (by omega)];have:=zSk (x:=b*256+d) (n:=n) (by omega) (by omega);exact⟨_,_,rfl,this.1,fun h3=>absurd h3 h1,fun _=>this.2,hc2⟩
  ·simp only[ze h2,zc,za,zI,zFg (show n≠0 by omega)];have:=zSk (x:=b) (n:=n) b1 (by omega);exact⟨_,_,rfl,this.1,fun h3=>absurd h3 h1,fun _=>this.2,hc1.up (by omega)⟩
theorem zYk{α:Type}{l:List α}{x:Int}(h1:0≤x)(h2:x<(l.length:Int)):∃y,getI l x=some y∧y∈l:=by
 have hi:x.toNat<l.length:=by omega
 refine⟨l[x.toNat],?_,zx hi⟩;unfold getI;rw[qP,zd h1,zb];simp[hi]
theorem z7L{k:Nat}{c:List Int×Int×Int}{l:List Int}(hl:l≠[])(h:CurB k c)(hk:k≤1000000000000):∃x c',jX c l=some (x,c')∧x∈l∧CurB (k+2) c':=by
 obtain⟨x,c1,e1,x1,x2,x3,hc1⟩:=zHe (l.length:Int) h hk;have hp:=List.length_pos_iff.2 hl;obtain⟨y,e2,hy⟩:=zYk (l:=l) x1 (by
  rcases Nat.lt_or_ge 1 l.length with h1|h1
  ·exact x3 (by omega)
  ·have:=x2 (by omega);omega)
 simp only[jX,e1,za,e2];exact⟨y,c1,rfl,hy,hc1⟩
theorem zNA(m n:Int×Int×Int×Int):∃y,qJ m n=some y:=by simp only[qJ,zI];exact⟨_,rfl⟩
theorem z2L(f:Int×Int×Int)(m:Int×Int×Int×Int):∃y,zDk f m=some y:=by simp only[zDk,zBK,zDc,zI,za];exact⟨_,rfl⟩
theorem zIq:∀(m fu k:Nat)(t:Int)(a b c d:Int)(cu:List Int×Int×Int),CurB k cu→k+4*m≤100000000000→t≤m→m<fu→
  ∃p q r s c',jL fu t a b c d cu.1 cu.2.1 cu.2.2=some (p,q,r,s,c')∧CurB (k+4*m) c'
 |m,0,k,t,a,b,c,d,cu,_,_,_,h=>by omega
 |0,fu+1,k,t,a,b,c,d,cu,hc,hk,ht,hf=>by rw[jL,zE,ze (by omega),zc];exact⟨_,_,_,_,_,rfl,hc⟩
 |m+1,fu+1,k,t,a,b,c,d,cu,hc,hk,ht,hf=>by
  rw[jL,zE];by_cases h0:0<t
  ·obtain⟨x,c1,e1,_,_,_,h1⟩:=zHe 9 hc (by omega);obtain⟨y,c2,e2,_,_,_,h2⟩:=zHe 3 h1 (by omega);have e1':zO (cu.1,cu.2.1,cu.2.2) 9=some (x,c1):=e1;rw[zd h0,zb,e1'];simp only[za,zI,e2];have hw:w64 (t - 1)≤(m:Int):=by rw[zA (by omega)];omega
   cases eqI y 0 with
   |true=>obtain⟨z,hz⟩:=zNA (a,b,c,d) (1,w64 (x - 4),0,1);rw[zb,hz,za];obtain⟨p,q,r,s,c',g1,g2⟩:=zIq m fu (k+4) (w64 (t - 1)) z.1 z.2.1 z.2.2.1 z.2.2.2 c2 (h2.up (by omega)) (by omega) hw (by omega);exact⟨p,q,r,s,c',g1,g2.up (by omega)⟩
   |false=>
    rw[zc];cases eqI y 1 with
    |true=>obtain⟨z,hz⟩:=zNA (a,b,c,d) (1,0,w64 (x - 4),1);rw[zb,hz,za];obtain⟨p,q,r,s,c',g1,g2⟩:=zIq m fu (k+4) (w64 (t - 1)) z.1 z.2.1 z.2.2.1 z.2.2.2 c2 (h2.up (by omega)) (by omega) hw (by omega);exact⟨p,q,r,s,c',g1,g2.up (by omega)⟩
    |false=>obtain⟨z,hz⟩:=zNA (a,b,c,d) (0,-1,1,0);rw[zc,hz,za];obtain⟨p,q,r,s,c',g1,g2⟩:=zIq m fu (k+4) (w64 (t - 1)) z.1 z.2.1 z.2.2.1 z.2.2.2 c2 (h2.up (by omega)) (by omega) hw (by omega);exact⟨p,q,r,s,c',g1,g2.up (by omega)⟩
  ·rw[ze h0,zc];exact⟨_,_,_,_,_,rfl,hc.up (by omega)⟩
theorem z4L{k:Nat}{c:List Int×Int×Int}(h:CurB k c)(hk:k≤10000000000):∃m c',zCa c=some (m,c')∧CurB (k+26) c':=by obtain⟨x,c1,e1,x0,_,x2,h1⟩:=zHe 6 h (by omega);have x3:=x2 (by omega);have hF:=FUge;obtain⟨p,q,r,s,c',g1,g2⟩:=zIq 6 FU (k+2) x 1 0 0 1 c1 h1 (by omega) (by omega) (by omega);exact⟨(p,q,r,s),c',by simp only[zCa,e1,za,g1],g2.up (by omega)⟩
def OkD(d:Int):Prop:=-2000≤d∧d≤-3∧d % 4≤1
instance (d:Int):Decidable (OkD d):=inferInstanceAs (Decidable (-2000≤d∧d≤-3∧d % 4≤1))
theorem z1o{k:Nat}{c:List Int×Int×Int}{d:Int}(hd:OkD d)(h:CurB k c)(hk:k≤100000000000):∃f c',zB0 c d=some (f,c')∧PrR d f∧CurB (k+2) c':=by
 obtain⟨L,h1,h2,h3,_⟩:=zTk hd.1 hd.2.1;have hp:=(h3 _).2 (z5a hd.1 hd.2.1 hd.2.2);have hL:0<L.length:=List.length_pos_of_mem hp;obtain⟨x,c1,e1,x0,x1,x2,g1⟩:=zHe (L.length:Int) h (by omega);have hx:x<(L.length:Int):=by
  rcases Int.lt_or_le 1 (L.length:Int) with h5|h5
  ·exact x2 h5
  ·have:=x1 h5;omega
 obtain⟨f,e2,hf⟩:=zYk x0 hx;simp only[zB0,h1,za,e1,e2];exact⟨f,c1,rfl,(h3 f).1 hf,g1⟩
def fB(f:Int×Int×Int):List UInt8:=((((([40]++Go.Lib.itoa f.1)++[44])++Go.Lib.itoa f.2.1)++[44])++Go.Lib.itoa f.2.2)++[41]
theorem zKK{f:Int×Int×Int}(h1:sm18 f.1)(h2:sm18 f.2.1)(h3:sm18 f.2.2):(fB f).length≤100:=by have a1:=zA5 h1;have a2:=zA5 h2;have a3:=zA5 h3;simp[fB];omega
theorem zFR{f:Int×Int×Int}(h1:sm18 f.1)(h2:sm18 f.2.1)(h3:sm18 f.2.2):zAV f=some (bl (fB f)):=by have a1:=zA5 h1;have a2:=zA5 h2;have a3:=zA5 h3;have e1:(⟨#[40]⟩:qf)=bl [40]:=rfl;have e2:(⟨#[44]⟩:qf)=bl [44]:=rfl;have e3:(⟨#[41]⟩:qf)=bl [41]:=rfl;unfold zAV;rw[zFh h1,za,e1,e2,e3,zBO (by simp;omega),za,jH,zBO (by simp;omega),za,jH,zFh h2,za,zBO (by simp;omega),za,jH,zBO (by simp;omega),za,jH,zFh h3,za,zBO (by simp;omega),za,jH,zBO (by simp;omega),za,jH];rfl
theorem zDU{f:Int×Int×Int}(h1:sm18 f.1)(h2:sm18 f.2.1)(h3:sm18 f.2.2):zAC f=some (bl (fB f)):=by have a1:=zA5 h1;have a2:=zA5 h2;have a3:=zA5 h3;have e1:(⟨#[40]⟩:qf)=bl [40]:=rfl;have e2:(⟨#[44]⟩:qf)=bl [44]:=rfl;have e3:(⟨#[41]⟩:qf)=bl [41]:=rfl;unfold zAC;rw[zGH h1,za,e1,e2,e3,zBO (by simp;omega),za,jH,zBO (by simp;omega),za,jH,zGH h2,za,zBO (by simp;omega),za,jH,zBO (by simp;omega),za,jH,zGH h3,za,zBO (by simp;omega),za,jH,zBO (by simp;omega),za,jH];rfl
def mB(m:Int×Int×Int×Int):List UInt8:=((((((([91]++Go.Lib.itoa m.1)++[44])++Go.Lib.itoa m.2.1)++[59])++Go.Lib.itoa m.2.2.1)++[44])++Go.Lib.itoa m.2.2.2)++[93]
theorem z1z{m:Int×Int×Int×Int}(h1:sm18 m.1)(h2:sm18 m.2.1)(h3:sm18 m.2.2.1)(h4:sm18 m.2.2.2):(mB m).length≤100:=by have a1:=zA5 h1;have a2:=zA5 h2;have a3:=zA5 h3;have a4:=zA5 h4;simp[mB];omega
theorem zNB{m:Int×Int×Int×Int}(h1:sm18 m.1)(h2:sm18 m.2.1)(h3:sm18 m.2.2.1)(h4:sm18 m.2.2.2):zAw m=some (bl (mB m)):=by have a1:=zA5 h1;have a2:=zA5 h2;have a3:=zA5 h3;have a4:=zA5 h4;have e1:(⟨#[91]⟩:qf)=bl [91]:=rfl;have e2:(⟨#[44]⟩:qf)=bl [44]:=rfl;have e3:(⟨#[59]⟩:qf)=bl [59]:=rfl;have e4:(⟨#[93]⟩:qf)=bl [93]:=rfl;unfold zAw;rw[zFh h1,za,e1,e2,e3,e4,zBO (by simp;omega),za,jH,zBO (by simp;omega),za,jH,zFh h2,za,zBO (by simp;omega),za,jH,zBO (by simp;omega),za,jH,zFh h3,za,zBO (by simp;omega),za,jH,zBO (by simp;omega),za,jH,zFh h4,za,zBO (by simp;omega),za,jH,zBO (by simp;omega),za,jH];rfl
theorem zMy{m:Int×Int×Int×Int}(h1:sm18 m.1)(h2:sm18 m.2.1)(h3:sm18 m.2.2.1)(h4:sm18 m.2.2.2):zBf m=some (bl (mB m)):=by have a1:=zA5 h1;have a2:=zA5 h2;have a3:=zA5 h3;have a4:=zA5 h4;have e1:(⟨#[91]⟩:qf)=bl [91]:=rfl;have e2:(⟨#[44]⟩:qf)=bl [44]:=rfl;have e3:(⟨#[59]⟩:qf)=bl [59]:=rfl;have e4:(⟨#[93]⟩:qf)=bl [93]:=rfl;unfold zBf;rw[zGH h1,za,e1,e2,e3,e4,zBO (by simp;omega),za,jH,zBO (by simp;omega),za,jH,zGH h2,za,zBO (by simp;omega),za,jH,zBO (by simp;omega),za,jH,zGH h3,za,zBO (by simp;omega),za,jH,zBO (by simp;omega),za,jH,zGH h4,za,zBO (by simp;omega),za,jH,zBO (by simp;omega),za,jH];rfl
def OkO{α:Type}(x:Option α)(Q:α→Prop):Prop:=∃a,x=some a∧Q a
theorem OkO.bind{α β:Type}{x:Option α}{f:α→Option β}{Q:α→Prop}{R:β→Prop}(h:OkO x Q)(hf:∀a,Q a→OkO (f a) R):OkO (x.bind f) R:=by obtain⟨a,rfl,h1⟩:=h;exact hf a h1
theorem OkO.cond{α:Type}{b:Bool}{x y:Option α}{Q:α→Prop}(h1:b=true→OkO x Q)(h2:b=false→OkO y Q):OkO (bif b then x else y) Q:=by
 cases b with
 |true=>exact h1 rfl
 |false=>exact h2 rfl
theorem OkO.some{α:Type}{a:α}{Q:α→Prop}(h:Q a):OkO (some a) Q:=⟨a,rfl,h⟩
theorem OkO.mono{α:Type}{x:Option α}{Q R:α→Prop}(h:OkO x Q)(hr:∀a,Q a→R a):OkO x R:=by obtain⟨a,h1,h2⟩:=h;exact⟨a,h1,hr a h2⟩
theorem OkO.sI{α:Type}{e:Int}{f:Int→Option α}{Q:α→Prop}(h:OkO (f e) Q):OkO (sI e f) Q:=by rw[zI];exact h
abbrev Cur3:=List Int×Int×Int
theorem zZW{k:Nat}{c:Cur3}{l:List Int}(hl:l≠[])(h:CurB k c)(hk:k≤1000000000000):OkO (jX c l) (fun y=>y.1∈l∧CurB (k+2) y.2):=by obtain⟨x,c',e,h1,h2⟩:=z7L hl h hk;exact⟨_,e,h1,h2⟩
theorem z8H{α:Type}{k:Nat}{c:Cur3}{l:List α}(hl:0<l.length)(h:CurB k c)(hk:k≤1000000000000):OkO (zO c (l.length:Int)) (fun y=>0≤y.1∧y.1<(l.length:Int)∧CurB (k+2) y.2):=by
 obtain⟨x,c',e,h1,h2,h3,h4⟩:=zHe (l.length:Int) h hk;refine⟨_,e,h1,?_,h4⟩;rcases Nat.lt_or_ge 1 l.length with h5|h5
 ·exact h3 (by omega)
 ·have:=h2 (by omega);simp only;omega
theorem zPs{k:Nat}{c:Cur3}(n:Int)(h:CurB k c)(hk:k≤1000000000000):OkO (zO c n) (fun y=>0≤y.1∧(n≤1→y.1=0)∧(1<n→y.1<n)∧CurB (k+2) y.2):=by obtain⟨x,c',e,h1,h2,h3,h4⟩:=zHe n h hk;exact⟨_,e,h1,h2,h3,h4⟩
theorem qAj{α:Type}{l:List α}{x:Int}(h1:0≤x)(h2:x<(l.length:Int)):OkO (getI l x) (fun y=>y∈l):=zYk h1 h2
theorem of_O{k:Nat}{c:Cur3}{l:List qf}(hl:0<l.length)(h:CurB k c)(hk:k≤1000000000000):OkO (zBm c l) (fun y=>y.1∈l∧CurB (k+2) y.2):=by
 unfold zBm;refine (z8H hl h hk).bind fun y h3=>?_
 refine (qAj h3.1 h3.2.1).bind fun e h4=>?_
 exact OkO.some ⟨h4,h3.2.2⟩
theorem z8k(e:Int):(zAy [e]).size=1:=rfl
theorem zUN(t:qf){a b:Int}(h0:0≤a)(h1:a≤b)(h2:b≤t.size):(t.extract (Int.toNat a) (Int.toNat b)).size=b.toNat - a.toNat:=by rw[ByteArray.size_extract];omega
theorem slcI{n:Nat}{a b:Int}(h0:0≤a)(h1:a≤b)(h2:b≤n):slc n a b=some ():=by unfold slc;rw[qP,qP,qP,zd h0,zd h1,zd h2];rfl
theorem catI{a b:qf}(h:a.size+b.size≤1000000000):catR a b=some ():=by unfold catR;rw[if_pos (by omega)]
theorem qAk{b:qf}{i:Int}(h0:0≤i)(h1:i<b.size):OkO (getB b i) (fun _=>True):=by unfold getB;rw[if_pos ⟨h0,h1⟩];exact OkO.some trivial
theorem zY7{k:Nat}{c:Cur3}{n:Nat}(hn:0<n)(h:CurB k c)(hk:k≤1000000000000):OkO (zO c (n:Int)) (fun y=>0≤y.1∧y.1<(n:Int)∧CurB (k+2) y.2):=by
 obtain⟨x,c',e,h1,h2,h3,h4⟩:=zHe (n:Int) h hk;refine⟨_,e,h1,?_,h4⟩;simp only;rcases Nat.lt_or_ge 1 n with h5|h5
 ·exact h3 (by omega)
 ·have:=h2 (by omega);omega
theorem zId(w:qf)(hw:0<w.size):∀(m f:Nat)(t:qf)(a:List Int)(b c:Int)(k:Nat),m<f→t.size+m≤100000→CurB k (a,b,c)→k+8*m≤10000000→
  OkO (jK w f t (m:Int) a b c) (fun y=>y.1.size≤t.size+m∧CurB (k+8*m) y.2)
 |0,f,t,a,b,c,k,hf,ht,hc,hk=>by
  obtain⟨f,rfl⟩:∃m,f=m+1:=⟨f - 1,by omega⟩
  unfold jK;rw[zE,ze (by omega),zc,zc];exact OkO.some ⟨by simp only;omega,hc⟩
 |m+1,f,t,a,b,c,k,hf,ht,hc,hk=>by
  obtain⟨f,rfl⟩:∃m,f=m+1:=⟨f - 1,by omega⟩
  unfold jK;refine OkO.cond (fun hcond=>?_) fun _=>OkO.some ⟨by simp only;omega,hc.up (by omega)⟩;rw[zE,zE,zd (show (0:Int)<((m+1:Nat):Int) by omega),zb]at hcond;have htz:=of_decide_eq_true hcond;refine (zY7 (n:=t.size) (by omega) hc (by omega)).bind fun y15 h15=>?_
  refine (zY7 (n:=w.size) hw h15.2.2 (by omega)).bind fun y16 h16=>?_
  refine (qAk h16.1 h16.2.1).bind fun e17 _=>?_
  refine (zPs 3 h16.2.2 (by omega)).bind fun y18 h18=>?_
  obtain⟨_,_,_,h18⟩:=h18;obtain⟨i0,i1,_⟩:=h15;have e1:w64 (((m+1:Nat):Int) - 1)=(m:Int):=by rw[zA (by omega)];omega
  have e2:w64 (y15.1+1)=y15.1+1:=zA (by omega);have z1:=zUN t (a:=0) (b:=y15.1) (by omega) (by omega) (by omega);have z2:=zUN t (a:=y15.1) (b:=(t.size:Int)) (by omega) (by omega) (by omega);have z3:=zUN t (a:=y15.1+1) (b:=(t.size:Int)) (by omega) (by omega) (by omega);have b1:=z8k e17;refine OkO.cond (fun _=>?_) fun _=>OkO.cond (fun _=>?_) fun _=>?_
  ·rw[slcI (by omega) (by omega) (by omega),za,catI (by omega),za,slcI (by omega) (by omega) (by omega),za,catI (by rw[ByteArray.size_append];omega),za,zI,e1];exact (zId w hw m f _ _ _ _ (k+6) (by omega) (by rw[ByteArray.size_append,ByteArray.size_append];omega) h18 (by omega)).mono fun z hz=>⟨by have:=hz.1;rw[ByteArray.size_append,ByteArray.size_append]at this;omega,hz.2.up (by omega)⟩
  ·rw[slcI (by omega) (by omega) (by omega),za,catI (by omega),za,e2,slcI (by omega) (by omega) (by omega),za,catI (by rw[ByteArray.size_append];omega),za,zI,e1];exact (zId w hw m f _ _ _ _ (k+6) (by omega) (by rw[ByteArray.size_append,ByteArray.size_append];omega) h18 (by omega)).mono fun z hz=>⟨by have:=hz.1;rw[ByteArray.size_append,ByteArray.size_append]at this;omega,hz.2.up (by omega)⟩
  ·rw[slcI (by omega) (by omega) (by omega),za,e2,slcI (by omega) (by omega) (by omega),za,catI (by omega),za,zI,e1];exact (zId w hw m f _ _ _ _ (k+6) (by omega) (by rw[ByteArray.size_append];omega) h18 (by omega)).mono fun z hz=>⟨by have:=hz.1;rw[ByteArray.size_append]at this;omega,hz.2.up (by omega)⟩
theorem z5P{k:Nat}{c:Cur3}(t w:qf)(hw:0<w.size)(ht:t.size≤10000)(h:CurB k c)(hk:k≤1000000):OkO (zC8 c t w) (fun y=>y.1.size≤t.size+2∧CurB (k+20) y.2):=by
 have hF:200000000<FU:=by decide
 unfold zC8;refine (zY7 (n:=2) (by omega) h (by omega)).bind fun y hy=>?_
 obtain⟨m,hm,hm2⟩:∃m:Nat,w64 (1+y.1)=(m:Int)∧m≤2:=by obtain⟨h0,h1,_⟩:=hy;exact⟨(1+y.1).toNat,by rw[zA (by omega)];omega,by omega⟩
 rw[zI,hm];exact (zId w hw m FU t _ _ _ (k+2) (by omega) (by omega) hy.2.2 (by omega)).bind fun o ho=>OkO.some ⟨by have:=ho.1;simp only;omega,ho.2.up (by omega)⟩
theorem z2E{n:Int}(h:inN n=true):sm18 n:=by rw[zA7]at h;unfold sm18;omega
def Sm3(f:Int×Int×Int):Prop:=sm18 f.1∧sm18 f.2.1∧sm18 f.2.2
theorem z5s{k:Nat}{c:Cur3}{f:Int×Int×Int}(hf:Sm3 f)(h:CurB k c)(hk:k≤10000000000):OkO (zCu c f) (fun y=>Sm3 y.1∧CurB (k+26) y.2):=by
 obtain⟨m,c1,e1,h1⟩:=z4L h hk;obtain⟨y,hy⟩:=z2L f m;unfold OkO;simp only[zCu,e1,za,hy,zWv];cases hb:(inN y.1&&(inN y.2.1&&inN y.2.2)) with
 |true=>simp only[zk]at hb;exact⟨_,rfl,⟨z2E hb.1,z2E hb.2.1,z2E hb.2.2⟩,h1⟩
 |false=>exact⟨_,rfl,hf,h1⟩
theorem foT_O{f:Int×Int×Int}(hf:Sm3 f):OkO (zAV f) (fun s=>s.size≤100):=
 ⟨_,zFR hf.1 hf.2.1 hf.2.2,by show (bl (fB f)).size≤100;rw[qZ];exact zKK hf.1 hf.2.1 hf.2.2⟩
theorem z05{n:Int}(h:sm18 n):OkO (jD n) (fun s=>s.size≤19):=⟨_,zFh h,by show (bl (Go.Lib.itoa n)).size≤19;rw[qZ];exact zA5 h⟩
theorem zHC(x:Int):0≤x*x:=by
 rcases Int.le_total 0 x with h|h
 ·exact Int.mul_nonneg h h
 ·exact Int.mul_nonneg_of_nonpos_of_nonpos h h
theorem zX2{x:Int}{M N:Nat}(h:x*x≤(N:Int))(hM:N<(M+1)*(M+1)):x.natAbs≤M:=by
 rcases Nat.lt_or_ge M x.natAbs with h1|h1
 ·have h2:(M+1)*(M+1)≤x.natAbs*x.natAbs:=Nat.mul_le_mul h1 h1;have h3:x*x=((x.natAbs*x.natAbs:Nat):Int):=Int.natAbs_mul_self.symm;omega
 ·exact h1
theorem z8E{A B C d x y v:Int}(hd:B*B - 4*A*C=d)(hv:A*x*x+B*x*y+C*y*y=v):(-d)*(x*x)+(2*C*y+B*x)*(2*C*y+B*x)=4*C*v:=by subst hd hv;grind
theorem z6a{A B C d x y v:Int}(hd:B*B - 4*A*C=d)(hv:A*x*x+B*x*y+C*y*y=v):(-d)*(x*x)≤4*C*v:=by have h1:=z8E hd hv;have h2:=zHC (2*C*y+B*x);omega
theorem zYv{A B C d x y v:Int}(hd:B*B - 4*A*C=d)(hneg:d<0)(hC1:1≤C)(hC:C≤1000000)(hv:A*x*x+B*x*y+C*y*y=v)(hv2:v≤1250000):x.natAbs≤2300000:=by have h1:=z6a hd hv;have h2:1*(x*x)≤(-d)*(x*x):=Int.mul_le_mul_of_nonneg_right (by omega) (zHC x);have h3:4*C*v≤4*C*1250000:=zp hv2 (by omega);exact zX2 (N:=5000000000000) (by omega) (by decide)
structure MatInv (A B C p q r s a b c:Int):Prop where
  e1:A*p*p+B*p*r+C*r*r=a
  e2:2*A*p*q+B*(p*s+q*r)+2*C*r*s=b
  e3:A*q*q+B*q*s+C*s*s=c
  dt:p*s - q*r=1
theorem MatInv.swap{A B C p q r s a b c:Int}(h:MatInv A B C p q r s a b c):MatInv A B C q (-p) s (-r) c (-b) a:=by obtain⟨e1,e2,e3,dt⟩:=h;exact⟨e3,by grind,by grind,by grind⟩
theorem MatInv.norm{A B C p q r s a b c:Int}(t:Int)(h:MatInv A B C p q r s a b c):MatInv A B C p (p*t+q) r (r*t+s) a (2*a*t+b) (a*t*t+b*t+c):=by obtain⟨e1,e2,e3,dt⟩:=h;exact⟨e1,by grind,by grind,by grind⟩
theorem z1d{a b c d g:Int}(h:RedInv a b c d g)(hr:¬zCP a b c):qU (a,b,c)=some (0,-1,1,0)∨∃t,-1000001≤t∧t≤1000000∧qU (a,b,c)=some (1,t,0,1):=by
 obtain⟨a1,aM,b1,b2,c1,cM,dis,neg,nrm,con⟩:=h;have hn:qM (a,b,c)=some (decide (-a<b∧b≤a)):=by
  simp only[qM,za,zE,qP];rw[zA (by omega)];by_cases h1:-a<b<;>by_cases h2:b≤a<;>simp[h1,h2]
  all_goals omega
 by_cases hN:-a<b∧b≤a
 ·left;simp only[qU,zIF a1 aM,hn,za,ze hr,zd hN];rfl
 ·right;have hf:=zGI (a:=a - b) (m:=2*a) (by omega) (by omega) (by omega) (by omega);have e1:=qc (a - b) (b:=2*a) (by omega);have e2:=qd (a - b) (b:=2*a) (by omega);have e3:=Int.emod_add_mul_ediv (a - b) (2*a);generalize hs:(a - b) / (2*a)=s at*;generalize hq:(a - b) % (2*a)=q at*;have hs1:s≤1000000:=by
   rcases Int.lt_or_le 1000000 s with h|h
   ·have:2*a*1000001≤2*a*s:=zp (by omega) (by omega);omega
   ·exact h
  have hs2:-1000001≤s:=by
   rcases Int.lt_or_le s (-1000001) with h|h
   ·have:2*a*s≤2*a*(-1000002):=zp (by omega) (by omega);omega
   ·exact h
  refine⟨s,hs2,hs1,?_⟩;simp only[qU,zIF a1 aM,hn,za,ze hr,ze hN,zc,zi,zb];rw[zA (n:=a - b) (by omega),zA (n:=2*a) (by omega),hf];rfl
theorem z1X{p q r s:Int}(hp:p.natAbs≤2300000)(hq:q.natAbs≤2300000)(hr:r.natAbs≤2300000)(hs:s.natAbs≤2300000):qC (p,q,r,s) (0,-1,1,0)=some (q,-p,s,-r):=by
 simp only[qC,zI,Int.mul_zero,Int.mul_one];have e:∀x:Int,x*-1=-x:=fun x=>by omega
 rw[e p,e r,zA (n:=0) (by omega),zA (n:=q) (by omega),zA (n:=-p) (by omega),zA (n:=s) (by omega),zA (n:=-r) (by omega),zA (n:=0+q) (by omega),zA (n:=-p+0) (by omega),zA (n:=0+s) (by omega),zA (n:=-r+0) (by omega)];simp
theorem z1Y{p q r s t:Int}(hp:p.natAbs≤2300000)(hq:q.natAbs≤2300000)(hr:r.natAbs≤2300000)(hs:s.natAbs≤2300000)(ht:t.natAbs≤1000001):qC (p,q,r,s) (1,t,0,1)=some (p,p*t+q,r,r*t+s):=by have m1:=qA hp ht;have m2:=qA hr ht;simp only[qC,zI,Int.mul_zero,Int.mul_one];rw[zA (n:=0) (by omega),zA (n:=q) (by omega),zA (n:=p) (by omega),zA (n:=s) (by omega),zA (n:=r) (by omega),zA (n:=p*t) (by omega),zA (n:=r*t) (by omega),zA (n:=p+0) (by omega),zA (n:=p*t+q) (by omega),zA (n:=r+0) (by omega),zA (n:=r*t+s) (by omega)];simp
theorem zS5{A B C:Int}(hA1:1≤A)(hA:A≤1000000)(hC1:1≤C)(hC:C≤1000000):∀(n:Nat)(a b c d g p q r s:Int),B*B - 4*A*C=d→RedInv a b c d g→MatInv A B C p q r s a b c→4*a+(if -a<b∧b≤a then 0 else 2)+(if zCP a b c then 0 else 1)≤(n:Int)→
  ∃m1 m2 m3 m4 a2 b2 c2,zBe n p q r s a b c=some (m1,m2,m3,m4,a2,b2,c2)∧RedInv a2 b2 c2 d g∧zCP a2 b2 c2∧MatInv A B C m1 m2 m3 m4 a2 b2 c2
 |0,a,b,c,d,g,p,q,r,s,hd,h,hv,hm=>by have:=h.a1;split at hm<;>split at hm<;>omega
 |n+1,a,b,c,d,g,p,q,r,s,hd,h,hv,hm=>by
  unfold zBe;rw[zIF h.a1 h.aM];by_cases hr:zCP a b c
  ·refine⟨p,q,r,s,a,b,c,?_,h,hr,hv⟩;simp[hr]
  ·obtain⟨m,a2,b2,c2,h1,h2,h3,h4⟩:=z0T h hr;have hdS:B*B - 4*C*A=d:=by rw[←hd];grind
   have bp:=zYv hd h.neg hC1 hC hv.e1 (by have:=h.aM;omega);have bq:=zYv hd h.neg hC1 hC hv.e3 h.cM;have br:=zYv (A:=C) (C:=A) (x:=r) (y:=p) hdS h.neg hA1 hA (v:=a) (by have:=hv.e1;grind) (by have:=h.aM;omega);have bs:=zYv (A:=C) (C:=A) (x:=s) (y:=q) hdS h.neg hA1 hA (v:=c) (by have:=hv.e3;grind) h.cM;have e1:(!decide (zCP a b c))=true:=by simp[hr]
   have hmeas:4*a2+(if -a2<b2∧b2≤a2 then 0 else 2)+(if zCP a2 b2 c2 then 0 else 1)≤(n:Int):=by
    rcases h4 with⟨g1,g2,g3⟩|⟨g1,g2⟩|⟨g1,g2,g3⟩
    ·rw[if_neg g1,if_neg hr]at hm;rw[if_pos g3];split<;>omega
    ·rw[if_pos g1,if_neg hr]at hm;split<;>split<;>omega
    ·rw[if_pos g1,if_neg hr]at hm;rw[if_pos g2.1,if_pos g2];omega
   have ha:=h.a1;have hb1:=h.b1;have hb2:=h.b2;have haM:=h.aM;have hc1:=h.c1;have hcM:=h.cM;rcases z1d h hr with hs|⟨t,t1,t2,hs⟩
   ·rw[hs]at h1;have hm0:=zZ h1;subst hm0;have hsub:=zOc (a:=a) (b:=b) (c:=c) (by omega) (by omega) (by omega);rw[hsub]at h2;obtain⟨ea,hbc⟩:=Prod.mk.inj (zZ h2);obtain⟨eb,ec⟩:=Prod.mk.inj hbc;rw[←ea,←eb,←ec]at h3 hmeas;simp only[za,hs,hsub,z1X bp bq br bs,e1,zb];exact zS5 hA1 hA hC1 hC n _ _ _ d g _ _ _ _ hd h3 hv.swap hmeas
   ·rw[hs]at h1;have hm0:=zZ h1;subst hm0;have hsub:=zOd (a:=a) (b:=b) (c:=c) (s:=t) (by omega) (by omega) (by omega) (by omega);rw[hsub]at h2;obtain⟨ea,hbc⟩:=Prod.mk.inj (zZ h2);obtain⟨eb,ec⟩:=Prod.mk.inj hbc;rw[←ea,←eb,←ec]at h3 hmeas;simp only[za,hs,hsub,z1Y bp bq br bs (t:=t) (by omega),e1,zb];exact zS5 hA1 hA hC1 hC n _ _ _ d g _ _ _ _ hd h3 (hv.norm t) hmeas
theorem zFM{A B C d x y v a b c:Int}(hd:B*B - 4*A*C=d)(hC1:1≤C)(hC:C≤1000000)(hdis:b*b - 4*a*c=d)(hred:zCP a b c)(ha:1≤a)(hv:A*x*x+B*x*y+C*y*y=v)(hv2:v=a∨v=c):x.natAbs≤2000:=by
 have h1:=z6a hd hv;obtain⟨⟨b1,b2⟩,hr⟩:=hred;have hac:a≤c:=by omega
 have hbb:b*b≤a*a:=by
  have:=qA (x:=b) (y:=b) (A:=a.natAbs) (B:=a.natAbs) (by omega) (by omega);have h2:(b*b).natAbs≤(a*a).natAbs:=by rw[Int.natAbs_mul a a];exact this
  have h3:=zHC a;have h4:=zHC b;omega
 have haa:a*a≤a*c:=zp hac (by omega);have hD:3*(a*c)≤-d:=by
  have:4*a*c=4*(a*c):=by rw[qa]
  omega
 have hxx:=zHC x;have h5:3*(a*c)*(x*x)≤(-d)*(x*x):=Int.mul_le_mul_of_nonneg_right hD hxx;have h6:4*C*v≤4000000*v:=Int.mul_le_mul_of_nonneg_right (by omega) (by omega);have h7:3*(a*c)*(x*x)≤4000000*v:=by omega
 -- divide by v
 have h8:3*(x*x)≤4000000:=by
  rcases Int.lt_or_le 4000000 (3*(x*x)) with h|h
  ·exfalso
   rcases hv2 with rfl|rfl
   ·have h9:v*(3*(x*x))≤v*(3*(c*(x*x))):=zp (by
     have:1*(x*x)≤c*(x*x):=Int.mul_le_mul_of_nonneg_right (by omega) hxx;omega) (by omega)
    have h10:v*(3*(c*(x*x)))=3*(v*c)*(x*x):=by grind
    have h11:v*4000001≤v*(3*(x*x)):=zp (by omega) (by omega);omega
   ·have h9:v*(3*(x*x))≤v*(3*(a*(x*x))):=zp (by
     have:1*(x*x)≤a*(x*x):=Int.mul_le_mul_of_nonneg_right (by omega) hxx;omega) (by omega)
    have h10:v*(3*(a*(x*x)))=3*(a*v)*(x*x):=by grind
    have h11:v*4000001≤v*(3*(x*x)):=zp (by omega) (by omega);omega
  ·exact h
 exact zX2 (N:=1333334) (by omega) (by decide)
theorem z1q{a b c:Int}(h:zR (a,b,c)=some true):∃g,RedInv a b c (b*b - 4*a*c) g∧c≤1000000:=by
 have hin:inN a=true∧inN b=true∧inN c=true:=by
  simp only[zR,zEv,za]at h;cases ha:inN a with
  |false=>rw[ha]at h;simp at h
  |true=>
   cases hb:inN b with
   |false=>rw[ha,hb]at h;simp at h
   |true=>
    cases hc:inN c with
    |false=>rw[ha,hb,hc]at h;simp at h
    |true=>exact⟨rfl,rfl,rfl⟩
 obtain⟨ha,hb,hc⟩:=hin;have hd:=z0h ha hb hc;simp only[zR,zEv,ha,hb,hc,Bool.and_self,za,zb,hd,zE]at h;rw[zA7]at ha hb hc;have hneg:b*b - 4*a*c<0:=by
  rcases Int.lt_or_le (b*b - 4*a*c) 0 with h1|h1
  ·exact h1
  ·rw[ze (by omega)]at h;cases h
 have hpos:0<a:=by
  rw[zd hneg]at h;rcases Int.lt_or_le 0 a with h1|h1
  ·exact h1
  ·rw[ze (by omega)]at h;cases h
 have hbb:=zHC b;have hc1:1≤c:=by
  rcases Int.lt_or_le 0 c with h|h
  ·exact h
  ·have:4*a*c≤4*a*0:=zp h (by omega);omega
 refine⟨(Int.gcd a (Int.gcd b c):Int),⟨by omega,by omega,by omega,by omega,hc1,by omega,rfl,hneg,.inr (by omega),fun k=>?_⟩,by omega⟩;constructor
 ·rintro⟨u1,u2,u3⟩;exact Int.dvd_coe_gcd u1 (Int.dvd_coe_gcd u2 u3)
 ·intro hk;have k1:k∣a:=Int.dvd_trans hk (Int.gcd_dvd_left ..);have k2:k∣(Int.gcd b c:Int):=Int.dvd_trans hk (Int.gcd_dvd_right ..);exact⟨k1,Int.dvd_trans k2 (Int.gcd_dvd_left ..),Int.dvd_trans k2 (Int.gcd_dvd_right ..)⟩
theorem z56{a b c g:Int}(hi:RedInv a b c (b*b - 4*a*c) g)(hcM:c≤1000000):∃m1 m2 m3 m4 a2 b2 c2,jE (a,b,c)=some ((a2,b2,c2),(m1,m2,m3,m4))∧qI (a,b,c)=some ((a2,b2,c2),(m1,m2,m3,m4))∧RedInv a2 b2 c2 (b*b - 4*a*c) g∧zCP a2 b2 c2∧MatInv a b c m1 m2 m3 m4 a2 b2 c2∧m1.natAbs≤2000∧m2.natAbs≤2000∧m3.natAbs≤2000∧m4.natAbs≤2000:=by
 obtain⟨m,a2,b2,c2,k1,k2,k3,k4⟩:=z0U hi;obtain⟨m1,m2,m3,m4,a3,b3,c3,q1,q2,q3,q4⟩:=zS5 (B:=b) hi.a1 hi.aM hi.c1 hcM FU a b c _ g 1 0 0 1 rfl hi ⟨by grind,by grind,by grind,by decide⟩ (by have e:((FU:Nat):Int)=1000000000:=rfl;rw[e];have:=hi.aM;split<;>split<;>omega)
 have k1':jE (a,b,c)=some ((a3,b3,c3),(m1,m2,m3,m4)):=by simp only[jE,zFF,za,q1]
 rw[k1]at k1';have e:=zZ k1';obtain⟨e1,rfl⟩:=Prod.mk.inj e;obtain⟨rfl,e2⟩:=Prod.mk.inj e1;obtain⟨rfl,rfl⟩:=Prod.mk.inj e2;have hdS:b*b - 4*c*a=b*b - 4*a*c:=by grind
 have s1:=zFM (A:=a) (B:=b) (C:=c) (x:=m1) (y:=m3) rfl hi.c1 hcM q2.dis q3 q2.a1 q4.e1 (.inl rfl);have s2:=zFM (A:=a) (B:=b) (C:=c) (x:=m2) (y:=m4) rfl hi.c1 hcM q2.dis q3 q2.a1 q4.e3 (.inr rfl);have s3:=zFM (A:=c) (B:=b) (C:=a) (x:=m3) (y:=m1) (v:=a2) hdS hi.a1 hi.aM q2.dis q3 q2.a1 (by have:=q4.e1;grind) (.inl rfl);have s4:=zFM (A:=c) (B:=b) (C:=a) (x:=m4) (y:=m2) (v:=c2) hdS hi.a1 hi.aM q2.dis q3 q2.a1 (by have:=q4.e3;grind) (.inr rfl);exact⟨m1,m2,m3,m4,a2,b2,c2,k1,k2,q2,q3,q4,s1,s2,s3,s4⟩
theorem zUW{f:Int×Int×Int}(h:zR f=some true):∃m f2,jE f=some (f2,m)∧qI f=some (f2,m)∧inN m.1=true∧inN m.2.1=true∧inN m.2.2.1=true∧inN m.2.2.2=true∧
  (-10000000≤f2.1∧f2.1≤10000000)∧(-10000000≤f2.2.1∧f2.2.1≤10000000)∧(-10000000≤f2.2.2∧f2.2.2≤10000000)∧zCP f2.1 f2.2.1 f2.2.2∧(∃g,RedInv f2.1 f2.2.1 f2.2.2 (f.2.1*f.2.1 - 4*f.1*f.2.2) g):=by
 obtain⟨a,b,c⟩:=f;obtain⟨g,hi,hcM⟩:=z1q h;obtain⟨m,a2,b2,c2,k1,k2,k3,k4⟩:=z0U hi;obtain⟨m1,m2,m3,m4,a3,b3,c3,q1,q2,q3,q4⟩:=zS5 (B:=b) hi.a1 hi.aM hi.c1 hcM FU a b c _ g 1 0 0 1 rfl hi ⟨by grind,by grind,by grind,by decide⟩ (by have e:((FU:Nat):Int)=1000000000:=rfl;rw[e];have:=hi.aM;split<;>split<;>omega)
 have k1':jE (a,b,c)=some ((a3,b3,c3),(m1,m2,m3,m4)):=by simp only[jE,zFF,za,q1]
 rw[k1]at k1';have e:=zZ k1';obtain⟨e1,rfl⟩:=Prod.mk.inj e;obtain⟨rfl,e2⟩:=Prod.mk.inj e1;obtain⟨rfl,rfl⟩:=Prod.mk.inj e2;have hdS:b*b - 4*c*a=b*b - 4*a*c:=by grind
 have s1:=zFM (A:=a) (B:=b) (C:=c) (x:=m1) (y:=m3) rfl hi.c1 hcM q2.dis q3 q2.a1 q4.e1 (.inl rfl);have s2:=zFM (A:=a) (B:=b) (C:=c) (x:=m2) (y:=m4) rfl hi.c1 hcM q2.dis q3 q2.a1 q4.e3 (.inr rfl);have s3:=zFM (A:=c) (B:=b) (C:=a) (x:=m3) (y:=m1) (v:=a2) hdS hi.a1 hi.aM q2.dis q3 q2.a1 (by have:=q4.e1;grind) (.inl rfl);have s4:=zFM (A:=c) (B:=b) (C:=a) (x:=m4) (y:=m2) (v:=c2) hdS hi.a1 hi.aM q2.dis q3 q2.a1 (by have:=q4.e3;grind) (.inr rfl);have r1:=q2.a1;have r2:=q2.aM;have r3:=q2.b1;have r4:=q2.b2;have r5:=q2.c1;have r6:=q2.cM;refine⟨_,_,k1,k2,zA7.2 (by show -1000000≤m1∧m1≤1000000;omega),zA7.2 (by show -1000000≤m2∧m2≤1000000;omega),zA7.2 (by show -1000000≤m3∧m3≤1000000;omega),zA7.2 (by show -1000000≤m4∧m4≤1000000;omega),by show -10000000≤a2∧a2≤10000000;omega,by show -10000000≤b2∧b2≤10000000;omega,by show -10000000≤c2∧c2≤10000000;omega,q3,g,q2⟩
def bv(x:Int):BitVec 64:=BitVec.ofInt 64 x
theorem z1S(x:Int):w64 x=(bv x).toInt:=by rw[zMS,bv,BitVec.toInt_ofInt,IntKind.wrap_i64,Int.bmod_def];omega
theorem zQ4(x:Int):bv (w64 x)=bv x:=by rw[z1S];unfold bv;rw[BitVec.ofInt_toInt]
theorem zHB{x y:Int}(h:bv x=bv y):w64 x=w64 y:=by rw[z1S,z1S,h]
theorem zUq(x y:Int):bv (x+y)=bv x+bv y:=BitVec.ofInt_add x y
theorem zZU(x y:Int):bv (x*y)=bv x*bv y:=BitVec.ofInt_mul x y
theorem zZT(x y:Int):bv (x - y)=bv x - bv y:=by rw[Int.sub_eq_add_neg,zUq];unfold bv;rw[BitVec.ofInt_neg,BitVec.sub_eq_add_neg]
theorem wml(x y:Int):w64 (w64 x*y)=w64 (x*y):=zHB (by rw[zZU,zZU,zQ4])
theorem wmr(x y:Int):w64 (x*w64 y)=w64 (x*y):=zHB (by rw[zZU,zZU,zQ4])
theorem wal(x y:Int):w64 (w64 x+y)=w64 (x+y):=zHB (by rw[zUq,zUq,zQ4])
theorem war(x y:Int):w64 (x+w64 y)=w64 (x+y):=zHB (by rw[zUq,zUq,zQ4])
theorem wsl(x y:Int):w64 (w64 x - y)=w64 (x - y):=zHB (by rw[zZT,zZT,zQ4])
theorem wsr(x y:Int):w64 (x - w64 y)=w64 (x - y):=zHB (by rw[zZT,zZT,zQ4])
theorem at_w(a b c x y:Int):zAi (a,b,c) x y=some (w64 (a*x*x+b*x*y+c*y*y)):=by simp only[zAi,zI,wml,wmr,wal,war,wsl,wsr]
theorem z3R(a b c x y u v:Int):zBE (a,b,c) x y u v=some (w64 (2*a*x*u+b*(x*v+y*u)+2*c*y*v)):=by simp only[zBE,zI,wml,wmr,wal,war,wsl,wsr]
theorem sub_w(a b c p q r s:Int):qF (a,b,c) (p,q,r,s)=some (w64 (a*p*p+b*p*r+c*r*r),w64 (2*a*p*q+b*(p*s+r*q)+2*c*r*s),w64 (a*q*q+b*q*s+c*s*s)):=by simp only[qF,at_w,z3R,za]
theorem zXd(p q r s p' q' r' s':Int):qC (p,q,r,s) (p',q',r',s')=some (w64 (p*p'+q*r'),w64 (p*q'+q*s'),w64 (r*p'+s*r'),w64 (r*q'+s*s')):=by simp only[qC,zI,wml,wmr,wal,war,wsl,wsr]
theorem zZD(a b c:Int):zL (a,b,c)=some (w64 (b*b - 4*a*c)):=by simp only[zL,zI,wml,wmr,wal,war,wsl,wsr]
end Go.Proofs.YtahdjphocippeaaGreatDoor
namespace Go.Proofs.YtahdjphocippeaaGreatDoor
def ptG(a A B C x y:Nat):Bool:=Nat.beq (Nat.gcd (Nat.add (Nat.add (Nat.mul A (Nat.mul x x)) (Nat.mul B (Nat.mul x y))) (Nat.mul C (Nat.mul y y))) a) 1
def ptA(a A B C:Nat):Bool:=bif ptG a A B C 0 1 then true else bif ptG a A B C 1 0 then true else bif ptG a A B C 1 1 then true else bif ptG a A B C 1 2 then true else bif ptG a A B C 2 1 then true else bif ptG a A B C 1 3 then true else bif ptG a A B C 2 3 then true else bif ptG a A B C 3 1 then true else ptG a A B C 3 2
def ptC(a A B:Nat):Nat→Bool
 |0=>true
 |k+1=>bif (bif Nat.beq (Nat.gcd (Nat.gcd A B) (Nat.gcd k a)) 1 then ptA a A B k else true) then ptC a A B k else false
def ptB(a A:Nat):Nat→Bool
 |0=>true
 |k+1=>bif ptC a A k a then ptB a A k else false
def ptD(a:Nat):Nat→Bool
 |0=>true
 |k+1=>bif ptB a k a then ptD a k else false
def ptE:Nat→Bool
 |0=>true
 |k+1=>bif ptD (Nat.succ k) (Nat.succ k) then ptE k else false
theorem z9o:ptE 25=true:=by decide+kernel
theorem zSe{a b:Bool}(h:(bif a then b else false)=true):a=true∧b=true:=by cases a<;>simp_all
theorem z3P{a A B:Nat}:∀k,ptC a A B k=true→∀C,C<k→Nat.gcd (Nat.gcd A B) (Nat.gcd C a)=1→ptA a A B C=true
 |0,_,C,hC,_=>by omega
 |k+1,h,C,hC,hg=>by
  obtain⟨h1,h2⟩:=zSe h;by_cases e:C=k
  ·subst e;have:Nat.beq (Nat.gcd (Nat.gcd A B) (Nat.gcd C a)) 1=true:=by rw[Nat.beq_eq];exact hg
   rw[this,zb]at h1;exact h1
  ·exact z3P k h2 C (by omega) hg
theorem z3Q{a A:Nat}:∀k,ptB a A k=true→∀B,B<k→ptC a A B a=true
 |0,_,C,hC=>by omega
 |k+1,h,C,hC=>by
  obtain⟨h1,h2⟩:=zSe h;by_cases e:C=k
  ·subst e;exact h1
  ·exact z3Q k h2 C (by omega)
theorem z3O{a:Nat}:∀k,ptD a k=true→∀A,A<k→ptB a A a=true
 |0,_,C,hC=>by omega
 |k+1,h,C,hC=>by
  obtain⟨h1,h2⟩:=zSe h;by_cases e:C=k
  ·subst e;exact h1
  ·exact z3O k h2 C (by omega)
theorem z3N:∀k,ptE k=true→∀a,a<k→ptD (a+1) (a+1)=true
 |0,_,C,hC=>by omega
 |k+1,h,C,hC=>by
  obtain⟨h1,h2⟩:=zSe h;by_cases e:C=k
  ·subst e;exact h1
  ·exact z3N k h2 C (by omega)
theorem z9m{a A B C:Nat}(h1:1≤a)(h2:a≤25)(hA:A<a)(hB:B<a)(hC:C<a)(hg:Nat.gcd (Nat.gcd A B) (Nat.gcd C a)=1):ptA a A B C=true:=by have e:=z3N 25 z9o (a - 1) (by omega);rw[show a - 1+1=a by omega]at e;exact z3P a (z3Q a (z3O a e A hA) B hB) C hC hg
def ptL:List (Int×Int):=[(0,1),(1,0),(1,1),(1,2),(2,1),(1,3),(2,3),(3,1),(3,2)]
theorem gcd_of'{g x y:Int}(h:∀c:Int,c∣g→(c∣x↔c∣y)):Int.gcd g x=Int.gcd g y:=by
 refine Nat.dvd_antisymm ?_ ?_<;>apply Int.natCast_dvd_natCast.1
 ·exact Int.dvd_coe_gcd (Int.gcd_dvd_left _ _) ((h _ (Int.gcd_dvd_left _ _)).1 (Int.gcd_dvd_right _ _))
 ·exact Int.dvd_coe_gcd (Int.gcd_dvd_left _ _) ((h _ (Int.gcd_dvd_left _ _)).2 (Int.gcd_dvd_right _ _))
theorem z8Y{v a:Int}{n:Nat}(ha:1≤a)(hn:a∣v - (n:Int)):Int.gcd v a=Nat.gcd n a.toNat:=by
 obtain⟨k,hk⟩:=hn;have e:v=(n:Int)+a*k:=by omega
 rw[e,Int.gcd_comm,gcd_of' (y:=(n:Int)) (fun c hc=>by
  obtain⟨j,hj⟩:=hc;constructor
  ·rintro⟨i,hi⟩;exact⟨i - j*k,by rw[Int.mul_sub,←qa,←hj];omega⟩
  ·rintro⟨i,hi⟩;exact⟨i+j*k,by rw[Int.mul_add,←qa,←hj];omega⟩),Int.gcd_comm]
 unfold Int.gcd;rw[Int.natAbs_natCast];congr 1;omega
theorem zUP{x a:Int}(ha:1≤a):a∣x - ((x % a).toNat:Int)∧(x % a).toNat<a.toNat:=by have h1:=qc x (b:=a) (by omega);have h2:=qd x (b:=a) (by omega);have h3:=Int.emod_add_mul_ediv x a;exact⟨⟨x / a,by omega⟩,by omega⟩
theorem pt_ex{a A B C:Int}(h1:1≤a)(h2:a≤25)(hp:∀k:Int,k∣A→k∣B→k∣C→k∣1):∃p,p∈ptL∧Int.gcd (A*p.1*p.1+B*p.1*p.2+C*p.2*p.2) a=1:=by
 obtain⟨a1,a2⟩:=zUP (x:=A) h1;obtain⟨b1,b2⟩:=zUP (x:=B) h1;obtain⟨c1,c2⟩:=zUP (x:=C) h1;generalize (A % a).toNat=A' at*;generalize (B % a).toNat=B' at*;generalize (C % a).toNat=C' at*;have hg:Nat.gcd (Nat.gcd A' B') (Nat.gcd C' a.toNat)=1:=by
  generalize hG:Nat.gcd (Nat.gcd A' B') (Nat.gcd C' a.toNat)=G;have g1:G∣A':=hG▸Nat.dvd_trans (Nat.gcd_dvd_left _ _) (Nat.gcd_dvd_left _ _);have g2:G∣B':=hG▸Nat.dvd_trans (Nat.gcd_dvd_left _ _) (Nat.gcd_dvd_right _ _);have g3:G∣C':=hG▸Nat.dvd_trans (Nat.gcd_dvd_right _ _) (Nat.gcd_dvd_left _ _);have g4:G∣a.toNat:=hG▸Nat.dvd_trans (Nat.gcd_dvd_right _ _) (Nat.gcd_dvd_right _ _);have g5:(G:Int)∣a:=by
   have:((a.toNat:Nat):Int)=a:=by omega
   rw[←this];exact Int.natCast_dvd_natCast.2 g4
  have up:∀{X:Int}{X':Nat},a∣X - (X':Int)→G∣X'→(G:Int)∣X:=by intro X X' u1 u2;obtain⟨i,hi⟩:=Int.dvd_trans g5 u1;obtain⟨j,hj⟩:=Int.natCast_dvd_natCast.2 u2;exact⟨i+j,by rw[Int.mul_add];omega⟩
  have h:=hp G (up a1 g1) (up b1 g2) (up c1 g3);have:=Int.natCast_dvd_natCast.1 (show (G:Int)∣((1:Nat):Int) from h);exact Nat.dvd_one.1 this
 have k:=z9m (by omega) (by omega) a2 b2 c2 hg;have fin:∀x y:Nat,((x:Int),(y:Int))∈ptL→ptG a.toNat A' B' C' x y=true→∃p,p∈ptL∧Int.gcd (A*p.1*p.1+B*p.1*p.2+C*p.2*p.2) a=1:=by
  intro x y hm hG;refine⟨_,hm,?_⟩;have e:=Nat.eq_of_beq_eq_true hG;rw[←e];refine z8Y h1 ?_
  obtain⟨i,hi⟩:=a1;obtain⟨j,hj⟩:=b1;obtain⟨l,hl⟩:=c1;refine⟨i*(x*x)+j*(x*y)+l*(y*y),?_⟩;have eA:A=a*i+A':=by omega
  have eB:B=a*j+B':=by omega
  have eC:C=a*l+C':=by omega
  have e3:((((A'.mul (x.mul x)).add (B'.mul (x.mul y))).add (C'.mul (y.mul y)):Nat):Int)=A'*(x*x)+B'*(x*y)+C'*(y*y):=by simp only[Nat.add_eq,Nat.mul_eq,Int.natCast_add,Int.natCast_mul]
  rw[e3,eA,eB,eC];simp only[];grind
 unfold ptA at k;by_cases e1:ptG a.toNat A' B' C' 0 1=true;· exact fin 0 1 (by decide) e1
 by_cases e2:ptG a.toNat A' B' C' 1 0=true;· exact fin 1 0 (by decide) e2
 by_cases e3:ptG a.toNat A' B' C' 1 1=true;· exact fin 1 1 (by decide) e3
 by_cases e4:ptG a.toNat A' B' C' 1 2=true;· exact fin 1 2 (by decide) e4
 by_cases e5:ptG a.toNat A' B' C' 2 1=true;· exact fin 2 1 (by decide) e5
 by_cases e6:ptG a.toNat A' B' C' 1 3=true;· exact fin 1 3 (by decide) e6
 by_cases e7:ptG a.toNat A' B' C' 2 3=true;· exact fin 2 3 (by decide) e7
 by_cases e8:ptG a.toNat A' B' C' 3 1=true;· exact fin 3 1 (by decide) e8
 rw[Bool.not_eq_true]at e1 e2 e3 e4 e5 e6 e7 e8;rw[e1,e2,e3,e4,e5,e6,e7,e8]at k;simp only[zc]at k;exact fin 3 2 (by decide) k
end Go.Proofs.YtahdjphocippeaaGreatDoor
namespace Go.Proofs.YtahdjphocippeaaGreatDoor
structure Rb (A B C:Int):Prop where
  a1:1≤A
  a2:A≤26
  b1:-26≤B
  b2:B≤26
  c1:1≤C
  c2:C≤1000
def Vl(A B C x y:Int):Int:=A*x*x+B*x*y+C*y*y
def Gd(a A B C s x y:Int):Prop:=mxI x y=s∧Int.gcd x y=1∧Int.gcd (Vl A B C x y) a=1
theorem z9t(x y:Int):mxI x y=max x y:=by
 unfold mxI;rw[zE];by_cases h:x<y
 ·rw[zd h,zb];omega
 ·rw[ze h,zc];omega
theorem z8K(x y:Int):zD1 x y=some (mxI x y):=by
 unfold zD1 mxI;rw[zE,zE];by_cases h:x<y
 ·rw[zd h,ze (show ¬y<x by omega)];rfl
 ·rw[ze h];by_cases h2:y<x
  ·rw[zd h2];rfl
  ·rw[ze h2,show x=y by omega];rfl
theorem z9P{A B C x y:Int}(h:Rb A B C)(hx:0≤x)(hx2:x≤3)(hy:0≤y)(hy2:y≤3):(Vl A B C x y).natAbs≤10000:=by obtain⟨a1,a2,b1,b2,c1,c2⟩:=h;have m1:(A*x*x).natAbs≤26*3*3:=qA (qA (by omega) (by omega)) (by omega);have m2:(B*x*y).natAbs≤26*3*3:=qA (qA (by omega) (by omega)) (by omega);have m3:(C*y*y).natAbs≤1000*3*3:=qA (qA (by omega) (by omega)) (by omega);unfold Vl;omega
theorem fp11{a A B C s x:Int}(h:Rb A B C)(ha:1≤a)(ha2:a≤100)(hx:0≤x)(hxs:x≤s)(hs:s≤3):∀(n:Nat)(y:Int),0≤y→y≤s+1→(s+1 - y).toNat<n→
  ∃r,zBr a (A,B,C) s x n y=some r∧zCw a (A,B,C) s x n y=some r∧(r=.inl ()→∀y',y≤y'→y'≤s→¬Gd a A B C s x y')∧(∀p,r=.inr p→p.1=x∧0≤p.2∧p.2≤s∧Gd a A B C s x p.2)
 |0,y,h0,h1,hn=>by omega
 |n+1,y,h0,h1,hn=>by
  rw[zBr,zCw,qP];by_cases hy:y≤s
  ·rw[zd hy,zb,zb];have hb:=z9P (x:=x) (y:=y) h hx (by omega) h0 (by omega);have hv:w64 (A*x*x+B*x*y+C*y*y)=Vl A B C x y:=qB (by unfold Vl at hb;omega);have e1:zBK (A,B,C) x y=some (Vl A B C x y):=by rw[zXR,at_w,hv]
   rw[at_w,hv,e1,z8K];simp only[za];rw[zS8 (a:=x) (b:=y) (by omega) (by omega),zJj (a:=x) (b:=y) (by omega) (by omega),zS8 (b:=a) (by omega) (by omega),zJj (b:=a) (by omega) (by omega)];simp only[za];by_cases hG:Gd a A B C s x y
   ·obtain⟨g1,g2,g3⟩:=hG;rw[g1,g2,g3,zBj];simp only[zb,Int.natCast_one,zBj,za];refine⟨_,rfl,rfl,fun e=>(by cases e),fun p e=>?_⟩;cases e;exact⟨rfl,h0,hy,g1,g2,g3⟩
   ·have hc:∀{α:Type}(u v:Option α),((bif eqI (mxI x y) s then some (eqI ((Int.gcd x y:Nat):Int) 1) else some false).bind fun b16=>(bif b16 then some (eqI ((Int.gcd (Vl A B C x y) a:Nat):Int) 1) else some false).bind fun b20=>bif b20 then u else v)=v:=by
     intro α u v;by_cases g1:mxI x y=s
     ·rw[g1,zBj,zb,za];by_cases g2:Int.gcd x y=1
      ·rw[g2,show ((1:Nat):Int)=1 from rfl,zBj,zb,za];have g3:¬Int.gcd (Vl A B C x y) a=1:=fun g3=>hG ⟨g1,g2,g3⟩;rw[zE8 (show ((Int.gcd (Vl A B C x y) a:Nat):Int)≠1 by omega),zc]
      ·rw[zE8 (show ((Int.gcd x y:Nat):Int)≠1 by omega),zc,za,zc]
     ·rw[zE8 g1,zc,za,zc,za,zc]
    rw[hc,hc];simp only[zI];rw[zA (n:=y+1) (by omega)];obtain⟨r,k1,k2,k3,k4⟩:=fp11 h ha ha2 hx hxs hs n (y+1) (by omega) (by omega) (by omega);refine⟨r,k1,k2,fun e y' u1 u2=>?_,k4⟩;by_cases e2:y'=y
    ·rw[e2];exact hG
    ·exact k3 e y' (by omega) u2
  ·rw[ze hy,zc,zc];refine⟨_,rfl,rfl,fun _ y' u1 u2=>by omega,fun p e=>by cases e⟩
theorem fp7{a A B C s:Int}(h:Rb A B C)(ha:1≤a)(ha2:a≤100)(hs0:0≤s)(hs:s≤3):∀(n:Nat)(x:Int),0≤x→x≤s+1→(s+1 - x).toNat<n→
  ∃r,zCM a (A,B,C) s n x=some r∧zDQ a (A,B,C) s n x=some r∧(r=.inl ()→∀x' y',x≤x'→x'≤s→0≤y'→y'≤s→¬Gd a A B C s x' y')∧(∀p,r=.inr p→0≤p.1∧p.1≤s∧0≤p.2∧p.2≤s∧Gd a A B C s p.1 p.2)
 |0,x,h0,h1,hn=>by omega
 |n+1,x,h0,h1,hn=>by
  have hF:=FUge;rw[zCM,zDQ,qP];by_cases hx:x≤s
  ·rw[zd hx,zb,zb];obtain⟨r,k1,k2,k3,k4⟩:=fp11 h ha ha2 h0 hx hs FU 0 (by omega) (by omega) (by omega);rw[k1,k2];simp only[za];cases r with
   |inr p=>obtain⟨q1,q2,q3,q4⟩:=k4 p rfl;refine⟨_,rfl,rfl,fun e=>(by cases e),fun p' e=>?_⟩;cases e;rw[q1];exact⟨h0,hx,q2,q3,q4⟩
   |inl u=>
    simp only[zI];rw[zA (n:=x+1) (by omega)];obtain⟨r,j1,j2,j3,j4⟩:=fp7 h ha ha2 hs0 hs n (x+1) (by omega) (by omega) (by omega);refine⟨r,j1,j2,fun e x' y' u1 u2 u3 u4=>?_,j4⟩;by_cases e2:x'=x
    ·rw[e2];exact k3 rfl y' u3 u4
    ·exact j3 e x' y' (by omega) u2 u3 u4
  ·rw[ze hx,zc,zc];refine⟨_,rfl,rfl,fun _ x' y' u1 u2=>by omega,fun p e=>by cases e⟩
theorem fp4{a A B C:Int}(h:Rb A B C)(ha:1≤a)(ha2:a≤100){t x0 y0:Int}(ht:t≤3)(hG:Gd a A B C t x0 y0)(hx0:0≤x0)(hx1:x0≤t)(hy0:0≤y0)(hy1:y0≤t):∀(m n n':Nat)(s:Int),0≤s→s≤t→(t - s).toNat≤m→m<n→m<n'→
  ∃p,zAh a (A,B,C) n s=some (.inr p)∧zDR a (A,B,C) n' s=some (.inr p)∧∃s',s'≤3∧0≤p.1∧p.1≤s'∧0≤p.2∧p.2≤s'∧Gd a A B C s' p.1 p.2
 |m,0,n',s,h0,h1,hm,hn,hn'=>by omega
 |m,n+1,0,s,h0,h1,hm,hn,hn'=>by omega
 |m,n+1,n'+1,s,h0,h1,hm,hn,hn'=>by
  have hF:=FUge;rw[zAh,zDR,qP,zd (show s≤100 by omega),zb];obtain⟨r,k1,k2,k3,k4⟩:=fp7 h ha ha2 h0 (by omega) FU 0 (by omega) (by omega) (by omega);rw[k1,k2];simp only[za];cases r with
  |inr p=>obtain⟨q1,q2,q3,q4,q5⟩:=k4 p rfl;exact⟨p,rfl,rfl,s,by omega,q1,q2,q3,q4,q5⟩
  |inl u=>
   have hne:s≠t:=by intro e;rw[e]at k3;exact k3 rfl x0 y0 hx0 hx1 hy0 hy1 hG
   obtain⟨m',rfl⟩:∃m',m=m'+1:=⟨m - 1,by omega⟩
   simp only[zI];rw[zA (n:=s+1) (by omega)];exact fp4 h ha ha2 ht hG hx0 hx1 hy0 hy1 m' n n' (s+1) (by omega) (by omega) (by omega) (by omega) (by omega)
theorem z9n{x y s:Int}(hs:s≤3)(h1:0≤x)(h2:x≤s)(h3:0≤y)(h4:y≤s)(hg:Int.gcd x y=1):(x,y)∈ptL:=by
 have e1:x=0∨x=1∨x=2∨x=3:=by omega
 have e2:y=0∨y=1∨y=2∨y=3:=by omega
 rcases e1 with rfl|rfl|rfl|rfl<;>rcases e2 with rfl|rfl|rfl|rfl<;>first|decide|(exfalso;revert hg;decide)
theorem z1u{a A B C:Int}(h:Rb A B C)(ha:1≤a)(ha2:a≤25)(hp:∀k:Int,k∣A→k∣B→k∣C→k∣1):∃p,zCX (A,B,C) a=some p∧zCx (A,B,C) a=some p∧p∈ptL∧Int.gcd (Vl A B C p.1 p.2) a=1:=by
 have hF:=FUge;obtain⟨⟨x,y⟩,hm,hg⟩:=pt_ex ha ha2 hp;have hr:0≤x∧x≤3∧0≤y∧y≤3∧Int.gcd x y=1∧1≤max x y:=by simp only[ptL,zl,Prod.mk.injEq,zq,or_false]at hm;rcases hm with⟨rfl,rfl⟩|⟨rfl,rfl⟩|⟨rfl,rfl⟩|⟨rfl,rfl⟩|⟨rfl,rfl⟩|⟨rfl,rfl⟩|⟨rfl,rfl⟩|⟨rfl,rfl⟩|⟨rfl,rfl⟩<;>decide
 obtain⟨r1,r2,r3,r4,r5,r6⟩:=hr;have hG:Gd a A B C (max x y) x y:=⟨z9t x y,r5,hg⟩
 obtain⟨p,k1,k2,s',u1,u2,u3,u4,u5,u6⟩:=fp4 h ha (by omega) (show max x y≤3 by omega) hG r1 (by omega) r3 (by omega) 3 (FU - 1) FU 1 (by omega) (by omega) (by omega) (by omega) (by omega);have z:zAh a (A,B,C) FU 0=some (.inr p):=by
  obtain⟨r,j1,j2,j3,j4⟩:=fp7 h ha (by omega) (s:=0) (by omega) (by omega) FU 0 (by omega) (by omega) (by omega);rw[show FU=(FU - 1)+1 from rfl,zAh,j1,za];cases r with
  |inr q=>
   obtain⟨w1,w2,w3,w4,w5,w6,w7⟩:=j4 q rfl;have e1:q.1=0:=by omega
   have e2:q.2=0:=by omega
   rw[e1,e2]at w6;exact absurd w6 (by decide)
  |inl u=>simp only[zI];rw[show w64 (0+1)=1 from rfl];exact k1
 refine⟨p,?_,?_,z9n u1 u2 u3 u4 u5 u6.2.1,u6.2.2⟩
 ·simp only[zCX,z,za]
 ·simp only[zCx,k2,za]
end Go.Proofs.YtahdjphocippeaaGreatDoor
namespace Go.Proofs.YtahdjphocippeaaGreatDoor
theorem qAs{b x d y k:Int}(hk:0≤k)(hy:1≤y)(M:Int)(h:(x.natAbs:Int)*d+(b.natAbs:Int)*y≤M):((b - k*x).natAbs:Int)*y+(x.natAbs:Int)*(d - k*y)≤M∧((x.natAbs:Int)*(d - k*y)≥0→((b - k*x).natAbs:Int)≤M):=by
 have h1:((b - k*x).natAbs:Int)≤(b.natAbs:Int)+k*(x.natAbs:Int):=by
  have h2:(b - k*x).natAbs≤b.natAbs+(k*x).natAbs:=Int.natAbs_sub_le b (k*x);have h3:(((k*x).natAbs:Nat):Int)=k*(x.natAbs:Int):=by rw[Int.natAbs_mul,Int.natCast_mul,Int.natAbs_of_nonneg hk]
  omega
 have h4:((b - k*x).natAbs:Int)*y≤((b.natAbs:Int)+k*(x.natAbs:Int))*y:=Int.mul_le_mul_of_nonneg_right h1 (by omega);have e:((b.natAbs:Int)+k*(x.natAbs:Int))*y+(x.natAbs:Int)*(d - k*y)=(x.natAbs:Int)*d+(b.natAbs:Int)*y:=by grind
 have h5:((b - k*x).natAbs:Int)*1≤((b - k*x).natAbs:Int)*y:=zp hy (by omega);constructor
 ·omega
 ·intro h6;omega
theorem z9h{d y:Int}(hd:0≤d)(hy:1≤y):0≤Int.tdiv d y∧Int.tdiv d y≤d∧0≤d - Int.tdiv d y*y∧d - Int.tdiv d y*y<y:=by
 have h1:=Int.tmod_add_mul_tdiv d y;have h2:0≤d.tmod y∧d.tmod y<y:=⟨Int.tmod_nonneg _ hd,Int.tmod_lt_of_pos _ (by omega)⟩
 have h3:=Int.tdiv_nonneg hd (show 0≤y by omega);have e:Int.tdiv d y*y=y*Int.tdiv d y:=Int.mul_comm _ _;have h4:Int.tdiv d y*1≤Int.tdiv d y*y:=zp hy h3;refine⟨h3,by omega,by omega,by omega⟩
theorem bigk{k x:Int}{K M:Nat}(h1:k.natAbs≤K)(h2:x.natAbs≤M)(hKM:K*M≤9000000000000):w64 (k*x)=k*x∧(k*x).natAbs≤K*M:=by have:=qA h1 h2;exact⟨qB (by omega),this⟩
theorem tz{z g:Int}(hg:g≠0):eqI (Int.tmod z g) 0=decide (g∣z):=by rw[jN,Bool.eq_iff_iff,beq_iff_eq,decide_eq_true_iff];exact⟨Int.dvd_of_tmod_eq_zero,Int.tmod_eq_zero_of_dvd⟩
theorem tdv{a b c:Int}(hb:b≠0)(h:b*c=a):Int.tdiv a b=c:=by rw[←h,Int.mul_tdiv_cancel_left _ hb]
theorem z3Z{n m:Int}:∀(k fu:Nat)(r nx x y:Int),0≤nx→nx≤k→k<fu→1≤r→r≤100000→nx≤100000→(y.natAbs:Int)*r+(x.natAbs:Int)*nx≤100000→x.natAbs≤100000→y.natAbs≤100000→n∣r - x*m→n∣nx - y*m→(∀c:Int,c∣r→c∣nx→c∣1)→
  ∃z,zC7 n fu r nx x y=some (1,z)∧n∣1 - z*m∧z.natAbs≤100000
 |k,0,r,nx,x,y,_,_,hf,_,_,_,_,_,_,_,_,_=>by omega
 |k,fu+1,r,nx,x,y,h0,hk,hf,hr,hr2,hn2,hS,hx,hy,d1,d2,hc=>by
  rw[zC7];by_cases hz:nx=0
  ·subst hz;have h1:r=1:=Int.eq_one_of_dvd_one (by omega) (hc r ⟨1,by omega⟩ ⟨0,by omega⟩);subst h1;rw[zUO,zh,zc];exact⟨x,rfl,d1,hx⟩
  ·have hn1:1≤nx:=by omega
   obtain⟨k',rfl⟩:∃k',k=k'+1:=⟨k - 1,by omega⟩
   obtain⟨q0,q1,q2,q3⟩:=z9h (d:=r) (y:=nx) (by omega) hn1;obtain⟨s1,s2⟩:=qAs (b:=x) (x:=y) (d:=r) (y:=nx) (k:=Int.tdiv r nx) q0 hn1 100000 hS;have s4:=s2 (Int.mul_nonneg (by omega) q2);generalize hq:Int.tdiv r nx=q at*;obtain⟨w1,w2⟩:=bigk (k:=q) (x:=nx) (K:=100000) (M:=100000) (by omega) (by omega) (by decide);obtain⟨w3,w4⟩:=bigk (k:=q) (x:=y) (K:=100000) (M:=100000) (by omega) hy (by decide);have hne:(!eqI nx 0)=true:=by rw[eqNe hz];rfl
   rw[hne,zb];simp only[nzOk hz,za,zI,hq];rw[zA (n:=q) (by omega),w1,w3,zA (n:=r - q*nx) (by omega),zA (n:=x - q*y) (by omega)];refine z3Z k' fu nx (r - q*nx) y (x - q*y) q2 (by omega) (by omega) hn1 hn2 (by omega) (by omega) hy (by omega) d2 ?_ fun c c1 c2=>hc c ?_ c1
   ·obtain⟨u,hu⟩:=d1;obtain⟨v,hv⟩:=d2;exact⟨u - q*v,by grind⟩
   ·obtain⟨u,hu⟩:=c1;obtain⟨v,hv⟩:=c2;exact⟨v+q*u,by grind⟩
theorem z8W{n m:Int}(hn:1≤n)(hn2:n≤100000)(hm:m.natAbs≤100000)(hc:∀c:Int,c∣n→c∣m→c∣1):∃v,zCm m n=some v∧n∣1 - v*m∧0≤v∧v<n:=by
 have hF:=FUge;have m1:=qc m (b:=n) (by omega);have m2:=qd m (b:=n) (by omega);have em:=Int.emod_add_mul_ediv m n;obtain⟨z,e1,e2,e3⟩:=z3Z (n:=n) (m:=m) 100000 FU n (m % n) 0 1 m1 (by omega) (by omega) hn hn2 (by omega) (by simp;omega) (by decide) (by decide) ⟨1,by omega⟩ ⟨-(m / n),by grind⟩ fun c c1 c2=>hc c c1 (by obtain⟨u,hu⟩:=c1;obtain⟨v,hv⟩:=c2;exact⟨v+u*(m / n),by grind⟩)
 have z1:=qc z (b:=n) (by omega);have z2:=qd z (b:=n) (by omega);have ez:=Int.emod_add_mul_ediv z n;refine⟨z % n,?_,?_,z1,z2⟩
 ·simp only[zCm,zHn,zB8 hn (show n≤9223372036854775807 by omega),za,e1,zUO,zh,zc]
 ·obtain⟨u,hu⟩:=e2;exact⟨u+(z / n)*m,by grind⟩
end Go.Proofs.YtahdjphocippeaaGreatDoor
namespace Go.Proofs.YtahdjphocippeaaGreatDoor
theorem inv9{x y:Int}(h:(x,y)∈ptL):∃q s:Int,(bif eqI y 0 then some (0,x) else (zET y).bind fun y6=>(zER x y6).bind fun y7=>(nz y).bind fun z8=>sI (w64 (Int.tdiv (w64 ((w64 (x*y7)) - 1)) y)) fun f9=>some (f9,y7))=some (q,s)∧zDv x y=some (1,s,-q)∧x*s - q*y=1∧q.natAbs≤3∧s.natAbs≤3∧0≤x∧x≤3∧0≤y∧y≤3:=by
 simp only[ptL,zl,Prod.mk.injEq,zq,or_false]at h;rcases h with⟨rfl,rfl⟩|⟨rfl,rfl⟩|⟨rfl,rfl⟩|⟨rfl,rfl⟩|⟨rfl,rfl⟩|⟨rfl,rfl⟩|⟨rfl,rfl⟩|⟨rfl,rfl⟩|⟨rfl,rfl⟩
 ·exact⟨-1,0,by decide+kernel,by decide+kernel,by decide⟩
 ·exact⟨0,1,by decide+kernel,by decide+kernel,by decide⟩
 ·exact⟨-1,0,by decide+kernel,by decide+kernel,by decide⟩
 ·exact⟨0,1,by decide+kernel,by decide+kernel,by decide⟩
 ·exact⟨-1,0,by decide+kernel,by decide+kernel,by decide⟩
 ·exact⟨0,1,by decide+kernel,by decide+kernel,by decide⟩
 ·exact⟨1,2,by decide+kernel,by decide+kernel,by decide⟩
 ·exact⟨-1,0,by decide+kernel,by decide+kernel,by decide⟩
 ·exact⟨1,1,by decide+kernel,by decide+kernel,by decide⟩
structure Cmp (A B C D x y v q0 s0 B0 Q Bh C1:Int):Prop where
  hv:A*x*x+B*x*y+C*y*y=v
  v1:1≤v
  v2:v≤10000
  hB0:2*A*x*q0+B*(x*s0+y*q0)+2*C*y*s0=B0
  b0:B0.natAbs≤20000
  hQ:B0 / (2*v)=Q
  q:Q.natAbs≤20001
  m6:(-Q*x).natAbs≤60003
  m7:(-Q*y).natAbs≤60003
  hBh:B0 % (2*v)=Bh
  e1:B0+2*v*-Q=Bh
  t1:0≤Bh
  t2:Bh<2*v
  e2:2*A*x*(q0+-Q*x)+B*(x*(s0+-Q*y)+y*(q0+-Q*x))+2*C*y*(s0+-Q*y)=Bh
  hC1:A*(q0+-Q*x)*(q0+-Q*x)+B*(q0+-Q*x)*(s0+-Q*y)+C*(s0+-Q*y)*(s0+-Q*y)=C1
  em:MatInv A B C x (q0+-Q*x) y (s0+-Q*y) v Bh C1
  dis:Bh*Bh - 4*v*C1=D
  bb:Bh*Bh≤400000000
  c1:C1.natAbs≤20000
theorem qBD(A B C x y q0 s0 Q:Int):2*A*x*(q0+-Q*x)+B*(x*(s0+-Q*y)+y*(q0+-Q*x))+2*C*y*(s0+-Q*y)=(2*A*x*q0+B*(x*s0+y*q0)+2*C*y*s0)+2*(A*x*x+B*x*y+C*y*y)*-Q:=by grind
theorem qBE(x s0 Q y q0:Int):x*(s0+-Q*y) - (q0+-Q*x)*y=x*s0 - q0*y:=by grind
theorem qBC(v:Int):4*v*(v+2001)=2*v*(2*v)+8004*v:=by grind
theorem zSd{A B C p q r s a b c:Int}(h:MatInv A B C p q r s a b c):b*b - 4*a*c=B*B - 4*A*C:=by
 obtain⟨f1,f2,f3,f4⟩:=h;have:b*b - 4*a*c=(B*B - 4*A*C)*((p*s - q*r)*(p*s - q*r)):=by rw[←f1,←f2,←f3];grind
 rw[this,f4];omega
theorem cmp_b{A B C x y q0 s0:Int}(h:Rb A B C)(i4:q0.natAbs≤3)(i5:s0.natAbs≤3)(i6:0≤x)(i7:x≤3)(i8:0≤y)(i9:y≤3):(2*A*x*q0+B*(x*s0+y*q0)+2*C*y*s0).natAbs≤20000:=by obtain⟨a1,a2,b1,b2,c1,c2⟩:=h;have m1:(2*A*x*q0).natAbs≤2*26*3*3:=qA (qA (qA (by omega) (by omega)) (by omega)) (by omega);have m2:(x*s0).natAbs≤3*3:=qA (by omega) (by omega);have m3:(y*q0).natAbs≤3*3:=qA (by omega) (by omega);have m4:(B*(x*s0+y*q0)).natAbs≤26*18:=qA (by omega) (by omega);have m5:(2*C*y*s0).natAbs≤2*1000*3*3:=qA (qA (qA (by omega) (by omega)) (by omega)) (by omega);omega
theorem cmp_q{v B0:Int}(v1:1≤v)(hB:B0.natAbs≤20000):(B0 / (2*v)).natAbs≤20001∧B0+2*v*-(B0 / (2*v))=B0 % (2*v)∧0≤B0 % (2*v)∧B0 % (2*v)<2*v:=by
 have t1:=qc B0 (b:=2*v) (by omega);have t2:=qd B0 (b:=2*v) (by omega);have t3:=Int.emod_add_mul_ediv B0 (2*v);generalize hQ:B0 / (2*v)=Q at*;refine⟨?_,by rw[Int.mul_neg];omega,t1,t2⟩;rcases Int.lt_or_le 20001 Q with h|h
 ·have:2*v*20002≤2*v*Q:=zp (by omega) (by omega);omega
 ·rcases Int.lt_or_le Q (-20001) with h'|h'
  ·have:2*v*Q≤2*v*(-20002):=zp (by omega) (by omega);omega
  ·omega
theorem cmp_c{v Bh C1 D:Int}(v1:1≤v)(v2:v≤10000)(hD1:-2000≤D)(hD2:D≤0)(t1:0≤Bh)(t2:Bh<2*v)(hdis:Bh*Bh - 4*v*C1=D):Bh*Bh≤400000000∧C1.natAbs≤20000:=by
 have hBB:Bh*Bh≤2*v*(2*v):=Int.mul_le_mul (by omega) (by omega) t1 (by omega);have hBB0:0≤Bh*Bh:=Int.mul_nonneg t1 t1;have hBB4:2*v*(2*v)≤20000*20000:=Int.mul_le_mul (by omega) (by omega) (by omega) (by omega);have hCu:C1≤v+2000:=by
  rcases Int.lt_or_le (v+2000) C1 with h|h
  ·have k1:4*v*(v+2001)≤4*v*C1:=zp (by omega) (by omega);have k2:=qBC v;omega
  ·exact h
 have hCl:-2000≤C1:=by
  rcases Int.lt_or_le C1 (-2000) with h|h
  ·have k1:4*v*C1≤4*v*(-2001):=zp (by omega) (by omega);omega
  ·exact h
 omega
theorem z8f{A B C x y v q0 s0 Q Bh:Int}(hv:A*x*x+B*x*y+C*y*y=v)(i3:x*s0 - q0*y=1)(e2:2*A*x*(q0+-Q*x)+B*(x*(s0+-Q*y)+y*(q0+-Q*x))+2*C*y*(s0+-Q*y)=Bh):MatInv A B C x (q0+-Q*x) y (s0+-Q*y) v Bh (A*(q0+-Q*x)*(q0+-Q*x)+B*(q0+-Q*x)*(s0+-Q*y)+C*(s0+-Q*y)*(s0+-Q*y)):=by
 refine⟨hv,?_,rfl,?_⟩
 ·rw[←e2,Int.mul_comm (q0+-Q*x) y]
 ·rw[qBE x s0 Q y q0,i3]
theorem qBB{A B C D x y v q0 s0:Int}(h:Rb A B C)(hD:B*B - 4*A*C=D)(hD1:-2000≤D)(hD2:D≤0)(hv:Vl A B C x y=v)(hv1:1≤v)(i3:x*s0 - q0*y=1)(i4:q0.natAbs≤3)(i5:s0.natAbs≤3)(i6:0≤x)(i7:x≤3)(i8:0≤y)(i9:y≤3):∃B0 Q Bh C1,Cmp A B C D x y v q0 s0 B0 Q Bh C1:=by have hvb:=z9P h i6 i7 i8 i9;rw[hv]at hvb;unfold Vl at hv;have hB0b:=cmp_b h i4 i5 i6 i7 i8 i9;have ee:=qBD A B C x y q0 s0;rw[hv]at ee;obtain⟨hQb,e1,t1,t2⟩:=cmp_q (v:=v) hv1 hB0b;have e2:=(ee ((2*A*x*q0+B*(x*s0+y*q0)+2*C*y*s0) / (2*v))).trans e1;have em:=z8f hv i3 e2;have hdis:=(zSd em).trans hD;obtain⟨hBB,hC⟩:=cmp_c hv1 (by omega) hD1 hD2 t1 t2 hdis;exact⟨_,_,_,_,hv,hv1,by omega,rfl,hB0b,rfl,hQb,qA (A:=20001) (B:=3) (by omega) (by omega),qA (A:=20001) (B:=3) (by omega) (by omega),rfl,e1,t1,t2,e2,rfl,em,hdis,hBB,hC⟩
theorem z6v{A B C D x y v q0 s0 B0 Q Bh C1:Int}(h:Cmp A B C D x y v q0 s0 B0 Q Bh C1)(i4:q0.natAbs≤3)(i5:s0.natAbs≤3)(i1:(bif eqI y 0 then some (0,x) else (zET y).bind fun y6=>(zER x y6).bind fun y7=>(nz y).bind fun z8=>sI (w64 (Int.tdiv (w64 ((w64 (x*y7)) - 1)) y)) fun f9=>some (f9,y7))=some (q0,s0)):zB6 (A,B,C) x y=some ((v,Bh,C1),(x,q0+-Q*x,y,s0+-Q*y)):=by obtain⟨hv,v1,v2,hB0,b0,hQ,q,m6,m7,hBh,e1,t1,t2,e2,hC1,em,dis,bb,c1⟩:=h;unfold zB6;rw[i1];simp only[za,sub_w];rw[hv,hB0,zA (n:=B0) (by omega),zA (n:=v) (by omega),zA (n:=2*v) (by omega),zGI (by omega) (by omega) (by omega) (by omega),hQ];simp only[za,zI];rw[zA (n:=0 - Q) (by omega),show (0 - Q)=-Q by omega,zA (n:=-Q*x) (by omega),zA (n:=-Q*y) (by omega),zA (n:=q0+-Q*x) (by omega),zA (n:=s0+-Q*y) (by omega)];rw[e2,hC1,zA (n:=C1) (by omega),zA (n:=Bh) (by omega)]
theorem z6u{A B C D x y v q0 s0 B0 Q Bh C1:Int}(h:Cmp A B C D x y v q0 s0 B0 Q Bh C1)(hD:B*B - 4*A*C=D)(hD1:-2000≤D)(hD2:D≤0)(i4:q0.natAbs≤3)(i5:s0.natAbs≤3)(i2:zDv x y=some (1,s0,-q0)):zAz (A,B,C) x y=some ((v,Bh,C1),(x,q0+-Q*x,y,s0+-Q*y)):=by obtain⟨hv,v1,v2,hB0,b0,hQ,q,m6,m7,hBh,e1,t1,t2,e2,hC1,em,dis,bb,c1⟩:=h;unfold zAz;rw[i2];simp only[za];rw[zXR,at_w,hv,zA (n:=v) (by omega)];simp only[za,zI];rw[show w64 (0 - -q0)=q0 by rw[zA (by omega)];omega,z43,z3R,hB0,zA (n:=B0) (by omega)];simp only[za];rw[zHn,zA (n:=2*v) (by omega),zB8 (by omega) (by omega),hBh];simp only[za];rw[zFg (show 2*v≠0 by omega),zA (n:=Bh - B0) (by omega),tdv (c:=-Q) (by omega) (by omega)];simp only[za];have x1:x*-Q=-Q*x:=Int.mul_comm _ _;have y1:y*-Q=-Q*y:=Int.mul_comm _ _;rw[zA (n:=-Q) (by omega),x1,y1,zA (n:=-Q*x) (by omega),zA (n:=-Q*y) (by omega),zA (n:=q0+-Q*x) (by omega),zA (n:=s0+-Q*y) (by omega),zA (n:=2*v*-Q) (by omega),e1,zA (n:=Bh) (by omega),zGu,zZD,hD,zA (n:=D) (by omega)];simp only[za];rw[zA (n:=4*v) (by omega),zFg (show 4*v≠0 by omega)];have hBB0:0≤Bh*Bh:=Int.mul_nonneg t1 t1;simp only[za];rw[zA (n:=Bh*Bh) (by omega),zA (n:=Bh*Bh - D) (by omega),tdv (b:=4*v) (c:=C1) (by omega) (by omega),zA (n:=C1) (by omega)]
theorem zWS{A B C D x y v:Int}(h:Rb A B C)(hD:B*B - 4*A*C=D)(hD1:-2000≤D)(hD2:D≤0)(hm:(x,y)∈ptL)(hv:Vl A B C x y=v)(hv1:1≤v):
  ∃q s Bh Ch,zB6 (A,B,C) x y=some ((v,Bh,Ch),(x,q,y,s))∧zAz (A,B,C) x y=some ((v,Bh,Ch),(x,q,y,s))∧MatInv A B C x q y s v Bh Ch∧0≤Bh∧Bh<2*v∧v≤10000∧q.natAbs≤100000∧s.natAbs≤100000∧0≤x∧x≤3∧0≤y∧y≤3:=by
 obtain⟨q0,s0,i1,i2,i3,i4,i5,i6,i7,i8,i9⟩:=inv9 hm;obtain⟨B0,Q,Bh,C1,k⟩:=qBB h hD hD1 hD2 hv hv1 i3 i4 i5 i6 i7 i8 i9;have k1:=z6v k i4 i5 i1;have k2:=z6u k hD hD1 hD2 i4 i5 i2;obtain⟨hv,v1,v2,hB0,b0,hQ,q,m6,m7,hBh,e1,t1,t2,e2,hC1,em,dis,bb,c1⟩:=k;exact⟨_,_,Bh,C1,k1,k2,em,t1,t2,v2,by omega,by omega,i6,i7,i8,i9⟩
abbrev El:=Int×Int
def eM(D:Int)(x y:El):El:=(x.1*y.1+D*x.2*y.2,x.1*y.2+x.2*y.1)
def eA(x y:El):El:=(x.1+y.1,x.2+y.2)
def eS(x y:El):El:=(x.1 - y.1,x.2 - y.2)
def eK(k:Int)(x:El):El:=(k*x.1,k*x.2)
def eN(D:Int)(x:El):Int:=x.1*x.1 - D*x.2*x.2
def eT(D:Int)(x y:El):Int:=x.1*y.1 - D*x.2*y.2
def eW(x y:El):Int:=x.1*y.2 - x.2*y.1
def Sp(L:List El)(x:El):Prop:=∀P:El→Prop,P (0,0)→(∀a b,P a→P b→P (eS a b))→(∀l,l∈L→P l)→P x
theorem zIe(L:List El):Sp L (0,0):=fun P h _ _=>h
theorem zJg{L:List El}{x y:El}(h1:Sp L x)(h2:Sp L y):Sp L (eS x y):=fun P a b c=>b _ _ (h1 P a b c) (h2 P a b c)
theorem zCq{L:List El}{x:El}(h:x∈L):Sp L x:=fun P a b c=>c _ h
theorem qY{x y:El}(h1:x.1=y.1)(h2:x.2=y.2):x=y:=Prod.ext h1 h2
theorem z5S{L:List El}{x:El}(h:Sp L x):Sp L (eK (-1) x):=by
 have:=zJg (zIe L) h;have e:eS (0,0) x=eK (-1) x:=qY (by simp[eS,eK]) (by simp[eS,eK])
 rwa [e]at this
theorem zMc{L:List El}{x y:El}(h1:Sp L x)(h2:Sp L y):Sp L (eA x y):=by
 have:=zJg h1 (z5S h2);have e:eS x (eK (-1) y)=eA x y:=qY (by simp[eS,eK,eA]) (by simp[eS,eK,eA])
 rwa [e]at this
theorem z5T{L:List El}{x:El}(h:Sp L x)(n:Nat):Sp L (eK n x):=by
 induction n with
 |zero=>(have e:eK ((0:Nat):Int) x=(0,0):=qY (by simp[eK]) (by simp[eK]));rw[e];exact zIe L
 |succ n ih=>have e:eK ((n+1:Nat):Int) x=eA (eK n x) x:=qY (by simp[eK,eA,Int.add_mul]) (by simp[eK,eA,Int.add_mul]);rw[e];exact zMc ih h
theorem zIB{L:List El}{x:El}(h:Sp L x)(k:Int):Sp L (eK k x):=by
 rcases Int.le_total 0 k with hk|hk
 ·have e:k=(k.toNat:Int):=by omega
  rw[e];exact z5T h _
 ·have e:eK k x=eK (-1) (eK ((-k).toNat:Nat) x):=by
   have e1:(((-k).toNat:Nat):Int)=-k:=by omega
   rw[e1];exact qY (by simp only[eK];grind) (by simp only[eK];grind)
  rw[e];exact z5S (z5T h _)
theorem z9U{L M:List El}(h:∀l,l∈L→Sp M l){x:El}(hx:Sp L x):Sp M x:=hx (Sp M) (zIe M) (fun _ _=>zJg) h
theorem z5R{u v x:El}(h:Sp [u,v] x):∃p q:Int,x=eA (eK p u) (eK q v):=by
 refine h (fun x=>∃p q:Int,x=eA (eK p u) (eK q v)) ⟨0,0,qY (by simp[eA,eK]) (by simp[eA,eK])⟩ ?_ ?_
 ·rintro a b ⟨p,q,e1⟩ ⟨p',q',e2⟩;refine⟨p - p',q - q',?_⟩;subst e1 e2;exact qY (by simp only[eS,eA,eK];grind) (by simp only[eS,eA,eK];grind)
 ·intro l hl;simp only[zl,zq,or_false]at hl;rcases hl with e|e
  ·exact⟨1,0,by subst e;exact qY (by simp[eA,eK]) (by simp[eA,eK])⟩
  ·exact⟨0,1,by subst e;exact qY (by simp[eA,eK]) (by simp[eA,eK])⟩
theorem zYA{u v:El}(p q:Int):Sp [u,v] (eA (eK p u) (eK q v)):=zMc (zIB (zCq (by simp)) p) (zIB (zCq (by simp)) q)
def eL(D:Int)(a:El)(L:List El):List El:=L.map (eM D a)
def eP(D:Int)(L M:List El):List El:=L.flatMap fun l=>M.map (eM D l)
theorem zYz(D:Int)(x y:El):eM D x y=eM D y x:=qY (by simp only[eM];grind) (by simp only[eM];grind)
theorem zIY(D:Int)(x y z:El):eM D (eM D x y) z=eM D x (eM D y z):=qY (by simp only[eM];grind) (by simp only[eM];grind)
theorem z2T(D:Int)(x y z:El):eM D x (eS y z)=eS (eM D x y) (eM D x z):=qY (by simp only[eM,eS];grind) (by simp only[eM,eS];grind)
theorem z88(D:Int)(x y z:El):eM D (eS x y) z=eS (eM D x z) (eM D y z):=qY (by simp only[eM,eS];grind) (by simp only[eM,eS];grind)
theorem zYy(D:Int)(x:El):eM D x (0,0)=(0,0):=qY (by simp[eM]) (by simp[eM])
theorem z6d(D:Int)(x:El):eM D (0,0) x=(0,0):=qY (by simp[eM]) (by simp[eM])
theorem zUR(D:Int)(x y:El):eN D (eM D x y)=eN D x*eN D y:=by simp only[eN,eM];grind
theorem zYx{D:Int}(hD:D<0){x:El}(hx:x≠(0,0)):0<eN D x:=by
 simp only[eN];have h1:0≤x.1*x.1:=by rcases Int.le_total 0 x.1 with h|h;exact Int.mul_nonneg h h;exact Int.mul_nonneg_of_nonpos_of_nonpos h h
 have h2:0≤x.2*x.2:=by rcases Int.le_total 0 x.2 with h|h;exact Int.mul_nonneg h h;exact Int.mul_nonneg_of_nonpos_of_nonpos h h
 have h3:0≤(-D)*(x.2*x.2):=Int.mul_nonneg (by omega) h2;have e:D*x.2*x.2=-((-D)*(x.2*x.2)):=by grind
 rw[e];rcases Decidable.em (x.1=0) with h|h
 ·have h4:x.2≠0:=fun h5=>hx (qY h h5);have h5:x.2*x.2≠0:=fun h6=>by rcases Int.mul_eq_zero.1 h6 with h7|h7<;>exact h4 h7
  have h6:0<(-D)*(x.2*x.2):=Int.mul_pos (by omega) (by omega);omega
 ·have h5:x.1*x.1≠0:=fun h6=>by rcases Int.mul_eq_zero.1 h6 with h7|h7<;>exact h h7
  omega
theorem z3k{D:Int}(hD:D<0){x y:El}(hx:x≠(0,0))(hy:y≠(0,0)):eM D x y≠(0,0):=by intro h;have h1:=Int.mul_pos (zYx hD hx) (zYx hD hy);rw[←zUR,h]at h1;simp[eN]at h1
theorem zGM{D:Int}{a:El}{L:List El}{x:El}:Sp (eL D a L) x↔∃y,Sp L y∧x=eM D a y:=by
 constructor
 ·intro h;refine h (fun x=>∃y,Sp L y∧x=eM D a y) ⟨(0,0),zIe L,(zYy D a).symm⟩ ?_ ?_
  ·rintro x y ⟨x',h1,e1⟩ ⟨y',h2,e2⟩;exact⟨eS x' y',zJg h1 h2,by rw[e1,e2,z2T]⟩
  ·intro l hl;obtain⟨m,hm,e⟩:=List.mem_map.1 hl;exact⟨m,zCq hm,e.symm⟩
 ·rintro⟨y,hy,e⟩;subst e;refine hy (fun y=>Sp (eL D a L) (eM D a y)) (by rw[zYy];exact zIe _) ?_ ?_
  ·intro x y h1 h2;rw[z2T];exact zJg h1 h2
  ·exact fun l hl=>zCq (List.mem_map.2 ⟨l,hl,rfl⟩)
theorem zFH{D:Int}{L M:List El}{x:El}:x∈eP D L M↔∃l,l∈L∧∃m,m∈M∧x=eM D l m:=by
 simp only[eP,List.mem_flatMap,List.mem_map];constructor
 ·rintro⟨l,hl,m,hm,e⟩;exact⟨l,hl,m,hm,e.symm⟩
 ·rintro⟨l,hl,m,hm,e⟩;exact⟨l,hl,m,hm,e.symm⟩
theorem z0D{D:Int}{L M:List El}{x y:El}(hx:Sp L x)(hy:Sp M y):Sp (eP D L M) (eM D x y):=by
 refine hx (fun x=>Sp (eP D L M) (eM D x y)) (by rw[z6d];exact zIe _) ?_ ?_
 ·intro a b h1 h2;rw[z88];exact zJg h1 h2
 ·intro l hl;refine hy (fun y=>Sp (eP D L M) (eM D l y)) (by rw[zYy];exact zIe _) ?_ ?_
  ·intro a b h1 h2;rw[z2T];exact zJg h1 h2
  ·exact fun m hm=>zCq (zFH.2 ⟨l,hl,m,hm,rfl⟩)
def Cl(D:Int)(L M:List El):Prop:=∃a b:El,a≠(0,0)∧b≠(0,0)∧∀x,Sp (eL D a L) x↔Sp (eL D b M) x
theorem z8g(D:Int)(L:List El):Cl D L L:=⟨(1,0),(1,0),by simp,by simp,fun _=>Iff.rfl⟩
theorem zZH{D:Int}{L M:List El}(h:Cl D L M):Cl D M L:=by obtain⟨a,b,h1,h2,h3⟩:=h;exact⟨b,a,h2,h1,fun x=>(h3 x).symm⟩
theorem z3l{D:Int}{c a b:El}{L M:List El}(h:∀x,Sp (eL D a L) x↔Sp (eL D b M) x)(x:El):Sp (eL D (eM D c a) L) x↔Sp (eL D (eM D c b) M) x:=by
 simp only[zGM]at h ⊢;constructor
 ·rintro⟨y,hy,e⟩;obtain⟨z,hz,e2⟩:=(h (eM D a y)).1 ⟨y,hy,rfl⟩;exact⟨z,hz,by rw[e,zIY,e2,zIY]⟩
 ·rintro⟨y,hy,e⟩;obtain⟨z,hz,e2⟩:=(h (eM D b y)).2 ⟨y,hy,rfl⟩;exact⟨z,hz,by rw[e,zIY,e2,zIY]⟩
theorem zKP{D:Int}(hD:D<0){L M N:List El}(h1:Cl D L M)(h2:Cl D M N):Cl D L N:=by obtain⟨a,b,ha,hb,h⟩:=h1;obtain⟨c,d,hc,hd,k⟩:=h2;refine⟨eM D c a,eM D b d,z3k hD hc ha,z3k hD hb hd,fun x=>?_⟩;rw[z3l h x,zYz D c b,z3l k x]
theorem z0q{D:Int}{L M:List El}(h:∀x,Sp L x↔Sp M x):Cl D L M:=by
 refine⟨(1,0),(1,0),by simp,by simp,fun x=>?_⟩;rw[zGM,zGM];constructor
 ·rintro⟨y,hy,e⟩;exact⟨y,(h y).1 hy,e⟩
 ·rintro⟨y,hy,e⟩;exact⟨y,(h y).2 hy,e⟩
theorem z1f{L M:List El}(h1:∀l,l∈L→Sp M l)(h2:∀l,l∈M→Sp L l)(x:El):Sp L x↔Sp M x:=⟨z9U h1,z9U h2⟩
theorem z0r{D:Int}{a b:El}{L M:List El}(ha:a≠(0,0))(hb:b≠(0,0))(h1:∀l,l∈L→Sp (eL D b M) (eM D a l))(h2:∀m,m∈M→Sp (eL D a L) (eM D b m)):Cl D L M:=by
 refine⟨a,b,ha,hb,z1f ?_ ?_⟩
 ·intro l hl;obtain⟨m,hm,e⟩:=List.mem_map.1 hl;rw[←e];exact h1 m hm
 ·intro l hl;obtain⟨m,hm,e⟩:=List.mem_map.1 hl;rw[←e];exact h2 m hm
theorem zOf{D:Int}{a b c d:El}{L L' M M':List El}(h:∀x,Sp (eL D a L) x↔Sp (eL D b L') x)(k:∀x,Sp (eL D c M) x↔Sp (eL D d M') x):∀l,l∈eP D L M→Sp (eL D (eM D b d) (eP D L' M')) (eM D (eM D a c) l):=by
 intro l hl;obtain⟨l1,h1,m1,h2,e⟩:=zFH.1 hl;obtain⟨y,hy,e1⟩:=zGM.1 ((h (eM D a l1)).1 (zGM.2 ⟨l1,zCq h1,rfl⟩));obtain⟨z,hz,e2⟩:=zGM.1 ((k (eM D c m1)).1 (zGM.2 ⟨m1,zCq h2,rfl⟩));refine zGM.2 ⟨eM D y z,z0D hy hz,?_⟩;have e3:eM D (eM D a c) l=eM D (eM D a l1) (eM D c m1):=by rw[e];exact qY (by simp only[eM];grind) (by simp only[eM];grind)
 rw[e3,e1,e2];exact qY (by simp only[eM];grind) (by simp only[eM];grind)
theorem z3o{D:Int}(hD:D<0){L L' M M':List El}(h1:Cl D L L')(h2:Cl D M M'):Cl D (eP D L M) (eP D L' M'):=by obtain⟨a,b,ha,hb,h⟩:=h1;obtain⟨c,d,hc,hd,k⟩:=h2;exact z0r (z3k hD ha hc) (z3k hD hb hd) (zOf h k) (zOf (fun x=>(h x).symm) (fun x=>(k x).symm))
theorem z8h(D:Int)(L M:List El):Cl D (eP D L M) (eP D M L):=by
 refine z0q (z1f ?_ ?_)
 ·intro l hl;obtain⟨x,hx,y,hy,e⟩:=zFH.1 hl;rw[e,zYz];exact zCq (zFH.2 ⟨y,hy,x,hx,rfl⟩)
 ·intro l hl;obtain⟨x,hx,y,hy,e⟩:=zFH.1 hl;rw[e,zYz];exact zCq (zFH.2 ⟨y,hy,x,hx,rfl⟩)
theorem z6x(D:Int)(L M N:List El):Cl D (eP D (eP D L M) N) (eP D L (eP D M N)):=by
 refine z0q (z1f ?_ ?_)
 ·intro l hl;obtain⟨x,hx,y,hy,e⟩:=zFH.1 hl;obtain⟨z,hz,w,hw,e2⟩:=zFH.1 hx;rw[e,e2,zIY];exact zCq (zFH.2 ⟨z,hz,_,zFH.2 ⟨w,hw,y,hy,rfl⟩,rfl⟩)
 ·intro l hl;obtain⟨x,hx,y,hy,e⟩:=zFH.1 hl;obtain⟨z,hz,w,hw,e2⟩:=zFH.1 hy;rw[e,e2,←zIY];exact zCq (zFH.2 ⟨_,zFH.2 ⟨x,hx,z,hz,rfl⟩,w,hw,rfl⟩)
def fL(f:Int×Int×Int):List El:=[(2*f.1,0),(f.2.1,1)]
def fD(f:Int×Int×Int):Int:=f.2.1*f.2.1 - 4*f.1*f.2.2
def Eqf(f g:Int×Int×Int):Prop:=∃p q r s:Int,p*s - q*r=1∧f.1=g.1*p*p+g.2.1*p*r+g.2.2*r*r∧f.2.1=2*g.1*p*q+g.2.1*(p*s+q*r)+2*g.2.2*r*s∧f.2.2=g.1*q*q+g.2.1*q*s+g.2.2*s*s
theorem z68{f g:Int×Int×Int}(h:Eqf f g):fD f=fD g:=by
 obtain⟨p,q,r,s,hdet,e1,e2,e3⟩:=h;simp only[fD];have:p*s=1+q*r:=by omega
 rw[e1,e2,e3];grind
theorem z4b{f g:Int×Int×Int}(hf:0<f.1)(hg:0<g.1)(h:Eqf f g):Cl (fD g) (fL f) (fL g):=by
 have hd:=z68 h;obtain⟨p,q,r,s,hdet,e1,e2,e3⟩:=h;obtain⟨a,b,c⟩:=f;obtain⟨a',b',c'⟩:=g;simp only[fD]at hd hf hg e1 e2 e3 ⊢;have hps:p*s=1+q*r:=by omega
 have hne:((2*a'*p+b'*r,r):El)≠(0,0):=by
  intro h0;have h1:r=0:=congrArg Prod.snd h0;have h2:2*a'*p+b'*r=0:=congrArg Prod.fst h0;subst h1;have h3:p=0:=by
   have:2*a'*p=0:=by omega
   rcases Int.mul_eq_zero.1 this with h4|h4
   ·omega
   ·exact h4
  subst h3;omega
 have hne2:((2*a,0):El)≠(0,0):=by intro h0;have h1:2*a=0:=congrArg Prod.fst h0;omega
 have k1:eM (b'*b' - 4*a'*c') (2*a'*p+b'*r,r) (2*a,0)=eM (b'*b' - 4*a'*c') (2*a,0) (eA (eK p (2*a',0)) (eK r (b',1))):=qY (by simp only[eM,eA,eK];grind) (by simp only[eM,eA,eK];grind);have k2:eM (b'*b' - 4*a'*c') (2*a'*p+b'*r,r) (b,1)=eM (b'*b' - 4*a'*c') (2*a,0) (eA (eK q (2*a',0)) (eK s (b',1))):=by
  refine qY ?_ ?_
  ·simp only[eM,eA,eK];rw[e1,e2];have:(2*a'*p+b'*r)*(2*a'*p*q+b'*(p*s+q*r)+2*c'*r*s)+(b'*b' - 4*a'*c')*r*1 - (2*(a'*p*p+b'*p*r+c'*r*r)*(q*(2*a')+s*b')+(b'*b' - 4*a'*c')*0*(q*0+s*1))=(b'*b' - 4*a'*c')*r*(1 - (p*s - q*r)):=by grind
   rw[hdet]at this;omega
  ·simp only[eM,eA,eK];rw[e1,e2];have:(2*a'*p+b'*r)*1+r*(2*a'*p*q+b'*(p*s+q*r)+2*c'*r*s) - (2*(a'*p*p+b'*p*r+c'*r*r)*(q*0+s*1)+0*(q*(2*a')+s*b'))=(2*a'*p+b'*r)*(1 - (p*s - q*r)):=by grind
   rw[hdet]at this;omega
 refine z0r hne hne2 ?_ ?_
 ·intro l hl;simp only[fL,zl,zq,or_false]at hl;rcases hl with e|e
  ·subst e;rw[k1];exact zGM.2 ⟨_,zYA p r,rfl⟩
  ·subst e;rw[k2];exact zGM.2 ⟨_,zYA q s,rfl⟩
 ·intro l hl;have j1:eA (eK s (eA (eK p (2*a',0)) (eK r (b',1)))) (eK (-r) (eA (eK q (2*a',0)) (eK s (b',1))))=((2*a',0):El):=by
   refine qY ?_ ?_
   ·simp only[eA,eK];have:s*(p*(2*a')+r*b')+-r*(q*(2*a')+s*b')=2*a'*(p*s - q*r):=by grind
    rw[hdet]at this;omega
   ·simp only[eA,eK];grind
  have j2:eA (eK (-q) (eA (eK p (2*a',0)) (eK r (b',1)))) (eK p (eA (eK q (2*a',0)) (eK s (b',1))))=((b',1):El):=by
   refine qY ?_ ?_
   ·simp only[eA,eK];have:-q*(p*(2*a')+r*b')+p*(q*(2*a')+s*b')=b'*(p*s - q*r):=by grind
    rw[hdet]at this;omega
   ·simp only[eA,eK];grind
  have m1:∀x y:Int,eM (b'*b' - 4*a'*c') (2*a,0) (eA (eK x (eA (eK p (2*a',0)) (eK r (b',1)))) (eK y (eA (eK q (2*a',0)) (eK s (b',1)))))=eA (eK x (eM (b'*b' - 4*a'*c') (2*a,0) (eA (eK p (2*a',0)) (eK r (b',1))))) (eK y (eM (b'*b' - 4*a'*c') (2*a,0) (eA (eK q (2*a',0)) (eK s (b',1))))):=by intro x y;exact qY (by simp only[eM,eA,eK];grind) (by simp only[eM,eA,eK];grind)
  have m2:∀x y:Int,Sp (eL (b'*b' - 4*a'*c') (2*a'*p+b'*r,r) (fL (a,b,c))) (eA (eK x (eM (b'*b' - 4*a'*c') (2*a,0) (eA (eK p (2*a',0)) (eK r (b',1))))) (eK y (eM (b'*b' - 4*a'*c') (2*a,0) (eA (eK q (2*a',0)) (eK s (b',1)))))):=by intro x y;rw[←k1,←k2];exact zMc (zIB (zGM.2 ⟨_,zCq (by simp[fL]),rfl⟩) x) (zIB (zGM.2 ⟨_,zCq (by simp[fL]),rfl⟩) y)
  simp only[fL,zl,zq,or_false]at hl;rcases hl with e|e
  ·subst e;rw[←j1,m1];exact m2 _ _
  ·subst e;rw[←j2,m1];exact m2 _ _
theorem z3j(D:Int)(p r:Int)(u v:El):eN D (eA (eK p u) (eK r v))=p*p*eN D u+2*p*r*eT D u v+r*r*eN D v:=by simp only[eN,eA,eK,eT];grind
theorem z87(D:Int)(p r q s:Int)(u v:El):eT D (eA (eK p u) (eK r v)) (eA (eK q u) (eK s v))=p*q*eN D u+(p*s+q*r)*eT D u v+r*s*eN D v:=by simp only[eN,eA,eK,eT];grind
theorem z3i(p r q s:Int)(u v:El):eW (eA (eK p u) (eK r v)) (eA (eK q u) (eK s v))=(p*s - q*r)*eW u v:=by simp only[eW,eA,eK];grind
theorem z6c(D:Int)(a x y:El):eT D (eM D a x) (eM D a y)=eN D a*eT D x y:=by simp only[eN,eM,eT];grind
theorem zYw(D:Int)(a x y:El):eW (eM D a x) (eM D a y)=eN D a*eW x y:=by simp only[eN,eM,eW];grind
theorem z42{f g:Int×Int×Int}(hf:0<f.1)(hg:0<g.1)(hD:fD g<0)(hd:fD f=fD g)(h:Cl (fD g) (fL f) (fL g)):Eqf f g:=by
 obtain⟨α,β,hα,hβ,hs⟩:=h;have hNα:=zYx hD hα;have hNβ:=zYx hD hβ;have half:∀{f g:Int×Int×Int}{α β:El},(∀x,Sp (eL (fD g) α (fL f)) x↔Sp (eL (fD g) β (fL g)) x)→∃p q r s:Int,eM (fD g) α (2*f.1,0)=eM (fD g) β (eA (eK p (2*g.1,0)) (eK r (g.2.1,1)))∧eM (fD g) α (f.2.1,1)=eM (fD g) β (eA (eK q (2*g.1,0)) (eK s (g.2.1,1))):=by intro f g α β hs;obtain⟨y,hy,e1⟩:=zGM.1 ((hs _).1 (zGM.2 ⟨(2*f.1,0),zCq (by simp[fL]),rfl⟩));obtain⟨z,hz,e2⟩:=zGM.1 ((hs _).1 (zGM.2 ⟨(f.2.1,1),zCq (by simp[fL]),rfl⟩));obtain⟨p,r,e3⟩:=z5R hy;obtain⟨q,s,e4⟩:=z5R hz;exact⟨p,q,r,s,by rw[e1,e3],by rw[e2,e4]⟩
 obtain⟨p,q,r,s,e1,e2⟩:=half hs;obtain⟨p',q',r',s',e3,e4⟩:=half (f:=g) (g:=f) (by rw[hd];exact fun x=>(hs x).symm);rw[hd]at e3 e4;have w1:eN (fD g) α*(2*f.1)=eN (fD g) β*((p*s - q*r)*(2*g.1)):=by have h1:=zYw (fD g) α (2*f.1,0) (f.2.1,1);rw[e1,e2,zYw,z3i]at h1;simpa [eW] using h1.symm
 have w2:eN (fD g) β*(2*g.1)=eN (fD g) α*((p'*s' - q'*r')*(2*f.1)):=by have h1:=zYw (fD g) β (2*g.1,0) (g.2.1,1);rw[e3,e4,zYw,z3i]at h1;simpa [eW] using h1.symm
 have hX:0<eN (fD g) α*(2*f.1):=Int.mul_pos hNα (by omega);have hY:0<eN (fD g) β*(2*g.1):=Int.mul_pos hNβ (by omega);have hdet:p*s - q*r=1:=by
  have x1:eN (fD g) α*(2*f.1)=(eN (fD g) β*(2*g.1))*(p*s - q*r):=by rw[w1];grind
  have x2:eN (fD g) β*(2*g.1)=(eN (fD g) α*(2*f.1))*(p'*s' - q'*r'):=by
   have:eN (fD g) α*((p'*s' - q'*r')*(2*f.1))=(eN (fD g) α*(2*f.1))*(p'*s' - q'*r'):=by grind
   rw[←this];exact w2
  generalize hXX:eN (fD g) α*(2*f.1)=X at*;generalize hYY:eN (fD g) β*(2*g.1)=Y at*;generalize p*s - q*r=t at*;generalize p'*s' - q'*r'=t' at*;have ht:0<t:=by
   rcases Int.lt_or_le 0 t with h|h
   ·exact h
   ·have:Y*t≤0:=Int.mul_nonpos_of_nonneg_of_nonpos (by omega) h;omega
  have ht':0<t':=by
   rcases Int.lt_or_le 0 t' with h|h
   ·exact h
   ·have:X*t'≤0:=Int.mul_nonpos_of_nonneg_of_nonpos (by omega) h;omega
  have h1:X*1=X*(t'*t):=by
   have:X=X*t'*t:=by rw[←x2];exact x1
   rw[Int.mul_one,←qa];exact this
  have h2:1=t'*t:=Int.eq_of_mul_eq_mul_left (by omega) h1;have h3:1*t≤t'*t:=Int.mul_le_mul_of_nonneg_right (by omega) (by omega);omega
 have key:eN (fD g) α*f.1=eN (fD g) β*g.1:=by
  rw[hdet]at w1;have:2*(eN (fD g) α*f.1)=2*(eN (fD g) β*g.1):=by grind
  omega
 have hK:0<eN (fD g) α*f.1:=Int.mul_pos hNα hf;have n1:eN (fD g) (2*g.1,0)=4*g.1*g.1:=by simp only[eN];grind
 have n2:eN (fD g) (g.2.1,1)=4*g.1*g.2.2:=by simp only[eN,fD];grind
 have n3:eT (fD g) (2*g.1,0) (g.2.1,1)=2*g.1*g.2.1:=by simp only[eT];grind
 have m1:eN (fD g) (2*f.1,0)=4*f.1*f.1:=by simp only[eN];grind
 have m2:eN (fD g) (f.2.1,1)=4*f.1*f.2.2:=by rw[←hd];simp only[eN,fD];grind
 have m3:eT (fD g) (2*f.1,0) (f.2.1,1)=2*f.1*f.2.1:=by simp only[eT];grind
 have v1:eN (fD g) α*(4*f.1*f.1)=eN (fD g) β*(p*p*(4*g.1*g.1)+2*p*r*(2*g.1*g.2.1)+r*r*(4*g.1*g.2.2)):=by rw[←m1,←n1,←n2,←n3,←z3j,←zUR,←zUR,e1]
 have v2:eN (fD g) α*(4*f.1*f.2.2)=eN (fD g) β*(q*q*(4*g.1*g.1)+2*q*s*(2*g.1*g.2.1)+s*s*(4*g.1*g.2.2)):=by rw[←m2,←n1,←n2,←n3,←z3j,←zUR,←zUR,e2]
 have v3:eN (fD g) α*(2*f.1*f.2.1)=eN (fD g) β*(p*q*(4*g.1*g.1)+(p*s+q*r)*(2*g.1*g.2.1)+r*s*(4*g.1*g.2.2)):=by rw[←m3,←n1,←n2,←n3,←z87,←z6c,←z6c,e1,e2]
 have canc:∀x y:Int,(eN (fD g) α*f.1)*x=(eN (fD g) β*g.1)*y→x=y:=by intro x y h;rw[←key]at h;exact Int.eq_of_mul_eq_mul_left (by omega) h
 generalize eN (fD g) α=A at*;generalize eN (fD g) β=B at*;refine⟨p,q,r,s,hdet,canc _ _ ?_,canc _ _ ?_,canc _ _ ?_⟩
 ·have e1:4*(A*f.1*f.1)=A*(4*f.1*f.1):=by grind
  have e2:4*(B*g.1*(g.1*p*p+g.2.1*p*r+g.2.2*r*r))=B*(p*p*(4*g.1*g.1)+2*p*r*(2*g.1*g.2.1)+r*r*(4*g.1*g.2.2)):=by grind
  omega
 ·have e1:2*(A*f.1*f.2.1)=A*(2*f.1*f.2.1):=by grind
  have e2:2*(B*g.1*(2*g.1*p*q+g.2.1*(p*s+q*r)+2*g.2.2*r*s))=B*(p*q*(4*g.1*g.1)+(p*s+q*r)*(2*g.1*g.2.1)+r*s*(4*g.1*g.2.2)):=by grind
  omega
 ·have e1:4*(A*f.1*f.2.2)=A*(4*f.1*f.2.2):=by grind
  have e2:4*(B*g.1*(g.1*q*q+g.2.1*q*s+g.2.2*s*s))=B*(q*q*(4*g.1*g.1)+2*q*s*(2*g.1*g.2.1)+s*s*(4*g.1*g.2.2)):=by grind
  omega
end Go.Proofs.YtahdjphocippeaaGreatDoor
namespace Go.Proofs.YtahdjphocippeaaGreatDoor
theorem z1x{D:Int}{a b a' b':Int}{x:El}{c c':Int}(h:x∈eP D (fL (a,b,c)) (fL (a',b',c'))):x=(4*a*a',0)∨x=(2*a*b',2*a)∨x=(2*a'*b,2*a')∨x=(b*b'+D,b+b'):=by
 obtain⟨l,hl,m,hm,e⟩:=zFH.1 h;simp only[fL,zl,zq,or_false]at hl hm;rcases hl with e1|e1<;>rcases hm with e2|e2<;>subst e1 e2
 ·left;rw[e];exact qY (by simp only[eM];grind) (by simp only[eM];grind)
 ·right;left;rw[e];exact qY (by simp only[eM];grind) (by simp only[eM];grind)
 ·right;right;left;rw[e];exact qY (by simp only[eM];grind) (by simp only[eM];grind)
 ·right;right;right;rw[e];exact qY (by simp only[eM];grind) (by simp only[eM];grind)
theorem fP_1(D a b c a' b' c':Int):Sp (eP D (fL (a,b,c)) (fL (a',b',c'))) (4*a*a',0):=by have:eM D (2*a,0) (2*a',0)=(4*a*a',0):=qY (by simp only[eM];grind) (by simp only[eM];grind);rw[←this];exact z0D (zCq (by simp[fL])) (zCq (by simp[fL]))
theorem fP_2(D a b c a' b' c':Int):Sp (eP D (fL (a,b,c)) (fL (a',b',c'))) (2*a*b',2*a):=by have:eM D (2*a,0) (b',1)=(2*a*b',2*a):=qY (by simp only[eM];grind) (by simp only[eM];grind);rw[←this];exact z0D (zCq (by simp[fL])) (zCq (by simp[fL]))
theorem fP_3(D a b c a' b' c':Int):Sp (eP D (fL (a,b,c)) (fL (a',b',c'))) (2*a'*b,2*a'):=by have:eM D (b,1) (2*a',0)=(2*a'*b,2*a'):=qY (by simp only[eM];grind) (by simp only[eM];grind);rw[←this];exact z0D (zCq (by simp[fL])) (zCq (by simp[fL]))
theorem fP_4(D a b c a' b' c':Int):Sp (eP D (fL (a,b,c)) (fL (a',b',c'))) (b*b'+D,b+b'):=by have:eM D (b,1) (b',1)=(b*b'+D,b+b'):=qY (by simp only[eM];grind) (by simp only[eM];grind);rw[←this];exact z0D (zCq (by simp[fL])) (zCq (by simp[fL]))
theorem z3A{L:List El}{x y:El}(h:Sp L x)(e:x=y):Sp L y:=e▸h
theorem eM_k(D k:Int)(x:El):eM D (k,0) x=eK k x:=qY (by simp only[eM,eK];grind) (by simp only[eM,eK];grind)
theorem fS(a b c:Int)(p q x y:Int)(hx:x=2*a*p+b*q)(hy:y=q):Sp (fL (a,b,c)) (x,y):=by have:=zYA (u:=(2*a,0)) (v:=(b,1)) p q;exact z3A this (qY (by simp only[eA,eK];rw[hx];grind) (by simp only[eA,eK];rw[hy];grind))
theorem zEE{D k:Int}{L:List El}{x y:El}(h:Sp L x)(e:eK k x=y):Sp (eL D (k,0) L) y:=zGM.2 ⟨x,h,by rw[eM_k];exact e.symm⟩
theorem z4a{D a e b c s t:Int}(hD:D=b*b - 4*a*e*c)(hst:s*a+t*e=1):Cl D (eP D (fL (a,b,e*c)) (fL (e,b,a*c))) (fL (a*e,b,c)):=by
 refine z0r (a:=(1,0)) (b:=(2,0)) (by simp) (by simp) ?_ ?_
 ·intro l hl;rw[eM_k];rcases z1x hl with h|h|h|h
  ·subst h;exact zEE (fS _ _ _ 1 0 (2*a*e) 0 (by grind) rfl) (qY (by simp only[eK];grind) (by simp only[eK];grind))
  ·subst h;exact zEE (fS _ _ _ 0 a (a*b) a (by grind) rfl) (qY (by simp only[eK];grind) (by simp only[eK];grind))
  ·subst h;exact zEE (fS _ _ _ 0 e (e*b) e (by grind) rfl) (qY (by simp only[eK];grind) (by simp only[eK];grind))
  ·subst h;exact zEE (fS _ _ _ (-c) b (b*b - 2*a*e*c) b (by grind) rfl) (qY (by simp only[eK];grind) (by simp only[eK];grind))
 ·intro l hl;rw[eM_k];simp only[fL,zl,zq,or_false]at hl;rcases hl with h|h
  ·subst h;exact zEE (fP_1 D a b (e*c) e b (a*c)) (qY (by simp only[eK];grind) (by simp only[eK];grind))
  ·subst h;refine zEE (zMc (zIB (fP_2 D a b (e*c) e b (a*c)) s) (zIB (fP_3 D a b (e*c) e b (a*c)) t)) (qY ?_ ?_)
   ·simp only[eK,eA];have:1*(s*(2*a*b)+t*(2*e*b))=2*b*(s*a+t*e):=by grind
    rw[this,hst];omega
   ·simp only[eK,eA];have:1*(s*(2*a)+t*(2*e))=2*(s*a+t*e):=by grind
    rw[this,hst];try omega
theorem qBF{D a b c p c0 m:Int}(hD:D=b*b - 4*a*c)(hm:b+p=2*m):Cl D (eP D (fL (1,p,c0)) (fL (a,b,c))) (fL (a,b,c)):=by
 refine z0r (a:=(1,0)) (b:=(2,0)) (by simp) (by simp) ?_ ?_
 ·intro l hl;rw[eM_k];rcases z1x hl with h|h|h|h
  ·subst h;exact zEE (fS _ _ _ 1 0 (2*a) 0 (by grind) rfl) (qY (by simp only[eK];grind) (by simp only[eK];grind))
  ·subst h;exact zEE (fS _ _ _ 0 1 b 1 (by grind) rfl) (qY (by simp only[eK];grind) (by simp only[eK];grind))
  ·subst h;exact zEE (fS _ _ _ (p - m) a (a*p) a (by grind) rfl) (qY (by simp only[eK];grind) (by simp only[eK];grind))
  ·subst h;exact zEE (fS _ _ _ (-c) m (b*m - 2*a*c) m (by grind) rfl) (qY (by simp only[eK];grind) (by simp only[eK];grind))
 ·intro l hl;rw[eM_k];simp only[fL,zl,zq,or_false]at hl;rcases hl with h|h
  ·subst h;exact zEE (fP_1 D 1 p c0 a b c) (qY (by simp only[eK];grind) (by simp only[eK];grind))
  ·subst h;exact zEE (fP_2 D 1 p c0 a b c) (qY (by simp only[eK];grind) (by simp only[eK];grind))
theorem qBG{D a b c p c0 m x y z:Int}(ha:0<a)(hD:D=b*b - 4*a*c)(hm:b+p=2*m)(hx:x*a+y*b+z*c=1):Cl D (eP D (fL (a,b,c)) (fL (a,-b,c))) (fL (1,p,c0)):=by
 refine z0r (a:=(1,0)) (b:=(2*a,0)) (by simp) (by intro h;have h0:2*a=0:=congrArg Prod.fst h;omega) ?_ ?_
 ·intro l hl;rw[eM_k];rcases z1x hl with h|h|h|h
  ·subst h;exact zEE (fS _ _ _ a 0 (2*a) 0 (by grind) rfl) (qY (by simp only[eK];grind) (by simp only[eK];grind))
  ·subst h;exact zEE (fS _ _ _ (-m) 1 (-b) 1 (by grind) rfl) (qY (by simp only[eK];grind) (by simp only[eK];grind))
  ·subst h;exact zEE (fS _ _ _ (m - p) 1 b 1 (by grind) rfl) (qY (by simp only[eK];grind) (by simp only[eK];grind))
  ·subst h;exact zEE (fS _ _ _ (-c) 0 (-2*c) 0 (by grind) rfl) (qY (by simp only[eK];grind) (by simp only[eK];grind))
 ·intro l hl;rw[eM_k];have k1:Sp (eP D (fL (a,b,c)) (fL (a,-b,c))) (4*a*a,0):=fP_1 D a b c a (-b) c;have k2:Sp (eP D (fL (a,b,c)) (fL (a,-b,c))) (2*a*b,2*a):=fP_3 D a b c a (-b) c;have k3:Sp (eP D (fL (a,b,c)) (fL (a,-b,c))) (-(4*a*c),0):=z3A (fP_4 D a b c a (-b) c) (qY (by simp only[];grind) (by simp only[];omega));have k4:Sp (eP D (fL (a,b,c)) (fL (a,-b,c))) (4*a*b,0):=z3A (zJg k2 (fP_2 D a b c a (-b) c)) (qY (by simp only[eS];grind) (by simp only[eS];omega));have k5:Sp (eP D (fL (a,b,c)) (fL (a,-b,c))) (4*a,0):=by
   refine z3A (zMc (zMc (zIB k1 x) (zIB k4 y)) (zIB k3 (-z))) (qY ?_ (by simp only[eA,eK];grind));simp only[eA,eK];have:x*(4*a*a)+y*(4*a*b)+-z*-(4*a*c)=4*a*(x*a+y*b+z*c):=by grind
   rw[this,hx];omega
  simp only[fL,zl,zq,or_false]at hl;rcases hl with h|h
  ·subst h;exact zEE k5 (qY (by simp only[eK];grind) (by simp only[eK];grind))
  ·subst h;exact zEE (zMc k2 (zIB k5 (p - m))) (qY (by simp only[eK,eA];grind) (by simp only[eK,eA];grind))
theorem zHx{x y z:Int}(hx:0≤x)(h:y≤z):x*y≤x*z:=zp h hx
theorem uq_c{a b c x y:Int}(ha:1≤a)(hb1:-a≤b)(hb2:b≤a)(hc:a≤c)(hy:y≠0):c≤a*x*x+b*x*y+c*y*y:=by
 have key:∀x y:Int,0≤x→1≤y→∀b,-a≤b→b≤a→c≤a*x*x+b*x*y+c*y*y:=by
  intro x y hx hy b hb1 hb2;have hxy:0≤x*y:=Int.mul_nonneg hx (by omega);have h1:-(a*(x*y))≤b*(x*y):=by have:(-a)*(x*y)≤b*(x*y):=Int.mul_le_mul_of_nonneg_right hb1 hxy;have e:(-a)*(x*y)=-(a*(x*y)):=Int.neg_mul ..;omega
  have e1:a*x*x+b*x*y+c*y*y=a*(x*x)+b*(x*y)+c*(y*y):=by grind
  rw[e1];rcases Int.le_total y x with h|h
  ·have h2:a*(x*y)≤a*(x*x):=zHx (by omega) (zHx hx h);have h3:c*(1*1)≤c*(y*y):=zHx (by omega) (Int.mul_le_mul hy hy (by omega) (by omega));omega
  ·by_cases h0:x=0
   ·subst h0;have h3:c*(1*1)≤c*(y*y):=zHx (by omega) (Int.mul_le_mul hy hy (by omega) (by omega));simp only[Int.zero_mul,Int.mul_zero]at*;omega
   ·have h2:a*(x*(y - x))≤c*(x*(y - x)):=Int.mul_le_mul_of_nonneg_right hc (Int.mul_nonneg hx (by omega));have h4:x*(y - x)≤(y - 1)*y:=by
     rcases Int.lt_or_le x y with h5|h5
     ·have:x*(y - x)≤(y - 1)*(y - x):=Int.mul_le_mul_of_nonneg_right (by omega) (by omega);have:(y - 1)*(y - x)≤(y - 1)*y:=zHx (by omega) (by omega);omega
     ·have e:y - x=0:=by omega
      rw[e,Int.mul_zero];exact Int.mul_nonneg (by omega) (by omega)
    have h6:c*(x*(y - x))≤c*((y - 1)*y):=zHx (by omega) h4;have e2:a*(x*(y - x))=a*(x*y) - a*(x*x):=by grind
    have e3:c*((y - 1)*y)=c*(y*y) - c*y:=by grind
    have h7:c*1≤c*y:=zHx (by omega) hy;omega
 have e2:a*x*x+b*x*y+c*y*y=a*(-x)*(-x)+(-b)*(-x)*y+c*y*y:=by grind
 have e3:a*x*x+b*x*y+c*y*y=a*x*x+(-b)*x*(-y)+c*(-y)*(-y):=by grind
 have e4:a*x*x+b*x*y+c*y*y=a*(-x)*(-x)+b*(-x)*(-y)+c*(-y)*(-y):=by grind
 rcases Int.lt_or_le 0 y with h1|h1<;>rcases Int.le_total 0 x with h2|h2
 ·exact key x y h2 h1 b hb1 hb2
 ·rw[e2];exact key (-x) y (by omega) h1 (-b) (by omega) (by omega)
 ·rw[e3];exact key x (-y) h2 (by omega) (-b) (by omega) (by omega)
 ·rw[e4];exact key (-x) (-y) (by omega) (by omega) b hb1 hb2
theorem uq_a{a b c x y:Int}(ha:1≤a)(hb1:-a≤b)(hb2:b≤a)(hc:a≤c)(h:x≠0∨y≠0):a≤a*x*x+b*x*y+c*y*y:=by
 by_cases hy:y=0
 ·subst hy;have hx:x≠0:=by omega
  have h1:1≤x*x:=by
   have h2:0<x*x:=by
    rcases Int.lt_or_le 0 x with h3|h3
    ·exact Int.mul_pos h3 h3
    ·exact Int.mul_pos_of_neg_of_neg (by omega) (by omega)
   omega
  have h2:a*1≤a*(x*x):=zHx (by omega) h1;have e:a*x*x+b*x*0+c*0*0=a*(x*x):=by grind
  omega
 ·have:=uq_c (x:=x) ha hb1 hb2 hc hy;omega
theorem z9Q{a b c a' b' c' p q r s:Int}(ha:1≤a)(h1:zCP a b c)(ha':1≤a')(h2:zCP a' b' c')(hdet:p*s - q*r=1)(e1:a'=a*p*p+b*p*r+c*r*r):a≤a'∧(r≠0→c≤a'):=by
 obtain⟨⟨i1,i2⟩,i3⟩:=h1;have hac:a≤c:=by omega
 have hpr:p≠0∨r≠0:=by
  rcases Decidable.em (p=0) with h|h
  ·right;intro hr;rw[h,hr]at hdet;simp at hdet
  ·exact .inl h
 refine⟨by rw[e1];exact uq_a ha (by omega) i2 hac hpr,fun hr=>by rw[e1];exact uq_c ha (by omega) i2 hac hr⟩
theorem z55{a b c a' b' c' p q r s:Int}(ha:1≤a)(h1:zCP a b c)(ha':1≤a')(h2:zCP a' b' c')(hdet:p*s - q*r=1)(e1:a'=a*p*p+b*p*r+c*r*r)(e2:b'=2*a*p*q+b*(p*s+q*r)+2*c*r*s)(e3:c'=a*q*q+b*q*s+c*s*s):a=a'∧b=b'∧c=c':=by
 have f1:a=a'*s*s+b'*s*(-r)+c'*(-r)*(-r):=by rw[e1,e2,e3];grind
 have hdet2:s*p - (-q)*(-r)=1:=by grind
 obtain⟨k1,k2⟩:=z9Q ha h1 ha' h2 hdet e1;obtain⟨k3,k4⟩:=z9Q ha' h2 ha h1 hdet2 f1;have hd:b*b - 4*a*c=b'*b' - 4*a'*c':=by rw[e1,e2,e3];grind
 have haa:a=a':=by omega
 obtain⟨⟨i1,i2⟩,i3⟩:=h1;obtain⟨⟨j1,j2⟩,j3⟩:=h2;have fin:b=b'→a=a'∧b=b'∧c=c':=by
  intro hb;refine⟨haa,hb,?_⟩;subst haa hb;have:4*a*c=4*a*c':=by omega
  exact Int.eq_of_mul_eq_mul_left (by omega) this
 by_cases hr:r=0
 ·subst hr;have hps:p*s=1:=by omega
  have hd1:p.natAbs∣1:=⟨s.natAbs,by rw[←Int.natAbs_mul,hps];rfl⟩
  have hp:p=1∨p=-1:=by have:=Nat.dvd_one.1 hd1;omega
  have small:∀t:Int,-(2*a)<2*a*t→2*a*t<2*a→t=0:=by
   intro t h3 h4;rcases Int.lt_trichotomy t 0 with h|h|h
   ·have:2*a*t≤2*a*(-1):=zHx (by omega) (by omega);omega
   ·exact h
   ·have:2*a*1≤2*a*t:=zHx (by omega) (by omega);omega
  rcases hp with h|h
  ·subst h;have hs:s=1:=by omega
   subst hs;have e4:b'=2*a*q+b:=by rw[e2];grind
   have hq:=small q (by omega) (by omega);rw[hq]at e4;exact fin (by omega)
  ·subst h;have hs:s=-1:=by omega
   subst hs;have e4:b'=2*a*(-q)+b:=by rw[e2];grind
   have hq:=small (-q) (by omega) (by omega);rw[hq]at e4;exact fin (by omega)
 ·have m1:=k2 hr;have m2:=k4 (by omega);have hcc:c=c':=by omega
  subst haa hcc;have hb:b=b':=by
   have hsq:(b - b')*(b+b')=0:=by grind
   rcases Int.mul_eq_zero.1 hsq with h|h<;>omega
  exact fin hb
end Go.Proofs.YtahdjphocippeaaGreatDoor
