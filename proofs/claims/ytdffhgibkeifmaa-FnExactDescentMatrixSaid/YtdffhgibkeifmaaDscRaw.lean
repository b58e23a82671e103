/-
  What the functions of the program compute, as plain functions.
  Conditions: none.
-/
import Derived.Test.YtdffhgibkeifmaaShR

namespace Go.Proofs.Ytdffhgibkeifmaa

set_option linter.unusedVariables false

def r_laws_toForm (a1 : (Int × Int × Int)) : Option (Int × Int × Int) :=
  some a1

def r_spec_l1In (vn1 : Int) (lo2 : Int) (hi3 : Int) : Option Bool :=
  some (bif (leI lo2 vn1) then (leI vn1 hi3) else false)

def r_spec_nuGood (vn1 : Int) : Option Bool :=
  (r_spec_l1In vn1 (-1000000) 1000000).bind fun y2 =>
  some y2

def r_spec_foGood (f1 : (Int × Int × Int)) : Option Bool :=
  (r_spec_nuGood f1.1).bind fun y2 =>
  (bif y2 then ((r_spec_nuGood f1.2.1).bind fun y4 => some y4) else some false).bind fun b5 =>
  (bif b5 then ((r_spec_nuGood f1.2.2).bind fun y7 => some y7) else some false).bind fun b8 =>
  some b8

def r_spec_foDisc (f1 : (Int × Int × Int)) : Option Int :=
  sI (w64 ((w64 (f1.2.1 * f1.2.1)) - (w64 ((w64 (4 * f1.1)) * f1.2.2)))) fun t2 =>
  some t2

def r_spec_foDefinite (f1 : (Int × Int × Int)) : Option Bool :=
  (r_spec_foGood f1).bind fun y2 =>
  (bif y2 then ((r_spec_foDisc f1).bind fun y4 => some (ltI y4 0)) else some false).bind fun b5 =>
  some (bif b5 then (ltI 0 f1.1) else false)

def r_spec_vaForm (f1 : (Int × Int × Int)) : Option Bool :=
  (r_spec_foDefinite f1).bind fun y2 =>
  (bif y2 then ((r_spec_foDisc f1).bind fun y4 => some (leI (-2000) y4)) else some false).bind fun b5 =>
  some b5

def r_spec_l1Most (a1 : Int) (b2 : Int) : Option Int :=
  bif (ltI b2 a1) then
    (
      some a1
    )
  else
    (
      some b2
    )

def r_spec_l1Abs (vn1 : Int) : Option Int :=
  (r_spec_l1Most vn1 (w64 (0 - vn1))).bind fun y2 =>
  some y2

def r_spec_nuGcd_L7 : Nat → Int → Int → Option Int
  | 0, _, _ => none
  | n + 1, a5, b6 =>
    bif (!eqI b6 0) then
      (
        (nz b6).bind fun z10 =>
        sI (Int.tmod a5 b6) fun b11 =>
        r_spec_nuGcd_L7 n b6 b11
      )
    else
      (
        some a5
      )
def r_spec_nuGcd (a1 : Int) (b2 : Int) : Option Int :=
  (r_spec_l1Abs a1).bind fun y3 =>
  (r_spec_l1Abs b2).bind fun y4 =>
  (r_spec_nuGcd_L7 FU y3 y4).bind fun o8 =>
  some o8

def r_spec_foContent (f1 : (Int × Int × Int)) : Option Int :=
  (r_spec_nuGcd f1.1 f1.2.1).bind fun y2 =>
  (r_spec_nuGcd y2 f1.2.2).bind fun y3 =>
  some y3

def r_spec_coGood (f1 : (Int × Int × Int)) : Option Bool :=
  (r_spec_vaForm f1).bind fun y2 =>
  (bif y2 then ((r_spec_foContent f1).bind fun y4 => some (eqI y4 1)) else some false).bind fun b5 =>
  some b5

def r_spec_nuPrime_L4 (vn1 : Int) : Nat → Int → Option (Unit ⊕ Bool)
  | 0, _ => none
  | n + 1, d3 =>
    bif (leI (w64 (d3 * d3)) vn1) then
      (
        (nz d3).bind fun z7 =>
        bif (eqI (Int.tmod vn1 d3) 0) then
          (
            some (.inr false)
          )
        else
          (
            sI (w64 (d3 + 1)) fun d9 =>
            r_spec_nuPrime_L4 vn1 n d9
          )
      )
    else
      (
        some (.inl ())
      )
def r_spec_nuPrime (vn1 : Int) : Option Bool :=
  bif (ltI vn1 2) then
    (
      some false
    )
  else
    (
      (r_spec_nuPrime_L4 vn1 FU 2).bind fun qo5 =>
      match qo5 with
      | .inr r => some r
      | .inl o5 =>
        some true
    )

def r_spec_odPrime (p1 : Int) : Option Bool :=
  (r_spec_l1In p1 2 1000).bind fun y2 =>
  (bif y2 then ((r_spec_nuPrime p1).bind fun y4 => some y4) else some false).bind fun b5 =>
  some b5

def r_spec_nuMod (a1 : Int) (vm2 : Int) : Option Int :=
  (nz vm2).bind fun z3 =>
  sI (Int.tmod a1 vm2) fun vr4 =>
  bif (ltI vr4 0) then
    (
      sI (w64 (vr4 + vm2)) fun vr6 =>
      some vr6
    )
  else
    (
      some vr4
    )

def r_spec_reDisc (d1 : Int) : Option Bool :=
  (r_spec_l1In d1 (-2000) (-3)).bind fun y2 =>
  (bif y2 then ((r_spec_nuMod d1 4).bind fun y4 => some (ltI y4 2)) else some false).bind fun b5 =>
  some b5

def r_spec_odDown (f1 : (Int × Int × Int)) (p2 : Int) : Option Bool :=
  (r_spec_coGood f1).bind fun y3 =>
  (bif y3 then ((r_spec_odPrime p2).bind fun y5 => some y5) else some false).bind fun b6 =>
  (bif b6 then ((r_spec_foDisc f1).bind fun y8 => (nz (w64 (p2 * p2))).bind fun z9 => some (eqI (Int.tmod y8 (w64 (p2 * p2))) 0)) else some false).bind fun b10 =>
  (bif b10 then ((r_spec_foDisc f1).bind fun y12 => (nz (w64 (p2 * p2))).bind fun z13 => (r_spec_reDisc (w64 (Int.tdiv y12 (w64 (p2 * p2))))).bind fun y14 => some y14) else some false).bind fun b15 =>
  some b15

def r_spec_reIs (f1 : (Int × Int × Int)) : Option Bool :=
  (some (bif (bif (ltI (w64 (0 - f1.1)) f1.2.1) then (leI f1.2.1 f1.1) else false) then (bif (ltI f1.1 f1.2.2) then true else (bif (eqI f1.1 f1.2.2) then (leI 0 f1.2.1) else false)) else false)).bind fun t6 =>
  some t6

def r_spec_reNormal (f1 : (Int × Int × Int)) : Option Int :=
  (r_spec_nuMod (w64 (f1.1 - f1.2.1)) (w64 (2 * f1.1))).bind fun y2 =>
  (nz (w64 (2 * f1.1))).bind fun z3 =>
  sI (w64 (Int.tdiv (w64 ((w64 (f1.1 - f1.2.1)) - y2)) (w64 (2 * f1.1)))) fun t4 =>
  some t4

def r_spec_reMove (f1 : (Int × Int × Int)) : Option (Int × Int × Int × Int) :=
  (r_spec_reNormal f1).bind fun y2 =>
  bif (!eqI y2 0) then
    (
      some ((1, y2, 0, 1))
    )
  else
    (
      (r_spec_reIs f1).bind fun y4 =>
      bif y4 then
        (
          some ((1, 0, 0, 1))
        )
      else
        (
          some ((0, -1, 1, 0))
        )
    )

def r_spec_foValue (f1 : (Int × Int × Int)) (x2 : Int) (y3 : Int) : Option Int :=
  sI (w64 ((w64 ((w64 ((w64 (f1.1 * x2)) * x2)) + (w64 ((w64 (f1.2.1 * x2)) * y3)))) + (w64 ((w64 (f1.2.2 * y3)) * y3)))) fun t4 =>
  some t4

def r_spec_foPolar (f1 : (Int × Int × Int)) (x2 : Int) (y3 : Int) (u4 : Int) (v5 : Int) : Option Int :=
  sI (w64 ((w64 ((w64 ((w64 ((w64 (2 * f1.1)) * x2)) * u4)) + (w64 (f1.2.1 * (w64 ((w64 (x2 * v5)) + (w64 (y3 * u4)))))))) + (w64 ((w64 ((w64 (2 * f1.2.2)) * y3)) * v5)))) fun t6 =>
  some t6

def r_spec_foAct (f1 : (Int × Int × Int)) (vm2 : (Int × Int × Int × Int)) : Option (Int × Int × Int) :=
  (r_spec_foValue f1 vm2.1 vm2.2.2.1).bind fun y3 =>
  (r_spec_foPolar f1 vm2.1 vm2.2.2.1 vm2.2.1 vm2.2.2.2).bind fun y4 =>
  (r_spec_foValue f1 vm2.2.1 vm2.2.2.2).bind fun y5 =>
  some ((y3, y4, y5))

def r_spec_foMul (vm1 : (Int × Int × Int × Int)) (vn2 : (Int × Int × Int × Int)) : Option (Int × Int × Int × Int) :=
  sI (w64 ((w64 (vm1.1 * vn2.1)) + (w64 (vm1.2.1 * vn2.2.2.1)))) fun f3 =>
  sI (w64 ((w64 (vm1.1 * vn2.2.1)) + (w64 (vm1.2.1 * vn2.2.2.2)))) fun f4 =>
  sI (w64 ((w64 (vm1.2.2.1 * vn2.1)) + (w64 (vm1.2.2.2 * vn2.2.2.1)))) fun f5 =>
  sI (w64 ((w64 (vm1.2.2.1 * vn2.2.1)) + (w64 (vm1.2.2.2 * vn2.2.2.2)))) fun f6 =>
  some ((f3, f4, f5, f6))

def r_spec_reReduce_L9 : Nat → Int → Int → Int → Int → Int → Int → Int → Option (Int × Int × Int × Int × Int × Int × Int)
  | 0, _, _, _, _, _, _, _ => none
  | n + 1, f2, f3, f4, f5, f6, f7, f8 =>
    (r_spec_reIs ((f6, f7, f8))).bind fun y11 =>
    bif (!y11) then
      (
        (r_spec_reMove ((f6, f7, f8))).bind fun y13 =>
        (r_spec_foAct ((f6, f7, f8)) y13).bind fun y14 =>
        (r_spec_foMul ((f2, f3, f4, f5)) y13).bind fun y15 =>
        r_spec_reReduce_L9 n y15.1 y15.2.1 y15.2.2.1 y15.2.2.2 y14.1 y14.2.1 y14.2.2
      )
    else
      (
        some (f2, f3, f4, f5, f6, f7, f8)
      )
def r_spec_reReduce (f1 : (Int × Int × Int)) : Option (((Int × Int × Int)) × ((Int × Int × Int × Int))) :=
  (r_spec_reReduce_L9 FU 1 0 0 1 f1.1 f1.2.1 f1.2.2).bind fun o10 =>
  some ((o10.2.2.2.2, (o10.1, o10.2.1, o10.2.2.1, o10.2.2.2.1)))

def r_spec_coPoint_L12 (a2 : Int) (g1 : (Int × Int × Int)) (k3 : Int) (x7 : Int) : Nat → Int → Option (Unit ⊕ (Int × Int))
  | 0, _ => none
  | n + 1, y11 =>
    bif (leI y11 k3) then
      (
        (r_spec_l1Most x7 y11).bind fun y15 =>
        (bif (eqI y15 k3) then ((r_spec_nuGcd x7 y11).bind fun y17 => some (eqI y17 1)) else some false).bind fun b18 =>
        (bif b18 then ((r_spec_foValue g1 x7 y11).bind fun y20 => (r_spec_nuGcd y20 a2).bind fun y21 => some (eqI y21 1)) else some false).bind fun b22 =>
        bif b22 then
          (
            some (.inr (((x7, y11))))
          )
        else
          (
            sI (w64 (y11 + 1)) fun y24 =>
            r_spec_coPoint_L12 a2 g1 k3 x7 n y24
          )
      )
    else
      (
        some (.inl ())
      )
def r_spec_coPoint_L8 (a2 : Int) (g1 : (Int × Int × Int)) (k3 : Int) : Nat → Int → Option (Unit ⊕ (Int × Int))
  | 0, _ => none
  | n + 1, x7 =>
    bif (leI x7 k3) then
      (
        (r_spec_coPoint_L12 a2 g1 k3 x7 FU 0).bind fun qo13 =>
        match qo13 with
        | .inr r => some (.inr r)
        | .inl o13 =>
          sI (w64 (x7 + 1)) fun x25 =>
          r_spec_coPoint_L8 a2 g1 k3 n x25
      )
    else
      (
        some (.inl ())
      )
def r_spec_coPoint_L4 (a2 : Int) (g1 : (Int × Int × Int)) : Nat → Int → Option (Unit ⊕ (Int × Int))
  | 0, _ => none
  | n + 1, k3 =>
    bif (leI k3 100) then
      (
        (r_spec_coPoint_L8 a2 g1 k3 FU 0).bind fun qo9 =>
        match qo9 with
        | .inr r => some (.inr r)
        | .inl o9 =>
          sI (w64 (k3 + 1)) fun k26 =>
          r_spec_coPoint_L4 a2 g1 n k26
      )
    else
      (
        some (.inl ())
      )
def r_spec_coPoint (g1 : (Int × Int × Int)) (a2 : Int) : Option (Int × Int) :=
  (r_spec_coPoint_L4 a2 g1 FU 1).bind fun qo5 =>
  match qo5 with
  | .inr r => some r
  | .inl o5 =>
    some ((1, 0))

def r_spec_l1Sign (vn1 : Int) : Option Int :=
  bif (ltI 0 vn1) then
    (
      some 1
    )
  else
    (
      bif (ltI vn1 0) then
        (
          some (-1)
        )
      else
        (
          some 0
        )
    )

def r_spec_nuInverse_L8 (vm2 : Int) : Nat → Int → Int → Int → Int → Option (Int × Int)
  | 0, _, _, _, _ => none
  | n + 1, vr4, next5, x6, y7 =>
    bif (!eqI next5 0) then
      (
        (nz next5).bind fun z11 =>
        sI (w64 (Int.tdiv vr4 next5)) fun q12 =>
        sI (w64 (vr4 - (w64 (q12 * next5)))) fun next13 =>
        sI (w64 (x6 - (w64 (q12 * y7)))) fun y14 =>
        r_spec_nuInverse_L8 vm2 n next5 next13 y7 y14
      )
    else
      (
        some (vr4, x6)
      )
def r_spec_nuInverse (a1 : Int) (vm2 : Int) : Option Int :=
  (r_spec_nuMod a1 vm2).bind fun y3 =>
  (r_spec_nuInverse_L8 vm2 FU vm2 y3 0 1).bind fun o9 =>
  bif (!eqI o9.1 1) then
    (
      some (-1)
    )
  else
    (
      (r_spec_nuMod o9.2 vm2).bind fun y16 =>
      some y16
    )

def r_spec_nuBezout (a1 : Int) (b2 : Int) : Option (Int × Int × Int) :=
  (r_spec_nuGcd a1 b2).bind fun y3 =>
  bif (eqI b2 0) then
    (
      (r_spec_l1Sign a1).bind fun y5 =>
      some ((y3, y5, 0))
    )
  else
    (
      (nz y3).bind fun z6 =>
      (r_spec_l1Abs b2).bind fun y7 =>
      (nz y3).bind fun z8 =>
      (r_spec_nuInverse (w64 (Int.tdiv a1 y3)) (w64 (Int.tdiv y7 y3))).bind fun y9 =>
      (nz b2).bind fun z10 =>
      sI (w64 (Int.tdiv (w64 (y3 - (w64 (a1 * y9)))) b2)) fun t11 =>
      some ((y3, y9, t11))
    )

def r_spec_vaComplete (f1 : (Int × Int × Int)) (x2 : Int) (y3 : Int) : Option (((Int × Int × Int)) × ((Int × Int × Int × Int))) :=
  (r_spec_nuBezout x2 y3).bind fun y4 =>
  (r_spec_foValue f1 x2 y3).bind fun y5 =>
  sI (w64 (0 - y4.2.2)) fun q6 =>
  (r_spec_foPolar f1 x2 y3 q6 y4.2.1).bind fun y7 =>
  (r_spec_nuMod y7 (w64 (2 * y5))).bind fun y8 =>
  (nz (w64 (2 * y5))).bind fun z9 =>
  sI (w64 (Int.tdiv (w64 (y8 - y7)) (w64 (2 * y5)))) fun t10 =>
  sI (w64 (q6 + (w64 (x2 * t10)))) fun f11 =>
  sI (w64 (y4.2.1 + (w64 (y3 * t10)))) fun f12 =>
  sI (w64 (y7 + (w64 ((w64 (2 * y5)) * t10)))) fun b13 =>
  (r_spec_foDisc f1).bind fun y14 =>
  (nz (w64 (4 * y5))).bind fun z15 =>
  sI (w64 (Int.tdiv (w64 ((w64 (b13 * b13)) - y14)) (w64 (4 * y5)))) fun f16 =>
  some (((y5, b13, f16), (x2, f11, y3, f12)))

def r_spec_coShift (t1 : Int) : Option (Int × Int × Int × Int) :=
  some ((1, t1, 0, 1))

def r_spec_foDet (vm1 : (Int × Int × Int × Int)) : Option Int :=
  sI (w64 ((w64 (vm1.1 * vm1.2.2.2)) - (w64 (vm1.2.1 * vm1.2.2.1)))) fun t2 =>
  some t2

def r_spec_foInverse (vm1 : (Int × Int × Int × Int)) : Option (Int × Int × Int × Int) :=
  (r_spec_foDet vm1).bind fun y2 =>
  sI (w64 (y2 * vm1.2.2.2)) fun f3 =>
  sI (w64 ((w64 (0 - y2)) * vm1.2.1)) fun f4 =>
  sI (w64 ((w64 (0 - y2)) * vm1.2.2.1)) fun f5 =>
  sI (w64 (y2 * vm1.1)) fun f6 =>
  some ((f3, f4, f5, f6))

def r_spec_odDescend_L8 (p2 : Int) (y5 : (((Int × Int × Int)) × ((Int × Int × Int × Int)))) (y6 : (Int × Int × Int × Int)) : Nat → Int → Option (Unit ⊕ (((Int × Int × Int)) × ((Int × Int × Int × Int))))
  | 0, _ => none
  | n + 1, t7 =>
    bif (ltI t7 p2) then
      (
        (r_spec_coShift t7).bind fun y11 =>
        (r_spec_foAct y5.1 y11).bind fun y12 =>
        (nz p2).bind fun z13 =>
        (bif (!eqI (Int.tmod y12.2.1 p2) 0) then some true else ((nz (w64 (p2 * p2))).bind fun z15 => some (!eqI (Int.tmod y12.2.2 (w64 (p2 * p2))) 0))).bind fun b16 =>
        bif b16 then
          (
            sI (w64 (t7 + 1)) fun t18 =>
            r_spec_odDescend_L8 p2 y5 y6 n t18
          )
        else
          (
            (nz p2).bind fun z19 =>
            (nz (w64 (p2 * p2))).bind fun z20 =>
            (r_spec_reReduce ((y12.1, w64 (Int.tdiv y12.2.1 p2), w64 (Int.tdiv y12.2.2 (w64 (p2 * p2)))))).bind fun y21 =>
            (r_spec_coShift t7).bind fun y22 =>
            (r_spec_foMul y6 y22).bind fun y23 =>
            (r_spec_foInverse y21.2).bind fun y24 =>
            (r_spec_foMul y24 ((1, 0, 0, p2))).bind fun y25 =>
            (r_spec_foInverse y23).bind fun y26 =>
            (r_spec_foMul y25 y26).bind fun y27 =>
            some (.inr (((y21.1, y27))))
          )
      )
    else
      (
        some (.inl ())
      )
def r_spec_odDescend (f1 : (Int × Int × Int)) (p2 : Int) : Option (((Int × Int × Int)) × ((Int × Int × Int × Int))) :=
  (r_spec_reReduce f1).bind fun y3 =>
  (r_spec_coPoint y3.1 p2).bind fun y4 =>
  (r_spec_vaComplete y3.1 y4.1 y4.2).bind fun y5 =>
  (r_spec_foMul y3.2 y5.2).bind fun y6 =>
  (r_spec_odDescend_L8 p2 y5 y6 FU 0).bind fun qo9 =>
  match qo9 with
  | .inr r => some r
  | .inl o9 =>
    some (((0, 0, 0), (0, 0, 0, 0)))

def r_spec_DescendForm (f1 : (Int × Int × Int)) (p2 : Int) : Option (((Int × Int × Int)) × Bool) :=
  (r_spec_odDown f1 p2).bind fun y3 =>
  bif (!y3) then
    (
      some (((0, 0, 0), false))
    )
  else
    (
      (r_spec_odDescend f1 p2).bind fun y5 =>
      some ((y5.1, true))
    )

def r_impl_areNumbers_L3 (list1 : List Int) : Nat → Int → Option (Unit ⊕ Bool)
  | 0, _ => none
  | n + 1, t2 =>
    bif (ltI t2 ((list1.length : Int))) then
      (
        (getI list1 t2).bind fun e6 =>
        bif (bif (ltI e6 (-1000000)) then true else (ltI 1000000 e6)) then
          (
            some (.inr false)
          )
        else
          (
            sI (w64 (t2 + 1)) fun t9 =>
            r_impl_areNumbers_L3 list1 n t9
          )
      )
    else
      (
        some (.inl ())
      )
def r_impl_areNumbers (list1 : List Int) : Option Bool :=
  (r_impl_areNumbers_L3 list1 FU 0).bind fun qo4 =>
  match qo4 with
  | .inr r => some r
  | .inl o4 =>
    some true

def r_impl_IsForm (f1 : (Int × Int × Int)) : Option Bool :=
  (r_impl_areNumbers ([f1.1, f1.2.1, f1.2.2])).bind fun y2 =>
  some y2

def r_impl_Form_disc (f1 : (Int × Int × Int)) : Option Int :=
  sI (w64 ((w64 (f1.2.1 * f1.2.1)) - (w64 ((w64 (4 * f1.1)) * f1.2.2)))) fun t2 =>
  some t2

def r_impl_isDefinite (f1 : (Int × Int × Int)) : Option Bool :=
  (r_impl_IsForm f1).bind fun y2 =>
  (bif y2 then ((r_impl_Form_disc f1).bind fun y4 => some (ltI y4 0)) else some false).bind fun b5 =>
  some (bif b5 then (ltI 0 f1.1) else false)

def r_impl_isShownForm (f1 : (Int × Int × Int)) : Option Bool :=
  (r_impl_isDefinite f1).bind fun y2 =>
  (bif y2 then ((r_impl_Form_disc f1).bind fun y4 => some (leI (-2000) y4)) else some false).bind fun b5 =>
  some b5

def r_impl_abs (vn1 : Int) : Option Int :=
  sI (mxI vn1 (w64 (0 - (mxI vn1 (-9223372036854775807))))) fun t2 =>
  some t2

def r_impl_gcd_L5 : Nat → Int → Int → Option Int
  | 0, _, _ => none
  | n + 1, a3, b4 =>
    bif (!eqI b4 0) then
      (
        (nz b4).bind fun z8 =>
        sI (Int.tmod a3 b4) fun b9 =>
        r_impl_gcd_L5 n b4 b9
      )
    else
      (
        some a3
      )
def r_impl_gcd (a1 : Int) (b2 : Int) : Option Int :=
  (r_impl_gcd_L5 FU a1 b2).bind fun o6 =>
  (r_impl_abs o6).bind fun y10 =>
  some y10

def r_impl_Form_content (f1 : (Int × Int × Int)) : Option Int :=
  (r_impl_gcd f1.2.1 f1.2.2).bind fun y2 =>
  (r_impl_gcd f1.1 y2).bind fun y3 =>
  some y3

def r_impl_isClassForm (f1 : (Int × Int × Int)) : Option Bool :=
  (r_impl_isShownForm f1).bind fun y2 =>
  (bif y2 then ((r_impl_Form_content f1).bind fun y4 => some (eqI y4 1)) else some false).bind fun b5 =>
  some b5

def r_impl_isPrime_L4 (vn1 : Int) : Nat → Int → Option (Unit ⊕ Bool)
  | 0, _ => none
  | n + 1, p3 =>
    bif (leI (w64 (p3 * p3)) vn1) then
      (
        (nz p3).bind fun z7 =>
        bif (eqI (Int.tmod vn1 p3) 0) then
          (
            some (.inr false)
          )
        else
          (
            sI (w64 (p3 + 1)) fun p9 =>
            r_impl_isPrime_L4 vn1 n p9
          )
      )
    else
      (
        some (.inl ())
      )
def r_impl_isPrime (vn1 : Int) : Option Bool :=
  bif (ltI vn1 2) then
    (
      some false
    )
  else
    (
      (r_impl_isPrime_L4 vn1 FU 2).bind fun qo5 =>
      match qo5 with
      | .inr r => some r
      | .inl o5 =>
        some true
    )

def r_impl_IsPrime (vn1 : Int) : Option Bool :=
  (r_impl_areNumbers ([vn1])).bind fun y2 =>
  (bif y2 then ((r_impl_isPrime vn1).bind fun y4 => some y4) else some false).bind fun b5 =>
  some b5

def r_impl_mod (a1 : Int) (vm2 : Int) : Option Int :=
  (nz vm2).bind fun z3 =>
  sI (Int.tmod a1 vm2) fun vr4 =>
  bif (ltI vr4 0) then
    (
      sI (w64 (vr4 + vm2)) fun vr6 =>
      some vr6
    )
  else
    (
      some vr4
    )

def r_impl_isNegativeDisc (d1 : Int) : Option Bool :=
  (bif (bif (leI (-2000) d1) then (leI d1 (-3)) else false) then ((r_impl_mod d1 4).bind fun y4 => some (leI y4 1)) else some false).bind fun b5 =>
  some b5

def r_impl_canDescend (f1 : (Int × Int × Int)) (p2 : Int) : Option Bool :=
  (r_impl_isClassForm f1).bind fun y3 =>
  (bif (!y3) then some true else ((r_impl_IsPrime p2).bind fun y5 => some (!y5))).bind fun b6 =>
  bif (bif b6 then true else (ltI 2000 p2)) then
    (
      some false
    )
  else
    (
      (r_impl_Form_disc f1).bind fun y9 =>
      (nz (w64 (p2 * p2))).bind fun z10 =>
      (bif (eqI (Int.tmod y9 (w64 (p2 * p2))) 0) then ((r_impl_Form_disc f1).bind fun y12 => (nz (w64 (p2 * p2))).bind fun z13 => (r_impl_isNegativeDisc (w64 (Int.tdiv y12 (w64 (p2 * p2))))).bind fun y14 => some y14) else some false).bind fun b15 =>
      some b15
    )

def r_impl_one : Option (Int × Int × Int × Int) :=
  some ((1, 0, 0, 1))

def r_impl_Form_isNormal (f1 : (Int × Int × Int)) : Option Bool :=
  (some (bif (ltI (w64 (0 - f1.1)) f1.2.1) then (leI f1.2.1 f1.1) else false)).bind fun t3 =>
  some t3

def r_impl_Form_isReduced (f1 : (Int × Int × Int)) : Option Bool :=
  (r_impl_Form_isNormal f1).bind fun y2 =>
  (some (bif y2 then (bif (ltI f1.1 f1.2.2) then true else (bif (eqI f1.1 f1.2.2) then (leI 0 f1.2.1) else false)) else false)).bind fun t6 =>
  some t6

def r_impl_floorDiv (a1 : Int) (vm2 : Int) : Option Int :=
  (r_impl_mod a1 vm2).bind fun y3 =>
  (nz vm2).bind fun z4 =>
  sI (w64 (Int.tdiv (w64 (a1 - y3)) vm2)) fun t5 =>
  some t5

def r_impl_Form_step (f1 : (Int × Int × Int)) : Option (Int × Int × Int × Int) :=
  (r_impl_Form_isReduced f1).bind fun y2 =>
  bif y2 then
    (
      (r_impl_one).bind fun y4 =>
      some y4
    )
  else
    (
      (r_impl_Form_isNormal f1).bind fun y5 =>
      bif (!y5) then
        (
          (r_impl_floorDiv (w64 (f1.1 - f1.2.1)) (w64 (2 * f1.1))).bind fun y7 =>
          some ((1, y7, 0, 1))
        )
      else
        (
          some ((0, -1, 1, 0))
        )
    )

def r_impl_Form_at (f1 : (Int × Int × Int)) (x2 : Int) (y3 : Int) : Option Int :=
  sI (w64 ((w64 ((w64 ((w64 (f1.1 * x2)) * x2)) + (w64 ((w64 (f1.2.1 * x2)) * y3)))) + (w64 ((w64 (f1.2.2 * y3)) * y3)))) fun t4 =>
  some t4

def r_impl_Form_polar (f1 : (Int × Int × Int)) (x2 : Int) (y3 : Int) (u4 : Int) (v5 : Int) : Option Int :=
  sI (w64 ((w64 ((w64 ((w64 ((w64 (2 * f1.1)) * x2)) * u4)) + (w64 (f1.2.1 * (w64 ((w64 (x2 * v5)) + (w64 (y3 * u4)))))))) + (w64 ((w64 ((w64 (2 * f1.2.2)) * y3)) * v5)))) fun t6 =>
  some t6

def r_impl_Form_substitute (f1 : (Int × Int × Int)) (vm2 : (Int × Int × Int × Int)) : Option (Int × Int × Int) :=
  (r_impl_Form_at f1 vm2.1 vm2.2.2.1).bind fun y3 =>
  (r_impl_Form_polar f1 vm2.1 vm2.2.2.1 vm2.2.1 vm2.2.2.2).bind fun y4 =>
  (r_impl_Form_at f1 vm2.2.1 vm2.2.2.2).bind fun y5 =>
  some ((y3, y4, y5))

def r_impl_Matrix_times (vm1 : (Int × Int × Int × Int)) (vn2 : (Int × Int × Int × Int)) : Option (Int × Int × Int × Int) :=
  sI (w64 ((w64 (vm1.1 * vn2.1)) + (w64 (vm1.2.1 * vn2.2.2.1)))) fun f3 =>
  sI (w64 ((w64 (vm1.1 * vn2.2.1)) + (w64 (vm1.2.1 * vn2.2.2.2)))) fun f4 =>
  sI (w64 ((w64 (vm1.2.2.1 * vn2.1)) + (w64 (vm1.2.2.2 * vn2.2.2.1)))) fun f5 =>
  sI (w64 ((w64 (vm1.2.2.1 * vn2.2.1)) + (w64 (vm1.2.2.2 * vn2.2.2.2)))) fun f6 =>
  some ((f3, f4, f5, f6))

def r_impl_reduce_L10 : Nat → Int → Int → Int → Int → Int → Int → Int → Option (Int × Int × Int × Int × Int × Int × Int)
  | 0, _, _, _, _, _, _, _ => none
  | n + 1, f3, f4, f5, f6, f7, f8, f9 =>
    (r_impl_Form_isReduced ((f7, f8, f9))).bind fun y12 =>
    bif (!y12) then
      (
        (r_impl_Form_step ((f7, f8, f9))).bind fun y14 =>
        (r_impl_Form_substitute ((f7, f8, f9)) y14).bind fun y15 =>
        (r_impl_Matrix_times ((f3, f4, f5, f6)) y14).bind fun y16 =>
        r_impl_reduce_L10 n y16.1 y16.2.1 y16.2.2.1 y16.2.2.2 y15.1 y15.2.1 y15.2.2
      )
    else
      (
        some (f3, f4, f5, f6, f7, f8, f9)
      )
def r_impl_reduce (f1 : (Int × Int × Int)) : Option (((Int × Int × Int)) × ((Int × Int × Int × Int))) :=
  (r_impl_one).bind fun y2 =>
  (r_impl_reduce_L10 FU y2.1 y2.2.1 y2.2.2.1 y2.2.2.2 f1.1 f1.2.1 f1.2.2).bind fun o11 =>
  some ((o11.2.2.2.2, (o11.1, o11.2.1, o11.2.2.1, o11.2.2.2.1)))

def r_impl_firstPoint_L11 (a2 : Int) (g1 : (Int × Int × Int)) (size3 : Int) (x6 : Int) : Nat → Int → Option (Unit ⊕ (Int × Int))
  | 0, _ => none
  | n + 1, y10 =>
    bif (leI y10 size3) then
      (
        (bif (eqI (mxI x6 y10) size3) then ((r_impl_gcd x6 y10).bind fun y15 => some (eqI y15 1)) else some false).bind fun b16 =>
        (bif b16 then ((r_impl_Form_at g1 x6 y10).bind fun y18 => (r_impl_gcd y18 a2).bind fun y19 => some (eqI y19 1)) else some false).bind fun b20 =>
        bif b20 then
          (
            some (.inr (((x6, y10))))
          )
        else
          (
            sI (w64 (y10 + 1)) fun y22 =>
            r_impl_firstPoint_L11 a2 g1 size3 x6 n y22
          )
      )
    else
      (
        some (.inl ())
      )
def r_impl_firstPoint_L7 (a2 : Int) (g1 : (Int × Int × Int)) (size3 : Int) : Nat → Int → Option (Unit ⊕ (Int × Int))
  | 0, _ => none
  | n + 1, x6 =>
    bif (leI x6 size3) then
      (
        (r_impl_firstPoint_L11 a2 g1 size3 x6 FU 0).bind fun qo12 =>
        match qo12 with
        | .inr r => some (.inr r)
        | .inl o12 =>
          sI (w64 (x6 + 1)) fun x23 =>
          r_impl_firstPoint_L7 a2 g1 size3 n x23
      )
    else
      (
        some (.inl ())
      )
def r_impl_firstPoint_L4 (a2 : Int) (g1 : (Int × Int × Int)) : Nat → Int → Option (Unit ⊕ (Int × Int))
  | 0, _ => none
  | n + 1, size3 =>
    (r_impl_firstPoint_L7 a2 g1 size3 FU 0).bind fun qo8 =>
    match qo8 with
    | .inr r => some (.inr r)
    | .inl o8 =>
      sI (w64 (size3 + 1)) fun size24 =>
      r_impl_firstPoint_L4 a2 g1 n size24
def r_impl_firstPoint (g1 : (Int × Int × Int)) (a2 : Int) : Option (Int × Int) :=
  (r_impl_firstPoint_L4 a2 g1 FU 0).bind fun qo5 =>
  match qo5 with
  | .inr r => some r
  | .inl _ => none

def r_impl_inverse_L8 (vm2 : Int) : Nat → Int → Int → Int → Int → Option Int
  | 0, _, _, _, _ => none
  | n + 1, x4, y5, vr6, vs7 =>
    bif (!eqI vs7 0) then
      (
        (nz vs7).bind fun z11 =>
        sI (w64 (Int.tdiv vr6 vs7)) fun q12 =>
        sI (w64 (vr6 - (w64 (q12 * vs7)))) fun vs13 =>
        sI (w64 (x4 - (w64 (q12 * y5)))) fun y14 =>
        r_impl_inverse_L8 vm2 n y5 y14 vs7 vs13
      )
    else
      (
        some x4
      )
def r_impl_inverse (a1 : Int) (vm2 : Int) : Option Int :=
  (r_impl_mod a1 vm2).bind fun y3 =>
  (r_impl_inverse_L8 vm2 FU 1 0 y3 vm2).bind fun o9 =>
  (r_impl_mod o9 vm2).bind fun y15 =>
  some y15

def r_impl_Form_complete (f1 : (Int × Int × Int)) (x2 : Int) (y3 : Int) : Option (((Int × Int × Int)) × ((Int × Int × Int × Int))) :=
  (
    bif (eqI y3 0) then
      (
        some (0, x2)
      )
    else
      (
        (r_impl_abs y3).bind fun y6 =>
        (r_impl_inverse x2 y6).bind fun y7 =>
        (nz y3).bind fun z8 =>
        sI (w64 (Int.tdiv (w64 ((w64 (x2 * y7)) - 1)) y3)) fun f9 =>
        some (f9, y7)
      )
  ).bind fun j4 =>
  (r_impl_Form_substitute f1 ((x2, j4.1, y3, j4.2))).bind fun y10 =>
  (r_impl_floorDiv y10.2.1 (w64 (2 * y10.1))).bind fun y11 =>
  sI (w64 (0 - y11)) fun t12 =>
  sI (w64 (j4.1 + (w64 (t12 * x2)))) fun f13 =>
  sI (w64 (j4.2 + (w64 (t12 * y3)))) fun f14 =>
  (r_impl_Form_substitute f1 ((x2, f13, y3, f14))).bind fun y15 =>
  some ((y15, (x2, f13, y3, f14)))

def r_impl_Matrix_det (vm1 : (Int × Int × Int × Int)) : Option Int :=
  sI (w64 ((w64 (vm1.1 * vm1.2.2.2)) - (w64 (vm1.2.1 * vm1.2.2.1)))) fun t2 =>
  some t2

def r_impl_Matrix_inverse (vm1 : (Int × Int × Int × Int)) : Option (Int × Int × Int × Int) :=
  (r_impl_Matrix_det vm1).bind fun y2 =>
  sI (w64 (y2 * vm1.2.2.2)) fun f3 =>
  sI (w64 ((w64 (0 - y2)) * vm1.2.1)) fun f4 =>
  sI (w64 ((w64 (0 - y2)) * vm1.2.2.1)) fun f5 =>
  sI (w64 (y2 * vm1.1)) fun f6 =>
  some ((f3, f4, f5, f6))

def r_impl_descend_L11 (p2 : Int) (y3 : (((Int × Int × Int)) × ((Int × Int × Int × Int)))) (y5 : (((Int × Int × Int)) × ((Int × Int × Int × Int)))) (y6 : (Int × Int × Int × Int)) : Nat → Int → Int → Int → Int → Option (Int × Int × Int × Int)
  | 0, _, _, _, _ => none
  | n + 1, f7, f8, f9, f10 =>
    (nz p2).bind fun z13 =>
    (bif (!eqI (Int.tmod f9 p2) 0) then some true else ((nz (w64 (p2 * p2))).bind fun z15 => some (!eqI (Int.tmod f10 (w64 (p2 * p2))) 0))).bind fun b16 =>
    bif b16 then
      (
        sI (w64 (f7 + 1)) fun f18 =>
        (r_impl_Form_substitute y5.1 ((y6.1, f18, y6.2.2.1, y6.2.2.2))).bind fun y19 =>
        r_impl_descend_L11 p2 y3 y5 y6 n f18 y19.1 y19.2.1 y19.2.2
      )
    else
      (
        some (f7, f8, f9, f10)
      )
def r_impl_descend (f1 : (Int × Int × Int)) (p2 : Int) : Option (((Int × Int × Int)) × ((Int × Int × Int × Int))) :=
  (r_impl_reduce f1).bind fun y3 =>
  (r_impl_firstPoint y3.1 p2).bind fun y4 =>
  (r_impl_Form_complete y3.1 y4.1 y4.2).bind fun y5 =>
  (r_impl_one).bind fun y6 =>
  (r_impl_descend_L11 p2 y3 y5 y6 FU y6.2.1 y5.1.1 y5.1.2.1 y5.1.2.2).bind fun o12 =>
  (nz p2).bind fun z20 =>
  (nz (w64 (p2 * p2))).bind fun z21 =>
  (r_impl_reduce ((o12.2.1, w64 (Int.tdiv o12.2.2.1 p2), w64 (Int.tdiv o12.2.2.2 (w64 (p2 * p2)))))).bind fun y22 =>
  (r_impl_Matrix_times y3.2 y5.2).bind fun y23 =>
  (r_impl_Matrix_times y23 ((y6.1, o12.1, y6.2.2.1, y6.2.2.2))).bind fun y24 =>
  (r_impl_Matrix_inverse y22.2).bind fun y25 =>
  (r_impl_Matrix_times y25 ((1, 0, 0, p2))).bind fun y26 =>
  (r_impl_Matrix_inverse y24).bind fun y27 =>
  (r_impl_Matrix_times y26 y27).bind fun y28 =>
  some ((y22.1, y28))

def r_impl_DescendForm (f1 : (Int × Int × Int)) (p2 : Int) : Option (((Int × Int × Int)) × Bool) :=
  (r_impl_canDescend f1 p2).bind fun y3 =>
  bif (!y3) then
    (
      some (((0, 0, 0), false))
    )
  else
    (
      (r_impl_descend f1 p2).bind fun y5 =>
      some ((y5.1, true))
    )

def r_laws_eqForm (a1 : (Int × Int × Int)) (b2 : (Int × Int × Int)) : Option Bool :=
  bif (!eqI a1.1 b2.1) then
    (
      some false
    )
  else
    (
      bif (!eqI a1.2.1 b2.2.1) then
        (
          some false
        )
      else
        (
          bif (!eqI a1.2.2 b2.2.2) then
            (
              some false
            )
          else
            (
              some true
            )
        )
    )

def r_laws_FnExactDescendForm (aF1 : (Int × Int × Int)) (aP2 : Int) : Option Bool :=
  (r_laws_toForm aF1).bind fun y3 =>
  (r_spec_DescendForm y3 aP2).bind fun y4 =>
  (r_laws_toForm aF1).bind fun y5 =>
  (r_impl_DescendForm y5 aP2).bind fun y6 =>
  (r_laws_eqForm y6.1 y4.1).bind fun y7 =>
  bif (bif (!y7) then true else (y6.2 != y4.2)) then
    (
      some false
    )
  else
    (
      some true
    )

def r_spec_foMatrix (vm1 : (Int × Int × Int × Int)) : Option Bool :=
  (r_spec_nuGood vm1.1).bind fun y2 =>
  (bif y2 then ((r_spec_nuGood vm1.2.1).bind fun y4 => some y4) else some false).bind fun b5 =>
  (bif b5 then ((r_spec_nuGood vm1.2.2.1).bind fun y7 => some y7) else some false).bind fun b8 =>
  (bif b8 then ((r_spec_nuGood vm1.2.2.2).bind fun y10 => some y10) else some false).bind fun b11 =>
  some b11

def r_spec_DescentMatrix (f1 : (Int × Int × Int)) (p2 : Int) : Option (((Int × Int × Int × Int)) × Bool) :=
  (r_spec_odDown f1 p2).bind fun y3 =>
  bif (!y3) then
    (
      some (((0, 0, 0, 0), false))
    )
  else
    (
      (r_spec_odDescend f1 p2).bind fun y5 =>
      (r_spec_foMatrix y5.2).bind fun y6 =>
      bif (!y6) then
        (
          some (((0, 0, 0, 0), false))
        )
      else
        (
          some ((y5.2, true))
        )
    )

def r_impl_IsMatrix (vm1 : (Int × Int × Int × Int)) : Option Bool :=
  (r_impl_areNumbers ([vm1.1, vm1.2.1, vm1.2.2.1, vm1.2.2.2])).bind fun y2 =>
  some y2

def r_impl_checked (vm1 : (Int × Int × Int × Int)) : Option (((Int × Int × Int × Int)) × Bool) :=
  (r_impl_IsMatrix vm1).bind fun y2 =>
  bif (!y2) then
    (
      some (((0, 0, 0, 0), false))
    )
  else
    (
      some ((vm1, true))
    )

def r_impl_DescentMatrix (f1 : (Int × Int × Int)) (p2 : Int) : Option (((Int × Int × Int × Int)) × Bool) :=
  (r_impl_canDescend f1 p2).bind fun y3 =>
  bif (!y3) then
    (
      some (((0, 0, 0, 0), false))
    )
  else
    (
      (r_impl_descend f1 p2).bind fun y5 =>
      (r_impl_checked y5.2).bind fun y6 =>
      some ((y6.1, y6.2))
    )

def r_laws_eqMatrix (a1 : (Int × Int × Int × Int)) (b2 : (Int × Int × Int × Int)) : Option Bool :=
  bif (!eqI a1.1 b2.1) then
    (
      some false
    )
  else
    (
      bif (!eqI a1.2.1 b2.2.1) then
        (
          some false
        )
      else
        (
          bif (!eqI a1.2.2.1 b2.2.2.1) then
            (
              some false
            )
          else
            (
              bif (!eqI a1.2.2.2 b2.2.2.2) then
                (
                  some false
                )
              else
                (
                  some true
                )
            )
        )
    )

def r_laws_FnExactDescentMatrix (aF1 : (Int × Int × Int)) (aP2 : Int) : Option Bool :=
  (r_laws_toForm aF1).bind fun y3 =>
  (r_spec_DescentMatrix y3 aP2).bind fun y4 =>
  (r_laws_toForm aF1).bind fun y5 =>
  (r_impl_DescentMatrix y5 aP2).bind fun y6 =>
  (r_laws_eqMatrix y6.1 y4.1).bind fun y7 =>
  bif (bif (!y7) then true else (y6.2 != y4.2)) then
    (
      some false
    )
  else
    (
      some true
    )

def r_spec_reClass (f1 : (Int × Int × Int)) : Option (Int × Int × Int) :=
  (r_spec_reReduce f1).bind fun y2 =>
  some y2.1

def r_spec_nuFactors_L10 (d3 : Int) : Nat → Int → List Int → Option (Int × (List Int))
  | 0, _, _ => none
  | n + 1, vn8, l9 =>
    (nz d3).bind fun z12 =>
    bif (eqI (Int.tmod vn8 d3) 0) then
      (
        (room (l9.length + ([d3]).length)).bind fun u14 =>
        (nz d3).bind fun z15 =>
        sI (w64 (Int.tdiv vn8 d3)) fun vn16 =>
        r_spec_nuFactors_L10 d3 n vn16 (l9 ++ ([d3]))
      )
    else
      (
        some (vn8, l9)
      )
def r_spec_nuFactors_L5 : Nat → Int → Int → List Int → Option (Int × (List Int))
  | 0, _, _, _ => none
  | n + 1, vn2, d3, l4 =>
    bif (leI (w64 (d3 * d3)) vn2) then
      (
        (r_spec_nuFactors_L10 d3 FU vn2 l4).bind fun o11 =>
        sI (w64 (d3 + 1)) fun d17 =>
        r_spec_nuFactors_L5 n o11.1 d17 o11.2
      )
    else
      (
        some (vn2, l4)
      )
def r_spec_nuFactors (vn1 : Int) : Option (List Int) :=
  (r_spec_nuFactors_L5 FU vn1 2 (([] : List Int))).bind fun o6 =>
  bif (ltI 1 o6.1) then
    (
      (room (o6.2.length + ([o6.1]).length)).bind fun u19 =>
      some (o6.2 ++ ([o6.1]))
    )
  else
    (
      some o6.2
    )

def r_spec_DescendTo_L23 (y18 : List Int) : Nat → Int → Int → Int → Int → Option (Int × Int × Int)
  | 0, _, _, _, _ => none
  | n + 1, t19, f20, f21, f22 =>
    bif (ltI t19 ((y18.length : Int))) then
      (
        (getI y18 t19).bind fun e26 =>
        (getI y18 t19).bind fun e27 =>
        (r_spec_odDescend ((f20, f21, f22)) e27).bind fun y28 =>
        sI (w64 (t19 + 1)) fun t29 =>
        r_spec_DescendTo_L23 y18 n t29 y28.1.1 y28.1.2.1 y28.1.2.2
      )
    else
      (
        some (f20, f21, f22)
      )
def r_spec_DescendTo (f1 : (Int × Int × Int)) (k2 : Int) : Option (((Int × Int × Int)) × Bool) :=
  (r_spec_coGood f1).bind fun y3 =>
  (bif (!y3) then some true else ((r_spec_l1In k2 1 1000).bind fun y5 => some (!y5))).bind fun b6 =>
  (bif b6 then some true else ((r_spec_foDisc f1).bind fun y8 => (nz (w64 (k2 * k2))).bind fun z9 => some (!eqI (Int.tmod y8 (w64 (k2 * k2))) 0))).bind fun b10 =>
  (bif b10 then some true else ((r_spec_foDisc f1).bind fun y12 => (nz (w64 (k2 * k2))).bind fun z13 => (r_spec_reDisc (w64 (Int.tdiv y12 (w64 (k2 * k2))))).bind fun y14 => some (!y14))).bind fun b15 =>
  bif b15 then
    (
      some (((0, 0, 0), false))
    )
  else
    (
      (r_spec_reClass f1).bind fun y17 =>
      (r_spec_nuFactors k2).bind fun y18 =>
      (r_spec_DescendTo_L23 y18 FU 0 y17.1 y17.2.1 y17.2.2).bind fun o24 =>
      some ((o24, true))
    )

def r_impl_reduced (f1 : (Int × Int × Int)) : Option (Int × Int × Int) :=
  (r_impl_reduce f1).bind fun y2 =>
  some y2.1

def r_impl_factors_L10 (p3 : Int) : Nat → Int → List Int → Option (Int × (List Int))
  | 0, _, _ => none
  | n + 1, vn8, l9 =>
    (nz p3).bind fun z12 =>
    bif (eqI (Int.tmod vn8 p3) 0) then
      (
        (room (l9.length + ([p3]).length)).bind fun u14 =>
        (nz p3).bind fun z15 =>
        sI (w64 (Int.tdiv vn8 p3)) fun vn16 =>
        r_impl_factors_L10 p3 n vn16 (l9 ++ ([p3]))
      )
    else
      (
        some (vn8, l9)
      )
def r_impl_factors_L5 : Nat → Int → Int → List Int → Option (Int × (List Int))
  | 0, _, _, _ => none
  | n + 1, vn2, p3, l4 =>
    bif (leI (w64 (p3 * p3)) vn2) then
      (
        (r_impl_factors_L10 p3 FU vn2 l4).bind fun o11 =>
        sI (w64 (p3 + 1)) fun p17 =>
        r_impl_factors_L5 n o11.1 p17 o11.2
      )
    else
      (
        some (vn2, l4)
      )
def r_impl_factors (vn1 : Int) : Option (List Int) :=
  (r_impl_factors_L5 FU vn1 2 (([] : List Int))).bind fun o6 =>
  bif (ltI 1 o6.1) then
    (
      (room (o6.2.length + ([o6.1]).length)).bind fun u19 =>
      some (o6.2 ++ ([o6.1]))
    )
  else
    (
      some o6.2
    )

def r_impl_DescendTo_L22 (y17 : List Int) : Nat → Int → Int → Int → Int → Option (Int × Int × Int)
  | 0, _, _, _, _ => none
  | n + 1, t18, f19, f20, f21 =>
    bif (ltI t18 ((y17.length : Int))) then
      (
        (getI y17 t18).bind fun e25 =>
        (getI y17 t18).bind fun e26 =>
        (r_impl_descend ((f19, f20, f21)) e26).bind fun y27 =>
        sI (w64 (t18 + 1)) fun t28 =>
        r_impl_DescendTo_L22 y17 n t28 y27.1.1 y27.1.2.1 y27.1.2.2
      )
    else
      (
        some (f19, f20, f21)
      )
def r_impl_DescendTo (f1 : (Int × Int × Int)) (k2 : Int) : Option (((Int × Int × Int)) × Bool) :=
  (r_impl_isClassForm f1).bind fun y3 =>
  (bif (bif (bif (!y3) then true else (ltI k2 1)) then true else (ltI 1000 k2)) then some true else ((r_impl_Form_disc f1).bind fun y7 => (nz (w64 (k2 * k2))).bind fun z8 => some (!eqI (Int.tmod y7 (w64 (k2 * k2))) 0))).bind fun b9 =>
  (bif b9 then some true else ((r_impl_Form_disc f1).bind fun y11 => (nz (w64 (k2 * k2))).bind fun z12 => (r_impl_isNegativeDisc (w64 (Int.tdiv y11 (w64 (k2 * k2))))).bind fun y13 => some (!y13))).bind fun b14 =>
  bif b14 then
    (
      some (((0, 0, 0), false))
    )
  else
    (
      (r_impl_reduced f1).bind fun y16 =>
      (r_impl_factors k2).bind fun y17 =>
      (r_impl_DescendTo_L22 y17 FU 0 y16.1 y16.2.1 y16.2.2).bind fun o23 =>
      some ((o23, true))
    )

def r_laws_FnExactDescendTo (aF1 : (Int × Int × Int)) (aK2 : Int) : Option Bool :=
  (r_laws_toForm aF1).bind fun y3 =>
  (r_spec_DescendTo y3 aK2).bind fun y4 =>
  (r_laws_toForm aF1).bind fun y5 =>
  (r_impl_DescendTo y5 aK2).bind fun y6 =>
  (r_laws_eqForm y6.1 y4.1).bind fun y7 =>
  bif (bif (!y7) then true else (y6.2 != y4.2)) then
    (
      some false
    )
  else
    (
      some true
    )

end Go.Proofs.Ytdffhgibkeifmaa
