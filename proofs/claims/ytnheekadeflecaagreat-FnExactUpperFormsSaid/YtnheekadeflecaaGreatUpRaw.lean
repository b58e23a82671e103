/-
  What the functions of the program compute, as plain functions.
  Conditions: none.
-/
import Derived.Test.YtnheekadeflecaaGreatShRs
import Derived.Lib.BitFns

namespace Go.Proofs.YtnheekadeflecaaGreat

set_option linter.unusedVariables false

def r_laws_toForm (a1 : (Int × Int × Int)) : Option (Int × Int × Int) :=
  some a1

def r_spec_l1In (vn1 : Int) (lo2 : Int) (hi3 : Int) : Option Bool :=
  some (bif (leI lo2 vn1) then (leI vn1 hi3) else false)

def r_spec_nuGood (vn1 : Int) : Option Bool :=
  (r_spec_l1In vn1 (-1000000) 1000000).bind fun y2 =>
  some y2

def r_spec_foGood (f1 : (Int × Int × Int)) : Option Bool :=
  (r_spec_nuGood f1.1).bind fun y2 =>
  (bif y2 then ((r_spec_nuGood f1.2.1).bind fun y4 => some y4) else some false).bind fun b5 =>
  (bif b5 then ((r_spec_nuGood f1.2.2).bind fun y7 => some y7) else some false).bind fun b8 =>
  some b8

def r_spec_foDisc (f1 : (Int × Int × Int)) : Option Int :=
  sI (w64 ((w64 (f1.2.1 * f1.2.1)) - (w64 ((w64 (4 * f1.1)) * f1.2.2)))) fun t2 =>
  some t2

def r_spec_foDefinite (f1 : (Int × Int × Int)) : Option Bool :=
  (r_spec_foGood f1).bind fun y2 =>
  (bif y2 then ((r_spec_foDisc f1).bind fun y4 => some (ltI y4 0)) else some false).bind fun b5 =>
  some (bif b5 then (ltI 0 f1.1) else false)

def r_spec_vaForm (f1 : (Int × Int × Int)) : Option Bool :=
  (r_spec_foDefinite f1).bind fun y2 =>
  (bif y2 then ((r_spec_foDisc f1).bind fun y4 => some (leI (-2000) y4)) else some false).bind fun b5 =>
  some b5

def r_spec_l1Most (a1 : Int) (b2 : Int) : Option Int :=
  bif (ltI b2 a1) then
    (
      some a1
    )
  else
    (
      some b2
    )

def r_spec_l1Abs (vn1 : Int) : Option Int :=
  (r_spec_l1Most vn1 (w64 (0 - vn1))).bind fun y2 =>
  some y2

def r_spec_nuGcd_L7 : Nat → Int → Int → Option Int
  | 0, _, _ => none
  | n + 1, a5, b6 =>
    bif (!eqI b6 0) then
      (
        (nz b6).bind fun z10 =>
        sI (Int.tmod a5 b6) fun b11 =>
        r_spec_nuGcd_L7 n b6 b11
      )
    else
      (
        some a5
      )
def r_spec_nuGcd (a1 : Int) (b2 : Int) : Option Int :=
  (r_spec_l1Abs a1).bind fun y3 =>
  (r_spec_l1Abs b2).bind fun y4 =>
  (r_spec_nuGcd_L7 FU y3 y4).bind fun o8 =>
  some o8

def r_spec_foContent (f1 : (Int × Int × Int)) : Option Int :=
  (r_spec_nuGcd f1.1 f1.2.1).bind fun y2 =>
  (r_spec_nuGcd y2 f1.2.2).bind fun y3 =>
  some y3

def r_spec_coGood (f1 : (Int × Int × Int)) : Option Bool :=
  (r_spec_vaForm f1).bind fun y2 =>
  (bif y2 then ((r_spec_foContent f1).bind fun y4 => some (eqI y4 1)) else some false).bind fun b5 =>
  some b5

def r_spec_nuMod (a1 : Int) (vm2 : Int) : Option Int :=
  (nz vm2).bind fun z3 =>
  sI (Int.tmod a1 vm2) fun vr4 =>
  bif (ltI vr4 0) then
    (
      sI (w64 (vr4 + vm2)) fun vr6 =>
      some vr6
    )
  else
    (
      some vr4
    )

def r_spec_reDisc (d1 : Int) : Option Bool :=
  (r_spec_l1In d1 (-2000) (-3)).bind fun y2 =>
  (bif y2 then ((r_spec_nuMod d1 4).bind fun y4 => some (ltI y4 2)) else some false).bind fun b5 =>
  some b5

def r_spec_nuPrime_L4 (vn1 : Int) : Nat → Int → Option (Unit ⊕ Bool)
  | 0, _ => none
  | n + 1, d3 =>
    bif (leI (w64 (d3 * d3)) vn1) then
      (
        (nz d3).bind fun z7 =>
        bif (eqI (Int.tmod vn1 d3) 0) then
          (
            some (.inr false)
          )
        else
          (
            sI (w64 (d3 + 1)) fun d9 =>
            r_spec_nuPrime_L4 vn1 n d9
          )
      )
    else
      (
        some (.inl ())
      )
def r_spec_nuPrime (vn1 : Int) : Option Bool :=
  bif (ltI vn1 2) then
    (
      some false
    )
  else
    (
      (r_spec_nuPrime_L4 vn1 FU 2).bind fun qo5 =>
      match qo5 with
      | .inr r => some r
      | .inl o5 =>
        some true
    )

def r_spec_odPrime (p1 : Int) : Option Bool :=
  (r_spec_l1In p1 2 1000).bind fun y2 =>
  (bif y2 then ((r_spec_nuPrime p1).bind fun y4 => some y4) else some false).bind fun b5 =>
  some b5

def r_spec_odUp (d1 : Int) (p2 : Int) : Option Bool :=
  (r_spec_reDisc d1).bind fun y3 =>
  (bif y3 then ((r_spec_odPrime p2).bind fun y5 => some y5) else some false).bind fun b6 =>
  (bif b6 then ((r_spec_reDisc (w64 ((w64 (d1 * p2)) * p2))).bind fun y8 => some y8) else some false).bind fun b9 =>
  some b9

def r_spec_reIs (f1 : (Int × Int × Int)) : Option Bool :=
  (some (bif (bif (ltI (w64 (0 - f1.1)) f1.2.1) then (leI f1.2.1 f1.1) else false) then (bif (ltI f1.1 f1.2.2) then true else (bif (eqI f1.1 f1.2.2) then (leI 0 f1.2.1) else false)) else false)).bind fun t6 =>
  some t6

def r_spec_reAll_L10 (a2 : Int) (d1 : Int) : Nat → Int → List ((Int × Int × Int)) → Option (List ((Int × Int × Int)))
  | 0, _, _ => none
  | n + 1, b8, l9 =>
    bif (leI b8 a2) then
      (
        (nz (w64 (4 * a2))).bind fun z13 =>
        sI (w64 (Int.tdiv (w64 ((w64 (b8 * b8)) - d1)) (w64 (4 * a2)))) fun f14 =>
        (r_spec_foDisc ((a2, b8, f14))).bind fun y15 =>
        (bif (eqI y15 d1) then ((r_spec_reIs ((a2, b8, f14))).bind fun y17 => some y17) else some false).bind fun b18 =>
        bif b18 then
          (
            (room (l9.length + ([(a2, b8, f14)]).length)).bind fun u20 =>
            sI (w64 (b8 + 1)) fun b21 =>
            r_spec_reAll_L10 a2 d1 n b21 (l9 ++ ([(a2, b8, f14)]))
          )
        else
          (
            sI (w64 (b8 + 1)) fun b22 =>
            r_spec_reAll_L10 a2 d1 n b22 l9
          )
      )
    else
      (
        some l9
      )
def r_spec_reAll_L4 (d1 : Int) : Nat → Int → List ((Int × Int × Int)) → Option (List ((Int × Int × Int)))
  | 0, _, _ => none
  | n + 1, a2, l3 =>
    bif (leI (w64 ((w64 (3 * a2)) * a2)) (w64 (0 - d1))) then
      (
        sI (w64 (1 - a2)) fun b7 =>
        (r_spec_reAll_L10 a2 d1 FU b7 l3).bind fun o11 =>
        sI (w64 (a2 + 1)) fun a23 =>
        r_spec_reAll_L4 d1 n a23 o11
      )
    else
      (
        some l3
      )
def r_spec_reAll (d1 : Int) : Option (List ((Int × Int × Int))) :=
  (r_spec_reAll_L4 d1 FU 1 (([] : List ((Int × Int × Int))))).bind fun o5 =>
  some o5

def r_spec_reList_L5 (y2 : List ((Int × Int × Int))) : Nat → Int → List ((Int × Int × Int)) → Option (List ((Int × Int × Int)))
  | 0, _, _ => none
  | n + 1, t3, l4 =>
    bif (ltI t3 ((y2.length : Int))) then
      (
        (getI y2 t3).bind fun e8 =>
        (getI y2 t3).bind fun e9 =>
        (r_spec_foContent e9).bind fun y10 =>
        bif (eqI y10 1) then
          (
            (room (l4.length + ([e9]).length)).bind fun u12 =>
            sI (w64 (t3 + 1)) fun t13 =>
            r_spec_reList_L5 y2 n t13 (l4 ++ ([e9]))
          )
        else
          (
            sI (w64 (t3 + 1)) fun t14 =>
            r_spec_reList_L5 y2 n t14 l4
          )
      )
    else
      (
        some l4
      )
def r_spec_reList (d1 : Int) : Option (List ((Int × Int × Int))) :=
  (r_spec_reAll d1).bind fun y2 =>
  (r_spec_reList_L5 y2 FU 0 (([] : List ((Int × Int × Int))))).bind fun o6 =>
  some o6

def r_spec_nuDivisors_L5 (vn1 : Int) : Nat → Int → List Int → List Int → Option ((List Int) × (List Int))
  | 0, _, _, _ => none
  | n + 1, d2, l3, l4 =>
    bif (leI (w64 (d2 * d2)) vn1) then
      (
        (nz d2).bind fun z8 =>
        bif (!eqI (Int.tmod vn1 d2) 0) then
          (
            sI (w64 (d2 + 1)) fun d10 =>
            r_spec_nuDivisors_L5 vn1 n d10 l3 l4
          )
        else
          (
            (room (l4.length + ([d2]).length)).bind fun u11 =>
            bif (ltI (w64 (d2 * d2)) vn1) then
              (
                (nz d2).bind fun z13 =>
                (room (l3.length + ([w64 (Int.tdiv vn1 d2)]).length)).bind fun u14 =>
                sI (w64 (d2 + 1)) fun d15 =>
                r_spec_nuDivisors_L5 vn1 n d15 (l3 ++ ([w64 (Int.tdiv vn1 d2)])) (l4 ++ ([d2]))
              )
            else
              (
                sI (w64 (d2 + 1)) fun d16 =>
                r_spec_nuDivisors_L5 vn1 n d16 l3 (l4 ++ ([d2]))
              )
          )
      )
    else
      (
        some (l3, l4)
      )
def r_spec_nuDivisors_L20 (o6 : ((List Int) × (List Int))) : Nat → Int → List Int → Option (List Int)
  | 0, _, _ => none
  | n + 1, i18, l19 =>
    bif (leI 0 i18) then
      (
        (getI o6.1 i18).bind fun e23 =>
        (getI o6.1 i18).bind fun e24 =>
        (room (l19.length + ([e24]).length)).bind fun u25 =>
        sI (w64 (i18 - 1)) fun i26 =>
        r_spec_nuDivisors_L20 o6 n i26 (l19 ++ ([e24]))
      )
    else
      (
        some l19
      )
def r_spec_nuDivisors (vn1 : Int) : Option (List Int) :=
  (r_spec_nuDivisors_L5 vn1 FU 1 (([] : List Int)) (([] : List Int))).bind fun o6 =>
  sI (w64 (((o6.1.length : Int)) - 1)) fun i17 =>
  (r_spec_nuDivisors_L20 o6 FU i17 o6.2).bind fun o21 =>
  some o21

def r_spec_laAll_L12 (e9 : Int) (t3 : Int) (vn1 : Int) (y2 : List Int) : Nat → Int → List ((Int × Int × Int)) → Option (List ((Int × Int × Int)))
  | 0, _, _ => none
  | n + 1, b10, l11 =>
    bif (ltI b10 e9) then
      (
        (nz e9).bind fun z15 =>
        (room (l11.length + ([(e9, b10, w64 (Int.tdiv vn1 e9))]).length)).bind fun u16 =>
        sI (w64 (b10 + 1)) fun b17 =>
        r_spec_laAll_L12 e9 t3 vn1 y2 n b17 (l11 ++ ([(e9, b10, w64 (Int.tdiv vn1 e9))]))
      )
    else
      (
        some l11
      )
def r_spec_laAll_L5 (vn1 : Int) (y2 : List Int) : Nat → Int → List ((Int × Int × Int)) → Option (List ((Int × Int × Int)))
  | 0, _, _ => none
  | n + 1, t3, l4 =>
    bif (ltI t3 ((y2.length : Int))) then
      (
        (getI y2 t3).bind fun e8 =>
        (getI y2 t3).bind fun e9 =>
        (r_spec_laAll_L12 e9 t3 vn1 y2 FU 0 l4).bind fun o13 =>
        sI (w64 (t3 + 1)) fun t18 =>
        r_spec_laAll_L5 vn1 y2 n t18 o13
      )
    else
      (
        some l4
      )
def r_spec_laAll (vn1 : Int) : Option (List ((Int × Int × Int))) :=
  (r_spec_nuDivisors vn1).bind fun y2 =>
  (r_spec_laAll_L5 vn1 y2 FU 0 (([] : List ((Int × Int × Int))))).bind fun o6 =>
  some o6

def r_spec_reNormal (f1 : (Int × Int × Int)) : Option Int :=
  (r_spec_nuMod (w64 (f1.1 - f1.2.1)) (w64 (2 * f1.1))).bind fun y2 =>
  (nz (w64 (2 * f1.1))).bind fun z3 =>
  sI (w64 (Int.tdiv (w64 ((w64 (f1.1 - f1.2.1)) - y2)) (w64 (2 * f1.1)))) fun t4 =>
  some t4

def r_spec_reMove (f1 : (Int × Int × Int)) : Option (Int × Int × Int × Int) :=
  (r_spec_reNormal f1).bind fun y2 =>
  bif (!eqI y2 0) then
    (
      some ((1, y2, 0, 1))
    )
  else
    (
      (r_spec_reIs f1).bind fun y4 =>
      bif y4 then
        (
          some ((1, 0, 0, 1))
        )
      else
        (
          some ((0, -1, 1, 0))
        )
    )

def r_spec_foValue (f1 : (Int × Int × Int)) (x2 : Int) (y3 : Int) : Option Int :=
  sI (w64 ((w64 ((w64 ((w64 (f1.1 * x2)) * x2)) + (w64 ((w64 (f1.2.1 * x2)) * y3)))) + (w64 ((w64 (f1.2.2 * y3)) * y3)))) fun t4 =>
  some t4

def r_spec_foPolar (f1 : (Int × Int × Int)) (x2 : Int) (y3 : Int) (u4 : Int) (v5 : Int) : Option Int :=
  sI (w64 ((w64 ((w64 ((w64 ((w64 (2 * f1.1)) * x2)) * u4)) + (w64 (f1.2.1 * (w64 ((w64 (x2 * v5)) + (w64 (y3 * u4)))))))) + (w64 ((w64 ((w64 (2 * f1.2.2)) * y3)) * v5)))) fun t6 =>
  some t6

def r_spec_foAct (f1 : (Int × Int × Int)) (vm2 : (Int × Int × Int × Int)) : Option (Int × Int × Int) :=
  (r_spec_foValue f1 vm2.1 vm2.2.2.1).bind fun y3 =>
  (r_spec_foPolar f1 vm2.1 vm2.2.2.1 vm2.2.1 vm2.2.2.2).bind fun y4 =>
  (r_spec_foValue f1 vm2.2.1 vm2.2.2.2).bind fun y5 =>
  some ((y3, y4, y5))

def r_spec_foMul (vm1 : (Int × Int × Int × Int)) (vn2 : (Int × Int × Int × Int)) : Option (Int × Int × Int × Int) :=
  sI (w64 ((w64 (vm1.1 * vn2.1)) + (w64 (vm1.2.1 * vn2.2.2.1)))) fun f3 =>
  sI (w64 ((w64 (vm1.1 * vn2.2.1)) + (w64 (vm1.2.1 * vn2.2.2.2)))) fun f4 =>
  sI (w64 ((w64 (vm1.2.2.1 * vn2.1)) + (w64 (vm1.2.2.2 * vn2.2.2.1)))) fun f5 =>
  sI (w64 ((w64 (vm1.2.2.1 * vn2.2.1)) + (w64 (vm1.2.2.2 * vn2.2.2.2)))) fun f6 =>
  some ((f3, f4, f5, f6))

def r_spec_reReduce_L9 : Nat → Int → Int → Int → Int → Int → Int → Int → Option (Int × Int × Int × Int × Int × Int × Int)
  | 0, _, _, _, _, _, _, _ => none
  | n + 1, f2, f3, f4, f5, f6, f7, f8 =>
    (r_spec_reIs ((f6, f7, f8))).bind fun y11 =>
    bif (!y11) then
      (
        (r_spec_reMove ((f6, f7, f8))).bind fun y13 =>
        (r_spec_foAct ((f6, f7, f8)) y13).bind fun y14 =>
        (r_spec_foMul ((f2, f3, f4, f5)) y13).bind fun y15 =>
        r_spec_reReduce_L9 n y15.1 y15.2.1 y15.2.2.1 y15.2.2.2 y14.1 y14.2.1 y14.2.2
      )
    else
      (
        some (f2, f3, f4, f5, f6, f7, f8)
      )
def r_spec_reReduce (f1 : (Int × Int × Int)) : Option (((Int × Int × Int)) × ((Int × Int × Int × Int))) :=
  (r_spec_reReduce_L9 FU 1 0 0 1 f1.1 f1.2.1 f1.2.2).bind fun o10 =>
  some ((o10.2.2.2.2, (o10.1, o10.2.1, o10.2.2.1, o10.2.2.2.1)))

def r_spec_reClass (f1 : (Int × Int × Int)) : Option (Int × Int × Int) :=
  (r_spec_reReduce f1).bind fun y2 =>
  some y2.1

def r_spec_laForm (f1 : (Int × Int × Int)) (l2 : (Int × Int × Int)) : Option (Int × Int × Int) :=
  (r_spec_foAct f1 ((l2.1, l2.2.1, 0, l2.2.2))).bind fun y3 =>
  some y3

def r_spec_grIndex_L4 (f2 : (Int × Int × Int)) (l1 : List ((Int × Int × Int))) : Nat → Int → Option (Unit ⊕ Int)
  | 0, _ => none
  | n + 1, t3 =>
    bif (ltI t3 ((l1.length : Int))) then
      (
        (getI l1 t3).bind fun e7 =>
        (some (((e7.1 == f2.1) && ((e7.2.1 == f2.2.1) && (e7.2.2 == f2.2.2))))).bind fun t8 =>
        bif t8 then
          (
            some (.inr t3)
          )
        else
          (
            sI (w64 (t3 + 1)) fun t10 =>
            r_spec_grIndex_L4 f2 l1 n t10
          )
      )
    else
      (
        some (.inl ())
      )
def r_spec_grIndex (l1 : List ((Int × Int × Int))) (f2 : (Int × Int × Int)) : Option Int :=
  (r_spec_grIndex_L4 f2 l1 FU 0).bind fun qo5 =>
  match qo5 with
  | .inr r => some r
  | .inl o5 =>
    some (-1)

def r_spec_l1Put_L4 (l1 : List Int) (vn2 : Int) : Nat → Int → Option Int
  | 0, _ => none
  | n + 1, k3 =>
    (bif (ltI k3 ((l1.length : Int))) then ((getI l1 k3).bind fun e7 => some (ltI e7 vn2)) else some false).bind fun b8 =>
    bif b8 then
      (
        sI (w64 (k3 + 1)) fun k10 =>
        r_spec_l1Put_L4 l1 vn2 n k10
      )
    else
      (
        some k3
      )
def r_spec_l1Put (l1 : List Int) (vn2 : Int) : Option (List Int) :=
  (r_spec_l1Put_L4 l1 vn2 FU 0).bind fun o5 =>
  (bif (ltI o5 ((l1.length : Int))) then ((getI l1 o5).bind fun e12 => some (eqI e12 vn2)) else some false).bind fun b13 =>
  bif b13 then
    (
      some l1
    )
  else
    (
      (slc l1.length 0 o5).bind fun u15 =>
      (room ((([] : List Int)).length + (subl l1 0 o5).length)).bind fun u16 =>
      (room (((([] : List Int)) ++ (subl l1 0 o5)).length + ([vn2]).length)).bind fun u17 =>
      (slc l1.length o5 ((l1.length : Int))).bind fun u18 =>
      (room ((((([] : List Int)) ++ (subl l1 0 o5)) ++ ([vn2])).length + (subl l1 o5 ((l1.length : Int))).length)).bind fun u19 =>
      (some ((((([] : List Int)) ++ (subl l1 0 o5)) ++ ([vn2])) ++ (subl l1 o5 ((l1.length : Int))))).bind fun l20 =>
      some l20
    )

def r_spec_grForms_L5 (l1 : List ((Int × Int × Int))) (vat2 : List Int) : Nat → Int → List ((Int × Int × Int)) → Option (List ((Int × Int × Int)))
  | 0, _, _ => none
  | n + 1, t3, l4 =>
    bif (ltI t3 ((vat2.length : Int))) then
      (
        (getI vat2 t3).bind fun e8 =>
        (getI l1 e8).bind fun e9 =>
        (room (l4.length + ([e9]).length)).bind fun u10 =>
        sI (w64 (t3 + 1)) fun t11 =>
        r_spec_grForms_L5 l1 vat2 n t11 (l4 ++ ([e9]))
      )
    else
      (
        some l4
      )
def r_spec_grForms (l1 : List ((Int × Int × Int))) (vat2 : List Int) : Option (List ((Int × Int × Int))) :=
  (r_spec_grForms_L5 l1 vat2 FU 0 (([] : List ((Int × Int × Int))))).bind fun o6 =>
  some o6

def r_spec_UpperForms_L14 (f1 : (Int × Int × Int)) (y10 : List ((Int × Int × Int))) (y11 : List ((Int × Int × Int))) : Nat → List Int → Int → Option (List Int)
  | 0, _, _ => none
  | n + 1, vat12, t13 =>
    bif (ltI t13 ((y11.length : Int))) then
      (
        (getI y11 t13).bind fun e17 =>
        (getI y11 t13).bind fun e18 =>
        (r_spec_reClass f1).bind fun y19 =>
        (r_spec_laForm y19 e18).bind fun y20 =>
        (r_spec_foContent y20).bind fun y21 =>
        bif (eqI y21 1) then
          (
            (r_spec_reClass y20).bind fun y23 =>
            (r_spec_grIndex y10 y23).bind fun y24 =>
            (r_spec_l1Put vat12 y24).bind fun y25 =>
            sI (w64 (t13 + 1)) fun t26 =>
            r_spec_UpperForms_L14 f1 y10 y11 n y25 t26
          )
        else
          (
            sI (w64 (t13 + 1)) fun t27 =>
            r_spec_UpperForms_L14 f1 y10 y11 n vat12 t27
          )
      )
    else
      (
        some vat12
      )
def r_spec_UpperForms (f1 : (Int × Int × Int)) (p2 : Int) : Option ((List ((Int × Int × Int))) × Bool) :=
  (r_spec_coGood f1).bind fun y3 =>
  (bif (!y3) then some true else ((r_spec_foDisc f1).bind fun y5 => (r_spec_odUp y5 p2).bind fun y6 => some (!y6))).bind fun b7 =>
  bif b7 then
    (
      some ((([] : List ((Int × Int × Int))), false))
    )
  else
    (
      (r_spec_foDisc f1).bind fun y9 =>
      (r_spec_reList (w64 ((w64 (y9 * p2)) * p2))).bind fun y10 =>
      (r_spec_laAll p2).bind fun y11 =>
      (r_spec_UpperForms_L14 f1 y10 y11 FU (([] : List Int)) 0).bind fun o15 =>
      (r_spec_grForms y10 o15).bind fun y28 =>
      some ((y28, true))
    )

def r_impl_areNumbers_L3 (list1 : List Int) : Nat → Int → Option (Unit ⊕ Bool)
  | 0, _ => none
  | n + 1, t2 =>
    bif (ltI t2 ((list1.length : Int))) then
      (
        (getI list1 t2).bind fun e6 =>
        bif (bif (ltI e6 (-1000000)) then true else (ltI 1000000 e6)) then
          (
            some (.inr false)
          )
        else
          (
            sI (w64 (t2 + 1)) fun t9 =>
            r_impl_areNumbers_L3 list1 n t9
          )
      )
    else
      (
        some (.inl ())
      )
def r_impl_areNumbers (list1 : List Int) : Option Bool :=
  (r_impl_areNumbers_L3 list1 FU 0).bind fun qo4 =>
  match qo4 with
  | .inr r => some r
  | .inl o4 =>
    some true

def r_impl_IsForm (f1 : (Int × Int × Int)) : Option Bool :=
  (r_impl_areNumbers ([f1.1, f1.2.1, f1.2.2])).bind fun y2 =>
  some y2

def r_impl_Form_disc (f1 : (Int × Int × Int)) : Option Int :=
  sI (w64 ((w64 (f1.2.1 * f1.2.1)) - (w64 ((w64 (4 * f1.1)) * f1.2.2)))) fun t2 =>
  some t2

def r_impl_isDefinite (f1 : (Int × Int × Int)) : Option Bool :=
  (r_impl_IsForm f1).bind fun y2 =>
  (bif y2 then ((r_impl_Form_disc f1).bind fun y4 => some (ltI y4 0)) else some false).bind fun b5 =>
  some (bif b5 then (ltI 0 f1.1) else false)

def r_impl_isShownForm (f1 : (Int × Int × Int)) : Option Bool :=
  (r_impl_isDefinite f1).bind fun y2 =>
  (bif y2 then ((r_impl_Form_disc f1).bind fun y4 => some (leI (-2000) y4)) else some false).bind fun b5 =>
  some b5

def r_impl_abs (vn1 : Int) : Option Int :=
  sI (mxI vn1 (w64 (0 - (mxI vn1 (-9223372036854775807))))) fun t2 =>
  some t2

def r_impl_gcd_L5 : Nat → Int → Int → Option Int
  | 0, _, _ => none
  | n + 1, a3, b4 =>
    bif (!eqI b4 0) then
      (
        (nz b4).bind fun z8 =>
        sI (Int.tmod a3 b4) fun b9 =>
        r_impl_gcd_L5 n b4 b9
      )
    else
      (
        some a3
      )
def r_impl_gcd (a1 : Int) (b2 : Int) : Option Int :=
  (r_impl_gcd_L5 FU a1 b2).bind fun o6 =>
  (r_impl_abs o6).bind fun y10 =>
  some y10

def r_impl_Form_content (f1 : (Int × Int × Int)) : Option Int :=
  (r_impl_gcd f1.2.1 f1.2.2).bind fun y2 =>
  (r_impl_gcd f1.1 y2).bind fun y3 =>
  some y3

def r_impl_isClassForm (f1 : (Int × Int × Int)) : Option Bool :=
  (r_impl_isShownForm f1).bind fun y2 =>
  (bif y2 then ((r_impl_Form_content f1).bind fun y4 => some (eqI y4 1)) else some false).bind fun b5 =>
  some b5

def r_impl_isPrime_L4 (vn1 : Int) : Nat → Int → Option (Unit ⊕ Bool)
  | 0, _ => none
  | n + 1, p3 =>
    bif (leI (w64 (p3 * p3)) vn1) then
      (
        (nz p3).bind fun z7 =>
        bif (eqI (Int.tmod vn1 p3) 0) then
          (
            some (.inr false)
          )
        else
          (
            sI (w64 (p3 + 1)) fun p9 =>
            r_impl_isPrime_L4 vn1 n p9
          )
      )
    else
      (
        some (.inl ())
      )
def r_impl_isPrime (vn1 : Int) : Option Bool :=
  bif (ltI vn1 2) then
    (
      some false
    )
  else
    (
      (r_impl_isPrime_L4 vn1 FU 2).bind fun qo5 =>
      match qo5 with
      | .inr r => some r
      | .inl o5 =>
        some true
    )

def r_impl_IsPrime (vn1 : Int) : Option Bool :=
  (r_impl_areNumbers ([vn1])).bind fun y2 =>
  (bif y2 then ((r_impl_isPrime vn1).bind fun y4 => some y4) else some false).bind fun b5 =>
  some b5

def r_impl_mod (a1 : Int) (vm2 : Int) : Option Int :=
  (nz vm2).bind fun z3 =>
  sI (Int.tmod a1 vm2) fun vr4 =>
  bif (ltI vr4 0) then
    (
      sI (w64 (vr4 + vm2)) fun vr6 =>
      some vr6
    )
  else
    (
      some vr4
    )

def r_impl_isNegativeDisc (d1 : Int) : Option Bool :=
  (bif (bif (leI (-2000) d1) then (leI d1 (-3)) else false) then ((r_impl_mod d1 4).bind fun y4 => some (leI y4 1)) else some false).bind fun b5 =>
  some b5

def r_impl_canRise (d1 : Int) (p2 : Int) : Option Bool :=
  (r_impl_IsPrime p2).bind fun y3 =>
  (bif (bif y3 then (leI p2 2000) else false) then ((r_impl_isNegativeDisc (w64 ((w64 (d1 * p2)) * p2))).bind fun y6 => some y6) else some false).bind fun b7 =>
  some b7

def r_impl_divisors_L5 (vn1 : Int) : Nat → Int → List Int → List Int → Option ((List Int) × (List Int))
  | 0, _, _, _ => none
  | n + 1, k2, l3, l4 =>
    bif (leI (w64 (k2 * k2)) vn1) then
      (
        (nz k2).bind fun z8 =>
        bif (!eqI (Int.tmod vn1 k2) 0) then
          (
            sI (w64 (k2 + 1)) fun k10 =>
            r_impl_divisors_L5 vn1 n k10 l3 l4
          )
        else
          (
            (room (l4.length + ([k2]).length)).bind fun u11 =>
            bif (!eqI (w64 (k2 * k2)) vn1) then
              (
                (nz k2).bind fun z13 =>
                (room (l3.length + ([w64 (Int.tdiv vn1 k2)]).length)).bind fun u14 =>
                sI (w64 (k2 + 1)) fun k15 =>
                r_impl_divisors_L5 vn1 n k15 (l3 ++ ([w64 (Int.tdiv vn1 k2)])) (l4 ++ ([k2]))
              )
            else
              (
                sI (w64 (k2 + 1)) fun k16 =>
                r_impl_divisors_L5 vn1 n k16 l3 (l4 ++ ([k2]))
              )
          )
      )
    else
      (
        some (l3, l4)
      )
def r_impl_divisors_L20 (o6 : ((List Int) × (List Int))) : Nat → Int → List Int → Option (List Int)
  | 0, _, _ => none
  | n + 1, i18, l19 =>
    bif (leI 0 i18) then
      (
        (getI o6.1 i18).bind fun e23 =>
        (getI o6.1 i18).bind fun e24 =>
        (room (l19.length + ([e24]).length)).bind fun u25 =>
        sI (w64 (i18 - 1)) fun i26 =>
        r_impl_divisors_L20 o6 n i26 (l19 ++ ([e24]))
      )
    else
      (
        some l19
      )
def r_impl_divisors (vn1 : Int) : Option (List Int) :=
  (r_impl_divisors_L5 vn1 FU 1 (([] : List Int)) (([] : List Int))).bind fun o6 =>
  sI (w64 (((o6.1.length : Int)) - 1)) fun i17 =>
  (r_impl_divisors_L20 o6 FU i17 o6.2).bind fun o21 =>
  some o21

def r_impl_SublatticesOf_L14 (e11 : Int) (t5 : Int) (vn1 : Int) (y4 : List Int) : Nat → Int → List ((Int × Int × Int)) → Option (List ((Int × Int × Int)))
  | 0, _, _ => none
  | n + 1, b12, l13 =>
    bif (ltI b12 e11) then
      (
        (nz e11).bind fun z17 =>
        (room (l13.length + ([(e11, b12, w64 (Int.tdiv vn1 e11))]).length)).bind fun u18 =>
        sI (w64 (b12 + 1)) fun b19 =>
        r_impl_SublatticesOf_L14 e11 t5 vn1 y4 n b19 (l13 ++ ([(e11, b12, w64 (Int.tdiv vn1 e11))]))
      )
    else
      (
        some l13
      )
def r_impl_SublatticesOf_L7 (vn1 : Int) (y4 : List Int) : Nat → Int → List ((Int × Int × Int)) → Option (List ((Int × Int × Int)))
  | 0, _, _ => none
  | n + 1, t5, l6 =>
    bif (ltI t5 ((y4.length : Int))) then
      (
        (getI y4 t5).bind fun e10 =>
        (getI y4 t5).bind fun e11 =>
        (r_impl_SublatticesOf_L14 e11 t5 vn1 y4 FU 0 l6).bind fun o15 =>
        sI (w64 (t5 + 1)) fun t20 =>
        r_impl_SublatticesOf_L7 vn1 y4 n t20 o15
      )
    else
      (
        some l6
      )
def r_impl_SublatticesOf (vn1 : Int) : Option ((List ((Int × Int × Int))) × Bool) :=
  bif (bif (ltI vn1 1) then true else (ltI 100 vn1)) then
    (
      some ((([] : List ((Int × Int × Int))), false))
    )
  else
    (
      (r_impl_divisors vn1).bind fun y4 =>
      (r_impl_SublatticesOf_L7 vn1 y4 FU 0 (([] : List ((Int × Int × Int))))).bind fun o8 =>
      some ((o8, true))
    )

def r_impl_one : Option (Int × Int × Int × Int) :=
  some ((1, 0, 0, 1))

def r_impl_Form_isNormal (f1 : (Int × Int × Int)) : Option Bool :=
  (some (bif (ltI (w64 (0 - f1.1)) f1.2.1) then (leI f1.2.1 f1.1) else false)).bind fun t3 =>
  some t3

def r_impl_Form_isReduced (f1 : (Int × Int × Int)) : Option Bool :=
  (r_impl_Form_isNormal f1).bind fun y2 =>
  (some (bif y2 then (bif (ltI f1.1 f1.2.2) then true else (bif (eqI f1.1 f1.2.2) then (leI 0 f1.2.1) else false)) else false)).bind fun t6 =>
  some t6

def r_impl_floorDiv (a1 : Int) (vm2 : Int) : Option Int :=
  (r_impl_mod a1 vm2).bind fun y3 =>
  (nz vm2).bind fun z4 =>
  sI (w64 (Int.tdiv (w64 (a1 - y3)) vm2)) fun t5 =>
  some t5

def r_impl_Form_step (f1 : (Int × Int × Int)) : Option (Int × Int × Int × Int) :=
  (r_impl_Form_isReduced f1).bind fun y2 =>
  bif y2 then
    (
      (r_impl_one).bind fun y4 =>
      some y4
    )
  else
    (
      (r_impl_Form_isNormal f1).bind fun y5 =>
      bif (!y5) then
        (
          (r_impl_floorDiv (w64 (f1.1 - f1.2.1)) (w64 (2 * f1.1))).bind fun y7 =>
          some ((1, y7, 0, 1))
        )
      else
        (
          some ((0, -1, 1, 0))
        )
    )

def r_impl_Form_at (f1 : (Int × Int × Int)) (x2 : Int) (y3 : Int) : Option Int :=
  sI (w64 ((w64 ((w64 ((w64 (f1.1 * x2)) * x2)) + (w64 ((w64 (f1.2.1 * x2)) * y3)))) + (w64 ((w64 (f1.2.2 * y3)) * y3)))) fun t4 =>
  some t4

def r_impl_Form_polar (f1 : (Int × Int × Int)) (x2 : Int) (y3 : Int) (u4 : Int) (v5 : Int) : Option Int :=
  sI (w64 ((w64 ((w64 ((w64 ((w64 (2 * f1.1)) * x2)) * u4)) + (w64 (f1.2.1 * (w64 ((w64 (x2 * v5)) + (w64 (y3 * u4)))))))) + (w64 ((w64 ((w64 (2 * f1.2.2)) * y3)) * v5)))) fun t6 =>
  some t6

def r_impl_Form_substitute (f1 : (Int × Int × Int)) (vm2 : (Int × Int × Int × Int)) : Option (Int × Int × Int) :=
  (r_impl_Form_at f1 vm2.1 vm2.2.2.1).bind fun y3 =>
  (r_impl_Form_polar f1 vm2.1 vm2.2.2.1 vm2.2.1 vm2.2.2.2).bind fun y4 =>
  (r_impl_Form_at f1 vm2.2.1 vm2.2.2.2).bind fun y5 =>
  some ((y3, y4, y5))

def r_impl_Matrix_times (vm1 : (Int × Int × Int × Int)) (vn2 : (Int × Int × Int × Int)) : Option (Int × Int × Int × Int) :=
  sI (w64 ((w64 (vm1.1 * vn2.1)) + (w64 (vm1.2.1 * vn2.2.2.1)))) fun f3 =>
  sI (w64 ((w64 (vm1.1 * vn2.2.1)) + (w64 (vm1.2.1 * vn2.2.2.2)))) fun f4 =>
  sI (w64 ((w64 (vm1.2.2.1 * vn2.1)) + (w64 (vm1.2.2.2 * vn2.2.2.1)))) fun f5 =>
  sI (w64 ((w64 (vm1.2.2.1 * vn2.2.1)) + (w64 (vm1.2.2.2 * vn2.2.2.2)))) fun f6 =>
  some ((f3, f4, f5, f6))

def r_impl_reduce_L10 : Nat → Int → Int → Int → Int → Int → Int → Int → Option (Int × Int × Int × Int × Int × Int × Int)
  | 0, _, _, _, _, _, _, _ => none
  | n + 1, f3, f4, f5, f6, f7, f8, f9 =>
    (r_impl_Form_isReduced ((f7, f8, f9))).bind fun y12 =>
    bif (!y12) then
      (
        (r_impl_Form_step ((f7, f8, f9))).bind fun y14 =>
        (r_impl_Form_substitute ((f7, f8, f9)) y14).bind fun y15 =>
        (r_impl_Matrix_times ((f3, f4, f5, f6)) y14).bind fun y16 =>
        r_impl_reduce_L10 n y16.1 y16.2.1 y16.2.2.1 y16.2.2.2 y15.1 y15.2.1 y15.2.2
      )
    else
      (
        some (f3, f4, f5, f6, f7, f8, f9)
      )
def r_impl_reduce (f1 : (Int × Int × Int)) : Option (((Int × Int × Int)) × ((Int × Int × Int × Int))) :=
  (r_impl_one).bind fun y2 =>
  (r_impl_reduce_L10 FU y2.1 y2.2.1 y2.2.2.1 y2.2.2.2 f1.1 f1.2.1 f1.2.2).bind fun o11 =>
  some ((o11.2.2.2.2, (o11.1, o11.2.1, o11.2.2.1, o11.2.2.2.1)))

def r_impl_reduced (f1 : (Int × Int × Int)) : Option (Int × Int × Int) :=
  (r_impl_reduce f1).bind fun y2 =>
  some y2.1

def r_impl_hasForm_L4 (f2 : (Int × Int × Int)) (list1 : List ((Int × Int × Int))) : Nat → Int → Option (Unit ⊕ Bool)
  | 0, _ => none
  | n + 1, t3 =>
    bif (ltI t3 ((list1.length : Int))) then
      (
        (getI list1 t3).bind fun e7 =>
        (some (((f2.1 == e7.1) && ((f2.2.1 == e7.2.1) && (f2.2.2 == e7.2.2))))).bind fun t8 =>
        bif t8 then
          (
            some (.inr true)
          )
        else
          (
            sI (w64 (t3 + 1)) fun t10 =>
            r_impl_hasForm_L4 f2 list1 n t10
          )
      )
    else
      (
        some (.inl ())
      )
def r_impl_hasForm (list1 : List ((Int × Int × Int))) (f2 : (Int × Int × Int)) : Option Bool :=
  (r_impl_hasForm_L4 f2 list1 FU 0).bind fun qo5 =>
  match qo5 with
  | .inr r => some r
  | .inl o5 =>
    some false

def r_impl_sortForms_1 (i1 : Int) (k2 : Int) (cap3 : List ((Int × Int × Int))) : Option Bool :=
  (getI cap3 i1).bind fun e4 =>
  (getI cap3 k2).bind fun e5 =>
  bif (!eqI e4.1 e5.1) then
    (
      some (ltI e4.1 e5.1)
    )
  else
    (
      bif (!eqI e4.2.1 e5.2.1) then
        (
          some (ltI e4.2.1 e5.2.1)
        )
      else
        (
          some (ltI e4.2.2 e5.2.2)
        )
    )

def r_sort_insertionSort_func_L12 (a1 : Int) (b2 : Int) (i5 : Int) : Nat → Int → List ((Int × Int × Int)) → Option (List ((Int × Int × Int)))
  | 0, _, _ => none
  | n + 1, j10, l11 =>
    (bif (ltI a1 j10) then ((r_impl_sortForms_1 j10 (w64 (j10 - 1)) l11).bind fun y15 => some y15) else some false).bind fun b16 =>
    bif b16 then
      (
        (getI l11 j10).bind fun e18 =>
        (getI l11 (w64 (j10 - 1))).bind fun e19 =>
        (some ((l11.set (Int.toNat (j10)) e19).set (Int.toNat (w64 (j10 - 1))) e18)).bind fun l20 =>
        sI (w64 (j10 - 1)) fun j21 =>
        r_sort_insertionSort_func_L12 a1 b2 i5 n j21 l20
      )
    else
      (
        some l11
      )
def r_sort_insertionSort_func_L7 (a1 : Int) (b2 : Int) : Nat → Int → List ((Int × Int × Int)) → Option (List ((Int × Int × Int)))
  | 0, _, _ => none
  | n + 1, i5, l6 =>
    bif (ltI i5 b2) then
      (
        (r_sort_insertionSort_func_L12 a1 b2 i5 FU i5 l6).bind fun o13 =>
        sI (w64 (i5 + 1)) fun i22 =>
        r_sort_insertionSort_func_L7 a1 b2 n i22 o13
      )
    else
      (
        some l6
      )
def r_sort_insertionSort_func (xs0 : List ((Int × Int × Int))) (a1 : Int) (b2 : Int) : Option (List ((Int × Int × Int))) :=
  sI (w64 (a1 + 1)) fun i4 =>
  (r_sort_insertionSort_func_L7 a1 b2 FU i4 xs0).bind fun o8 =>
  some o8

def r_math_bits_Len32 (x1 : Int) : Option Int :=
  (
    bif (leI 65536 x1) then
      (
        sI (shrI .u32 x1 16) fun x4 =>
        some (x4, 16)
      )
    else
      (
        some (x1, 0)
      )
  ).bind fun j2 =>
  (
    bif (leI 256 j2.1) then
      (
        sI (shrI .u32 j2.1 8) fun x7 =>
        sI (w64 (j2.2 + 8)) fun vn8 =>
        some (x7, vn8)
      )
    else
      (
        some (j2.1, j2.2)
      )
  ).bind fun j5 =>
  (getB ((⟨#[0, 1, 2, 2, 3, 3, 3, 3, 4, 4, 4, 4, 4, 4, 4, 4, 5, 5, 5, 5, 5, 5, 5, 5, 5, 5, 5, 5, 5, 5, 5, 5, 6, 6, 6, 6, 6, 6, 6, 6, 6, 6, 6, 6, 6, 6, 6, 6, 6, 6, 6, 6, 6, 6, 6, 6, 6, 6, 6, 6, 6, 6, 6, 6, 7, 7, 7, 7, 7, 7, 7, 7, 7, 7, 7, 7, 7, 7, 7, 7, 7, 7, 7, 7, 7, 7, 7, 7, 7, 7, 7, 7, 7, 7, 7, 7, 7, 7, 7, 7, 7, 7, 7, 7, 7, 7, 7, 7, 7, 7, 7, 7, 7, 7, 7, 7, 7, 7, 7, 7, 7, 7, 7, 7, 7, 7, 7, 7, 8, 8, 8, 8, 8, 8, 8, 8, 8, 8, 8, 8, 8, 8, 8, 8, 8, 8, 8, 8, 8, 8, 8, 8, 8, 8, 8, 8, 8, 8, 8, 8, 8, 8, 8, 8, 8, 8, 8, 8, 8, 8, 8, 8, 8, 8, 8, 8, 8, 8, 8, 8, 8, 8, 8, 8, 8, 8, 8, 8, 8, 8, 8, 8, 8, 8, 8, 8, 8, 8, 8, 8, 8, 8, 8, 8, 8, 8, 8, 8, 8, 8, 8, 8, 8, 8, 8, 8, 8, 8, 8, 8, 8, 8, 8, 8, 8, 8, 8, 8, 8, 8, 8, 8, 8, 8, 8, 8, 8, 8, 8, 8, 8, 8, 8, 8, 8, 8, 8, 8, 8, 8, 8, 8, 8, 8, 8, 8]⟩ : ByteArray)) (IntKind.u8.wrap j5.1)).bind fun e9 =>
  sI (w64 (j5.2 + (IntKind.i64.wrap e9))) fun vn10 =>
  some vn10

def r_math_bits_Len64 (x1 : Int) : Option Int :=
  (
    bif (leI 4294967296 x1) then
      (
        sI (shrI .u64 x1 32) fun x4 =>
        some (x4, 32)
      )
    else
      (
        some (x1, 0)
      )
  ).bind fun j2 =>
  (
    bif (leI 65536 j2.1) then
      (
        sI (shrI .u64 j2.1 16) fun x7 =>
        sI (w64 (j2.2 + 16)) fun vn8 =>
        some (x7, vn8)
      )
    else
      (
        some (j2.1, j2.2)
      )
  ).bind fun j5 =>
  (
    bif (leI 256 j5.1) then
      (
        sI (shrI .u64 j5.1 8) fun x11 =>
        sI (w64 (j5.2 + 8)) fun vn12 =>
        some (x11, vn12)
      )
    else
      (
        some (j5.1, j5.2)
      )
  ).bind fun j9 =>
  (getB ((⟨#[0, 1, 2, 2, 3, 3, 3, 3, 4, 4, 4, 4, 4, 4, 4, 4, 5, 5, 5, 5, 5, 5, 5, 5, 5, 5, 5, 5, 5, 5, 5, 5, 6, 6, 6, 6, 6, 6, 6, 6, 6, 6, 6, 6, 6, 6, 6, 6, 6, 6, 6, 6, 6, 6, 6, 6, 6, 6, 6, 6, 6, 6, 6, 6, 7, 7, 7, 7, 7, 7, 7, 7, 7, 7, 7, 7, 7, 7, 7, 7, 7, 7, 7, 7, 7, 7, 7, 7, 7, 7, 7, 7, 7, 7, 7, 7, 7, 7, 7, 7, 7, 7, 7, 7, 7, 7, 7, 7, 7, 7, 7, 7, 7, 7, 7, 7, 7, 7, 7, 7, 7, 7, 7, 7, 7, 7, 7, 7, 8, 8, 8, 8, 8, 8, 8, 8, 8, 8, 8, 8, 8, 8, 8, 8, 8, 8, 8, 8, 8, 8, 8, 8, 8, 8, 8, 8, 8, 8, 8, 8, 8, 8, 8, 8, 8, 8, 8, 8, 8, 8, 8, 8, 8, 8, 8, 8, 8, 8, 8, 8, 8, 8, 8, 8, 8, 8, 8, 8, 8, 8, 8, 8, 8, 8, 8, 8, 8, 8, 8, 8, 8, 8, 8, 8, 8, 8, 8, 8, 8, 8, 8, 8, 8, 8, 8, 8, 8, 8, 8, 8, 8, 8, 8, 8, 8, 8, 8, 8, 8, 8, 8, 8, 8, 8, 8, 8, 8, 8, 8, 8, 8, 8, 8, 8, 8, 8, 8, 8, 8, 8, 8, 8, 8, 8, 8, 8]⟩ : ByteArray)) (IntKind.u8.wrap j9.1)).bind fun e13 =>
  sI (w64 (j9.2 + (IntKind.i64.wrap e13))) fun vn14 =>
  some vn14

def r_math_bits_Len (x1 : Int) : Option Int :=
  (r_math_bits_Len64 x1).bind fun y3 =>
  some y3

def r_sort_order2_func (xs0 : List ((Int × Int × Int))) (a1 : Int) (b2 : Int) (swaps3 : Int) : Option (Int × Int × (List ((Int × Int × Int))) × Int) :=
  (r_impl_sortForms_1 b2 a1 xs0).bind fun y5 =>
  bif y5 then
    (
      sI (w64 (swaps3 + 1)) fun f7 =>
      some ((b2, a1, xs0, f7))
    )
  else
    (
      some ((a1, b2, xs0, swaps3))
    )

def r_sort_median_func (xs0 : List ((Int × Int × Int))) (a1 : Int) (b2 : Int) (c3 : Int) (swaps4 : Int) : Option (Int × (List ((Int × Int × Int))) × Int) :=
  (r_sort_order2_func xs0 a1 b2 swaps4).bind fun y6 =>
  (r_sort_order2_func y6.2.2.1 y6.2.1 c3 y6.2.2.2).bind fun y7 =>
  (r_sort_order2_func y7.2.2.1 y6.1 y7.1 y7.2.2.2).bind fun y8 =>
  some ((y8.2.1, y8.2.2.1, y8.2.2.2))

def r_sort_medianAdjacent_func (xs0 : List ((Int × Int × Int))) (a1 : Int) (swaps2 : Int) : Option (Int × (List ((Int × Int × Int))) × Int) :=
  (r_sort_median_func xs0 (w64 (a1 - 1)) a1 (w64 (a1 + 1)) swaps2).bind fun y4 =>
  some ((y4.1, y4.2.1, y4.2.2))

def r_sort_choosePivot_func (xs0 : List ((Int × Int × Int))) (a1 : Int) (b2 : Int) : Option (Int × Int × (List ((Int × Int × Int)))) :=
  sI (w64 (b2 - a1)) fun l4 =>
  sI (w64 (a1 + (w64 ((w64 (Int.tdiv l4 4)) * 1)))) fun i5 =>
  sI (w64 (a1 + (w64 ((w64 (Int.tdiv l4 4)) * 2)))) fun j6 =>
  sI (w64 (a1 + (w64 ((w64 (Int.tdiv l4 4)) * 3)))) fun k7 =>
  (
    bif (leI 8 l4) then
      (
        (
          bif (leI 50 l4) then
            (
              (r_sort_medianAdjacent_func xs0 i5 0).bind fun y12 =>
              (r_sort_medianAdjacent_func y12.2.1 j6 y12.2.2).bind fun y13 =>
              (r_sort_medianAdjacent_func y13.2.1 k7 y13.2.2).bind fun y14 =>
              some (y12.1, y13.1, y14.1, y14.2.2, y14.2.1)
            )
          else
            (
              some (i5, j6, k7, 0, xs0)
            )
        ).bind fun j10 =>
        (r_sort_median_func j10.2.2.2.2 j10.1 j10.2.1 j10.2.2.1 j10.2.2.2.1).bind fun y15 =>
        some (y15.1, y15.2.2, y15.2.1)
      )
    else
      (
        some (j6, 0, xs0)
      )
  ).bind fun j8 =>
  bif (eqI j8.2.1 0) then
    (
      some ((j8.1, 1, j8.2.2))
    )
  else
    (
      bif (eqI j8.2.1 12) then
        (
          some ((j8.1, 2, j8.2.2))
        )
      else
        (
          some ((j8.1, 0, j8.2.2))
        )
    )

def r_sort_reverseRange_func_L8 : Nat → Int → Int → List ((Int × Int × Int)) → Option (List ((Int × Int × Int)))
  | 0, _, _, _ => none
  | n + 1, i5, j6, l7 =>
    bif (ltI i5 j6) then
      (
        (getI l7 i5).bind fun e11 =>
        (getI l7 j6).bind fun e12 =>
        sI (w64 (i5 + 1)) fun i13 =>
        sI (w64 (j6 - 1)) fun j14 =>
        r_sort_reverseRange_func_L8 n i13 j14 ((l7.set (Int.toNat (i5)) e12).set (Int.toNat (j6)) e11)
      )
    else
      (
        some l7
      )
def r_sort_reverseRange_func (xs0 : List ((Int × Int × Int))) (a1 : Int) (b2 : Int) : Option (List ((Int × Int × Int))) :=
  sI (w64 (b2 - 1)) fun j4 =>
  (r_sort_reverseRange_func_L8 FU a1 j4 xs0).bind fun o9 =>
  some o9

def r_sort_partialInsertionSort_func_L12 (a1 : Int) (b2 : Int) (j6 : Int) (l7 : List ((Int × Int × Int))) : Nat → Int → Option Int
  | 0, _ => none
  | n + 1, i11 =>
    (bif (ltI i11 b2) then ((r_impl_sortForms_1 i11 (w64 (i11 - 1)) l7).bind fun y15 => some (!y15)) else some false).bind fun b16 =>
    bif b16 then
      (
        sI (w64 (i11 + 1)) fun i18 =>
        r_sort_partialInsertionSort_func_L12 a1 b2 j6 l7 n i18
      )
    else
      (
        some i11
      )
def r_sort_partialInsertionSort_func_L29 (a1 : Int) (b2 : Int) (j6 : Int) (o13 : Int) : Nat → Int → List ((Int × Int × Int)) → Option (List ((Int × Int × Int)))
  | 0, _, _ => none
  | n + 1, j27, l28 =>
    bif (leI 1 j27) then
      (
        (r_impl_sortForms_1 j27 (w64 (j27 - 1)) l28).bind fun y32 =>
        bif (!y32) then
          (
            some l28
          )
        else
          (
            (getI l28 j27).bind fun e34 =>
            (getI l28 (w64 (j27 - 1))).bind fun e35 =>
            (some ((l28.set (Int.toNat (j27)) e35).set (Int.toNat (w64 (j27 - 1))) e34)).bind fun l36 =>
            sI (w64 (j27 - 1)) fun j37 =>
            r_sort_partialInsertionSort_func_L29 a1 b2 j6 o13 n j37 l36
          )
      )
    else
      (
        some l28
      )
def r_sort_partialInsertionSort_func_L42 (a1 : Int) (b2 : Int) (j6 : Int) (o13 : Int) : Nat → Int → List ((Int × Int × Int)) → Option (List ((Int × Int × Int)))
  | 0, _, _ => none
  | n + 1, j40, l41 =>
    bif (ltI j40 b2) then
      (
        (r_impl_sortForms_1 j40 (w64 (j40 - 1)) l41).bind fun y45 =>
        bif (!y45) then
          (
            some l41
          )
        else
          (
            (getI l41 j40).bind fun e47 =>
            (getI l41 (w64 (j40 - 1))).bind fun e48 =>
            (some ((l41.set (Int.toNat (j40)) e48).set (Int.toNat (w64 (j40 - 1))) e47)).bind fun l49 =>
            sI (w64 (j40 + 1)) fun j50 =>
            r_sort_partialInsertionSort_func_L42 a1 b2 j6 o13 n j50 l49
          )
      )
    else
      (
        some l41
      )
def r_sort_partialInsertionSort_func_L8 (a1 : Int) (b2 : Int) : Nat → Int → Int → List ((Int × Int × Int)) → Option (List ((Int × Int × Int)) ⊕ (Bool × (List ((Int × Int × Int)))))
  | 0, _, _, _ => none
  | n + 1, i5, j6, l7 =>
    bif (ltI j6 5) then
      (
        (r_sort_partialInsertionSort_func_L12 a1 b2 j6 l7 FU i5).bind fun o13 =>
        bif (eqI o13 b2) then
          (
            some (.inr (((true, l7))))
          )
        else
          (
            bif (ltI (w64 (b2 - a1)) 50) then
              (
                some (.inr (((false, l7))))
              )
            else
              (
                (getI l7 o13).bind fun e21 =>
                (getI l7 (w64 (o13 - 1))).bind fun e22 =>
                (some ((l7.set (Int.toNat (o13)) e22).set (Int.toNat (w64 (o13 - 1))) e21)).bind fun l23 =>
                (
                  bif (leI 2 (w64 (o13 - a1))) then
                    (
                      sI (w64 (o13 - 1)) fun j26 =>
                      (r_sort_partialInsertionSort_func_L29 a1 b2 j6 o13 FU j26 l23).bind fun o30 =>
                      some o30
                    )
                  else
                    (
                      some l23
                    )
                ).bind fun j24 =>
                bif (leI 2 (w64 (b2 - o13))) then
                  (
                    sI (w64 (o13 + 1)) fun j39 =>
                    (r_sort_partialInsertionSort_func_L42 a1 b2 j6 o13 FU j39 j24).bind fun o43 =>
                    sI (w64 (j6 + 1)) fun j51 =>
                    r_sort_partialInsertionSort_func_L8 a1 b2 n o13 j51 o43
                  )
                else
                  (
                    sI (w64 (j6 + 1)) fun j52 =>
                    r_sort_partialInsertionSort_func_L8 a1 b2 n o13 j52 j24
                  )
              )
          )
      )
    else
      (
        some (.inl l7)
      )
def r_sort_partialInsertionSort_func (xs0 : List ((Int × Int × Int))) (a1 : Int) (b2 : Int) : Option (Bool × (List ((Int × Int × Int)))) :=
  sI (w64 (a1 + 1)) fun i4 =>
  (r_sort_partialInsertionSort_func_L8 a1 b2 FU i4 0 xs0).bind fun qo9 =>
  match qo9 with
  | .inr r => some r
  | .inl o9 =>
    some ((false, o9))

def r_sort_partitionEqual_func_L15 (a1 : Int) (j10 : Int) (l11 : List ((Int × Int × Int))) : Nat → Int → Option Int
  | 0, _ => none
  | n + 1, i14 =>
    (bif (leI i14 j10) then ((r_impl_sortForms_1 a1 i14 l11).bind fun y18 => some (!y18)) else some false).bind fun b19 =>
    bif b19 then
      (
        sI (w64 (i14 + 1)) fun i21 =>
        r_sort_partitionEqual_func_L15 a1 j10 l11 n i21
      )
    else
      (
        some i14
      )
def r_sort_partitionEqual_func_L23 (a1 : Int) (l11 : List ((Int × Int × Int))) (o16 : Int) : Nat → Int → Option Int
  | 0, _ => none
  | n + 1, j22 =>
    (bif (leI o16 j22) then ((r_impl_sortForms_1 a1 j22 l11).bind fun y26 => some y26) else some false).bind fun b27 =>
    bif b27 then
      (
        sI (w64 (j22 - 1)) fun j29 =>
        r_sort_partitionEqual_func_L23 a1 l11 o16 n j29
      )
    else
      (
        some j22
      )
def r_sort_partitionEqual_func_L12 (a1 : Int) : Nat → Int → Int → List ((Int × Int × Int)) → Option (Int × (List ((Int × Int × Int))))
  | 0, _, _, _ => none
  | n + 1, i9, j10, l11 =>
    (r_sort_partitionEqual_func_L15 a1 j10 l11 FU i9).bind fun o16 =>
    (r_sort_partitionEqual_func_L23 a1 l11 o16 FU j10).bind fun o24 =>
    bif (ltI o24 o16) then
      (
        some (o16, l11)
      )
    else
      (
        (getI l11 o16).bind fun e31 =>
        (getI l11 o24).bind fun e32 =>
        sI (w64 (o16 + 1)) fun i33 =>
        sI (w64 (o24 - 1)) fun j34 =>
        r_sort_partitionEqual_func_L12 a1 n i33 j34 ((l11.set (Int.toNat (o16)) e32).set (Int.toNat (o24)) e31)
      )
def r_sort_partitionEqual_func (xs0 : List ((Int × Int × Int))) (a1 : Int) (b2 : Int) (pivot3 : Int) : Option (Int × (List ((Int × Int × Int)))) :=
  (getI xs0 a1).bind fun e5 =>
  (getI xs0 pivot3).bind fun e6 =>
  sI (w64 (a1 + 1)) fun i7 =>
  sI (w64 (b2 - 1)) fun j8 =>
  (r_sort_partitionEqual_func_L12 a1 FU i7 j8 ((xs0.set (Int.toNat (a1)) e6).set (Int.toNat (pivot3)) e5)).bind fun o13 =>
  some ((o13.1, o13.2))

def r_sort_partition_func_L10 (a1 : Int) (e5 : (Int × Int × Int)) (e6 : (Int × Int × Int)) (j8 : Int) (pivot3 : Int) (xs0 : List ((Int × Int × Int))) : Nat → Int → Option Int
  | 0, _ => none
  | n + 1, i9 =>
    (bif (leI i9 j8) then ((r_impl_sortForms_1 i9 a1 ((xs0.set (Int.toNat (a1)) e6).set (Int.toNat (pivot3)) e5)).bind fun y13 => some y13) else some false).bind fun b14 =>
    bif b14 then
      (
        sI (w64 (i9 + 1)) fun i16 =>
        r_sort_partition_func_L10 a1 e5 e6 j8 pivot3 xs0 n i16
      )
    else
      (
        some i9
      )
def r_sort_partition_func_L18 (a1 : Int) (e5 : (Int × Int × Int)) (e6 : (Int × Int × Int)) (o11 : Int) (pivot3 : Int) (xs0 : List ((Int × Int × Int))) : Nat → Int → Option Int
  | 0, _ => none
  | n + 1, j17 =>
    (bif (leI o11 j17) then ((r_impl_sortForms_1 j17 a1 ((xs0.set (Int.toNat (a1)) e6).set (Int.toNat (pivot3)) e5)).bind fun y21 => some (!y21)) else some false).bind fun b22 =>
    bif b22 then
      (
        sI (w64 (j17 - 1)) fun j24 =>
        r_sort_partition_func_L18 a1 e5 e6 o11 pivot3 xs0 n j24
      )
    else
      (
        some j17
      )
def r_sort_partition_func_L40 (a1 : Int) (j35 : Int) (l36 : List ((Int × Int × Int))) : Nat → Int → Option Int
  | 0, _ => none
  | n + 1, i39 =>
    (bif (leI i39 j35) then ((r_impl_sortForms_1 i39 a1 l36).bind fun y43 => some y43) else some false).bind fun b44 =>
    bif b44 then
      (
        sI (w64 (i39 + 1)) fun i46 =>
        r_sort_partition_func_L40 a1 j35 l36 n i46
      )
    else
      (
        some i39
      )
def r_sort_partition_func_L48 (a1 : Int) (l36 : List ((Int × Int × Int))) (o41 : Int) : Nat → Int → Option Int
  | 0, _ => none
  | n + 1, j47 =>
    (bif (leI o41 j47) then ((r_impl_sortForms_1 j47 a1 l36).bind fun y51 => some (!y51)) else some false).bind fun b52 =>
    bif b52 then
      (
        sI (w64 (j47 - 1)) fun j54 =>
        r_sort_partition_func_L48 a1 l36 o41 n j54
      )
    else
      (
        some j47
      )
def r_sort_partition_func_L37 (a1 : Int) : Nat → Int → Int → List ((Int × Int × Int)) → Option (Int × (List ((Int × Int × Int))))
  | 0, _, _, _ => none
  | n + 1, i34, j35, l36 =>
    (r_sort_partition_func_L40 a1 j35 l36 FU i34).bind fun o41 =>
    (r_sort_partition_func_L48 a1 l36 o41 FU j35).bind fun o49 =>
    bif (ltI o49 o41) then
      (
        some (o49, l36)
      )
    else
      (
        (getI l36 o41).bind fun e56 =>
        (getI l36 o49).bind fun e57 =>
        sI (w64 (o41 + 1)) fun i58 =>
        sI (w64 (o49 - 1)) fun j59 =>
        r_sort_partition_func_L37 a1 n i58 j59 ((l36.set (Int.toNat (o41)) e57).set (Int.toNat (o49)) e56)
      )
def r_sort_partition_func (xs0 : List ((Int × Int × Int))) (a1 : Int) (b2 : Int) (pivot3 : Int) : Option (Int × Bool × (List ((Int × Int × Int)))) :=
  (getI xs0 a1).bind fun e5 =>
  (getI xs0 pivot3).bind fun e6 =>
  sI (w64 (a1 + 1)) fun i7 =>
  sI (w64 (b2 - 1)) fun j8 =>
  (r_sort_partition_func_L10 a1 e5 e6 j8 pivot3 xs0 FU i7).bind fun o11 =>
  (r_sort_partition_func_L18 a1 e5 e6 o11 pivot3 xs0 FU j8).bind fun o19 =>
  bif (ltI o19 o11) then
    (
      (getI ((xs0.set (Int.toNat (a1)) e6).set (Int.toNat (pivot3)) e5) o19).bind fun e26 =>
      (getI ((xs0.set (Int.toNat (a1)) e6).set (Int.toNat (pivot3)) e5) a1).bind fun e27 =>
      (some ((((xs0.set (Int.toNat (a1)) e6).set (Int.toNat (pivot3)) e5).set (Int.toNat (o19)) e27).set (Int.toNat (a1)) e26)).bind fun l28 =>
      some ((o19, true, l28))
    )
  else
    (
      (getI ((xs0.set (Int.toNat (a1)) e6).set (Int.toNat (pivot3)) e5) o11).bind fun e29 =>
      (getI ((xs0.set (Int.toNat (a1)) e6).set (Int.toNat (pivot3)) e5) o19).bind fun e30 =>
      (some ((((xs0.set (Int.toNat (a1)) e6).set (Int.toNat (pivot3)) e5).set (Int.toNat (o11)) e30).set (Int.toNat (o19)) e29)).bind fun l31 =>
      sI (w64 (o11 + 1)) fun i32 =>
      sI (w64 (o19 - 1)) fun j33 =>
      (r_sort_partition_func_L37 a1 FU i32 j33 l31).bind fun o38 =>
      (getI o38.2 o38.1).bind fun e60 =>
      (getI o38.2 a1).bind fun e61 =>
      some ((o38.1, false, (o38.2.set (Int.toNat (o38.1)) e61).set (Int.toNat (a1)) e60))
    )

def r_sort_pdqsort_func_0_L7 (b2 : Int) (limit3 : Int) : Nat → Int → List ((Int × Int × Int)) → Option (Unit ⊕ List ((Int × Int × Int)))
  | 0, _, _ => none
  | n + 1, a5, l6 =>
    sI (w64 (b2 - a5)) fun length9 =>
    bif (leI length9 12) then
      (
        (r_sort_insertionSort_func l6 a5 b2).bind fun y11 =>
        some (.inr y11)
      )
    else
      (
        bif (eqI limit3 0) then
          (
            none
          )
        else
          (
            (r_sort_choosePivot_func l6 a5 b2).bind fun y14 =>
            (
              bif (eqI y14.2.1 2) then
                (
                  (r_sort_reverseRange_func y14.2.2 a5 b2).bind fun y17 =>
                  sI (w64 ((w64 (b2 - 1)) - (w64 (y14.1 - a5)))) fun pivot18 =>
                  some (pivot18, 1, y17)
                )
              else
                (
                  some (y14.1, y14.2.1, y14.2.2)
                )
            ).bind fun j15 =>
            ((
              bif (eqI j15.2.1 1) then
                (
                  (r_sort_partialInsertionSort_func j15.2.2 a5 b2).bind fun y21 =>
                  bif y21.1 then
                    (
                      some (.inr y21.2)
                    )
                  else
                    (
                      some (.inl y21.2)
                    )
                )
              else
                (
                  some (.inl j15.2.2)
                )
            ) : Option (List ((Int × Int × Int)) ⊕ List ((Int × Int × Int)))).bind fun qo19 =>
            match qo19 with
            | .inr r => some (.inr r)
            | .inl o19 =>
              (bif (ltI 0 a5) then ((r_impl_sortForms_1 (w64 (a5 - 1)) j15.1 o19).bind fun y24 => some (!y24)) else some false).bind fun b25 =>
              bif b25 then
                (
                  (r_sort_partitionEqual_func o19 a5 b2 j15.1).bind fun y27 =>
                  r_sort_pdqsort_func_0_L7 b2 limit3 n y27.1 y27.2
                )
              else
                (
                  (r_sort_partition_func o19 a5 b2 j15.1).bind fun y28 =>
                  sI (w64 (y28.1 - a5)) fun leftLen29 =>
                  sI (w64 (b2 - y28.1)) fun rightLen30 =>
                  sI (w64 (Int.tdiv length9 8)) fun balanceThreshold31 =>
                  bif (ltI leftLen29 rightLen30) then
                    (
                      none
                    )
                  else
                    (
                      none
                    )
                )
          )
      )
def r_sort_pdqsort_func_0 (xs0 : List ((Int × Int × Int))) (a1 : Int) (b2 : Int) (limit3 : Int) : Option (List ((Int × Int × Int))) :=
  (r_sort_pdqsort_func_0_L7 b2 limit3 FU a1 xs0).bind fun qo8 =>
  match qo8 with
  | .inr r => some r
  | .inl _ => none

def r_sort_pdqsort_func_L10 (limit3 : Int) : Nat → Int → List ((Int × Int × Int)) → Bool → Bool → Int → Option (Unit ⊕ List ((Int × Int × Int)))
  | 0, _, _, _, _, _ => none
  | n + 1, a5, l6, wasBalanced7, wasPartitioned8, b9 =>
    sI (w64 (b9 - a5)) fun length12 =>
    bif (leI length12 12) then
      (
        (r_sort_insertionSort_func l6 a5 b9).bind fun y14 =>
        some (.inr y14)
      )
    else
      (
        bif (eqI limit3 0) then
          (
            none
          )
        else
          (
            bif (!wasBalanced7) then
              (
                none
              )
            else
              (
                (r_sort_choosePivot_func l6 a5 b9).bind fun y17 =>
                (
                  bif (eqI y17.2.1 2) then
                    (
                      (r_sort_reverseRange_func y17.2.2 a5 b9).bind fun y20 =>
                      sI (w64 ((w64 (b9 - 1)) - (w64 (y17.1 - a5)))) fun pivot21 =>
                      some (pivot21, 1, y20)
                    )
                  else
                    (
                      some (y17.1, y17.2.1, y17.2.2)
                    )
                ).bind fun j18 =>
                ((
                  (some (bif (bif wasBalanced7 then wasPartitioned8 else false) then (eqI j18.2.1 1) else false)).bind fun t25 =>
                  bif t25 then
                    (
                      (r_sort_partialInsertionSort_func j18.2.2 a5 b9).bind fun y27 =>
                      bif y27.1 then
                        (
                          some (.inr y27.2)
                        )
                      else
                        (
                          some (.inl y27.2)
                        )
                    )
                  else
                    (
                      some (.inl j18.2.2)
                    )
                ) : Option (List ((Int × Int × Int)) ⊕ List ((Int × Int × Int)))).bind fun qo22 =>
                match qo22 with
                | .inr r => some (.inr r)
                | .inl o22 =>
                  (bif (ltI 0 a5) then ((r_impl_sortForms_1 (w64 (a5 - 1)) j18.1 o22).bind fun y30 => some (!y30)) else some false).bind fun b31 =>
                  bif b31 then
                    (
                      (r_sort_partitionEqual_func o22 a5 b9 j18.1).bind fun y33 =>
                      r_sort_pdqsort_func_L10 limit3 n y33.1 y33.2 wasBalanced7 wasPartitioned8 b9
                    )
                  else
                    (
                      (r_sort_partition_func o22 a5 b9 j18.1).bind fun y34 =>
                      sI (w64 (y34.1 - a5)) fun leftLen35 =>
                      sI (w64 (b9 - y34.1)) fun rightLen36 =>
                      sI (w64 (Int.tdiv length12 8)) fun balanceThreshold37 =>
                      bif (ltI leftLen35 rightLen36) then
                        (
                          (r_sort_pdqsort_func_0 y34.2.2 a5 y34.1 limit3).bind fun y39 =>
                          sI (w64 (y34.1 + 1)) fun a40 =>
                          r_sort_pdqsort_func_L10 limit3 n a40 y39 (leI balanceThreshold37 leftLen35) y34.2.1 b9
                        )
                      else
                        (
                          (r_sort_pdqsort_func_0 y34.2.2 (w64 (y34.1 + 1)) b9 limit3).bind fun y41 =>
                          r_sort_pdqsort_func_L10 limit3 n a5 y41 (leI balanceThreshold37 rightLen36) y34.2.1 y34.1
                        )
                    )
              )
          )
      )
def r_sort_pdqsort_func (xs0 : List ((Int × Int × Int))) (a1 : Int) (b2 : Int) (limit3 : Int) : Option (List ((Int × Int × Int))) :=
  (r_sort_pdqsort_func_L10 limit3 FU a1 xs0 true true b2).bind fun qo11 =>
  match qo11 with
  | .inr r => some r
  | .inl _ => none

def r_sort_insertionSort_func_t_L5 (a1 : Int) (b2 : Int) (i4 : Int) (xs0 : List ((Int × Int × Int))) : Nat → Option Unit
  | 0 => none
  | n + 1 =>
    bif (ltI i4 b2) then
      (
        none
      )
    else
      (
        some ()
      )
def r_sort_insertionSort_func_t (xs0 : List ((Int × Int × Int))) (a1 : Int) (b2 : Int) : Option (List ((Int × Int × Int))) :=
  sI (w64 (a1 + 1)) fun i4 =>
  (r_sort_insertionSort_func_t_L5 a1 b2 i4 xs0 FU).bind fun o6 =>
  some xs0

def r_sort_pdqsort_func_t_L5 (a1 : Int) (b2 : Int) (limit3 : Int) (xs0 : List ((Int × Int × Int))) : Nat → Option (Unit ⊕ List ((Int × Int × Int)))
  | 0 => none
  | n + 1 =>
    sI (w64 (b2 - a1)) fun length7 =>
    bif (leI length7 12) then
      (
        (r_sort_insertionSort_func_t xs0 a1 b2).bind fun y9 =>
        some (.inr y9)
      )
    else
      (
        bif (eqI limit3 0) then
          (
            none
          )
        else
          (
            none
          )
      )
def r_sort_pdqsort_func_t (xs0 : List ((Int × Int × Int))) (a1 : Int) (b2 : Int) (limit3 : Int) : Option (List ((Int × Int × Int))) :=
  (r_sort_pdqsort_func_t_L5 a1 b2 limit3 xs0 FU).bind fun qo6 =>
  match qo6 with
  | .inr r => some r
  | .inl _ => none

/-- What sortForms does. -/
def r_impl_sortForms (xs : List (Int × Int × Int)) : Option (List (Int × Int × Int)) :=
  bif Nat.ble 1048576 xs.length then none else bif Nat.ble xs.length 1 then r_sort_pdqsort_func_t xs 0 xs.length (Lib.bitLen xs.length) else r_sort_pdqsort_func xs 0 xs.length (Lib.bitLen xs.length)

def r_impl_UpperForms_L12 (f1 : (Int × Int × Int)) (y9 : ((List ((Int × Int × Int))) × Bool)) : Nat → Int → List ((Int × Int × Int)) → Option (List ((Int × Int × Int)))
  | 0, _, _ => none
  | n + 1, t10, l11 =>
    bif (ltI t10 ((y9.1.length : Int))) then
      (
        (getI y9.1 t10).bind fun e15 =>
        (getI y9.1 t10).bind fun e16 =>
        (r_impl_reduced f1).bind fun y17 =>
        (r_impl_Form_substitute y17 ((e16.1, e16.2.1, 0, e16.2.2))).bind fun y18 =>
        (r_impl_reduced y18).bind fun y19 =>
        (r_impl_Form_content y18).bind fun y20 =>
        (bif (eqI y20 1) then ((r_impl_hasForm l11 y19).bind fun y22 => some (!y22)) else some false).bind fun b23 =>
        bif b23 then
          (
            (room (l11.length + ([y19]).length)).bind fun u25 =>
            sI (w64 (t10 + 1)) fun t26 =>
            r_impl_UpperForms_L12 f1 y9 n t26 (l11 ++ ([y19]))
          )
        else
          (
            sI (w64 (t10 + 1)) fun t27 =>
            r_impl_UpperForms_L12 f1 y9 n t27 l11
          )
      )
    else
      (
        some l11
      )
def r_impl_UpperForms (f1 : (Int × Int × Int)) (p2 : Int) : Option ((List ((Int × Int × Int))) × Bool) :=
  (r_impl_isClassForm f1).bind fun y3 =>
  (bif (!y3) then some true else ((r_impl_Form_disc f1).bind fun y5 => (r_impl_canRise y5 p2).bind fun y6 => some (!y6))).bind fun b7 =>
  bif b7 then
    (
      some ((([] : List ((Int × Int × Int))), false))
    )
  else
    (
      (r_impl_SublatticesOf p2).bind fun y9 =>
      (r_impl_UpperForms_L12 f1 y9 FU 0 (([] : List ((Int × Int × Int))))).bind fun o13 =>
      (r_impl_sortForms o13).bind fun y28 =>
      some ((y28, true))
    )

def r_laws_eqForm (a1 : (Int × Int × Int)) (b2 : (Int × Int × Int)) : Option Bool :=
  bif (!eqI a1.1 b2.1) then
    (
      some false
    )
  else
    (
      bif (!eqI a1.2.1 b2.2.1) then
        (
          some false
        )
      else
        (
          bif (!eqI a1.2.2 b2.2.2) then
            (
              some false
            )
          else
            (
              some true
            )
        )
    )

def r_laws_eqFormS_L5 (a1 : List ((Int × Int × Int))) (b2 : List ((Int × Int × Int))) : Nat → Int → Option (Unit ⊕ Bool)
  | 0, _ => none
  | n + 1, i4 =>
    bif (ltI i4 ((a1.length : Int))) then
      (
        (getI a1 i4).bind fun e8 =>
        (getI b2 i4).bind fun e9 =>
        (r_laws_eqForm e8 e9).bind fun y10 =>
        bif (!y10) then
          (
            some (.inr false)
          )
        else
          (
            sI (w64 (i4 + 1)) fun i12 =>
            r_laws_eqFormS_L5 a1 b2 n i12
          )
      )
    else
      (
        some (.inl ())
      )
def r_laws_eqFormS (a1 : List ((Int × Int × Int))) (b2 : List ((Int × Int × Int))) : Option Bool :=
  bif (!eqI ((a1.length : Int)) ((b2.length : Int))) then
    (
      some false
    )
  else
    (
      (r_laws_eqFormS_L5 a1 b2 FU 0).bind fun qo6 =>
      match qo6 with
      | .inr r => some r
      | .inl o6 =>
        some true
    )

def r_laws_markFormS_L6 : Nat → Int → Int → List ((Int × Int × Int)) → Option (Int × (List ((Int × Int × Int))))
  | 0, _, _, _ => none
  | n + 1, k3, i4, l5 =>
    bif (ltI i4 ((l5.length : Int))) then
      (
        (getI l5 i4).bind fun e9 =>
        (getI l5 i4).bind fun e10 =>
        sI (w64 (k3 + 1)) fun k11 =>
        (getI (l5.set (Int.toNat (i4)) ((k3, e10.2.1, e10.2.2))) i4).bind fun e12 =>
        (getI (l5.set (Int.toNat (i4)) ((k3, e10.2.1, e10.2.2))) i4).bind fun e13 =>
        (some ((l5.set (Int.toNat (i4)) ((k3, e10.2.1, e10.2.2))).set (Int.toNat (i4)) ((e13.1, k11, e13.2.2)))).bind fun l14 =>
        sI (w64 (k11 + 1)) fun k15 =>
        (getI l14 i4).bind fun e16 =>
        (getI l14 i4).bind fun e17 =>
        sI (w64 (k15 + 1)) fun k18 =>
        sI (w64 (i4 + 1)) fun i19 =>
        r_laws_markFormS_L6 n k18 i19 (l14.set (Int.toNat (i4)) ((e17.1, e17.2.1, k15)))
      )
    else
      (
        some (k3, l5)
      )
def r_laws_markFormS (a1 : List ((Int × Int × Int))) (k2 : Int) : Option (Int × (List ((Int × Int × Int)))) :=
  (r_laws_markFormS_L6 FU k2 0 a1).bind fun o7 =>
  some ((o7.1, o7.2))

def r_laws_heldFormS_L5 (a1 : List ((Int × Int × Int))) : Nat → Int → Int → Option (Int ⊕ Int)
  | 0, _, _ => none
  | n + 1, k3, i4 =>
    bif (ltI i4 ((a1.length : Int))) then
      (
        (getI a1 i4).bind fun e8 =>
        bif (!eqI e8.1 k3) then
          (
            some (.inr ((-1)))
          )
        else
          (
            sI (w64 (k3 + 1)) fun k10 =>
            (getI a1 i4).bind fun e11 =>
            bif (!eqI e11.2.1 k10) then
              (
                some (.inr ((-1)))
              )
            else
              (
                sI (w64 (k10 + 1)) fun k13 =>
                (getI a1 i4).bind fun e14 =>
                bif (!eqI e14.2.2 k13) then
                  (
                    some (.inr ((-1)))
                  )
                else
                  (
                    sI (w64 (k13 + 1)) fun k16 =>
                    sI (w64 (i4 + 1)) fun i17 =>
                    r_laws_heldFormS_L5 a1 n k16 i17
                  )
              )
          )
      )
    else
      (
        some (.inl k3)
      )
def r_laws_heldFormS (a1 : List ((Int × Int × Int))) (k2 : Int) : Option Int :=
  (r_laws_heldFormS_L5 a1 FU k2 0).bind fun qo6 =>
  match qo6 with
  | .inr r => some r
  | .inl o6 =>
    some o6

def r_laws_FnExactUpperForms (aF1 : (Int × Int × Int)) (aP2 : Int) : Option Bool :=
  (r_laws_toForm aF1).bind fun y3 =>
  (r_spec_UpperForms y3 aP2).bind fun y4 =>
  (r_laws_toForm aF1).bind fun y5 =>
  (r_impl_UpperForms y5 aP2).bind fun y6 =>
  (r_laws_eqFormS y6.1 y4.1).bind fun y7 =>
  bif (bif (!y7) then true else (y6.2 != y4.2)) then
    (
      some false
    )
  else
    (
      (r_laws_markFormS y6.1 1).bind fun y10 =>
      (r_laws_heldFormS y10.2 1).bind fun y11 =>
      bif (ltI y11 0) then
        (
          some false
        )
      else
        (
          bif (!eqI y11 y10.1) then
            (
              some false
            )
          else
            (
              (r_laws_toForm aF1).bind fun y14 =>
              (r_impl_UpperForms y14 aP2).bind fun y15 =>
              (r_laws_eqFormS y15.1 y4.1).bind fun y16 =>
              bif (bif (!y16) then true else (y15.2 != y4.2)) then
                (
                  some false
                )
              else
                (
                  (r_laws_heldFormS y10.2 1).bind fun y19 =>
                  bif (ltI y19 0) then
                    (
                      some false
                    )
                  else
                    (
                      bif (!eqI y19 y10.1) then
                        (
                          some false
                        )
                      else
                        (
                          some true
                        )
                    )
                )
            )
        )
    )

end Go.Proofs.YtnheekadeflecaaGreat
