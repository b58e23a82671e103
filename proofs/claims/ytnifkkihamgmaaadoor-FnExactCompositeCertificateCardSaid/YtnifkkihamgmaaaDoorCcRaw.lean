/-
  What the functions of the program compute, as plain functions.
  Conditions: none.
-/
import Derived.Test.YtnifkkihamgmaaaDoorShRs

namespace Go.Proofs.YtnifkkihamgmaaaDoor

set_option linter.unusedVariables false

def r_laws_toForm (a1 : (Int × Int × Int)) : Option (Int × Int × Int) :=
  some a1

def r_spec_l1In (vn1 : Int) (lo2 : Int) (hi3 : Int) : Option Bool :=
  some (bif (leI lo2 vn1) then (leI vn1 hi3) else false)

def r_spec_nuGood (vn1 : Int) : Option Bool :=
  (r_spec_l1In vn1 (-1000000) 1000000).bind fun y2 =>
  some y2

def r_spec_foGood (f1 : (Int × Int × Int)) : Option Bool :=
  (r_spec_nuGood f1.1).bind fun y2 =>
  (bif y2 then ((r_spec_nuGood f1.2.1).bind fun y4 => some y4) else some false).bind fun b5 =>
  (bif b5 then ((r_spec_nuGood f1.2.2).bind fun y7 => some y7) else some false).bind fun b8 =>
  some b8

def r_spec_foDisc (f1 : (Int × Int × Int)) : Option Int :=
  sI (w64 ((w64 (f1.2.1 * f1.2.1)) - (w64 ((w64 (4 * f1.1)) * f1.2.2)))) fun t2 =>
  some t2

def r_spec_foDefinite (f1 : (Int × Int × Int)) : Option Bool :=
  (r_spec_foGood f1).bind fun y2 =>
  (bif y2 then ((r_spec_foDisc f1).bind fun y4 => some (ltI y4 0)) else some false).bind fun b5 =>
  some (bif b5 then (ltI 0 f1.1) else false)

def r_spec_vaForm (f1 : (Int × Int × Int)) : Option Bool :=
  (r_spec_foDefinite f1).bind fun y2 =>
  (bif y2 then ((r_spec_foDisc f1).bind fun y4 => some (leI (-2000) y4)) else some false).bind fun b5 =>
  some b5

def r_spec_l1Most (a1 : Int) (b2 : Int) : Option Int :=
  bif (ltI b2 a1) then
    (
      some a1
    )
  else
    (
      some b2
    )

def r_spec_l1Abs (vn1 : Int) : Option Int :=
  (r_spec_l1Most vn1 (w64 (0 - vn1))).bind fun y2 =>
  some y2

def r_spec_nuGcd_L7 : Nat → Int → Int → Option Int
  | 0, _, _ => none
  | n + 1, a5, b6 =>
    bif (!eqI b6 0) then
      (
        (nz b6).bind fun z10 =>
        sI (Int.tmod a5 b6) fun b11 =>
        r_spec_nuGcd_L7 n b6 b11
      )
    else
      (
        some a5
      )
def r_spec_nuGcd (a1 : Int) (b2 : Int) : Option Int :=
  (r_spec_l1Abs a1).bind fun y3 =>
  (r_spec_l1Abs b2).bind fun y4 =>
  (r_spec_nuGcd_L7 FU y3 y4).bind fun o8 =>
  some o8

def r_spec_foContent (f1 : (Int × Int × Int)) : Option Int :=
  (r_spec_nuGcd f1.1 f1.2.1).bind fun y2 =>
  (r_spec_nuGcd y2 f1.2.2).bind fun y3 =>
  some y3

def r_spec_coGood (f1 : (Int × Int × Int)) : Option Bool :=
  (r_spec_vaForm f1).bind fun y2 =>
  (bif y2 then ((r_spec_foContent f1).bind fun y4 => some (eqI y4 1)) else some false).bind fun b5 =>
  some b5

def r_spec_coTwo (f1 : (Int × Int × Int)) (g2 : (Int × Int × Int)) : Option Bool :=
  (r_spec_coGood f1).bind fun y3 =>
  (bif y3 then ((r_spec_coGood g2).bind fun y5 => some y5) else some false).bind fun b6 =>
  (bif b6 then ((r_spec_foDisc f1).bind fun y8 => (r_spec_foDisc g2).bind fun y9 => some (eqI y8 y9)) else some false).bind fun b10 =>
  some b10

def r_spec_reIs (f1 : (Int × Int × Int)) : Option Bool :=
  (some (bif (bif (ltI (w64 (0 - f1.1)) f1.2.1) then (leI f1.2.1 f1.1) else false) then (bif (ltI f1.1 f1.2.2) then true else (bif (eqI f1.1 f1.2.2) then (leI 0 f1.2.1) else false)) else false)).bind fun t6 =>
  some t6

def r_spec_nuMod (a1 : Int) (vm2 : Int) : Option Int :=
  (nz vm2).bind fun z3 =>
  sI (Int.tmod a1 vm2) fun vr4 =>
  bif (ltI vr4 0) then
    (
      sI (w64 (vr4 + vm2)) fun vr6 =>
      some vr6
    )
  else
    (
      some vr4
    )

def r_spec_reNormal (f1 : (Int × Int × Int)) : Option Int :=
  (r_spec_nuMod (w64 (f1.1 - f1.2.1)) (w64 (2 * f1.1))).bind fun y2 =>
  (nz (w64 (2 * f1.1))).bind fun z3 =>
  sI (w64 (Int.tdiv (w64 ((w64 (f1.1 - f1.2.1)) - y2)) (w64 (2 * f1.1)))) fun t4 =>
  some t4

def r_spec_reMove (f1 : (Int × Int × Int)) : Option (Int × Int × Int × Int) :=
  (r_spec_reNormal f1).bind fun y2 =>
  bif (!eqI y2 0) then
    (
      some ((1, y2, 0, 1))
    )
  else
    (
      (r_spec_reIs f1).bind fun y4 =>
      bif y4 then
        (
          some ((1, 0, 0, 1))
        )
      else
        (
          some ((0, -1, 1, 0))
        )
    )

def r_spec_foValue (f1 : (Int × Int × Int)) (x2 : Int) (y3 : Int) : Option Int :=
  sI (w64 ((w64 ((w64 ((w64 (f1.1 * x2)) * x2)) + (w64 ((w64 (f1.2.1 * x2)) * y3)))) + (w64 ((w64 (f1.2.2 * y3)) * y3)))) fun t4 =>
  some t4

def r_spec_foPolar (f1 : (Int × Int × Int)) (x2 : Int) (y3 : Int) (u4 : Int) (v5 : Int) : Option Int :=
  sI (w64 ((w64 ((w64 ((w64 ((w64 (2 * f1.1)) * x2)) * u4)) + (w64 (f1.2.1 * (w64 ((w64 (x2 * v5)) + (w64 (y3 * u4)))))))) + (w64 ((w64 ((w64 (2 * f1.2.2)) * y3)) * v5)))) fun t6 =>
  some t6

def r_spec_foAct (f1 : (Int × Int × Int)) (vm2 : (Int × Int × Int × Int)) : Option (Int × Int × Int) :=
  (r_spec_foValue f1 vm2.1 vm2.2.2.1).bind fun y3 =>
  (r_spec_foPolar f1 vm2.1 vm2.2.2.1 vm2.2.1 vm2.2.2.2).bind fun y4 =>
  (r_spec_foValue f1 vm2.2.1 vm2.2.2.2).bind fun y5 =>
  some ((y3, y4, y5))

def r_spec_foMul (vm1 : (Int × Int × Int × Int)) (vn2 : (Int × Int × Int × Int)) : Option (Int × Int × Int × Int) :=
  sI (w64 ((w64 (vm1.1 * vn2.1)) + (w64 (vm1.2.1 * vn2.2.2.1)))) fun f3 =>
  sI (w64 ((w64 (vm1.1 * vn2.2.1)) + (w64 (vm1.2.1 * vn2.2.2.2)))) fun f4 =>
  sI (w64 ((w64 (vm1.2.2.1 * vn2.1)) + (w64 (vm1.2.2.2 * vn2.2.2.1)))) fun f5 =>
  sI (w64 ((w64 (vm1.2.2.1 * vn2.2.1)) + (w64 (vm1.2.2.2 * vn2.2.2.2)))) fun f6 =>
  some ((f3, f4, f5, f6))

def r_spec_reReduce_L9 : Nat → Int → Int → Int → Int → Int → Int → Int → Option (Int × Int × Int × Int × Int × Int × Int)
  | 0, _, _, _, _, _, _, _ => none
  | n + 1, f2, f3, f4, f5, f6, f7, f8 =>
    (r_spec_reIs ((f6, f7, f8))).bind fun y11 =>
    bif (!y11) then
      (
        (r_spec_reMove ((f6, f7, f8))).bind fun y13 =>
        (r_spec_foAct ((f6, f7, f8)) y13).bind fun y14 =>
        (r_spec_foMul ((f2, f3, f4, f5)) y13).bind fun y15 =>
        r_spec_reReduce_L9 n y15.1 y15.2.1 y15.2.2.1 y15.2.2.2 y14.1 y14.2.1 y14.2.2
      )
    else
      (
        some (f2, f3, f4, f5, f6, f7, f8)
      )
def r_spec_reReduce (f1 : (Int × Int × Int)) : Option (((Int × Int × Int)) × ((Int × Int × Int × Int))) :=
  (r_spec_reReduce_L9 FU 1 0 0 1 f1.1 f1.2.1 f1.2.2).bind fun o10 =>
  some ((o10.2.2.2.2, (o10.1, o10.2.1, o10.2.2.1, o10.2.2.2.1)))

def r_spec_coPoint_L12 (a2 : Int) (g1 : (Int × Int × Int)) (k3 : Int) (x7 : Int) : Nat → Int → Option (Unit ⊕ (Int × Int))
  | 0, _ => none
  | n + 1, y11 =>
    bif (leI y11 k3) then
      (
        (r_spec_l1Most x7 y11).bind fun y15 =>
        (bif (eqI y15 k3) then ((r_spec_nuGcd x7 y11).bind fun y17 => some (eqI y17 1)) else some false).bind fun b18 =>
        (bif b18 then ((r_spec_foValue g1 x7 y11).bind fun y20 => (r_spec_nuGcd y20 a2).bind fun y21 => some (eqI y21 1)) else some false).bind fun b22 =>
        bif b22 then
          (
            some (.inr (((x7, y11))))
          )
        else
          (
            sI (w64 (y11 + 1)) fun y24 =>
            r_spec_coPoint_L12 a2 g1 k3 x7 n y24
          )
      )
    else
      (
        some (.inl ())
      )
def r_spec_coPoint_L8 (a2 : Int) (g1 : (Int × Int × Int)) (k3 : Int) : Nat → Int → Option (Unit ⊕ (Int × Int))
  | 0, _ => none
  | n + 1, x7 =>
    bif (leI x7 k3) then
      (
        (r_spec_coPoint_L12 a2 g1 k3 x7 FU 0).bind fun qo13 =>
        match qo13 with
        | .inr r => some (.inr r)
        | .inl o13 =>
          sI (w64 (x7 + 1)) fun x25 =>
          r_spec_coPoint_L8 a2 g1 k3 n x25
      )
    else
      (
        some (.inl ())
      )
def r_spec_coPoint_L4 (a2 : Int) (g1 : (Int × Int × Int)) : Nat → Int → Option (Unit ⊕ (Int × Int))
  | 0, _ => none
  | n + 1, k3 =>
    bif (leI k3 100) then
      (
        (r_spec_coPoint_L8 a2 g1 k3 FU 0).bind fun qo9 =>
        match qo9 with
        | .inr r => some (.inr r)
        | .inl o9 =>
          sI (w64 (k3 + 1)) fun k26 =>
          r_spec_coPoint_L4 a2 g1 n k26
      )
    else
      (
        some (.inl ())
      )
def r_spec_coPoint (g1 : (Int × Int × Int)) (a2 : Int) : Option (Int × Int) :=
  (r_spec_coPoint_L4 a2 g1 FU 1).bind fun qo5 =>
  match qo5 with
  | .inr r => some r
  | .inl o5 =>
    some ((1, 0))

def r_spec_l1Sign (vn1 : Int) : Option Int :=
  bif (ltI 0 vn1) then
    (
      some 1
    )
  else
    (
      bif (ltI vn1 0) then
        (
          some (-1)
        )
      else
        (
          some 0
        )
    )

def r_spec_nuInverse_L8 (vm2 : Int) : Nat → Int → Int → Int → Int → Option (Int × Int)
  | 0, _, _, _, _ => none
  | n + 1, vr4, next5, x6, y7 =>
    bif (!eqI next5 0) then
      (
        (nz next5).bind fun z11 =>
        sI (w64 (Int.tdiv vr4 next5)) fun q12 =>
        sI (w64 (vr4 - (w64 (q12 * next5)))) fun next13 =>
        sI (w64 (x6 - (w64 (q12 * y7)))) fun y14 =>
        r_spec_nuInverse_L8 vm2 n next5 next13 y7 y14
      )
    else
      (
        some (vr4, x6)
      )
def r_spec_nuInverse (a1 : Int) (vm2 : Int) : Option Int :=
  (r_spec_nuMod a1 vm2).bind fun y3 =>
  (r_spec_nuInverse_L8 vm2 FU vm2 y3 0 1).bind fun o9 =>
  bif (!eqI o9.1 1) then
    (
      some (-1)
    )
  else
    (
      (r_spec_nuMod o9.2 vm2).bind fun y16 =>
      some y16
    )

def r_spec_nuBezout (a1 : Int) (b2 : Int) : Option (Int × Int × Int) :=
  (r_spec_nuGcd a1 b2).bind fun y3 =>
  bif (eqI b2 0) then
    (
      (r_spec_l1Sign a1).bind fun y5 =>
      some ((y3, y5, 0))
    )
  else
    (
      (nz y3).bind fun z6 =>
      (r_spec_l1Abs b2).bind fun y7 =>
      (nz y3).bind fun z8 =>
      (r_spec_nuInverse (w64 (Int.tdiv a1 y3)) (w64 (Int.tdiv y7 y3))).bind fun y9 =>
      (nz b2).bind fun z10 =>
      sI (w64 (Int.tdiv (w64 (y3 - (w64 (a1 * y9)))) b2)) fun t11 =>
      some ((y3, y9, t11))
    )

def r_spec_vaComplete (f1 : (Int × Int × Int)) (x2 : Int) (y3 : Int) : Option (((Int × Int × Int)) × ((Int × Int × Int × Int))) :=
  (r_spec_nuBezout x2 y3).bind fun y4 =>
  (r_spec_foValue f1 x2 y3).bind fun y5 =>
  sI (w64 (0 - y4.2.2)) fun q6 =>
  (r_spec_foPolar f1 x2 y3 q6 y4.2.1).bind fun y7 =>
  (r_spec_nuMod y7 (w64 (2 * y5))).bind fun y8 =>
  (nz (w64 (2 * y5))).bind fun z9 =>
  sI (w64 (Int.tdiv (w64 (y8 - y7)) (w64 (2 * y5)))) fun t10 =>
  sI (w64 (q6 + (w64 (x2 * t10)))) fun f11 =>
  sI (w64 (y4.2.1 + (w64 (y3 * t10)))) fun f12 =>
  sI (w64 (y7 + (w64 ((w64 (2 * y5)) * t10)))) fun b13 =>
  (r_spec_foDisc f1).bind fun y14 =>
  (nz (w64 (4 * y5))).bind fun z15 =>
  sI (w64 (Int.tdiv (w64 ((w64 (b13 * b13)) - y14)) (w64 (4 * y5)))) fun f16 =>
  some (((y5, b13, f16), (x2, f11, y3, f12)))

def r_spec_nuCommon (a1 : Int) (vm2 : Int) (b3 : Int) (vn4 : Int) : Option (Int × Int × Bool) :=
  (r_spec_nuGcd vm2 vn4).bind fun y5 =>
  (nz y5).bind fun z6 =>
  bif (!eqI (Int.tmod (w64 (b3 - a1)) y5) 0) then
    (
      some ((0, 0, false))
    )
  else
    (
      (nz y5).bind fun z8 =>
      (nz y5).bind fun z9 =>
      (nz y5).bind fun z10 =>
      (r_spec_nuInverse (w64 (Int.tdiv vm2 y5)) (w64 (Int.tdiv vn4 y5))).bind fun y11 =>
      (nz y5).bind fun z12 =>
      (r_spec_nuMod (w64 ((w64 (Int.tdiv (w64 (b3 - a1)) y5)) * y11)) (w64 (Int.tdiv vn4 y5))).bind fun y13 =>
      (nz y5).bind fun z14 =>
      sI (w64 ((w64 (Int.tdiv vm2 y5)) * vn4)) fun all15 =>
      (r_spec_nuMod (w64 (a1 + (w64 (vm2 * y13)))) all15).bind fun y16 =>
      some ((y16, all15, true))
    )

def r_spec_coShift (t1 : Int) : Option (Int × Int × Int × Int) :=
  some ((1, t1, 0, 1))

def r_spec_coUnite (f1 : (Int × Int × Int)) (g2 : (Int × Int × Int)) : Option (((Int × Int × Int)) × ((Int × Int × Int)) × ((Int × Int × Int × Int)) × ((Int × Int × Int × Int))) :=
  (r_spec_reReduce f1).bind fun y3 =>
  (r_spec_reReduce g2).bind fun y4 =>
  (r_spec_coPoint y4.1 y3.1.1).bind fun y5 =>
  (r_spec_vaComplete y4.1 y5.1 y5.2).bind fun y6 =>
  (r_spec_foMul y4.2 y6.2).bind fun y7 =>
  (r_spec_nuMod y3.1.2.1 (w64 (2 * y3.1.1))).bind fun y8 =>
  (r_spec_nuCommon y8 (w64 (2 * y3.1.1)) y6.1.2.1 (w64 (2 * y6.1.1))).bind fun y9 =>
  (nz (w64 (2 * y3.1.1))).bind fun z10 =>
  (r_spec_coShift (w64 (Int.tdiv (w64 (y9.1 - y3.1.2.1)) (w64 (2 * y3.1.1))))).bind fun y11 =>
  (r_spec_foMul y3.2 y11).bind fun y12 =>
  (nz (w64 (2 * y6.1.1))).bind fun z13 =>
  (r_spec_coShift (w64 (Int.tdiv (w64 (y9.1 - y6.1.2.1)) (w64 (2 * y6.1.1))))).bind fun y14 =>
  (r_spec_foMul y7 y14).bind fun y15 =>
  (r_spec_foDisc y3.1).bind fun y16 =>
  (nz (w64 ((w64 (4 * y3.1.1)) * y6.1.1))).bind fun z17 =>
  sI (w64 (Int.tdiv (w64 ((w64 (y9.1 * y9.1)) - y16)) (w64 ((w64 (4 * y3.1.1)) * y6.1.1)))) fun c18 =>
  sI (w64 (y3.1.1 * c18)) fun f19 =>
  sI (w64 (y6.1.1 * c18)) fun f20 =>
  some (((y3.1.1, y9.1, f20), (y6.1.1, y9.1, f19), y12, y15))

def r_spec_coJoined (a1 : (Int × Int × Int)) (e2 : (Int × Int × Int)) : Option (Int × Int × Int) :=
  (nz e2.1).bind fun z3 =>
  sI (w64 (a1.1 * e2.1)) fun f4 =>
  sI (w64 (Int.tdiv a1.2.2 e2.1)) fun f5 =>
  some ((f4, a1.2.1, f5))

def r_spec_foDet (vm1 : (Int × Int × Int × Int)) : Option Int :=
  sI (w64 ((w64 (vm1.1 * vm1.2.2.2)) - (w64 (vm1.2.1 * vm1.2.2.1)))) fun t2 =>
  some t2

def r_spec_foInverse (vm1 : (Int × Int × Int × Int)) : Option (Int × Int × Int × Int) :=
  (r_spec_foDet vm1).bind fun y2 =>
  sI (w64 (y2 * vm1.2.2.2)) fun f3 =>
  sI (w64 ((w64 (0 - y2)) * vm1.2.1)) fun f4 =>
  sI (w64 ((w64 (0 - y2)) * vm1.2.2.1)) fun f5 =>
  sI (w64 (y2 * vm1.1)) fun f6 =>
  some ((f3, f4, f5, f6))

def r_spec_coProof_L12 (y3 : (((Int × Int × Int)) × ((Int × Int × Int)) × ((Int × Int × Int × Int)) × ((Int × Int × Int × Int)))) (y4 : (Int × Int × Int)) (y5 : (((Int × Int × Int)) × ((Int × Int × Int × Int)))) (y6 : (Int × Int × Int × Int)) (y7 : (Int × Int × Int × Int)) (y8 : (Int × Int × Int × Int)) : Nat → Int → List Int → Option (List Int)
  | 0, _, _ => none
  | n + 1, i10, l11 =>
    bif (ltI i10 4) then
      (
        (
          bif (leI 2 i10) then
            (
              some (y6.2.1, y6.2.2.2)
            )
          else
            (
              some (y6.1, y6.2.2.1)
            )
        ).bind fun j15 =>
        (
          bif (eqI (Int.tmod i10 2) 1) then
            (
              some (y7.2.1, y7.2.2.2)
            )
          else
            (
              some (y7.1, y7.2.2.1)
            )
        ).bind fun j17 =>
        sI (w64 ((w64 (j15.1 * j17.1)) - (w64 ((w64 (y4.2.2 * j15.2)) * j17.2)))) fun p19 =>
        sI (w64 ((w64 ((w64 ((w64 (y3.1.1 * j15.1)) * j17.2)) + (w64 ((w64 (y3.2.1.1 * j15.2)) * j17.1)))) + (w64 ((w64 (y4.2.1 * j15.2)) * j17.2)))) fun q20 =>
        (getI l11 i10).bind fun e21 =>
        (getI l11 i10).bind fun e22 =>
        (some (l11.set (Int.toNat (i10)) (w64 ((w64 (y8.1 * p19)) + (w64 (y8.2.1 * q20)))))).bind fun l23 =>
        (getI l23 (w64 (4 + i10))).bind fun e24 =>
        (getI l23 (w64 (4 + i10))).bind fun e25 =>
        (some (l23.set (Int.toNat (w64 (4 + i10))) (w64 ((w64 (y8.2.2.1 * p19)) + (w64 (y8.2.2.2 * q20)))))).bind fun l26 =>
        sI (w64 (i10 + 1)) fun i27 =>
        r_spec_coProof_L12 y3 y4 y5 y6 y7 y8 n i27 l26
      )
    else
      (
        some l11
      )
def r_spec_coProof (f1 : (Int × Int × Int)) (g2 : (Int × Int × Int)) : Option (((Int × Int × Int)) × (List Int)) :=
  (r_spec_coUnite f1 g2).bind fun y3 =>
  (r_spec_coJoined y3.1 y3.2.1).bind fun y4 =>
  (r_spec_reReduce y4).bind fun y5 =>
  (r_spec_foInverse y3.2.2.1).bind fun y6 =>
  (r_spec_foInverse y3.2.2.2).bind fun y7 =>
  (r_spec_foInverse y5.2).bind fun y8 =>
  (mk 8 8).bind fun u9 =>
  (r_spec_coProof_L12 y3 y4 y5 y6 y7 y8 FU 0 (List.replicate (Int.toNat (8)) ((0 : Int)))).bind fun o13 =>
  some ((y5.1, o13))

def r_spec_l1All_L5 (hi3 : Int) (l1 : List Int) (lo2 : Int) : Nat → Int → Option (Unit ⊕ Bool)
  | 0, _ => none
  | n + 1, t4 =>
    bif (ltI t4 ((l1.length : Int))) then
      (
        (getI l1 t4).bind fun e8 =>
        (r_spec_l1In e8 lo2 hi3).bind fun y9 =>
        bif (!y9) then
          (
            some (.inr false)
          )
        else
          (
            sI (w64 (t4 + 1)) fun t11 =>
            r_spec_l1All_L5 hi3 l1 lo2 n t11
          )
      )
    else
      (
        some (.inl ())
      )
def r_spec_l1All (l1 : List Int) (lo2 : Int) (hi3 : Int) : Option Bool :=
  (r_spec_l1All_L5 hi3 l1 lo2 FU 0).bind fun qo6 =>
  match qo6 with
  | .inr r => some r
  | .inl o6 =>
    some true

def r_spec_CompositionProof (f1 : (Int × Int × Int)) (g2 : (Int × Int × Int)) : Option (((Int × Int × Int)) × (List Int) × Bool) :=
  (r_spec_coTwo f1 g2).bind fun y3 =>
  bif (!y3) then
    (
      some (((0, 0, 0), ([] : List Int), false))
    )
  else
    (
      (r_spec_coProof f1 g2).bind fun y5 =>
      (r_spec_l1All y5.2 (-1000000) 1000000).bind fun y6 =>
      bif (!y6) then
        (
          some (((0, 0, 0), ([] : List Int), false))
        )
      else
        (
          some ((y5.1, y5.2, true))
        )
    )

def r_spec_l1Num : Nat → Int → Option ByteArray
  | 0, _ => none
  | n + 1, vn1 =>
    bif (ltI vn1 10) then
      (
        some (bytesI ([IntKind.u8.wrap (w64 (48 + vn1))]))
      )
    else
      (
        (r_spec_l1Num n (w64 (Int.tdiv vn1 10))).bind fun y3 =>
        (catR y3 (bytesI ([IntKind.u8.wrap (w64 (48 + (Int.tmod vn1 10)))]))).bind fun u4 =>
        some (y3 ++ (bytesI ([IntKind.u8.wrap (w64 (48 + (Int.tmod vn1 10)))])))
      )

def r_spec_l1Int (vn1 : Int) : Option ByteArray :=
  bif (ltI vn1 0) then
    (
      (r_spec_l1Num FU (w64 (0 - vn1))).bind fun y3 =>
      (catR ((⟨#[45]⟩ : ByteArray)) y3).bind fun u4 =>
      some (((⟨#[45]⟩ : ByteArray)) ++ y3)
    )
  else
    (
      (r_spec_l1Num FU vn1).bind fun y5 =>
      some y5
    )

def r_spec_foText (f1 : (Int × Int × Int)) : Option ByteArray :=
  (r_spec_l1Int f1.1).bind fun y2 =>
  (catR ((⟨#[40]⟩ : ByteArray)) y2).bind fun u3 =>
  (catR (((⟨#[40]⟩ : ByteArray)) ++ y2) ((⟨#[44]⟩ : ByteArray))).bind fun u4 =>
  (r_spec_l1Int f1.2.1).bind fun y5 =>
  (catR ((((⟨#[40]⟩ : ByteArray)) ++ y2) ++ ((⟨#[44]⟩ : ByteArray))) y5).bind fun u6 =>
  (catR (((((⟨#[40]⟩ : ByteArray)) ++ y2) ++ ((⟨#[44]⟩ : ByteArray))) ++ y5) ((⟨#[44]⟩ : ByteArray))).bind fun u7 =>
  (r_spec_l1Int f1.2.2).bind fun y8 =>
  (catR ((((((⟨#[40]⟩ : ByteArray)) ++ y2) ++ ((⟨#[44]⟩ : ByteArray))) ++ y5) ++ ((⟨#[44]⟩ : ByteArray))) y8).bind fun u9 =>
  (catR (((((((⟨#[40]⟩ : ByteArray)) ++ y2) ++ ((⟨#[44]⟩ : ByteArray))) ++ y5) ++ ((⟨#[44]⟩ : ByteArray))) ++ y8) ((⟨#[41]⟩ : ByteArray))).bind fun u10 =>
  some ((((((((⟨#[40]⟩ : ByteArray)) ++ y2) ++ ((⟨#[44]⟩ : ByteArray))) ++ y5) ++ ((⟨#[44]⟩ : ByteArray))) ++ y8) ++ ((⟨#[41]⟩ : ByteArray)))

def r_spec_prText_L4 (l1 : List ByteArray) : Nat → ByteArray → Int → Option ByteArray
  | 0, _, _ => none
  | n + 1, out2, t3 =>
    bif (ltI t3 ((l1.length : Int))) then
      (
        (getI l1 t3).bind fun e7 =>
        bif (ltI 0 t3) then
          (
            (catR out2 ((⟨#[32]⟩ : ByteArray))).bind fun u9 =>
            (catR (out2 ++ ((⟨#[32]⟩ : ByteArray))) e7).bind fun u10 =>
            sI (w64 (t3 + 1)) fun t11 =>
            r_spec_prText_L4 l1 n ((out2 ++ ((⟨#[32]⟩ : ByteArray))) ++ e7) t11
          )
        else
          (
            (catR out2 e7).bind fun u12 =>
            sI (w64 (t3 + 1)) fun t13 =>
            r_spec_prText_L4 l1 n (out2 ++ e7) t13
          )
      )
    else
      (
        some out2
      )
def r_spec_prText (l1 : List ByteArray) : Option ByteArray :=
  (r_spec_prText_L4 l1 FU ((⟨#[]⟩ : ByteArray)) 0).bind fun o5 =>
  some o5

def r_spec_CompositeCertificate_L11 (y3 : (((Int × Int × Int)) × (List Int) × Bool)) : Nat → Int → List ByteArray → Option (List ByteArray)
  | 0, _, _ => none
  | n + 1, t9, l10 =>
    bif (ltI t9 ((y3.2.1.length : Int))) then
      (
        (getI y3.2.1 t9).bind fun e14 =>
        (getI y3.2.1 t9).bind fun e15 =>
        (r_spec_l1Int e15).bind fun y16 =>
        (room (l10.length + ([y16]).length)).bind fun u17 =>
        sI (w64 (t9 + 1)) fun t18 =>
        r_spec_CompositeCertificate_L11 y3 n t18 (l10 ++ ([y16]))
      )
    else
      (
        some l10
      )
def r_spec_CompositeCertificate (f1 : (Int × Int × Int)) (g2 : (Int × Int × Int)) : Option (ByteArray × Bool) :=
  (r_spec_CompositionProof f1 g2).bind fun y3 =>
  bif (!y3.2.2) then
    (
      some (((⟨#[]⟩ : ByteArray), false))
    )
  else
    (
      (r_spec_foText f1).bind fun y5 =>
      (r_spec_foText g2).bind fun y6 =>
      (r_spec_foText y3.1).bind fun y7 =>
      (some ([(⟨#[99, 111, 109, 112, 111, 115, 105, 116, 101]⟩ : ByteArray), y5, y6, y7])).bind fun l8 =>
      (r_spec_CompositeCertificate_L11 y3 FU 0 l8).bind fun o12 =>
      (r_spec_prText o12).bind fun y19 =>
      some ((y19, true))
    )

def r_impl_areNumbers_L3 (list1 : List Int) : Nat → Int → Option (Unit ⊕ Bool)
  | 0, _ => none
  | n + 1, t2 =>
    bif (ltI t2 ((list1.length : Int))) then
      (
        (getI list1 t2).bind fun e6 =>
        bif (bif (ltI e6 (-1000000)) then true else (ltI 1000000 e6)) then
          (
            some (.inr false)
          )
        else
          (
            sI (w64 (t2 + 1)) fun t9 =>
            r_impl_areNumbers_L3 list1 n t9
          )
      )
    else
      (
        some (.inl ())
      )
def r_impl_areNumbers (list1 : List Int) : Option Bool :=
  (r_impl_areNumbers_L3 list1 FU 0).bind fun qo4 =>
  match qo4 with
  | .inr r => some r
  | .inl o4 =>
    some true

def r_impl_IsForm (f1 : (Int × Int × Int)) : Option Bool :=
  (r_impl_areNumbers ([f1.1, f1.2.1, f1.2.2])).bind fun y2 =>
  some y2

def r_impl_Form_disc (f1 : (Int × Int × Int)) : Option Int :=
  sI (w64 ((w64 (f1.2.1 * f1.2.1)) - (w64 ((w64 (4 * f1.1)) * f1.2.2)))) fun t2 =>
  some t2

def r_impl_isDefinite (f1 : (Int × Int × Int)) : Option Bool :=
  (r_impl_IsForm f1).bind fun y2 =>
  (bif y2 then ((r_impl_Form_disc f1).bind fun y4 => some (ltI y4 0)) else some false).bind fun b5 =>
  some (bif b5 then (ltI 0 f1.1) else false)

def r_impl_isShownForm (f1 : (Int × Int × Int)) : Option Bool :=
  (r_impl_isDefinite f1).bind fun y2 =>
  (bif y2 then ((r_impl_Form_disc f1).bind fun y4 => some (leI (-2000) y4)) else some false).bind fun b5 =>
  some b5

def r_impl_abs (vn1 : Int) : Option Int :=
  sI (mxI vn1 (w64 (0 - (mxI vn1 (-9223372036854775807))))) fun t2 =>
  some t2

def r_impl_gcd_L5 : Nat → Int → Int → Option Int
  | 0, _, _ => none
  | n + 1, a3, b4 =>
    bif (!eqI b4 0) then
      (
        (nz b4).bind fun z8 =>
        sI (Int.tmod a3 b4) fun b9 =>
        r_impl_gcd_L5 n b4 b9
      )
    else
      (
        some a3
      )
def r_impl_gcd (a1 : Int) (b2 : Int) : Option Int :=
  (r_impl_gcd_L5 FU a1 b2).bind fun o6 =>
  (r_impl_abs o6).bind fun y10 =>
  some y10

def r_impl_Form_content (f1 : (Int × Int × Int)) : Option Int :=
  (r_impl_gcd f1.2.1 f1.2.2).bind fun y2 =>
  (r_impl_gcd f1.1 y2).bind fun y3 =>
  some y3

def r_impl_isClassForm (f1 : (Int × Int × Int)) : Option Bool :=
  (r_impl_isShownForm f1).bind fun y2 =>
  (bif y2 then ((r_impl_Form_content f1).bind fun y4 => some (eqI y4 1)) else some false).bind fun b5 =>
  some b5

def r_impl_arePair (f1 : (Int × Int × Int)) (g2 : (Int × Int × Int)) : Option Bool :=
  (r_impl_isClassForm f1).bind fun y3 =>
  (bif y3 then ((r_impl_isClassForm g2).bind fun y5 => some y5) else some false).bind fun b6 =>
  (bif b6 then ((r_impl_Form_disc f1).bind fun y8 => (r_impl_Form_disc g2).bind fun y9 => some (eqI y8 y9)) else some false).bind fun b10 =>
  some b10

def r_impl_one : Option (Int × Int × Int × Int) :=
  some ((1, 0, 0, 1))

def r_impl_Form_isNormal (f1 : (Int × Int × Int)) : Option Bool :=
  (some (bif (ltI (w64 (0 - f1.1)) f1.2.1) then (leI f1.2.1 f1.1) else false)).bind fun t3 =>
  some t3

def r_impl_Form_isReduced (f1 : (Int × Int × Int)) : Option Bool :=
  (r_impl_Form_isNormal f1).bind fun y2 =>
  (some (bif y2 then (bif (ltI f1.1 f1.2.2) then true else (bif (eqI f1.1 f1.2.2) then (leI 0 f1.2.1) else false)) else false)).bind fun t6 =>
  some t6

def r_impl_mod (a1 : Int) (vm2 : Int) : Option Int :=
  (nz vm2).bind fun z3 =>
  sI (Int.tmod a1 vm2) fun vr4 =>
  bif (ltI vr4 0) then
    (
      sI (w64 (vr4 + vm2)) fun vr6 =>
      some vr6
    )
  else
    (
      some vr4
    )

def r_impl_floorDiv (a1 : Int) (vm2 : Int) : Option Int :=
  (r_impl_mod a1 vm2).bind fun y3 =>
  (nz vm2).bind fun z4 =>
  sI (w64 (Int.tdiv (w64 (a1 - y3)) vm2)) fun t5 =>
  some t5

def r_impl_Form_step (f1 : (Int × Int × Int)) : Option (Int × Int × Int × Int) :=
  (r_impl_Form_isReduced f1).bind fun y2 =>
  bif y2 then
    (
      (r_impl_one).bind fun y4 =>
      some y4
    )
  else
    (
      (r_impl_Form_isNormal f1).bind fun y5 =>
      bif (!y5) then
        (
          (r_impl_floorDiv (w64 (f1.1 - f1.2.1)) (w64 (2 * f1.1))).bind fun y7 =>
          some ((1, y7, 0, 1))
        )
      else
        (
          some ((0, -1, 1, 0))
        )
    )

def r_impl_Form_at (f1 : (Int × Int × Int)) (x2 : Int) (y3 : Int) : Option Int :=
  sI (w64 ((w64 ((w64 ((w64 (f1.1 * x2)) * x2)) + (w64 ((w64 (f1.2.1 * x2)) * y3)))) + (w64 ((w64 (f1.2.2 * y3)) * y3)))) fun t4 =>
  some t4

def r_impl_Form_polar (f1 : (Int × Int × Int)) (x2 : Int) (y3 : Int) (u4 : Int) (v5 : Int) : Option Int :=
  sI (w64 ((w64 ((w64 ((w64 ((w64 (2 * f1.1)) * x2)) * u4)) + (w64 (f1.2.1 * (w64 ((w64 (x2 * v5)) + (w64 (y3 * u4)))))))) + (w64 ((w64 ((w64 (2 * f1.2.2)) * y3)) * v5)))) fun t6 =>
  some t6

def r_impl_Form_substitute (f1 : (Int × Int × Int)) (vm2 : (Int × Int × Int × Int)) : Option (Int × Int × Int) :=
  (r_impl_Form_at f1 vm2.1 vm2.2.2.1).bind fun y3 =>
  (r_impl_Form_polar f1 vm2.1 vm2.2.2.1 vm2.2.1 vm2.2.2.2).bind fun y4 =>
  (r_impl_Form_at f1 vm2.2.1 vm2.2.2.2).bind fun y5 =>
  some ((y3, y4, y5))

def r_impl_Matrix_times (vm1 : (Int × Int × Int × Int)) (vn2 : (Int × Int × Int × Int)) : Option (Int × Int × Int × Int) :=
  sI (w64 ((w64 (vm1.1 * vn2.1)) + (w64 (vm1.2.1 * vn2.2.2.1)))) fun f3 =>
  sI (w64 ((w64 (vm1.1 * vn2.2.1)) + (w64 (vm1.2.1 * vn2.2.2.2)))) fun f4 =>
  sI (w64 ((w64 (vm1.2.2.1 * vn2.1)) + (w64 (vm1.2.2.2 * vn2.2.2.1)))) fun f5 =>
  sI (w64 ((w64 (vm1.2.2.1 * vn2.2.1)) + (w64 (vm1.2.2.2 * vn2.2.2.2)))) fun f6 =>
  some ((f3, f4, f5, f6))

def r_impl_reduce_L10 : Nat → Int → Int → Int → Int → Int → Int → Int → Option (Int × Int × Int × Int × Int × Int × Int)
  | 0, _, _, _, _, _, _, _ => none
  | n + 1, f3, f4, f5, f6, f7, f8, f9 =>
    (r_impl_Form_isReduced ((f7, f8, f9))).bind fun y12 =>
    bif (!y12) then
      (
        (r_impl_Form_step ((f7, f8, f9))).bind fun y14 =>
        (r_impl_Form_substitute ((f7, f8, f9)) y14).bind fun y15 =>
        (r_impl_Matrix_times ((f3, f4, f5, f6)) y14).bind fun y16 =>
        r_impl_reduce_L10 n y16.1 y16.2.1 y16.2.2.1 y16.2.2.2 y15.1 y15.2.1 y15.2.2
      )
    else
      (
        some (f3, f4, f5, f6, f7, f8, f9)
      )
def r_impl_reduce (f1 : (Int × Int × Int)) : Option (((Int × Int × Int)) × ((Int × Int × Int × Int))) :=
  (r_impl_one).bind fun y2 =>
  (r_impl_reduce_L10 FU y2.1 y2.2.1 y2.2.2.1 y2.2.2.2 f1.1 f1.2.1 f1.2.2).bind fun o11 =>
  some ((o11.2.2.2.2, (o11.1, o11.2.1, o11.2.2.1, o11.2.2.2.1)))

def r_impl_firstPoint_L11 (a2 : Int) (g1 : (Int × Int × Int)) (size3 : Int) (x6 : Int) : Nat → Int → Option (Unit ⊕ (Int × Int))
  | 0, _ => none
  | n + 1, y10 =>
    bif (leI y10 size3) then
      (
        (bif (eqI (mxI x6 y10) size3) then ((r_impl_gcd x6 y10).bind fun y15 => some (eqI y15 1)) else some false).bind fun b16 =>
        (bif b16 then ((r_impl_Form_at g1 x6 y10).bind fun y18 => (r_impl_gcd y18 a2).bind fun y19 => some (eqI y19 1)) else some false).bind fun b20 =>
        bif b20 then
          (
            some (.inr (((x6, y10))))
          )
        else
          (
            sI (w64 (y10 + 1)) fun y22 =>
            r_impl_firstPoint_L11 a2 g1 size3 x6 n y22
          )
      )
    else
      (
        some (.inl ())
      )
def r_impl_firstPoint_L7 (a2 : Int) (g1 : (Int × Int × Int)) (size3 : Int) : Nat → Int → Option (Unit ⊕ (Int × Int))
  | 0, _ => none
  | n + 1, x6 =>
    bif (leI x6 size3) then
      (
        (r_impl_firstPoint_L11 a2 g1 size3 x6 FU 0).bind fun qo12 =>
        match qo12 with
        | .inr r => some (.inr r)
        | .inl o12 =>
          sI (w64 (x6 + 1)) fun x23 =>
          r_impl_firstPoint_L7 a2 g1 size3 n x23
      )
    else
      (
        some (.inl ())
      )
def r_impl_firstPoint_L4 (a2 : Int) (g1 : (Int × Int × Int)) : Nat → Int → Option (Unit ⊕ (Int × Int))
  | 0, _ => none
  | n + 1, size3 =>
    (r_impl_firstPoint_L7 a2 g1 size3 FU 0).bind fun qo8 =>
    match qo8 with
    | .inr r => some (.inr r)
    | .inl o8 =>
      sI (w64 (size3 + 1)) fun size24 =>
      r_impl_firstPoint_L4 a2 g1 n size24
def r_impl_firstPoint (g1 : (Int × Int × Int)) (a2 : Int) : Option (Int × Int) :=
  (r_impl_firstPoint_L4 a2 g1 FU 0).bind fun qo5 =>
  match qo5 with
  | .inr r => some r
  | .inl _ => none

def r_impl_inverse_L8 (vm2 : Int) : Nat → Int → Int → Int → Int → Option Int
  | 0, _, _, _, _ => none
  | n + 1, x4, y5, vr6, vs7 =>
    bif (!eqI vs7 0) then
      (
        (nz vs7).bind fun z11 =>
        sI (w64 (Int.tdiv vr6 vs7)) fun q12 =>
        sI (w64 (vr6 - (w64 (q12 * vs7)))) fun vs13 =>
        sI (w64 (x4 - (w64 (q12 * y5)))) fun y14 =>
        r_impl_inverse_L8 vm2 n y5 y14 vs7 vs13
      )
    else
      (
        some x4
      )
def r_impl_inverse (a1 : Int) (vm2 : Int) : Option Int :=
  (r_impl_mod a1 vm2).bind fun y3 =>
  (r_impl_inverse_L8 vm2 FU 1 0 y3 vm2).bind fun o9 =>
  (r_impl_mod o9 vm2).bind fun y15 =>
  some y15

def r_impl_Form_complete (f1 : (Int × Int × Int)) (x2 : Int) (y3 : Int) : Option (((Int × Int × Int)) × ((Int × Int × Int × Int))) :=
  (
    bif (eqI y3 0) then
      (
        some (0, x2)
      )
    else
      (
        (r_impl_abs y3).bind fun y6 =>
        (r_impl_inverse x2 y6).bind fun y7 =>
        (nz y3).bind fun z8 =>
        sI (w64 (Int.tdiv (w64 ((w64 (x2 * y7)) - 1)) y3)) fun f9 =>
        some (f9, y7)
      )
  ).bind fun j4 =>
  (r_impl_Form_substitute f1 ((x2, j4.1, y3, j4.2))).bind fun y10 =>
  (r_impl_floorDiv y10.2.1 (w64 (2 * y10.1))).bind fun y11 =>
  sI (w64 (0 - y11)) fun t12 =>
  sI (w64 (j4.1 + (w64 (t12 * x2)))) fun f13 =>
  sI (w64 (j4.2 + (w64 (t12 * y3)))) fun f14 =>
  (r_impl_Form_substitute f1 ((x2, f13, y3, f14))).bind fun y15 =>
  some ((y15, (x2, f13, y3, f14)))

def r_impl_unite_L7 (f1 : (Int × Int × Int)) (y4 : (((Int × Int × Int)) × ((Int × Int × Int × Int)))) : Nat → Int → Option Int
  | 0, _ => none
  | n + 1, f6 =>
    (r_impl_mod (w64 (f6 - y4.1.2.1)) (w64 (2 * y4.1.1))).bind fun y9 =>
    bif (!eqI y9 0) then
      (
        sI (w64 (f6 + (w64 (2 * f1.1)))) fun f11 =>
        r_impl_unite_L7 f1 y4 n f11
      )
    else
      (
        some f6
      )
def r_impl_unite (f1 : (Int × Int × Int)) (g2 : (Int × Int × Int)) : Option (Int × Int × Int × Int × ((Int × Int × Int × Int)) × ((Int × Int × Int × Int))) :=
  (r_impl_firstPoint g2 f1.1).bind fun y3 =>
  (r_impl_Form_complete g2 y3.1 y3.2).bind fun y4 =>
  (r_impl_mod f1.2.1 (w64 (2 * f1.1))).bind fun y5 =>
  (r_impl_unite_L7 f1 y4 FU y5).bind fun o8 =>
  (r_impl_mod o8 (w64 ((w64 (2 * f1.1)) * y4.1.1))).bind fun y12 =>
  (r_impl_Form_disc f1).bind fun y13 =>
  (nz (w64 ((w64 (4 * f1.1)) * y4.1.1))).bind fun z14 =>
  sI (w64 (Int.tdiv (w64 ((w64 (y12 * y12)) - y13)) (w64 ((w64 (4 * f1.1)) * y4.1.1)))) fun f15 =>
  (nz (w64 (2 * f1.1))).bind fun z16 =>
  sI (w64 (Int.tdiv (w64 (y12 - f1.2.1)) (w64 (2 * f1.1)))) fun f17 =>
  (nz (w64 (2 * y4.1.1))).bind fun z18 =>
  (r_impl_Matrix_times y4.2 ((1, w64 (Int.tdiv (w64 (y12 - y4.1.2.1)) (w64 (2 * y4.1.1))), 0, 1))).bind fun y19 =>
  some ((f1.1, y4.1.1, y12, f15, (1, f17, 0, 1), y19))

def r_impl_Matrix_det (vm1 : (Int × Int × Int × Int)) : Option Int :=
  sI (w64 ((w64 (vm1.1 * vm1.2.2.2)) - (w64 (vm1.2.1 * vm1.2.2.1)))) fun t2 =>
  some t2

def r_impl_Matrix_inverse (vm1 : (Int × Int × Int × Int)) : Option (Int × Int × Int × Int) :=
  (r_impl_Matrix_det vm1).bind fun y2 =>
  sI (w64 (y2 * vm1.2.2.2)) fun f3 =>
  sI (w64 ((w64 (0 - y2)) * vm1.2.1)) fun f4 =>
  sI (w64 ((w64 (0 - y2)) * vm1.2.2.1)) fun f5 =>
  sI (w64 (y2 * vm1.1)) fun f6 =>
  some ((f3, f4, f5, f6))

def r_impl_united_composite (u1 : (Int × Int × Int × Int × ((Int × Int × Int × Int)) × ((Int × Int × Int × Int)))) : Option (Int × Int × Int) :=
  sI (w64 (u1.1 * u1.2.1)) fun f2 =>
  some ((f2, u1.2.2.1, u1.2.2.2.1))

def r_impl_outer (x1 : Int) (y2 : Int) (u3 : Int) (v4 : Int) : Option (Int × Int × Int × Int) :=
  sI (w64 (x1 * u3)) fun f5 =>
  sI (w64 (x1 * v4)) fun f6 =>
  sI (w64 (y2 * u3)) fun f7 =>
  sI (w64 (y2 * v4)) fun f8 =>
  some ((f5, f6, f7, f8))

def r_impl_bilinear_plus (b1 : (Int × Int × Int × Int)) (k2 : Int) (c3 : (Int × Int × Int × Int)) : Option (Int × Int × Int × Int) :=
  sI (w64 (b1.1 + (w64 (k2 * c3.1)))) fun f5 =>
  sI (w64 (b1.2.1 + (w64 (k2 * c3.2.1)))) fun f7 =>
  sI (w64 (b1.2.2.1 + (w64 (k2 * c3.2.2.1)))) fun f9 =>
  sI (w64 (b1.2.2.2 + (w64 (k2 * c3.2.2.2)))) fun f11 =>
  some ((f5, f7, f9, f11))

def r_impl_CompositionProof (f1 : (Int × Int × Int)) (g2 : (Int × Int × Int)) : Option (((Int × Int × Int)) × (List Int) × Bool) :=
  (r_impl_arePair f1 g2).bind fun y3 =>
  bif (!y3) then
    (
      some (((0, 0, 0), ([] : List Int), false))
    )
  else
    (
      (r_impl_reduce f1).bind fun y5 =>
      (r_impl_reduce g2).bind fun y6 =>
      (r_impl_unite y5.1 y6.1).bind fun y7 =>
      (r_impl_Matrix_times y5.2 y7.2.2.2.2.1).bind fun y8 =>
      (r_impl_Matrix_inverse y8).bind fun y9 =>
      (r_impl_Matrix_times y6.2 y7.2.2.2.2.2).bind fun y10 =>
      (r_impl_Matrix_inverse y10).bind fun y11 =>
      (r_impl_united_composite y7).bind fun y12 =>
      (r_impl_reduce y12).bind fun y13 =>
      (r_impl_Matrix_inverse y13.2).bind fun y14 =>
      (r_impl_outer y9.1 y9.2.1 y11.1 y11.2.1).bind fun y15 =>
      (r_impl_outer y9.1 y9.2.1 y11.2.2.1 y11.2.2.2).bind fun y16 =>
      (r_impl_outer y9.2.2.1 y9.2.2.2 y11.1 y11.2.1).bind fun y17 =>
      (r_impl_outer y9.2.2.1 y9.2.2.2 y11.2.2.1 y11.2.2.2).bind fun y18 =>
      (r_impl_bilinear_plus y15 (w64 (0 - y7.2.2.2.1)) y18).bind fun y19 =>
      (r_impl_bilinear_plus ((0, 0, 0, 0)) y7.1 y16).bind fun y20 =>
      (r_impl_bilinear_plus y20 y7.2.1 y17).bind fun y21 =>
      (r_impl_bilinear_plus y21 y7.2.2.1 y18).bind fun y22 =>
      (r_impl_bilinear_plus ((0, 0, 0, 0)) y14.1 y19).bind fun y23 =>
      (r_impl_bilinear_plus y23 y14.2.1 y22).bind fun y24 =>
      (r_impl_bilinear_plus ((0, 0, 0, 0)) y14.2.2.1 y19).bind fun y25 =>
      (r_impl_bilinear_plus y25 y14.2.2.2 y22).bind fun y26 =>
      (room ((([] : List Int)).length + ([y24.1, y24.2.1, y24.2.2.1, y24.2.2.2]).length)).bind fun u27 =>
      (room (((([] : List Int)) ++ ([y24.1, y24.2.1, y24.2.2.1, y24.2.2.2])).length + ([y26.1, y26.2.1, y26.2.2.1, y26.2.2.2]).length)).bind fun u28 =>
      (some (((([] : List Int)) ++ ([y24.1, y24.2.1, y24.2.2.1, y24.2.2.2])) ++ ([y26.1, y26.2.1, y26.2.2.1, y26.2.2.2]))).bind fun l29 =>
      (r_impl_areNumbers l29).bind fun y30 =>
      bif (!y30) then
        (
          some (((0, 0, 0), ([] : List Int), false))
        )
      else
        (
          some ((y13.1, l29, true))
        )
    )

def r_impl_formText (f1 : (Int × Int × Int)) : Option ByteArray :=
  (r_strconv_Itoa f1.1).bind fun y2 =>
  (catR ((⟨#[40]⟩ : ByteArray)) y2).bind fun u3 =>
  (catR (((⟨#[40]⟩ : ByteArray)) ++ y2) ((⟨#[44]⟩ : ByteArray))).bind fun u4 =>
  (r_strconv_Itoa f1.2.1).bind fun y5 =>
  (catR ((((⟨#[40]⟩ : ByteArray)) ++ y2) ++ ((⟨#[44]⟩ : ByteArray))) y5).bind fun u6 =>
  (catR (((((⟨#[40]⟩ : ByteArray)) ++ y2) ++ ((⟨#[44]⟩ : ByteArray))) ++ y5) ((⟨#[44]⟩ : ByteArray))).bind fun u7 =>
  (r_strconv_Itoa f1.2.2).bind fun y8 =>
  (catR ((((((⟨#[40]⟩ : ByteArray)) ++ y2) ++ ((⟨#[44]⟩ : ByteArray))) ++ y5) ++ ((⟨#[44]⟩ : ByteArray))) y8).bind fun u9 =>
  (catR (((((((⟨#[40]⟩ : ByteArray)) ++ y2) ++ ((⟨#[44]⟩ : ByteArray))) ++ y5) ++ ((⟨#[44]⟩ : ByteArray))) ++ y8) ((⟨#[41]⟩ : ByteArray))).bind fun u10 =>
  some ((((((((⟨#[40]⟩ : ByteArray)) ++ y2) ++ ((⟨#[44]⟩ : ByteArray))) ++ y5) ++ ((⟨#[44]⟩ : ByteArray))) ++ y8) ++ ((⟨#[41]⟩ : ByteArray)))

def r_impl_certificate (kind1 : ByteArray) (words2 : List ByteArray) : Option ByteArray :=
  (catR kind1 ((⟨#[32]⟩ : ByteArray))).bind fun u3 =>
  (r_strings_Join words2 ((⟨#[32]⟩ : ByteArray))).bind fun y4 =>
  (catR (kind1 ++ ((⟨#[32]⟩ : ByteArray))) y4).bind fun u5 =>
  some ((kind1 ++ ((⟨#[32]⟩ : ByteArray))) ++ y4)

def r_impl_CompositeCertificate_L10 (y3 : (((Int × Int × Int)) × (List Int) × Bool)) : Nat → Int → List ByteArray → Option (List ByteArray)
  | 0, _, _ => none
  | n + 1, t8, l9 =>
    bif (ltI t8 ((y3.2.1.length : Int))) then
      (
        (getI y3.2.1 t8).bind fun e13 =>
        (getI y3.2.1 t8).bind fun e14 =>
        (r_strconv_Itoa e14).bind fun y15 =>
        (room (l9.length + ([y15]).length)).bind fun u16 =>
        sI (w64 (t8 + 1)) fun t17 =>
        r_impl_CompositeCertificate_L10 y3 n t17 (l9 ++ ([y15]))
      )
    else
      (
        some l9
      )
def r_impl_CompositeCertificate (f1 : (Int × Int × Int)) (g2 : (Int × Int × Int)) : Option (ByteArray × Bool) :=
  (r_impl_CompositionProof f1 g2).bind fun y3 =>
  bif (!y3.2.2) then
    (
      some (((⟨#[]⟩ : ByteArray), false))
    )
  else
    (
      (r_impl_formText f1).bind fun y5 =>
      (r_impl_formText g2).bind fun y6 =>
      (r_impl_formText y3.1).bind fun y7 =>
      (r_impl_CompositeCertificate_L10 y3 FU 0 ([y5, y6, y7])).bind fun o11 =>
      (r_impl_certificate ((⟨#[99, 111, 109, 112, 111, 115, 105, 116, 101]⟩ : ByteArray)) o11).bind fun y18 =>
      some ((y18, true))
    )

def r_laws_FnExactCompositeCertificate (aF1 : (Int × Int × Int)) (aG2 : (Int × Int × Int)) : Option Bool :=
  (r_laws_toForm aF1).bind fun y3 =>
  (r_laws_toForm aG2).bind fun y4 =>
  (r_spec_CompositeCertificate y3 y4).bind fun y5 =>
  (r_laws_toForm aF1).bind fun y6 =>
  (r_laws_toForm aG2).bind fun y7 =>
  (r_impl_CompositeCertificate y6 y7).bind fun y8 =>
  (some (bif (!(y8.1.toList == y5.1.toList)) then true else (y8.2 != y5.2))).bind fun t10 =>
  bif t10 then
    (
      some false
    )
  else
    (
      some true
    )

end Go.Proofs.YtnifkkihamgmaaaDoor
