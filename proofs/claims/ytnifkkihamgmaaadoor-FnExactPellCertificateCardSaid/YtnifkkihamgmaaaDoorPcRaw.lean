/-
  What the functions of the program compute, as plain functions.
  Conditions: none.
-/
import Derived.Test.YtnifkkihamgmaaaDoorShRs
import Derived.Test.YtnifkkihamgmaaaDoorShFl

namespace Go.Proofs.YtnifkkihamgmaaaDoor

set_option linter.unusedVariables false

def r_spec_l1In (vn1 : Int) (lo2 : Int) (hi3 : Int) : Option Bool :=
  some (bif (leI lo2 vn1) then (leI vn1 hi3) else false)

def r_spec_nuMod (a1 : Int) (vm2 : Int) : Option Int :=
  (nz vm2).bind fun z3 =>
  sI (Int.tmod a1 vm2) fun vr4 =>
  bif (ltI vr4 0) then
    (
      sI (w64 (vr4 + vm2)) fun vr6 =>
      some vr6
    )
  else
    (
      some vr4
    )

def r_spec_nuRoot_L4 (vn1 : Int) : Nat → Int → Int → Option Int
  | 0, _, _ => none
  | n + 1, lo2, hi3 =>
    bif (ltI lo2 hi3) then
      (
        sI (w64 (Int.tdiv (w64 ((w64 (lo2 + hi3)) + 1)) 2)) fun mid7 =>
        bif (leI (w64 (mid7 * mid7)) vn1) then
          (
            r_spec_nuRoot_L4 vn1 n mid7 hi3
          )
        else
          (
            sI (w64 (mid7 - 1)) fun hi9 =>
            r_spec_nuRoot_L4 vn1 n lo2 hi9
          )
      )
    else
      (
        some lo2
      )
def r_spec_nuRoot (vn1 : Int) : Option Int :=
  (r_spec_nuRoot_L4 vn1 FU 0 1000000000).bind fun o5 =>
  some o5

def r_spec_nuSquare (vn1 : Int) : Option Bool :=
  bif (ltI vn1 0) then
    (
      some false
    )
  else
    (
      (r_spec_nuRoot vn1).bind fun y3 =>
      some (eqI (w64 (y3 * y3)) vn1)
    )

def r_spec_cyDisc (d1 : Int) : Option Bool :=
  (r_spec_l1In d1 5 1000).bind fun y2 =>
  (bif y2 then ((r_spec_nuMod d1 4).bind fun y4 => some (ltI y4 2)) else some false).bind fun b5 =>
  (bif b5 then ((r_spec_nuSquare d1).bind fun y7 => some (!y7)) else some false).bind fun b8 =>
  some b8

def r_spec_nuGood (vn1 : Int) : Option Bool :=
  (r_spec_l1In vn1 (-1000000) 1000000).bind fun y2 =>
  some y2

def r_spec_diIs (d1 : Int) : Option Bool :=
  (r_spec_nuGood d1).bind fun y2 =>
  (bif y2 then ((r_spec_nuMod d1 4).bind fun y4 => some (ltI y4 2)) else some false).bind fun b5 =>
  (bif b5 then ((r_spec_nuSquare d1).bind fun y7 => some (!y7)) else some false).bind fun b8 =>
  some b8

def r_spec_PrincipalForm (d1 : Int) : Option (((Int × Int × Int)) × Bool) :=
  (r_spec_diIs d1).bind fun y2 =>
  bif (!y2) then
    (
      some (((0, 0, 0), false))
    )
  else
    (
      (r_spec_nuMod d1 2).bind fun y4 =>
      sI (w64 (Int.tdiv (w64 (y4 - d1)) 4)) fun f5 =>
      some (((1, y4, f5), true))
    )

def r_spec_foDisc (f1 : (Int × Int × Int)) : Option Int :=
  sI (w64 ((w64 (f1.2.1 * f1.2.1)) - (w64 ((w64 (4 * f1.1)) * f1.2.2)))) fun t2 =>
  some t2

def r_spec_l1Most (a1 : Int) (b2 : Int) : Option Int :=
  bif (ltI b2 a1) then
    (
      some a1
    )
  else
    (
      some b2
    )

def r_spec_l1Abs (vn1 : Int) : Option Int :=
  (r_spec_l1Most vn1 (w64 (0 - vn1))).bind fun y2 =>
  some y2

def r_spec_cyIs (f1 : (Int × Int × Int)) : Option Bool :=
  (r_spec_foDisc f1).bind fun y2 =>
  (r_spec_nuRoot y2).bind fun y3 =>
  (r_spec_l1Abs f1.1).bind fun y4 =>
  sI (w64 (2 * y4)) fun a5 =>
  (some (bif (bif (bif (ltI 0 f1.2.1) then (leI f1.2.1 y3) else false) then (ltI (w64 (y3 - f1.2.1)) a5) else false) then (leI a5 (w64 (y3 + f1.2.1))) else false)).bind fun t9 =>
  some t9

def r_spec_foGood (f1 : (Int × Int × Int)) : Option Bool :=
  (r_spec_nuGood f1.1).bind fun y2 =>
  (bif y2 then ((r_spec_nuGood f1.2.1).bind fun y4 => some y4) else some false).bind fun b5 =>
  (bif b5 then ((r_spec_nuGood f1.2.2).bind fun y7 => some y7) else some false).bind fun b8 =>
  some b8

def r_spec_cyGood (f1 : (Int × Int × Int)) : Option Bool :=
  (r_spec_foGood f1).bind fun y2 =>
  (bif y2 then ((r_spec_foDisc f1).bind fun y4 => (r_spec_cyDisc y4).bind fun y5 => some y5) else some false).bind fun b6 =>
  some b6

def r_spec_cyMove (f1 : (Int × Int × Int)) : Option (Int × Int × Int × Int) :=
  (r_spec_foDisc f1).bind fun y2 =>
  (r_spec_nuRoot y2).bind fun y3 =>
  (r_spec_l1Abs f1.2.2).bind fun y4 =>
  (
    bif (ltI y3 y4) then
      (
        some y4
      )
    else
      (
        some y3
      )
  ).bind fun j5 =>
  (r_spec_nuMod (w64 (j5 + f1.2.1)) (w64 (2 * y4))).bind fun y7 =>
  sI (w64 (j5 - y7)) fun b8 =>
  (nz (w64 (2 * f1.2.2))).bind fun z9 =>
  sI (w64 (Int.tdiv (w64 (f1.2.1 + b8)) (w64 (2 * f1.2.2)))) fun f10 =>
  some ((0, -1, 1, f10))

def r_spec_foValue (f1 : (Int × Int × Int)) (x2 : Int) (y3 : Int) : Option Int :=
  sI (w64 ((w64 ((w64 ((w64 (f1.1 * x2)) * x2)) + (w64 ((w64 (f1.2.1 * x2)) * y3)))) + (w64 ((w64 (f1.2.2 * y3)) * y3)))) fun t4 =>
  some t4

def r_spec_foPolar (f1 : (Int × Int × Int)) (x2 : Int) (y3 : Int) (u4 : Int) (v5 : Int) : Option Int :=
  sI (w64 ((w64 ((w64 ((w64 ((w64 (2 * f1.1)) * x2)) * u4)) + (w64 (f1.2.1 * (w64 ((w64 (x2 * v5)) + (w64 (y3 * u4)))))))) + (w64 ((w64 ((w64 (2 * f1.2.2)) * y3)) * v5)))) fun t6 =>
  some t6

def r_spec_foAct (f1 : (Int × Int × Int)) (vm2 : (Int × Int × Int × Int)) : Option (Int × Int × Int) :=
  (r_spec_foValue f1 vm2.1 vm2.2.2.1).bind fun y3 =>
  (r_spec_foPolar f1 vm2.1 vm2.2.2.1 vm2.2.1 vm2.2.2.2).bind fun y4 =>
  (r_spec_foValue f1 vm2.2.1 vm2.2.2.2).bind fun y5 =>
  some ((y3, y4, y5))

def r_spec_foMatrix (vm1 : (Int × Int × Int × Int)) : Option Bool :=
  (r_spec_nuGood vm1.1).bind fun y2 =>
  (bif y2 then ((r_spec_nuGood vm1.2.1).bind fun y4 => some y4) else some false).bind fun b5 =>
  (bif b5 then ((r_spec_nuGood vm1.2.2.1).bind fun y7 => some y7) else some false).bind fun b8 =>
  (bif b8 then ((r_spec_nuGood vm1.2.2.2).bind fun y10 => some y10) else some false).bind fun b11 =>
  some b11

def r_spec_NextForm (f1 : (Int × Int × Int)) : Option (((Int × Int × Int)) × ((Int × Int × Int × Int)) × Bool) :=
  (r_spec_cyGood f1).bind fun y2 =>
  bif (!y2) then
    (
      some (((0, 0, 0), (0, 0, 0, 0), false))
    )
  else
    (
      (r_spec_cyMove f1).bind fun y4 =>
      (r_spec_foAct f1 y4).bind fun y5 =>
      (r_spec_foGood y5).bind fun y6 =>
      (bif (!y6) then some true else ((r_spec_foMatrix y4).bind fun y8 => some (!y8))).bind fun b9 =>
      bif b9 then
        (
          some (((0, 0, 0), (0, 0, 0, 0), false))
        )
      else
        (
          some ((y5, y4, true))
        )
    )

def r_spec_foMul (vm1 : (Int × Int × Int × Int)) (vn2 : (Int × Int × Int × Int)) : Option (Int × Int × Int × Int) :=
  sI (w64 ((w64 (vm1.1 * vn2.1)) + (w64 (vm1.2.1 * vn2.2.2.1)))) fun f3 =>
  sI (w64 ((w64 (vm1.1 * vn2.2.1)) + (w64 (vm1.2.1 * vn2.2.2.2)))) fun f4 =>
  sI (w64 ((w64 (vm1.2.2.1 * vn2.1)) + (w64 (vm1.2.2.2 * vn2.2.2.1)))) fun f5 =>
  sI (w64 ((w64 (vm1.2.2.1 * vn2.2.1)) + (w64 (vm1.2.2.2 * vn2.2.2.2)))) fun f6 =>
  some ((f3, f4, f5, f6))

def r_spec_cyReduce_L9 : Nat → Int → Int → Int → Int → Int → Int → Int → Option ((Int × Int × Int × Int × Int × Int × Int) ⊕ (((Int × Int × Int)) × ((Int × Int × Int × Int)) × Bool))
  | 0, _, _, _, _, _, _, _ => none
  | n + 1, f2, f3, f4, f5, f6, f7, f8 =>
    (r_spec_cyIs ((f6, f7, f8))).bind fun y11 =>
    bif (!y11) then
      (
        (r_spec_NextForm ((f6, f7, f8))).bind fun y13 =>
        bif (!y13.2.2) then
          (
            some (.inr ((((0, 0, 0), (0, 0, 0, 0), false))))
          )
        else
          (
            (r_spec_foMul ((f2, f3, f4, f5)) y13.2.1).bind fun y15 =>
            (r_spec_foMatrix y15).bind fun y16 =>
            bif (!y16) then
              (
                some (.inr ((((0, 0, 0), (0, 0, 0, 0), false))))
              )
            else
              (
                r_spec_cyReduce_L9 n y15.1 y15.2.1 y15.2.2.1 y15.2.2.2 y13.1.1 y13.1.2.1 y13.1.2.2
              )
          )
      )
    else
      (
        some (.inl (f2, f3, f4, f5, f6, f7, f8))
      )
def r_spec_cyReduce (f1 : (Int × Int × Int)) : Option (((Int × Int × Int)) × ((Int × Int × Int × Int)) × Bool) :=
  (r_spec_cyReduce_L9 FU 1 0 0 1 f1.1 f1.2.1 f1.2.2).bind fun qo10 =>
  match qo10 with
  | .inr r => some r
  | .inl o10 =>
    some ((o10.2.2.2.2, (o10.1, o10.2.1, o10.2.2.1, o10.2.2.2.1), true))

def r_spec_unSmall (x1 : (Int × Int)) : Option Bool :=
  (r_spec_l1In x1.1 (-100000000) 100000000).bind fun y2 =>
  (bif y2 then ((r_spec_nuGood x1.2).bind fun y4 => some y4) else some false).bind fun b5 =>
  some b5

def r_spec_unFour_L11 (y3 : (((Int × Int × Int)) × ((Int × Int × Int × Int)) × Bool)) : Nat → Int → Int → Int → Int → Int → Int → Int → Option ((Int × Int × Int × Int) ⊕ (((Int × Int)) × Bool))
  | 0, _, _, _, _, _, _, _ => none
  | n + 1, f4, f5, f6, f7, f8, f9, f10 =>
    (r_spec_cyMove ((f4, f5, f6))).bind fun y13 =>
    (r_spec_foAct ((f4, f5, f6)) y13).bind fun y14 =>
    (r_spec_foMul ((f7, f8, f9, f10)) y13).bind fun y15 =>
    (r_spec_l1Abs y15.1).bind fun y16 =>
    (bif (ltI 1000000000 y16) then some true else ((r_spec_l1Abs y15.2.1).bind fun y18 => some (ltI 1000000000 y18))).bind fun b19 =>
    (bif b19 then some true else ((r_spec_l1Abs y15.2.2.1).bind fun y21 => some (ltI 1000000000 y21))).bind fun b22 =>
    (bif b22 then some true else ((r_spec_l1Abs y15.2.2.2).bind fun y24 => some (ltI 1000000000 y24))).bind fun b25 =>
    bif b25 then
      (
        some (.inr ((((0, 0), false))))
      )
    else
      (
        (some (((y14.1 == y3.1.1) && ((y14.2.1 == y3.1.2.1) && (y14.2.2 == y3.1.2.2))))).bind fun t27 =>
        bif t27 then
          (
            some (.inl (y15.1, y15.2.1, y15.2.2.1, y15.2.2.2))
          )
        else
          (
            r_spec_unFour_L11 y3 n y14.1 y14.2.1 y14.2.2 y15.1 y15.2.1 y15.2.2.1 y15.2.2.2
          )
      )
def r_spec_unFour (d1 : Int) : Option (((Int × Int)) × Bool) :=
  (r_spec_PrincipalForm d1).bind fun y2 =>
  (r_spec_cyReduce y2.1).bind fun y3 =>
  (r_spec_unFour_L11 y3 FU y3.1.1 y3.1.2.1 y3.1.2.2 1 0 0 1).bind fun qo12 =>
  match qo12 with
  | .inr r => some r
  | .inl o12 =>
    (r_spec_l1Abs (w64 (o12.1 + o12.2.2.2))).bind fun y29 =>
    (nz y3.1.1).bind fun z30 =>
    (r_spec_l1Abs (w64 (Int.tdiv o12.2.2.1 y3.1.1))).bind fun y31 =>
    (r_spec_unSmall ((y29, y31))).bind fun y32 =>
    some (((y29, y31), y32))

def r_spec_PellFour (d1 : Int) : Option (((Int × Int)) × Bool) :=
  (r_spec_cyDisc d1).bind fun y2 =>
  bif (!y2) then
    (
      some (((0, 0), false))
    )
  else
    (
      (r_spec_unFour d1).bind fun y4 =>
      bif (!y4.2) then
        (
          some (((0, 0), false))
        )
      else
        (
          some ((y4.1, true))
        )
    )

def r_spec_l1Num : Nat → Int → Option ByteArray
  | 0, _ => none
  | n + 1, vn1 =>
    bif (ltI vn1 10) then
      (
        some (bytesI ([IntKind.u8.wrap (w64 (48 + vn1))]))
      )
    else
      (
        (r_spec_l1Num n (w64 (Int.tdiv vn1 10))).bind fun y3 =>
        (catR y3 (bytesI ([IntKind.u8.wrap (w64 (48 + (Int.tmod vn1 10)))]))).bind fun u4 =>
        some (y3 ++ (bytesI ([IntKind.u8.wrap (w64 (48 + (Int.tmod vn1 10)))])))
      )

def r_spec_l1Int (vn1 : Int) : Option ByteArray :=
  bif (ltI vn1 0) then
    (
      (r_spec_l1Num FU (w64 (0 - vn1))).bind fun y3 =>
      (catR ((⟨#[45]⟩ : ByteArray)) y3).bind fun u4 =>
      some (((⟨#[45]⟩ : ByteArray)) ++ y3)
    )
  else
    (
      (r_spec_l1Num FU vn1).bind fun y5 =>
      some y5
    )

def r_spec_prText_L4 (l1 : List ByteArray) : Nat → ByteArray → Int → Option ByteArray
  | 0, _, _ => none
  | n + 1, out2, t3 =>
    bif (ltI t3 ((l1.length : Int))) then
      (
        (getI l1 t3).bind fun e7 =>
        bif (ltI 0 t3) then
          (
            (catR out2 ((⟨#[32]⟩ : ByteArray))).bind fun u9 =>
            (catR (out2 ++ ((⟨#[32]⟩ : ByteArray))) e7).bind fun u10 =>
            sI (w64 (t3 + 1)) fun t11 =>
            r_spec_prText_L4 l1 n ((out2 ++ ((⟨#[32]⟩ : ByteArray))) ++ e7) t11
          )
        else
          (
            (catR out2 e7).bind fun u12 =>
            sI (w64 (t3 + 1)) fun t13 =>
            r_spec_prText_L4 l1 n (out2 ++ e7) t13
          )
      )
    else
      (
        some out2
      )
def r_spec_prText (l1 : List ByteArray) : Option ByteArray :=
  (r_spec_prText_L4 l1 FU ((⟨#[]⟩ : ByteArray)) 0).bind fun o5 =>
  some o5

def r_spec_PellCertificate (d1 : Int) : Option (ByteArray × Bool) :=
  (r_spec_PellFour d1).bind fun y2 =>
  (bif (!y2.2) then some true else ((r_spec_nuGood y2.1.1).bind fun y4 => some (!y4))).bind fun b5 =>
  bif b5 then
    (
      some (((⟨#[]⟩ : ByteArray), false))
    )
  else
    (
      (r_spec_l1Int d1).bind fun y7 =>
      (r_spec_l1Int y2.1.1).bind fun y8 =>
      (r_spec_l1Int y2.1.2).bind fun y9 =>
      (r_spec_prText ([(⟨#[115, 111, 108, 117, 116, 105, 111, 110]⟩ : ByteArray), y7, y8, y9])).bind fun y10 =>
      some ((y10, true))
    )

def r_impl_mod (a1 : Int) (vm2 : Int) : Option Int :=
  (nz vm2).bind fun z3 =>
  sI (Int.tmod a1 vm2) fun vr4 =>
  bif (ltI vr4 0) then
    (
      sI (w64 (vr4 + vm2)) fun vr6 =>
      some vr6
    )
  else
    (
      some vr4
    )

def r_impl_root_L4 (vn1 : Int) : Nat → Int → Int → Option Int
  | 0, _, _ => none
  | n + 1, low2, high3 =>
    bif (ltI low2 high3) then
      (
        sI (w64 (Int.tdiv (w64 ((w64 (low2 + high3)) + 1)) 2)) fun vm7 =>
        bif (leI (w64 (vm7 * vm7)) vn1) then
          (
            r_impl_root_L4 vn1 n vm7 high3
          )
        else
          (
            sI (w64 (vm7 - 1)) fun high9 =>
            r_impl_root_L4 vn1 n low2 high9
          )
      )
    else
      (
        some low2
      )
def r_impl_root (vn1 : Int) : Option Int :=
  (r_impl_root_L4 vn1 FU 0 3000000000).bind fun o5 =>
  some o5

def r_impl_isSquare (vn1 : Int) : Option Bool :=
  (bif (leI 0 vn1) then ((r_impl_root vn1).bind fun y3 => (r_impl_root vn1).bind fun y4 => some (eqI (w64 (y3 * y4)) vn1)) else some false).bind fun b5 =>
  some b5

def r_impl_isPositiveDisc (d1 : Int) : Option Bool :=
  (bif (bif (leI 5 d1) then (leI d1 1000) else false) then ((r_impl_mod d1 4).bind fun y4 => some (leI y4 1)) else some false).bind fun b5 =>
  (bif b5 then ((r_impl_isSquare d1).bind fun y7 => some (!y7)) else some false).bind fun b8 =>
  some b8

def r_math_Sqrt (x1 : Nat) : Option Nat :=
  (fsqrt x1).bind fun q2 =>
  some q2

def r_impl_abs (vn1 : Int) : Option Int :=
  sI (mxI vn1 (w64 (0 - (mxI vn1 (-9223372036854775807))))) fun t2 =>
  some t2

def r_impl_areNumbers_L3 (list1 : List Int) : Nat → Int → Option (Unit ⊕ Bool)
  | 0, _ => none
  | n + 1, t2 =>
    bif (ltI t2 ((list1.length : Int))) then
      (
        (getI list1 t2).bind fun e6 =>
        bif (bif (ltI e6 (-1000000)) then true else (ltI 1000000 e6)) then
          (
            some (.inr false)
          )
        else
          (
            sI (w64 (t2 + 1)) fun t9 =>
            r_impl_areNumbers_L3 list1 n t9
          )
      )
    else
      (
        some (.inl ())
      )
def r_impl_areNumbers (list1 : List Int) : Option Bool :=
  (r_impl_areNumbers_L3 list1 FU 0).bind fun qo4 =>
  match qo4 with
  | .inr r => some r
  | .inl o4 =>
    some true

def r_impl_isSmall (vs1 : (Int × Int)) : Option Bool :=
  (r_impl_abs vs1.1).bind fun y2 =>
  (bif (leI y2 100000000) then ((r_impl_areNumbers ([vs1.2])).bind fun y4 => some y4) else some false).bind fun b5 =>
  some b5

def r_impl_leastSolution_L5 (d1 : Int) (most3 : Int) (side2 : Int) : Nat → Int → Option (Unit ⊕ (((Int × Int)) × Bool))
  | 0, _ => none
  | n + 1, u4 =>
    bif (leI u4 most3) then
      (
        sI (w64 ((w64 ((w64 (d1 * u4)) * u4)) + side2)) fun square8 =>
        (r_math_Sqrt (floatOfInt .f64 (mxI square8 0))).bind fun y9 =>
        (floatToIntVal .f64 y9 .i64).bind fun t10 =>
        (some (bif (ltI 0 t10) then (eqI (w64 (t10 * t10)) square8) else false)).bind fun t12 =>
        bif t12 then
          (
            (r_impl_isSmall ((t10, u4))).bind fun y14 =>
            some (.inr ((((t10, u4), y14))))
          )
        else
          (
            sI (w64 (u4 + 1)) fun u15 =>
            r_impl_leastSolution_L5 d1 most3 side2 n u15
          )
      )
    else
      (
        some (.inl ())
      )
def r_impl_leastSolution (d1 : Int) (side2 : Int) (most3 : Int) : Option (((Int × Int)) × Bool) :=
  (r_impl_leastSolution_L5 d1 most3 side2 FU 1).bind fun qo6 =>
  match qo6 with
  | .inr r => some r
  | .inl o6 =>
    some (((0, 0), false))

def r_impl_pellFour (d1 : Int) : Option (((Int × Int)) × Bool) :=
  (r_impl_leastSolution d1 4 1000000).bind fun y2 =>
  bif (!y2.2) then
    (
      some (((0, 0), false))
    )
  else
    (
      some ((y2.1, true))
    )

def r_impl_PellFour (d1 : Int) : Option (((Int × Int)) × Bool) :=
  (r_impl_isPositiveDisc d1).bind fun y2 =>
  bif (!y2) then
    (
      some (((0, 0), false))
    )
  else
    (
      (r_impl_pellFour d1).bind fun y4 =>
      some ((y4.1, y4.2))
    )

def r_impl_certificate (kind1 : ByteArray) (words2 : List ByteArray) : Option ByteArray :=
  (catR kind1 ((⟨#[32]⟩ : ByteArray))).bind fun u3 =>
  (r_strings_Join words2 ((⟨#[32]⟩ : ByteArray))).bind fun y4 =>
  (catR (kind1 ++ ((⟨#[32]⟩ : ByteArray))) y4).bind fun u5 =>
  some ((kind1 ++ ((⟨#[32]⟩ : ByteArray))) ++ y4)

def r_impl_PellCertificate (d1 : Int) : Option (ByteArray × Bool) :=
  (r_impl_PellFour d1).bind fun y2 =>
  (bif (!y2.2) then some true else ((r_impl_areNumbers ([y2.1.1, y2.1.2])).bind fun y4 => some (!y4))).bind fun b5 =>
  bif b5 then
    (
      some (((⟨#[]⟩ : ByteArray), false))
    )
  else
    (
      (r_strconv_Itoa d1).bind fun y7 =>
      (r_strconv_Itoa y2.1.1).bind fun y8 =>
      (r_strconv_Itoa y2.1.2).bind fun y9 =>
      (r_impl_certificate ((⟨#[115, 111, 108, 117, 116, 105, 111, 110]⟩ : ByteArray)) ([y7, y8, y9])).bind fun y10 =>
      some ((y10, true))
    )

def r_laws_FnExactPellCertificate (aD1 : Int) : Option Bool :=
  (r_spec_PellCertificate aD1).bind fun y2 =>
  (r_impl_PellCertificate aD1).bind fun y3 =>
  (some (bif (!(y3.1.toList == y2.1.toList)) then true else (y3.2 != y2.2))).bind fun t5 =>
  bif t5 then
    (
      some false
    )
  else
    (
      some true
    )

end Go.Proofs.YtnifkkihamgmaaaDoor
