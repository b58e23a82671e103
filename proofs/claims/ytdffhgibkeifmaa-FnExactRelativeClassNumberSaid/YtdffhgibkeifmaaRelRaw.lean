/-
  What the functions of the program compute, as plain functions.
  Conditions: none.
-/
import Derived.Test.YtdffhgibkeifmaaShR

namespace Go.Proofs.Ytdffhgibkeifmaa

set_option linter.unusedVariables false

def r_spec_l1In (vn1 : Int) (lo2 : Int) (hi3 : Int) : Option Bool :=
  some (bif (leI lo2 vn1) then (leI vn1 hi3) else false)

def r_spec_nuMod (a1 : Int) (vm2 : Int) : Option Int :=
  (nz vm2).bind fun z3 =>
  sI (Int.tmod a1 vm2) fun vr4 =>
  bif (ltI vr4 0) then
    (
      sI (w64 (vr4 + vm2)) fun vr6 =>
      some vr6
    )
  else
    (
      some vr4
    )

def r_spec_reDisc (d1 : Int) : Option Bool :=
  (r_spec_l1In d1 (-2000) (-3)).bind fun y2 =>
  (bif y2 then ((r_spec_nuMod d1 4).bind fun y4 => some (ltI y4 2)) else some false).bind fun b5 =>
  some b5

def r_spec_odOver_L4 (d1 : Int) : Nat → Int → List Int → Option (List Int)
  | 0, _, _ => none
  | n + 1, k2, l3 =>
    bif (leI (w64 (k2 * k2)) (w64 (0 - d1))) then
      (
        (nz (w64 (k2 * k2))).bind fun z7 =>
        (bif (eqI (Int.tmod d1 (w64 (k2 * k2))) 0) then ((nz (w64 (k2 * k2))).bind fun z9 => (r_spec_reDisc (w64 (Int.tdiv d1 (w64 (k2 * k2))))).bind fun y10 => some y10) else some false).bind fun b11 =>
        bif b11 then
          (
            (nz (w64 (k2 * k2))).bind fun z13 =>
            (room (l3.length + ([w64 (Int.tdiv d1 (w64 (k2 * k2)))]).length)).bind fun u14 =>
            sI (w64 (k2 + 1)) fun k15 =>
            r_spec_odOver_L4 d1 n k15 (l3 ++ ([w64 (Int.tdiv d1 (w64 (k2 * k2)))]))
          )
        else
          (
            sI (w64 (k2 + 1)) fun k16 =>
            r_spec_odOver_L4 d1 n k16 l3
          )
      )
    else
      (
        some l3
      )
def r_spec_odOver (d1 : Int) : Option (List Int) :=
  (r_spec_odOver_L4 d1 FU 1 (([] : List Int))).bind fun o5 =>
  some o5

def r_spec_foDisc (f1 : (Int × Int × Int)) : Option Int :=
  sI (w64 ((w64 (f1.2.1 * f1.2.1)) - (w64 ((w64 (4 * f1.1)) * f1.2.2)))) fun t2 =>
  some t2

def r_spec_reIs (f1 : (Int × Int × Int)) : Option Bool :=
  (some (bif (bif (ltI (w64 (0 - f1.1)) f1.2.1) then (leI f1.2.1 f1.1) else false) then (bif (ltI f1.1 f1.2.2) then true else (bif (eqI f1.1 f1.2.2) then (leI 0 f1.2.1) else false)) else false)).bind fun t6 =>
  some t6

def r_spec_reAll_L10 (a2 : Int) (d1 : Int) : Nat → Int → List ((Int × Int × Int)) → Option (List ((Int × Int × Int)))
  | 0, _, _ => none
  | n + 1, b8, l9 =>
    bif (leI b8 a2) then
      (
        (nz (w64 (4 * a2))).bind fun z13 =>
        sI (w64 (Int.tdiv (w64 ((w64 (b8 * b8)) - d1)) (w64 (4 * a2)))) fun f14 =>
        (r_spec_foDisc ((a2, b8, f14))).bind fun y15 =>
        (bif (eqI y15 d1) then ((r_spec_reIs ((a2, b8, f14))).bind fun y17 => some y17) else some false).bind fun b18 =>
        bif b18 then
          (
            (room (l9.length + ([(a2, b8, f14)]).length)).bind fun u20 =>
            sI (w64 (b8 + 1)) fun b21 =>
            r_spec_reAll_L10 a2 d1 n b21 (l9 ++ ([(a2, b8, f14)]))
          )
        else
          (
            sI (w64 (b8 + 1)) fun b22 =>
            r_spec_reAll_L10 a2 d1 n b22 l9
          )
      )
    else
      (
        some l9
      )
def r_spec_reAll_L4 (d1 : Int) : Nat → Int → List ((Int × Int × Int)) → Option (List ((Int × Int × Int)))
  | 0, _, _ => none
  | n + 1, a2, l3 =>
    bif (leI (w64 ((w64 (3 * a2)) * a2)) (w64 (0 - d1))) then
      (
        sI (w64 (1 - a2)) fun b7 =>
        (r_spec_reAll_L10 a2 d1 FU b7 l3).bind fun o11 =>
        sI (w64 (a2 + 1)) fun a23 =>
        r_spec_reAll_L4 d1 n a23 o11
      )
    else
      (
        some l3
      )
def r_spec_reAll (d1 : Int) : Option (List ((Int × Int × Int))) :=
  (r_spec_reAll_L4 d1 FU 1 (([] : List ((Int × Int × Int))))).bind fun o5 =>
  some o5

def r_spec_l1Most (a1 : Int) (b2 : Int) : Option Int :=
  bif (ltI b2 a1) then
    (
      some a1
    )
  else
    (
      some b2
    )

def r_spec_l1Abs (vn1 : Int) : Option Int :=
  (r_spec_l1Most vn1 (w64 (0 - vn1))).bind fun y2 =>
  some y2

def r_spec_nuGcd_L7 : Nat → Int → Int → Option Int
  | 0, _, _ => none
  | n + 1, a5, b6 =>
    bif (!eqI b6 0) then
      (
        (nz b6).bind fun z10 =>
        sI (Int.tmod a5 b6) fun b11 =>
        r_spec_nuGcd_L7 n b6 b11
      )
    else
      (
        some a5
      )
def r_spec_nuGcd (a1 : Int) (b2 : Int) : Option Int :=
  (r_spec_l1Abs a1).bind fun y3 =>
  (r_spec_l1Abs b2).bind fun y4 =>
  (r_spec_nuGcd_L7 FU y3 y4).bind fun o8 =>
  some o8

def r_spec_foContent (f1 : (Int × Int × Int)) : Option Int :=
  (r_spec_nuGcd f1.1 f1.2.1).bind fun y2 =>
  (r_spec_nuGcd y2 f1.2.2).bind fun y3 =>
  some y3

def r_spec_reList_L5 (y2 : List ((Int × Int × Int))) : Nat → Int → List ((Int × Int × Int)) → Option (List ((Int × Int × Int)))
  | 0, _, _ => none
  | n + 1, t3, l4 =>
    bif (ltI t3 ((y2.length : Int))) then
      (
        (getI y2 t3).bind fun e8 =>
        (getI y2 t3).bind fun e9 =>
        (r_spec_foContent e9).bind fun y10 =>
        bif (eqI y10 1) then
          (
            (room (l4.length + ([e9]).length)).bind fun u12 =>
            sI (w64 (t3 + 1)) fun t13 =>
            r_spec_reList_L5 y2 n t13 (l4 ++ ([e9]))
          )
        else
          (
            sI (w64 (t3 + 1)) fun t14 =>
            r_spec_reList_L5 y2 n t14 l4
          )
      )
    else
      (
        some l4
      )
def r_spec_reList (d1 : Int) : Option (List ((Int × Int × Int))) :=
  (r_spec_reAll d1).bind fun y2 =>
  (r_spec_reList_L5 y2 FU 0 (([] : List ((Int × Int × Int))))).bind fun o6 =>
  some o6

def r_spec_RelativeClassNumber (d1 : Int) : Option (Int × Bool) :=
  (r_spec_reDisc d1).bind fun y2 =>
  bif (!y2) then
    (
      some ((0, false))
    )
  else
    (
      (r_spec_odOver d1).bind fun y4 =>
      (r_spec_reList d1).bind fun y5 =>
      (getI y4 (w64 (((y4.length : Int)) - 1))).bind fun e6 =>
      (getI y4 (w64 (((y4.length : Int)) - 1))).bind fun e7 =>
      (r_spec_reList e7).bind fun y8 =>
      (nz ((y8.length : Int))).bind fun z9 =>
      sI (w64 (Int.tdiv ((y5.length : Int)) ((y8.length : Int)))) fun t10 =>
      some ((t10, true))
    )

def r_impl_mod (a1 : Int) (vm2 : Int) : Option Int :=
  (nz vm2).bind fun z3 =>
  sI (Int.tmod a1 vm2) fun vr4 =>
  bif (ltI vr4 0) then
    (
      sI (w64 (vr4 + vm2)) fun vr6 =>
      some vr6
    )
  else
    (
      some vr4
    )

def r_impl_isNegativeDisc (d1 : Int) : Option Bool :=
  (bif (bif (leI (-2000) d1) then (leI d1 (-3)) else false) then ((r_impl_mod d1 4).bind fun y4 => some (leI y4 1)) else some false).bind fun b5 =>
  some b5

def r_impl_abs (vn1 : Int) : Option Int :=
  sI (mxI vn1 (w64 (0 - (mxI vn1 (-9223372036854775807))))) fun t2 =>
  some t2

def r_impl_squareFree_L11 (p4 : Int) : Nat → Int → Int → Option (Int × Int)
  | 0, _, _ => none
  | n + 1, vn9, k10 =>
    (nz (w64 (p4 * p4))).bind fun z13 =>
    bif (eqI (Int.tmod vn9 (w64 (p4 * p4))) 0) then
      (
        (nz (w64 (p4 * p4))).bind fun z15 =>
        sI (w64 (Int.tdiv vn9 (w64 (p4 * p4)))) fun vn16 =>
        sI (w64 (k10 * p4)) fun k17 =>
        r_impl_squareFree_L11 p4 n vn16 k17
      )
    else
      (
        some (vn9, k10)
      )
def r_impl_squareFree_L5 : Nat → Int → Int → Int → Option (Int × Int)
  | 0, _, _, _ => none
  | n + 1, vn2, k3, p4 =>
    (r_impl_abs vn2).bind fun y7 =>
    bif (leI (w64 (p4 * p4)) y7) then
      (
        (r_impl_squareFree_L11 p4 FU vn2 k3).bind fun o12 =>
        sI (w64 (p4 + 1)) fun p18 =>
        r_impl_squareFree_L5 n o12.1 o12.2 p18
      )
    else
      (
        some (vn2, k3)
      )
def r_impl_squareFree (vn1 : Int) : Option (Int × Int) :=
  (r_impl_squareFree_L5 FU vn1 1 2).bind fun o6 =>
  some ((o6.1, o6.2))

def r_impl_fundamental (d1 : Int) : Option (Int × Int) :=
  (r_impl_squareFree d1).bind fun y2 =>
  (r_impl_mod y2.1 4).bind fun y3 =>
  bif (!eqI y3 1) then
    (
      sI (w64 (4 * y2.1)) fun t5 =>
      sI (w64 (Int.tdiv y2.2 2)) fun t6 =>
      some ((t5, t6))
    )
  else
    (
      some ((y2.1, y2.2))
    )

def r_impl_Form_isNormal (f1 : (Int × Int × Int)) : Option Bool :=
  (some (bif (ltI (w64 (0 - f1.1)) f1.2.1) then (leI f1.2.1 f1.1) else false)).bind fun t3 =>
  some t3

def r_impl_Form_isReduced (f1 : (Int × Int × Int)) : Option Bool :=
  (r_impl_Form_isNormal f1).bind fun y2 =>
  (some (bif y2 then (bif (ltI f1.1 f1.2.2) then true else (bif (eqI f1.1 f1.2.2) then (leI 0 f1.2.1) else false)) else false)).bind fun t6 =>
  some t6

def r_impl_allReduced_L10 (a2 : Int) (d1 : Int) : Nat → Int → List ((Int × Int × Int)) → Option (List ((Int × Int × Int)))
  | 0, _, _ => none
  | n + 1, b8, l9 =>
    bif (leI b8 a2) then
      (
        (nz (w64 (4 * a2))).bind fun z13 =>
        (some (!eqI (Int.tmod (w64 ((w64 (b8 * b8)) - d1)) (w64 (4 * a2))) 0)).bind fun t14 =>
        bif t14 then
          (
            sI (w64 (b8 + 1)) fun b16 =>
            r_impl_allReduced_L10 a2 d1 n b16 l9
          )
        else
          (
            (nz (w64 (4 * a2))).bind fun z17 =>
            sI (w64 (Int.tdiv (w64 ((w64 (b8 * b8)) - d1)) (w64 (4 * a2)))) fun f18 =>
            (r_impl_Form_isReduced ((a2, b8, f18))).bind fun y19 =>
            bif y19 then
              (
                (room (l9.length + ([(a2, b8, f18)]).length)).bind fun u21 =>
                sI (w64 (b8 + 1)) fun b22 =>
                r_impl_allReduced_L10 a2 d1 n b22 (l9 ++ ([(a2, b8, f18)]))
              )
            else
              (
                sI (w64 (b8 + 1)) fun b23 =>
                r_impl_allReduced_L10 a2 d1 n b23 l9
              )
          )
      )
    else
      (
        some l9
      )
def r_impl_allReduced_L4 (d1 : Int) : Nat → Int → List ((Int × Int × Int)) → Option (List ((Int × Int × Int)))
  | 0, _, _ => none
  | n + 1, a2, l3 =>
    bif (leI (w64 ((w64 (3 * a2)) * a2)) (w64 (0 - d1))) then
      (
        sI (w64 (1 - a2)) fun b7 =>
        (r_impl_allReduced_L10 a2 d1 FU b7 l3).bind fun o11 =>
        sI (w64 (a2 + 1)) fun a24 =>
        r_impl_allReduced_L4 d1 n a24 o11
      )
    else
      (
        some l3
      )
def r_impl_allReduced (d1 : Int) : Option (List ((Int × Int × Int))) :=
  (r_impl_allReduced_L4 d1 FU 1 (([] : List ((Int × Int × Int))))).bind fun o5 =>
  some o5

def r_impl_gcd_L5 : Nat → Int → Int → Option Int
  | 0, _, _ => none
  | n + 1, a3, b4 =>
    bif (!eqI b4 0) then
      (
        (nz b4).bind fun z8 =>
        sI (Int.tmod a3 b4) fun b9 =>
        r_impl_gcd_L5 n b4 b9
      )
    else
      (
        some a3
      )
def r_impl_gcd (a1 : Int) (b2 : Int) : Option Int :=
  (r_impl_gcd_L5 FU a1 b2).bind fun o6 =>
  (r_impl_abs o6).bind fun y10 =>
  some y10

def r_impl_Form_content (f1 : (Int × Int × Int)) : Option Int :=
  (r_impl_gcd f1.2.1 f1.2.2).bind fun y2 =>
  (r_impl_gcd f1.1 y2).bind fun y3 =>
  some y3

def r_impl_primitiveOf_L4 (forms1 : List ((Int × Int × Int))) : Nat → Int → List ((Int × Int × Int)) → Option (List ((Int × Int × Int)))
  | 0, _, _ => none
  | n + 1, t2, l3 =>
    bif (ltI t2 ((forms1.length : Int))) then
      (
        (getI forms1 t2).bind fun e7 =>
        (r_impl_Form_content e7).bind fun y8 =>
        bif (eqI y8 1) then
          (
            (room (l3.length + ([e7]).length)).bind fun u10 =>
            sI (w64 (t2 + 1)) fun t11 =>
            r_impl_primitiveOf_L4 forms1 n t11 (l3 ++ ([e7]))
          )
        else
          (
            sI (w64 (t2 + 1)) fun t12 =>
            r_impl_primitiveOf_L4 forms1 n t12 l3
          )
      )
    else
      (
        some l3
      )
def r_impl_primitiveOf (forms1 : List ((Int × Int × Int))) : Option (List ((Int × Int × Int))) :=
  (r_impl_primitiveOf_L4 forms1 FU 0 (([] : List ((Int × Int × Int))))).bind fun o5 =>
  some o5

def r_impl_reducedForms (d1 : Int) : Option (List ((Int × Int × Int))) :=
  (r_impl_allReduced d1).bind fun y2 =>
  (r_impl_primitiveOf y2).bind fun y3 =>
  some y3

def r_impl_RelativeClassNumber (d1 : Int) : Option (Int × Bool) :=
  (r_impl_isNegativeDisc d1).bind fun y2 =>
  bif (!y2) then
    (
      some ((0, false))
    )
  else
    (
      (r_impl_fundamental d1).bind fun y4 =>
      (r_impl_reducedForms d1).bind fun y5 =>
      (r_impl_reducedForms y4.1).bind fun y6 =>
      (nz ((y6.length : Int))).bind fun z7 =>
      sI (w64 (Int.tdiv ((y5.length : Int)) ((y6.length : Int)))) fun t8 =>
      some ((t8, true))
    )

def r_laws_FnExactRelativeClassNumber (aD1 : Int) : Option Bool :=
  (r_spec_RelativeClassNumber aD1).bind fun y2 =>
  (r_impl_RelativeClassNumber aD1).bind fun y3 =>
  bif (bif (!eqI y3.1 y2.1) then true else (y3.2 != y2.2)) then
    (
      some false
    )
  else
    (
      some true
    )

end Go.Proofs.Ytdffhgibkeifmaa
