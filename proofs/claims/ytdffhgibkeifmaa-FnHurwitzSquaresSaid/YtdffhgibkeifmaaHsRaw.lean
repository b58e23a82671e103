/-
  What the functions of the program compute, as plain functions.
  Conditions: none.
-/
import Derived.Test.YtdffhgibkeifmaaShR

namespace Go.Proofs.Ytdffhgibkeifmaa

set_option linter.unusedVariables false

def r_laws_big (code1 : List Int) (more2 : List Int) : Option Bool :=
  (some (bif (ltI 1048576 ((code1.length : Int))) then true else (ltI (w64 (1048576 - ((code1.length : Int)))) ((more2.length : Int))))).bind fun t4 =>
  some t4

def r_laws_numberOf_L4 (b1 : List Int) : Nat → Int → Int → Option Int
  | 0, _, _ => none
  | n + 1, vn2, t3 =>
    bif (ltI t3 ((b1.length : Int))) then
      (
        (getI b1 t3).bind fun e7 =>
        sI (Int.tmod (w64 ((w64 (31 * vn2)) + (IntKind.i64.wrap e7))) 1000003) fun vn8 =>
        sI (w64 (t3 + 1)) fun t9 =>
        r_laws_numberOf_L4 b1 n vn8 t9
      )
    else
      (
        some vn2
      )
def r_laws_numberOf (b1 : List Int) : Option Int :=
  (r_laws_numberOf_L4 b1 FU 0 0).bind fun o5 =>
  some o5

def r_impl_isSum (vn1 : Int) : Option Bool :=
  some (bif (leI 0 vn1) then (leI vn1 10000) else false)

def r_impl_squareCounts_L21 (counts8 : List Int) (e18 : Int) (k7 : Int) (most2 : Int) (t13 : Int) : Nat → Int → List Int → Option (List Int)
  | 0, _, _ => none
  | n + 1, x19, l20 =>
    bif (leI (w64 (t13 + (w64 (x19 * x19)))) most2) then
      (
        (getI l20 (w64 (t13 + (w64 (x19 * x19))))).bind fun e24 =>
        (getI l20 (w64 (t13 + (w64 (x19 * x19))))).bind fun e25 =>
        (getI l20 (w64 (t13 + (w64 (x19 * x19))))).bind fun e26 =>
        (getI l20 (w64 (t13 + (w64 (x19 * x19))))).bind fun e27 =>
        (some (l20.set (Int.toNat (w64 (t13 + (w64 (x19 * x19))))) (w64 (e25 + (w64 (e18 * (mnI (w64 (x19 + 1)) 2))))))).bind fun l28 =>
        sI (w64 (x19 + 1)) fun x29 =>
        r_impl_squareCounts_L21 counts8 e18 k7 most2 t13 n x29 l28
      )
    else
      (
        some l20
      )
def r_impl_squareCounts_L15 (counts8 : List Int) (k7 : Int) (most2 : Int) : Nat → Int → List Int → Option (List Int)
  | 0, _, _ => none
  | n + 1, t13, l14 =>
    bif (ltI t13 ((counts8.length : Int))) then
      (
        (getI counts8 t13).bind fun e18 =>
        (r_impl_squareCounts_L21 counts8 e18 k7 most2 t13 FU 0 l14).bind fun o22 =>
        sI (w64 (t13 + 1)) fun t30 =>
        r_impl_squareCounts_L15 counts8 k7 most2 n t30 o22
      )
    else
      (
        some l14
      )
def r_impl_squareCounts_L9 (most2 : Int) : Nat → Int → List Int → Option (List Int)
  | 0, _, _ => none
  | n + 1, k7, counts8 =>
    bif (ltI 0 k7) then
      (
        (mk (w64 (most2 + 1)) (w64 (most2 + 1))).bind fun u12 =>
        (r_impl_squareCounts_L15 counts8 k7 most2 FU 0 (List.replicate (Int.toNat (w64 (most2 + 1))) ((0 : Int)))).bind fun o16 =>
        sI (w64 (k7 - 1)) fun k31 =>
        r_impl_squareCounts_L9 most2 n k31 o16
      )
    else
      (
        some counts8
      )
def r_impl_squareCounts (k1 : Int) (most2 : Int) : Option (List Int) :=
  (mk (w64 (most2 + 1)) (w64 (most2 + 1))).bind fun u3 =>
  (getI (List.replicate (Int.toNat (w64 (most2 + 1))) ((0 : Int))) 0).bind fun e4 =>
  (getI (List.replicate (Int.toNat (w64 (most2 + 1))) ((0 : Int))) 0).bind fun e5 =>
  (some ((List.replicate (Int.toNat (w64 (most2 + 1))) ((0 : Int))).set (Int.toNat (0)) 1)).bind fun l6 =>
  (r_impl_squareCounts_L9 most2 FU k1 l6).bind fun o10 =>
  some o10

def r_impl_countSquares (k1 : Int) (vn2 : Int) : Option (Int × Bool) :=
  (r_impl_isSum vn2).bind fun y3 =>
  bif (!y3) then
    (
      some ((0, false))
    )
  else
    (
      (r_impl_squareCounts k1 vn2).bind fun y5 =>
      (getI y5 vn2).bind fun e6 =>
      some ((e6, true))
    )

def r_impl_CountThree (vn1 : Int) : Option (Int × Bool) :=
  (r_impl_countSquares 3 vn1).bind fun y2 =>
  some ((y2.1, y2.2))

def r_spec_l1In (vn1 : Int) (lo2 : Int) (hi3 : Int) : Option Bool :=
  some (bif (leI lo2 vn1) then (leI vn1 hi3) else false)

def r_spec_sqGood (vn1 : Int) : Option Bool :=
  (r_spec_l1In vn1 0 10000).bind fun y2 =>
  some y2

def r_spec_nuRoot_L4 (vn1 : Int) : Nat → Int → Int → Option Int
  | 0, _, _ => none
  | n + 1, lo2, hi3 =>
    bif (ltI lo2 hi3) then
      (
        sI (w64 (Int.tdiv (w64 ((w64 (lo2 + hi3)) + 1)) 2)) fun mid7 =>
        bif (leI (w64 (mid7 * mid7)) vn1) then
          (
            r_spec_nuRoot_L4 vn1 n mid7 hi3
          )
        else
          (
            sI (w64 (mid7 - 1)) fun hi9 =>
            r_spec_nuRoot_L4 vn1 n lo2 hi9
          )
      )
    else
      (
        some lo2
      )
def r_spec_nuRoot (vn1 : Int) : Option Int :=
  (r_spec_nuRoot_L4 vn1 FU 0 1000000000).bind fun o5 =>
  some o5

def r_spec_nuSquare (vn1 : Int) : Option Bool :=
  bif (ltI vn1 0) then
    (
      some false
    )
  else
    (
      (r_spec_nuRoot vn1).bind fun y3 =>
      some (eqI (w64 (y3 * y3)) vn1)
    )

def r_spec_sqTwo_L4 (vn1 : Int) : Nat → Int → Int → Option Int
  | 0, _, _ => none
  | n + 1, x2, count3 =>
    bif (leI (w64 (x2 * x2)) vn1) then
      (
        (r_spec_nuSquare (w64 (vn1 - (w64 (x2 * x2))))).bind fun y7 =>
        bif (!y7) then
          (
            sI (w64 (x2 + 1)) fun x9 =>
            r_spec_sqTwo_L4 vn1 n x9 count3
          )
        else
          (
            (
              bif (eqI x2 0) then
                (
                  sI (w64 (Int.tdiv 4 2)) fun times12 =>
                  some times12
                )
              else
                (
                  some 4
                )
            ).bind fun j10 =>
            bif (eqI (w64 (x2 * x2)) vn1) then
              (
                sI (w64 (Int.tdiv j10 2)) fun times14 =>
                sI (w64 (count3 + times14)) fun count15 =>
                sI (w64 (x2 + 1)) fun x16 =>
                r_spec_sqTwo_L4 vn1 n x16 count15
              )
            else
              (
                sI (w64 (count3 + j10)) fun count17 =>
                sI (w64 (x2 + 1)) fun x18 =>
                r_spec_sqTwo_L4 vn1 n x18 count17
              )
          )
      )
    else
      (
        some count3
      )
def r_spec_sqTwo (vn1 : Int) : Option Int :=
  (r_spec_sqTwo_L4 vn1 FU 0 0).bind fun o5 =>
  some o5

def r_spec_sqThree_L5 (vn1 : Int) : Nat → Int → Int → Option Int
  | 0, _, _ => none
  | n + 1, count3, x4 =>
    bif (leI (w64 (x4 * x4)) vn1) then
      (
        (r_spec_sqTwo (w64 (vn1 - (w64 (x4 * x4))))).bind fun y8 =>
        sI (w64 (count3 + (w64 (2 * y8)))) fun count9 =>
        sI (w64 (x4 + 1)) fun x10 =>
        r_spec_sqThree_L5 vn1 n count9 x10
      )
    else
      (
        some count3
      )
def r_spec_sqThree (vn1 : Int) : Option Int :=
  (r_spec_sqTwo vn1).bind fun y2 =>
  (r_spec_sqThree_L5 vn1 FU y2 1).bind fun o6 =>
  some o6

def r_spec_CountThree (vn1 : Int) : Option (Int × Bool) :=
  (r_spec_sqGood vn1).bind fun y2 =>
  bif (!y2) then
    (
      some ((0, false))
    )
  else
    (
      (r_spec_sqThree vn1).bind fun y4 =>
      some ((y4, true))
    )

def r_impl_mod (a1 : Int) (vm2 : Int) : Option Int :=
  (nz vm2).bind fun z3 =>
  sI (Int.tmod a1 vm2) fun vr4 =>
  bif (ltI vr4 0) then
    (
      sI (w64 (vr4 + vm2)) fun vr6 =>
      some vr6
    )
  else
    (
      some vr4
    )

def r_impl_isNegativeDisc (d1 : Int) : Option Bool :=
  (bif (bif (leI (-2000) d1) then (leI d1 (-3)) else false) then ((r_impl_mod d1 4).bind fun y4 => some (leI y4 1)) else some false).bind fun b5 =>
  some b5

def r_impl_Form_isNormal (f1 : (Int × Int × Int)) : Option Bool :=
  (some (bif (ltI (w64 (0 - f1.1)) f1.2.1) then (leI f1.2.1 f1.1) else false)).bind fun t3 =>
  some t3

def r_impl_Form_isReduced (f1 : (Int × Int × Int)) : Option Bool :=
  (r_impl_Form_isNormal f1).bind fun y2 =>
  (some (bif y2 then (bif (ltI f1.1 f1.2.2) then true else (bif (eqI f1.1 f1.2.2) then (leI 0 f1.2.1) else false)) else false)).bind fun t6 =>
  some t6

def r_impl_allReduced_L10 (a2 : Int) (d1 : Int) : Nat → Int → List ((Int × Int × Int)) → Option (List ((Int × Int × Int)))
  | 0, _, _ => none
  | n + 1, b8, l9 =>
    bif (leI b8 a2) then
      (
        (nz (w64 (4 * a2))).bind fun z13 =>
        (some (!eqI (Int.tmod (w64 ((w64 (b8 * b8)) - d1)) (w64 (4 * a2))) 0)).bind fun t14 =>
        bif t14 then
          (
            sI (w64 (b8 + 1)) fun b16 =>
            r_impl_allReduced_L10 a2 d1 n b16 l9
          )
        else
          (
            (nz (w64 (4 * a2))).bind fun z17 =>
            sI (w64 (Int.tdiv (w64 ((w64 (b8 * b8)) - d1)) (w64 (4 * a2)))) fun f18 =>
            (r_impl_Form_isReduced ((a2, b8, f18))).bind fun y19 =>
            bif y19 then
              (
                (room (l9.length + ([(a2, b8, f18)]).length)).bind fun u21 =>
                sI (w64 (b8 + 1)) fun b22 =>
                r_impl_allReduced_L10 a2 d1 n b22 (l9 ++ ([(a2, b8, f18)]))
              )
            else
              (
                sI (w64 (b8 + 1)) fun b23 =>
                r_impl_allReduced_L10 a2 d1 n b23 l9
              )
          )
      )
    else
      (
        some l9
      )
def r_impl_allReduced_L4 (d1 : Int) : Nat → Int → List ((Int × Int × Int)) → Option (List ((Int × Int × Int)))
  | 0, _, _ => none
  | n + 1, a2, l3 =>
    bif (leI (w64 ((w64 (3 * a2)) * a2)) (w64 (0 - d1))) then
      (
        sI (w64 (1 - a2)) fun b7 =>
        (r_impl_allReduced_L10 a2 d1 FU b7 l3).bind fun o11 =>
        sI (w64 (a2 + 1)) fun a24 =>
        r_impl_allReduced_L4 d1 n a24 o11
      )
    else
      (
        some l3
      )
def r_impl_allReduced (d1 : Int) : Option (List ((Int × Int × Int))) :=
  (r_impl_allReduced_L4 d1 FU 1 (([] : List ((Int × Int × Int))))).bind fun o5 =>
  some o5

def r_impl_hurwitz_L8 (y5 : List ((Int × Int × Int))) : Nat → Int → Int → Option Int
  | 0, _, _ => none
  | n + 1, sum6, t7 =>
    bif (ltI t7 ((y5.length : Int))) then
      (
        (getI y5 t7).bind fun e11 =>
        (getI y5 t7).bind fun e12 =>
        bif (bif (eqI e12.2.1 0) then (eqI e12.1 e12.2.2) else false) then
          (
            sI (w64 (sum6 + 6)) fun sum15 =>
            sI (w64 (t7 + 1)) fun t16 =>
            r_impl_hurwitz_L8 y5 n sum15 t16
          )
        else
          (
            bif (bif (eqI e12.1 e12.2.1) then (eqI e12.1 e12.2.2) else false) then
              (
                sI (w64 (sum6 + 4)) fun sum19 =>
                sI (w64 (t7 + 1)) fun t20 =>
                r_impl_hurwitz_L8 y5 n sum19 t20
              )
            else
              (
                sI (w64 (sum6 + 12)) fun sum21 =>
                sI (w64 (t7 + 1)) fun t22 =>
                r_impl_hurwitz_L8 y5 n sum21 t22
              )
          )
      )
    else
      (
        some sum6
      )
def r_impl_hurwitz (vn1 : Int) : Option Int :=
  bif (eqI vn1 0) then
    (
      some (-1)
    )
  else
    (
      (r_impl_isNegativeDisc (w64 (0 - vn1))).bind fun y3 =>
      bif (!y3) then
        (
          some 0
        )
      else
        (
          (r_impl_allReduced (w64 (0 - vn1))).bind fun y5 =>
          (r_impl_hurwitz_L8 y5 FU 0 0).bind fun o9 =>
          some o9
        )
    )

def r_impl_HurwitzNumber (vn1 : Int) : Option (Int × Bool) :=
  bif (bif (ltI vn1 0) then true else (ltI 2000 vn1)) then
    (
      some ((0, false))
    )
  else
    (
      (r_impl_hurwitz vn1).bind fun y4 =>
      some ((y4, true))
    )

def r_laws_FnHurwitzSquares (code1 : List Int) (more2 : List Int) : Option Bool :=
  (r_laws_big code1 more2).bind fun y3 =>
  bif y3 then
    (
      some true
    )
  else
    (
      (r_laws_numberOf code1).bind fun y5 =>
      (r_laws_numberOf more2).bind fun y6 =>
      sI (w64 (1 + (Int.tmod (w64 (y5 + (w64 (7 * y6)))) 500))) fun vn7 =>
      (r_impl_CountThree vn7).bind fun y8 =>
      (r_spec_CountThree vn7).bind fun y9 =>
      (r_impl_HurwitzNumber (w64 (4 * vn7))).bind fun y10 =>
      (r_impl_HurwitzNumber vn7).bind fun y11 =>
      (some (bif (bif (bif (bif (bif y8.2 then y9.2 else false) then (eqI y8.1 y9.1) else false) then y10.2 else false) then y11.2 else false) then (eqI y8.1 (w64 (y10.1 - (w64 (2 * y11.1))))) else false)).bind fun t17 =>
      some t17
    )

end Go.Proofs.Ytdffhgibkeifmaa
