/-
  What the functions of the program compute, as plain functions.
  Conditions: none.
-/
import Derived.Test.YtpfnhgpepgeaiaaShRs

namespace Go.Proofs.Ytpfnhgpepgeaiaa

set_option linter.unusedVariables false

def r_laws_big (code1 : List Int) (more2 : List Int) : Option Bool :=
  (some (bif (ltI 1048576 ((code1.length : Int))) then true else (ltI (w64 (1048576 - ((code1.length : Int)))) ((more2.length : Int))))).bind fun t4 =>
  some t4

def r_spec_l1Cur_next (c1 : ((List Int) × Int × Int)) : Option (Int × (((List Int) × Int × Int))) :=
  (
    bif (ltI c1.2.1 ((c1.1.length : Int))) then
      (
        (getI c1.1 c1.2.1).bind fun e4 =>
        sI (IntKind.i64.wrap e4) fun b5 =>
        some b5
      )
    else
      (
        some 0
      )
  ).bind fun j2 =>
  sI (w64 (c1.2.1 + 1)) fun f6 =>
  sI (IntKind.u64.wrap ((IntKind.u64.wrap ((IntKind.u64.wrap (c1.2.2 * 6364136223846793005)) + (IntKind.u64.wrap j2))) + 1442695040888963407)) fun f7 =>
  bif (leI f6 ((c1.1.length : Int))) then
    (
      some ((j2, (c1.1, f6, f7)))
    )
  else
    (
      sI (IntKind.i64.wrap (andI .u64 (shrI .u64 f7 40) 255)) fun t9 =>
      some ((t9, (c1.1, f6, f7)))
    )

def r_spec_l1Cur_pick (c1 : ((List Int) × Int × Int)) (vn2 : Int) : Option (Int × (((List Int) × Int × Int))) :=
  bif (leI vn2 1) then
    (
      some ((0, c1))
    )
  else
    (
      (r_spec_l1Cur_next c1).bind fun y4 =>
      bif (ltI 200 vn2) then
        (
          (r_spec_l1Cur_next y4.2).bind fun y6 =>
          sI (w64 ((w64 (y4.1 * 256)) + y6.1)) fun x7 =>
          (nz vn2).bind fun z8 =>
          sI (Int.tmod x7 vn2) fun t9 =>
          some ((t9, y6.2))
        )
      else
        (
          (nz vn2).bind fun z10 =>
          sI (Int.tmod y4.1 vn2) fun t11 =>
          some ((t11, y4.2))
        )
    )

def r_spec_l1Cur_among (c1 : ((List Int) × Int × Int)) (list2 : List Int) : Option (Int × (((List Int) × Int × Int))) :=
  (r_spec_l1Cur_pick c1 ((list2.length : Int))).bind fun y3 =>
  (getI list2 y3.1).bind fun e4 =>
  some ((e4, y3.2))

def r_spec_nuMod (a1 : Int) (vm2 : Int) : Option Int :=
  (nz vm2).bind fun z3 =>
  sI (Int.tmod a1 vm2) fun vr4 =>
  bif (ltI vr4 0) then
    (
      sI (w64 (vr4 + vm2)) fun vr6 =>
      some vr6
    )
  else
    (
      some vr4
    )

def r_spec_l1Most (a1 : Int) (b2 : Int) : Option Int :=
  bif (ltI b2 a1) then
    (
      some a1
    )
  else
    (
      some b2
    )

def r_spec_l1Cur_disc (c1 : ((List Int) × Int × Int)) : Option (Int × (((List Int) × Int × Int))) :=
  (r_spec_l1Cur_pick c1 16).bind fun y2 =>
  bif (eqI y2.1 0) then
    (
      (r_spec_l1Cur_among y2.2 ([-3, -4, -2000, -1999, -1996, -1995, -163, -2001, -2003, -2004, 0, 1, 5, -1, -2, -5, -9223372036854775808])).bind fun y4 =>
      some ((y4.1, y4.2))
    )
  else
    (
      (
        bif (eqI y2.1 1) then
          (
            some (eqI y2.1 1)
          )
        else
          (
            some (eqI y2.1 2)
          )
      ).bind fun j5 =>
      bif j5 then
        (
          (r_spec_l1Cur_pick y2.2 1998).bind fun y8 =>
          sI (w64 ((-3) - y8.1)) fun d9 =>
          (r_spec_nuMod d9 4).bind fun y10 =>
          bif (ltI 1 y10) then
            (
              (r_spec_l1Most (-2000) (w64 (d9 - 2))).bind fun y12 =>
              some ((y12, y8.2))
            )
          else
            (
              some ((d9, y8.2))
            )
        )
      else
        (
          (
            bif (eqI y2.1 3) then
              (
                some (eqI y2.1 3)
              )
            else
              (
                bif (eqI y2.1 4) then
                  (
                    some (eqI y2.1 4)
                  )
                else
                  (
                    some (eqI y2.1 5)
                  )
              )
          ).bind fun j13 =>
          bif j13 then
            (
              (r_spec_l1Cur_among y2.2 ([-84, -420, -231, -260, -455, -520, -660, -1155, -1320, -1380, -1428, -1540, -399, -1092, -1560, -1785])).bind fun y17 =>
              some ((y17.1, y17.2))
            )
          else
            (
              (
                bif (eqI y2.1 6) then
                  (
                    some (eqI y2.1 6)
                  )
                else
                  (
                    some (eqI y2.1 7)
                  )
              ).bind fun j18 =>
              bif j18 then
                (
                  (r_spec_l1Cur_pick y2.2 60).bind fun y21 =>
                  sI (w64 ((-4) * (w64 (1 + y21.1)))) fun t22 =>
                  some ((t22, y21.2))
                )
              else
                (
                  (r_spec_l1Cur_pick y2.2 50).bind fun y23 =>
                  sI (w64 ((-3) - (w64 (4 * y23.1)))) fun t24 =>
                  some ((t24, y23.2))
                )
            )
        )
    )

def r_spec_l1Cur_one (c1 : ((List Int) × Int × Int)) (vn2 : Int) : Option (Bool × (((List Int) × Int × Int))) :=
  (r_spec_l1Cur_pick c1 vn2).bind fun y3 =>
  some ((eqI y3.1 0, y3.2))

def r_spec_l1Cur_number (c1 : ((List Int) × Int × Int)) : Option (Int × (((List Int) × Int × Int))) :=
  (r_spec_l1Cur_pick c1 12).bind fun y2 =>
  bif (eqI y2.1 0) then
    (
      (r_spec_l1Cur_among y2.2 ([0, 1, -1, 1000000, -1000000, 1000001, -1000001, -9223372036854775808, 9223372036854775807, 999983, 999999, 1000])).bind fun y4 =>
      some ((y4.1, y4.2))
    )
  else
    (
      (
        bif (eqI y2.1 1) then
          (
            some (eqI y2.1 1)
          )
        else
          (
            some (eqI y2.1 2)
          )
      ).bind fun j5 =>
      bif j5 then
        (
          (r_spec_l1Cur_pick y2.2 50000).bind fun y8 =>
          (r_spec_l1Cur_pick y8.2 20).bind fun y9 =>
          (r_spec_l1Cur_pick y9.2 2).bind fun y10 =>
          sI (w64 ((w64 (y8.1 * (w64 (1 + y9.1)))) * (w64 (1 - (w64 (2 * y10.1)))))) fun t11 =>
          some ((t11, y10.2))
        )
      else
        (
          (
            bif (eqI y2.1 3) then
              (
                some (eqI y2.1 3)
              )
            else
              (
                some (eqI y2.1 4)
              )
          ).bind fun j12 =>
          bif j12 then
            (
              (r_spec_l1Cur_pick y2.2 2000).bind fun y15 =>
              some ((y15.1, y15.2))
            )
          else
            (
              (r_spec_l1Cur_pick y2.2 121).bind fun y16 =>
              sI (w64 (y16.1 - 40)) fun t17 =>
              some ((t17, y16.2))
            )
        )
    )

def r_spec_l1Cur_small (c1 : ((List Int) × Int × Int)) : Option (Int × (((List Int) × Int × Int))) :=
  (r_spec_l1Cur_one c1 12).bind fun y2 =>
  bif y2.1 then
    (
      (r_spec_l1Cur_number y2.2).bind fun y4 =>
      some ((y4.1, y4.2))
    )
  else
    (
      (r_spec_l1Cur_pick y2.2 81).bind fun y5 =>
      sI (w64 (y5.1 - 40)) fun t6 =>
      some ((t6, y5.2))
    )

def r_spec_l1In (vn1 : Int) (lo2 : Int) (hi3 : Int) : Option Bool :=
  some (bif (leI lo2 vn1) then (leI vn1 hi3) else false)

def r_spec_reDisc (d1 : Int) : Option Bool :=
  (r_spec_l1In d1 (-2000) (-3)).bind fun y2 =>
  (bif y2 then ((r_spec_nuMod d1 4).bind fun y4 => some (ltI y4 2)) else some false).bind fun b5 =>
  some b5

def r_spec_nuGood (vn1 : Int) : Option Bool :=
  (r_spec_l1In vn1 (-1000000) 1000000).bind fun y2 =>
  some y2

def r_spec_l1Abs (vn1 : Int) : Option Int :=
  (r_spec_l1Most vn1 (w64 (0 - vn1))).bind fun y2 =>
  some y2

def r_spec_nuGcd_L7 : Nat → Int → Int → Option Int
  | 0, _, _ => none
  | n + 1, a5, b6 =>
    bif (!eqI b6 0) then
      (
        (nz b6).bind fun z10 =>
        sI (Int.tmod a5 b6) fun b11 =>
        r_spec_nuGcd_L7 n b6 b11
      )
    else
      (
        some a5
      )
def r_spec_nuGcd (a1 : Int) (b2 : Int) : Option Int :=
  (r_spec_l1Abs a1).bind fun y3 =>
  (r_spec_l1Abs b2).bind fun y4 =>
  (r_spec_nuGcd_L7 FU y3 y4).bind fun o8 =>
  some o8

def r_spec_DrawValuesAt_L6 (y2 : (Int × (((List Int) × Int × Int)))) : Nat → Int → Int → Option Int
  | 0, _, _ => none
  | n + 1, vn4, k5 =>
    (bif (ltI k5 4) then ((r_spec_reDisc y2.1).bind fun y9 => some y9) else some false).bind fun b10 =>
    (bif b10 then ((r_spec_nuGood vn4).bind fun y12 => some y12) else some false).bind fun b13 =>
    (bif b13 then ((r_spec_nuGcd vn4 (w64 (2 * y2.1))).bind fun y15 => some (!eqI y15 1)) else some false).bind fun b16 =>
    bif b16 then
      (
        sI (w64 (vn4 + 1)) fun vn18 =>
        sI (w64 (k5 + 1)) fun k19 =>
        r_spec_DrawValuesAt_L6 y2 n vn18 k19
      )
    else
      (
        some vn4
      )
def r_spec_DrawValuesAt (code1 : List Int) : Option (Int × Int) :=
  (r_spec_l1Cur_disc ((code1, 0, 0))).bind fun y2 =>
  (r_spec_l1Cur_small y2.2).bind fun y3 =>
  (r_spec_DrawValuesAt_L6 y2 FU y3.1 0).bind fun o7 =>
  some ((y2.1, o7))

def r_laws_numberOf_L4 (b1 : List Int) : Nat → Int → Int → Option Int
  | 0, _, _ => none
  | n + 1, vn2, t3 =>
    bif (ltI t3 ((b1.length : Int))) then
      (
        (getI b1 t3).bind fun e7 =>
        sI (Int.tmod (w64 ((w64 (31 * vn2)) + (IntKind.i64.wrap e7))) 1000003) fun vn8 =>
        sI (w64 (t3 + 1)) fun t9 =>
        r_laws_numberOf_L4 b1 n vn8 t9
      )
    else
      (
        some vn2
      )
def r_laws_numberOf (b1 : List Int) : Option Int :=
  (r_laws_numberOf_L4 b1 FU 0 0).bind fun o5 =>
  some o5

def r_impl_mod (a1 : Int) (vm2 : Int) : Option Int :=
  (nz vm2).bind fun z3 =>
  sI (Int.tmod a1 vm2) fun vr4 =>
  bif (ltI vr4 0) then
    (
      sI (w64 (vr4 + vm2)) fun vr6 =>
      some vr6
    )
  else
    (
      some vr4
    )

def r_impl_isNegativeDisc (d1 : Int) : Option Bool :=
  (bif (bif (leI (-2000) d1) then (leI d1 (-3)) else false) then ((r_impl_mod d1 4).bind fun y4 => some (leI y4 1)) else some false).bind fun b5 =>
  some b5

def r_impl_areNumbers_L3 (list1 : List Int) : Nat → Int → Option (Unit ⊕ Bool)
  | 0, _ => none
  | n + 1, t2 =>
    bif (ltI t2 ((list1.length : Int))) then
      (
        (getI list1 t2).bind fun e6 =>
        bif (bif (ltI e6 (-1000000)) then true else (ltI 1000000 e6)) then
          (
            some (.inr false)
          )
        else
          (
            sI (w64 (t2 + 1)) fun t9 =>
            r_impl_areNumbers_L3 list1 n t9
          )
      )
    else
      (
        some (.inl ())
      )
def r_impl_areNumbers (list1 : List Int) : Option Bool :=
  (r_impl_areNumbers_L3 list1 FU 0).bind fun qo4 =>
  match qo4 with
  | .inr r => some r
  | .inl o4 =>
    some true

def r_impl_abs (vn1 : Int) : Option Int :=
  sI (mxI vn1 (w64 (0 - (mxI vn1 (-9223372036854775807))))) fun t2 =>
  some t2

def r_impl_gcd_L5 : Nat → Int → Int → Option Int
  | 0, _, _ => none
  | n + 1, a3, b4 =>
    bif (!eqI b4 0) then
      (
        (nz b4).bind fun z8 =>
        sI (Int.tmod a3 b4) fun b9 =>
        r_impl_gcd_L5 n b4 b9
      )
    else
      (
        some a3
      )
def r_impl_gcd (a1 : Int) (b2 : Int) : Option Int :=
  (r_impl_gcd_L5 FU a1 b2).bind fun o6 =>
  (r_impl_abs o6).bind fun y10 =>
  some y10

def r_impl_factors_L10 (p3 : Int) : Nat → Int → List Int → Option (Int × (List Int))
  | 0, _, _ => none
  | n + 1, vn8, l9 =>
    (nz p3).bind fun z12 =>
    bif (eqI (Int.tmod vn8 p3) 0) then
      (
        (room (l9.length + ([p3]).length)).bind fun u14 =>
        (nz p3).bind fun z15 =>
        sI (w64 (Int.tdiv vn8 p3)) fun vn16 =>
        r_impl_factors_L10 p3 n vn16 (l9 ++ ([p3]))
      )
    else
      (
        some (vn8, l9)
      )
def r_impl_factors_L5 : Nat → Int → Int → List Int → Option (Int × (List Int))
  | 0, _, _, _ => none
  | n + 1, vn2, p3, l4 =>
    bif (leI (w64 (p3 * p3)) vn2) then
      (
        (r_impl_factors_L10 p3 FU vn2 l4).bind fun o11 =>
        sI (w64 (p3 + 1)) fun p17 =>
        r_impl_factors_L5 n o11.1 p17 o11.2
      )
    else
      (
        some (vn2, l4)
      )
def r_impl_factors (vn1 : Int) : Option (List Int) :=
  (r_impl_factors_L5 FU vn1 2 (([] : List Int))).bind fun o6 =>
  bif (ltI 1 o6.1) then
    (
      (room (o6.2.length + ([o6.1]).length)).bind fun u19 =>
      some (o6.2 ++ ([o6.1]))
    )
  else
    (
      some o6.2
    )

def r_impl_primesOf_L5 (y2 : List Int) : Nat → Int → List Int → Option (List Int)
  | 0, _, _ => none
  | n + 1, t3, l4 =>
    bif (ltI t3 ((y2.length : Int))) then
      (
        (getI y2 t3).bind fun e8 =>
        (getI y2 t3).bind fun e9 =>
        (bif (eqI ((l4.length : Int)) 0) then some true else ((getI l4 (w64 (((l4.length : Int)) - 1))).bind fun e11 => (getI l4 (w64 (((l4.length : Int)) - 1))).bind fun e12 => some (!eqI e12 e9))).bind fun b13 =>
        bif b13 then
          (
            (room (l4.length + ([e9]).length)).bind fun u15 =>
            sI (w64 (t3 + 1)) fun t16 =>
            r_impl_primesOf_L5 y2 n t16 (l4 ++ ([e9]))
          )
        else
          (
            sI (w64 (t3 + 1)) fun t17 =>
            r_impl_primesOf_L5 y2 n t17 l4
          )
      )
    else
      (
        some l4
      )
def r_impl_primesOf (vn1 : Int) : Option (List Int) :=
  (r_impl_factors vn1).bind fun y2 =>
  (r_impl_primesOf_L5 y2 FU 0 (([] : List Int))).bind fun o6 =>
  some o6

def r_impl_assigned_L5 (d1 : Int) (y2 : List Int) : Nat → Int → List ((Int × Int)) → Option (List ((Int × Int)))
  | 0, _, _ => none
  | n + 1, t3, l4 =>
    bif (ltI t3 ((y2.length : Int))) then
      (
        (getI y2 t3).bind fun e8 =>
        (getI y2 t3).bind fun e9 =>
        bif (ltI 2 e9) then
          (
            (room (l4.length + ([(1, e9)]).length)).bind fun u11 =>
            sI (w64 (t3 + 1)) fun t12 =>
            r_impl_assigned_L5 d1 y2 n t12 (l4 ++ ([(1, e9)]))
          )
        else
          (
            sI (w64 (t3 + 1)) fun t13 =>
            r_impl_assigned_L5 d1 y2 n t13 l4
          )
      )
    else
      (
        some l4
      )
def r_impl_assigned (d1 : Int) : Option (List ((Int × Int))) :=
  (r_impl_primesOf (w64 (0 - d1))).bind fun y2 =>
  (r_impl_assigned_L5 d1 y2 FU 0 (([] : List ((Int × Int))))).bind fun o6 =>
  bif (!eqI (Int.tmod d1 2) 0) then
    (
      some o6
    )
  else
    (
      sI (w64 (Int.tdiv (w64 (0 - d1)) 4)) fun vn15 =>
      sI (Int.tmod vn15 8) fun t16 =>
      (
        bif (eqI t16 1) then
          (
            some (eqI t16 1)
          )
        else
          (
            bif (eqI t16 5) then
              (
                some (eqI t16 5)
              )
            else
              (
                some (eqI t16 4)
              )
          )
      ).bind fun j17 =>
      bif j17 then
        (
          (room (o6.length + ([(2, 0)]).length)).bind fun u21 =>
          some (o6 ++ ([(2, 0)]))
        )
      else
        (
          bif (eqI t16 2) then
            (
              (room (o6.length + ([(4, 0)]).length)).bind fun u23 =>
              some (o6 ++ ([(4, 0)]))
            )
          else
            (
              bif (eqI t16 6) then
                (
                  (room (o6.length + ([(3, 0)]).length)).bind fun u25 =>
                  some (o6 ++ ([(3, 0)]))
                )
              else
                (
                  bif (eqI t16 0) then
                    (
                      (room (o6.length + ([(2, 0), (3, 0)]).length)).bind fun u27 =>
                      some (o6 ++ ([(2, 0), (3, 0)]))
                    )
                  else
                    (
                      some o6
                    )
                )
            )
        )
    )

def r_impl_symbolOfTwo (vn1 : Int) : Option Int :=
  (r_impl_mod vn1 8).bind fun y2 =>
  bif (bif (eqI y2 1) then true else (eqI y2 7)) then
    (
      some 1
    )
  else
    (
      some (-1)
    )

def r_impl_jacobi_L12 (vn5 : Int) : Nat → Int → Int → Option (Int × Int)
  | 0, _, _ => none
  | n + 1, a10, vs11 =>
    bif (eqI (Int.tmod a10 2) 0) then
      (
        sI (w64 (Int.tdiv a10 2)) fun a15 =>
        (r_impl_symbolOfTwo vn5).bind fun y16 =>
        sI (w64 (vs11 * y16)) fun vs17 =>
        r_impl_jacobi_L12 vn5 n a15 vs17
      )
    else
      (
        some (a10, vs11)
      )
def r_impl_jacobi_L7 : Nat → Int → Int → Int → Option (Int × Int)
  | 0, _, _, _ => none
  | n + 1, a4, vn5, vs6 =>
    bif (!eqI a4 0) then
      (
        (r_impl_jacobi_L12 vn5 FU a4 vs6).bind fun o13 =>
        (some (bif (eqI (Int.tmod o13.1 4) 3) then (eqI (Int.tmod vn5 4) 3) else false)).bind fun t19 =>
        bif t19 then
          (
            sI (w64 (0 - o13.2)) fun vs21 =>
            (nz o13.1).bind fun z22 =>
            sI (Int.tmod vn5 o13.1) fun a23 =>
            r_impl_jacobi_L7 n a23 o13.1 vs21
          )
        else
          (
            (nz o13.1).bind fun z24 =>
            sI (Int.tmod vn5 o13.1) fun a25 =>
            r_impl_jacobi_L7 n a25 o13.1 o13.2
          )
      )
    else
      (
        some (vn5, vs6)
      )
def r_impl_jacobi (a1 : Int) (vn2 : Int) : Option Int :=
  (r_impl_mod a1 vn2).bind fun y3 =>
  (r_impl_jacobi_L7 FU y3 vn2 1).bind fun o8 =>
  bif (!eqI o8.1 1) then
    (
      some 0
    )
  else
    (
      some o8.2
    )

def r_impl_Character_value (x1 : (Int × Int)) (vn2 : Int) : Option Int :=
  bif (eqI x1.1 1) then
    (
      (r_impl_jacobi vn2 x1.2).bind fun y4 =>
      some y4
    )
  else
    (
      bif (eqI (Int.tmod vn2 2) 0) then
        (
          some 0
        )
      else
        (
          (r_impl_mod vn2 4).bind fun y6 =>
          sI (w64 (2 - y6)) fun delta7 =>
          bif (eqI x1.1 2) then
            (
              some delta7
            )
          else
            (
              bif (eqI x1.1 3) then
                (
                  (r_impl_symbolOfTwo vn2).bind fun y10 =>
                  some y10
                )
              else
                (
                  (r_impl_symbolOfTwo vn2).bind fun y11 =>
                  sI (w64 (delta7 * y11)) fun t12 =>
                  some t12
                )
            )
        )
    )

def r_impl_valuesAt_L6 (vn2 : Int) (y3 : List ((Int × Int))) : Nat → Int → List Int → Option (List Int)
  | 0, _, _ => none
  | n + 1, t4, l5 =>
    bif (ltI t4 ((y3.length : Int))) then
      (
        (getI y3 t4).bind fun e9 =>
        (getI y3 t4).bind fun e10 =>
        (r_impl_Character_value e10 vn2).bind fun y11 =>
        (room (l5.length + ([y11]).length)).bind fun u12 =>
        sI (w64 (t4 + 1)) fun t13 =>
        r_impl_valuesAt_L6 vn2 y3 n t13 (l5 ++ ([y11]))
      )
    else
      (
        some l5
      )
def r_impl_valuesAt (d1 : Int) (vn2 : Int) : Option (List Int) :=
  (r_impl_assigned d1).bind fun y3 =>
  (r_impl_valuesAt_L6 vn2 y3 FU 0 (([] : List Int))).bind fun o7 =>
  some o7

def r_impl_ValuesAt (d1 : Int) (vn2 : Int) : Option ((List Int) × Bool) :=
  (r_impl_isNegativeDisc d1).bind fun y3 =>
  (bif (!y3) then some true else ((r_impl_areNumbers ([vn2])).bind fun y5 => some (!y5))).bind fun b6 =>
  (bif b6 then some true else ((r_impl_gcd vn2 (w64 (2 * d1))).bind fun y8 => some (!eqI y8 1))).bind fun b9 =>
  bif b9 then
    (
      some ((([] : List Int), false))
    )
  else
    (
      (r_impl_valuesAt d1 vn2).bind fun y11 =>
      some ((y11, true))
    )

def r_spec_chPrime (d1 : Int) (vn2 : Int) : Option Bool :=
  (r_spec_reDisc d1).bind fun y3 =>
  (bif y3 then ((r_spec_nuGood vn2).bind fun y5 => some y5) else some false).bind fun b6 =>
  (bif b6 then ((r_spec_nuGcd vn2 (w64 (2 * d1))).bind fun y8 => some (eqI y8 1)) else some false).bind fun b9 =>
  some b9

def r_spec_nuFactors_L10 (d3 : Int) : Nat → Int → List Int → Option (Int × (List Int))
  | 0, _, _ => none
  | n + 1, vn8, l9 =>
    (nz d3).bind fun z12 =>
    bif (eqI (Int.tmod vn8 d3) 0) then
      (
        (room (l9.length + ([d3]).length)).bind fun u14 =>
        (nz d3).bind fun z15 =>
        sI (w64 (Int.tdiv vn8 d3)) fun vn16 =>
        r_spec_nuFactors_L10 d3 n vn16 (l9 ++ ([d3]))
      )
    else
      (
        some (vn8, l9)
      )
def r_spec_nuFactors_L5 : Nat → Int → Int → List Int → Option (Int × (List Int))
  | 0, _, _, _ => none
  | n + 1, vn2, d3, l4 =>
    bif (leI (w64 (d3 * d3)) vn2) then
      (
        (r_spec_nuFactors_L10 d3 FU vn2 l4).bind fun o11 =>
        sI (w64 (d3 + 1)) fun d17 =>
        r_spec_nuFactors_L5 n o11.1 d17 o11.2
      )
    else
      (
        some (vn2, l4)
      )
def r_spec_nuFactors (vn1 : Int) : Option (List Int) :=
  (r_spec_nuFactors_L5 FU vn1 2 (([] : List Int))).bind fun o6 =>
  bif (ltI 1 o6.1) then
    (
      (room (o6.2.length + ([o6.1]).length)).bind fun u19 =>
      some (o6.2 ++ ([o6.1]))
    )
  else
    (
      some o6.2
    )

def r_spec_l1Put_L4 (l1 : List Int) (vn2 : Int) : Nat → Int → Option Int
  | 0, _ => none
  | n + 1, k3 =>
    (bif (ltI k3 ((l1.length : Int))) then ((getI l1 k3).bind fun e7 => some (ltI e7 vn2)) else some false).bind fun b8 =>
    bif b8 then
      (
        sI (w64 (k3 + 1)) fun k10 =>
        r_spec_l1Put_L4 l1 vn2 n k10
      )
    else
      (
        some k3
      )
def r_spec_l1Put (l1 : List Int) (vn2 : Int) : Option (List Int) :=
  (r_spec_l1Put_L4 l1 vn2 FU 0).bind fun o5 =>
  (bif (ltI o5 ((l1.length : Int))) then ((getI l1 o5).bind fun e12 => some (eqI e12 vn2)) else some false).bind fun b13 =>
  bif b13 then
    (
      some l1
    )
  else
    (
      (slc l1.length 0 o5).bind fun u15 =>
      (room ((([] : List Int)).length + (subl l1 0 o5).length)).bind fun u16 =>
      (room (((([] : List Int)) ++ (subl l1 0 o5)).length + ([vn2]).length)).bind fun u17 =>
      (slc l1.length o5 ((l1.length : Int))).bind fun u18 =>
      (room ((((([] : List Int)) ++ (subl l1 0 o5)) ++ ([vn2])).length + (subl l1 o5 ((l1.length : Int))).length)).bind fun u19 =>
      (some ((((([] : List Int)) ++ (subl l1 0 o5)) ++ ([vn2])) ++ (subl l1 o5 ((l1.length : Int))))).bind fun l20 =>
      some l20
    )

def r_spec_nuPrimes_L5 (y2 : List Int) : Nat → List Int → Int → Option (List Int)
  | 0, _, _ => none
  | n + 1, out3, t4 =>
    bif (ltI t4 ((y2.length : Int))) then
      (
        (getI y2 t4).bind fun e8 =>
        (getI y2 t4).bind fun e9 =>
        (r_spec_l1Put out3 e9).bind fun y10 =>
        sI (w64 (t4 + 1)) fun t11 =>
        r_spec_nuPrimes_L5 y2 n y10 t11
      )
    else
      (
        some out3
      )
def r_spec_nuPrimes (vn1 : Int) : Option (List Int) :=
  (r_spec_nuFactors vn1).bind fun y2 =>
  (r_spec_nuPrimes_L5 y2 FU (([] : List Int)) 0).bind fun o6 =>
  some o6

def r_spec_chAll_L5 (d1 : Int) (y2 : List Int) : Nat → Int → List ((Int × Int)) → Option (List ((Int × Int)))
  | 0, _, _ => none
  | n + 1, t3, l4 =>
    bif (ltI t3 ((y2.length : Int))) then
      (
        (getI y2 t3).bind fun e8 =>
        bif (ltI 2 e8) then
          (
            (room (l4.length + ([(1, e8)]).length)).bind fun u10 =>
            sI (w64 (t3 + 1)) fun t11 =>
            r_spec_chAll_L5 d1 y2 n t11 (l4 ++ ([(1, e8)]))
          )
        else
          (
            sI (w64 (t3 + 1)) fun t12 =>
            r_spec_chAll_L5 d1 y2 n t12 l4
          )
      )
    else
      (
        some l4
      )
def r_spec_chAll (d1 : Int) : Option (List ((Int × Int))) :=
  (r_spec_nuPrimes (w64 (0 - d1))).bind fun y2 =>
  (r_spec_chAll_L5 d1 y2 FU 0 (([] : List ((Int × Int))))).bind fun o6 =>
  bif (!eqI (Int.tmod d1 2) 0) then
    (
      some o6
    )
  else
    (
      sI (w64 (Int.tdiv (w64 (0 - d1)) 4)) fun vn14 =>
      bif (eqI (Int.tmod vn14 4) 3) then
        (
          some o6
        )
      else
        (
          (some (bif (eqI (Int.tmod vn14 4) 1) then true else (eqI (Int.tmod vn14 8) 4))).bind fun t17 =>
          bif t17 then
            (
              (room (o6.length + ([(2, 0)]).length)).bind fun u19 =>
              some (o6 ++ ([(2, 0)]))
            )
          else
            (
              bif (eqI (Int.tmod vn14 8) 2) then
                (
                  (room (o6.length + ([(4, 0)]).length)).bind fun u21 =>
                  some (o6 ++ ([(4, 0)]))
                )
              else
                (
                  bif (eqI (Int.tmod vn14 8) 6) then
                    (
                      (room (o6.length + ([(3, 0)]).length)).bind fun u23 =>
                      some (o6 ++ ([(3, 0)]))
                    )
                  else
                    (
                      (room (o6.length + ([(2, 0), (3, 0)]).length)).bind fun u24 =>
                      some (o6 ++ ([(2, 0), (3, 0)]))
                    )
                )
            )
        )
    )

def r_spec_syEnd (vs1 : (Int × Int × Int)) : Option Bool :=
  some (bif (eqI vs1.1 0) then true else (eqI vs1.1 1))

def r_spec_syTwo (a1 : Int) : Option Int :=
  (r_spec_nuMod a1 8).bind fun y2 =>
  bif (eqI y2 1) then
    (
      bif (eqI y2 1) then
        (
          some 1
        )
      else
        (
          bif (eqI y2 3) then
            (
              bif (eqI y2 3) then
                (
                  some (-1)
                )
              else
                (
                  some 0
                )
            )
          else
            (
              bif (eqI y2 5) then
                (
                  some (-1)
                )
              else
                (
                  some 0
                )
            )
        )
    )
  else
    (
      bif (eqI y2 7) then
        (
          some 1
        )
      else
        (
          bif (eqI y2 3) then
            (
              bif (eqI y2 3) then
                (
                  some (-1)
                )
              else
                (
                  some 0
                )
            )
          else
            (
              bif (eqI y2 5) then
                (
                  some (-1)
                )
              else
                (
                  some 0
                )
            )
        )
    )

def r_spec_sySuccessor (vs1 : (Int × Int × Int)) : Option (Int × Int × Int) :=
  (r_spec_l1In vs1.1 0 (w64 (vs1.2.1 - 1))).bind fun y2 =>
  bif (!y2) then
    (
      (r_spec_nuMod vs1.1 vs1.2.1).bind fun y4 =>
      some ((y4, vs1.2.1, vs1.2.2))
    )
  else
    (
      bif (eqI (Int.tmod vs1.1 2) 0) then
        (
          sI (w64 (Int.tdiv vs1.1 2)) fun f6 =>
          (r_spec_syTwo vs1.2.1).bind fun y7 =>
          sI (w64 (vs1.2.2 * y7)) fun f8 =>
          some ((f6, vs1.2.1, f8))
        )
      else
        (
          (
            (some (bif (eqI (Int.tmod vs1.1 4) 3) then (eqI (Int.tmod vs1.2.1 4) 3) else false)).bind fun t11 =>
            bif t11 then
              (
                sI (w64 (0 - vs1.2.2)) fun f13 =>
                some f13
              )
            else
              (
                some vs1.2.2
              )
          ).bind fun j9 =>
          some ((vs1.2.1, vs1.1, j9))
        )
    )

def r_spec_syJacobi_L6 : Nat → Int → Int → Int → Option (Int × Int × Int)
  | 0, _, _, _ => none
  | n + 1, f3, f4, f5 =>
    (r_spec_syEnd ((f3, f4, f5))).bind fun y8 =>
    bif (!y8) then
      (
        (r_spec_sySuccessor ((f3, f4, f5))).bind fun y10 =>
        r_spec_syJacobi_L6 n y10.1 y10.2.1 y10.2.2
      )
    else
      (
        some (f3, f4, f5)
      )
def r_spec_syJacobi (a1 : Int) (vn2 : Int) : Option Int :=
  (r_spec_syJacobi_L6 FU a1 vn2 1).bind fun o7 =>
  bif (bif (eqI o7.1 0) then (ltI 1 o7.2.1) else false) then
    (
      some 0
    )
  else
    (
      some o7.2.2
    )

def r_spec_chAt (x1 : (Int × Int)) (vn2 : Int) : Option Int :=
  bif (eqI x1.1 1) then
    (
      (r_spec_syJacobi vn2 x1.2).bind fun y4 =>
      some y4
    )
  else
    (
      bif (eqI (Int.tmod vn2 2) 0) then
        (
          some 0
        )
      else
        (
          (r_spec_nuMod vn2 4).bind fun y6 =>
          (r_spec_syTwo vn2).bind fun y7 =>
          sI (w64 (2 - y6)) fun delta8 =>
          bif (eqI x1.1 2) then
            (
              some delta8
            )
          else
            (
              bif (eqI x1.1 3) then
                (
                  some y7
                )
              else
                (
                  sI (w64 (delta8 * y7)) fun t11 =>
                  some t11
                )
            )
        )
    )

def r_spec_chList_L6 (vn2 : Int) (y3 : List ((Int × Int))) : Nat → Int → List Int → Option (List Int)
  | 0, _, _ => none
  | n + 1, t4, l5 =>
    bif (ltI t4 ((y3.length : Int))) then
      (
        (getI y3 t4).bind fun e9 =>
        (getI y3 t4).bind fun e10 =>
        (r_spec_chAt e10 vn2).bind fun y11 =>
        (room (l5.length + ([y11]).length)).bind fun u12 =>
        sI (w64 (t4 + 1)) fun t13 =>
        r_spec_chList_L6 vn2 y3 n t13 (l5 ++ ([y11]))
      )
    else
      (
        some l5
      )
def r_spec_chList (d1 : Int) (vn2 : Int) : Option (List Int) :=
  (r_spec_chAll d1).bind fun y3 =>
  (r_spec_chList_L6 vn2 y3 FU 0 (([] : List Int))).bind fun o7 =>
  some o7

def r_spec_ValuesAt (d1 : Int) (vn2 : Int) : Option ((List Int) × Bool) :=
  (r_spec_chPrime d1 vn2).bind fun y3 =>
  bif (!y3) then
    (
      some ((([] : List Int), false))
    )
  else
    (
      (r_spec_chList d1 vn2).bind fun y5 =>
      some ((y5, true))
    )

def r_laws_sameInts_L5 (a1 : List Int) (b2 : List Int) : Nat → Int → Option (Unit ⊕ Bool)
  | 0, _ => none
  | n + 1, t4 =>
    bif (ltI t4 ((a1.length : Int))) then
      (
        (getI a1 t4).bind fun e8 =>
        (getI b2 t4).bind fun e9 =>
        bif (!eqI e8 e9) then
          (
            some (.inr false)
          )
        else
          (
            sI (w64 (t4 + 1)) fun t11 =>
            r_laws_sameInts_L5 a1 b2 n t11
          )
      )
    else
      (
        some (.inl ())
      )
def r_laws_sameInts (a1 : List Int) (b2 : List Int) : Option Bool :=
  bif (!eqI ((a1.length : Int)) ((b2.length : Int))) then
    (
      some false
    )
  else
    (
      (r_laws_sameInts_L5 a1 b2 FU 0).bind fun qo6 =>
      match qo6 with
      | .inr r => some r
      | .inl o6 =>
        some true
    )

def r_impl_kronecker_L12 (a1 : Int) : Nat → Int → Int → Option ((Int × Int) ⊕ Int)
  | 0, _, _ => none
  | n + 1, vn10, vs11 =>
    bif (eqI (Int.tmod vn10 2) 0) then
      (
        bif (eqI (Int.tmod a1 2) 0) then
          (
            some (.inr 0)
          )
        else
          (
            sI (w64 (Int.tdiv vn10 2)) fun vn16 =>
            (r_impl_symbolOfTwo a1).bind fun y17 =>
            sI (w64 (vs11 * y17)) fun vs18 =>
            r_impl_kronecker_L12 a1 n vn16 vs18
          )
      )
    else
      (
        some (.inl (vn10, vs11))
      )
def r_impl_kronecker (a1 : Int) (vn2 : Int) : Option Int :=
  bif (eqI vn2 0) then
    (
      (r_impl_abs a1).bind fun y4 =>
      bif (eqI y4 1) then
        (
          some 1
        )
      else
        (
          some 0
        )
    )
  else
    (
      (
        bif (bif (ltI vn2 0) then (ltI a1 0) else false) then
          (
            some (-1)
          )
        else
          (
            some 1
          )
      ).bind fun j6 =>
      (r_impl_abs vn2).bind fun y9 =>
      (r_impl_kronecker_L12 a1 FU y9 j6).bind fun qo13 =>
      match qo13 with
      | .inr r => some r
      | .inl o13 =>
        (r_impl_jacobi a1 o13.1).bind fun y19 =>
        sI (w64 (o13.2 * y19)) fun t20 =>
        some t20
    )

def r_impl_KroneckerSymbol (a1 : Int) (vn2 : Int) : Option (Int × Bool) :=
  (r_impl_areNumbers ([a1, vn2])).bind fun y3 =>
  bif (!y3) then
    (
      some ((0, false))
    )
  else
    (
      (r_impl_kronecker a1 vn2).bind fun y5 =>
      some ((y5, true))
    )

def r_impl_isShown (vn1 : Int) : Option Bool :=
  some (bif (leI 1 vn1) then (leI vn1 10000) else false)

def r_impl_Form_isNormal (f1 : (Int × Int × Int)) : Option Bool :=
  (some (bif (ltI (w64 (0 - f1.1)) f1.2.1) then (leI f1.2.1 f1.1) else false)).bind fun t3 =>
  some t3

def r_impl_Form_isReduced (f1 : (Int × Int × Int)) : Option Bool :=
  (r_impl_Form_isNormal f1).bind fun y2 =>
  (some (bif y2 then (bif (ltI f1.1 f1.2.2) then true else (bif (eqI f1.1 f1.2.2) then (leI 0 f1.2.1) else false)) else false)).bind fun t6 =>
  some t6

def r_impl_allReduced_L10 (a2 : Int) (d1 : Int) : Nat → Int → List ((Int × Int × Int)) → Option (List ((Int × Int × Int)))
  | 0, _, _ => none
  | n + 1, b8, l9 =>
    bif (leI b8 a2) then
      (
        (nz (w64 (4 * a2))).bind fun z13 =>
        (some (!eqI (Int.tmod (w64 ((w64 (b8 * b8)) - d1)) (w64 (4 * a2))) 0)).bind fun t14 =>
        bif t14 then
          (
            sI (w64 (b8 + 1)) fun b16 =>
            r_impl_allReduced_L10 a2 d1 n b16 l9
          )
        else
          (
            (nz (w64 (4 * a2))).bind fun z17 =>
            sI (w64 (Int.tdiv (w64 ((w64 (b8 * b8)) - d1)) (w64 (4 * a2)))) fun f18 =>
            (r_impl_Form_isReduced ((a2, b8, f18))).bind fun y19 =>
            bif y19 then
              (
                (room (l9.length + ([(a2, b8, f18)]).length)).bind fun u21 =>
                sI (w64 (b8 + 1)) fun b22 =>
                r_impl_allReduced_L10 a2 d1 n b22 (l9 ++ ([(a2, b8, f18)]))
              )
            else
              (
                sI (w64 (b8 + 1)) fun b23 =>
                r_impl_allReduced_L10 a2 d1 n b23 l9
              )
          )
      )
    else
      (
        some l9
      )
def r_impl_allReduced_L4 (d1 : Int) : Nat → Int → List ((Int × Int × Int)) → Option (List ((Int × Int × Int)))
  | 0, _, _ => none
  | n + 1, a2, l3 =>
    bif (leI (w64 ((w64 (3 * a2)) * a2)) (w64 (0 - d1))) then
      (
        sI (w64 (1 - a2)) fun b7 =>
        (r_impl_allReduced_L10 a2 d1 FU b7 l3).bind fun o11 =>
        sI (w64 (a2 + 1)) fun a24 =>
        r_impl_allReduced_L4 d1 n a24 o11
      )
    else
      (
        some l3
      )
def r_impl_allReduced (d1 : Int) : Option (List ((Int × Int × Int))) :=
  (r_impl_allReduced_L4 d1 FU 1 (([] : List ((Int × Int × Int))))).bind fun o5 =>
  some o5

def r_impl_Form_content (f1 : (Int × Int × Int)) : Option Int :=
  (r_impl_gcd f1.2.1 f1.2.2).bind fun y2 =>
  (r_impl_gcd f1.1 y2).bind fun y3 =>
  some y3

def r_impl_primitiveOf_L4 (forms1 : List ((Int × Int × Int))) : Nat → Int → List ((Int × Int × Int)) → Option (List ((Int × Int × Int)))
  | 0, _, _ => none
  | n + 1, t2, l3 =>
    bif (ltI t2 ((forms1.length : Int))) then
      (
        (getI forms1 t2).bind fun e7 =>
        (r_impl_Form_content e7).bind fun y8 =>
        bif (eqI y8 1) then
          (
            (room (l3.length + ([e7]).length)).bind fun u10 =>
            sI (w64 (t2 + 1)) fun t11 =>
            r_impl_primitiveOf_L4 forms1 n t11 (l3 ++ ([e7]))
          )
        else
          (
            sI (w64 (t2 + 1)) fun t12 =>
            r_impl_primitiveOf_L4 forms1 n t12 l3
          )
      )
    else
      (
        some l3
      )
def r_impl_primitiveOf (forms1 : List ((Int × Int × Int))) : Option (List ((Int × Int × Int))) :=
  (r_impl_primitiveOf_L4 forms1 FU 0 (([] : List ((Int × Int × Int))))).bind fun o5 =>
  some o5

def r_impl_reducedForms (d1 : Int) : Option (List ((Int × Int × Int))) :=
  (r_impl_allReduced d1).bind fun y2 =>
  (r_impl_primitiveOf y2).bind fun y3 =>
  some y3

def r_impl_IsForm (f1 : (Int × Int × Int)) : Option Bool :=
  (r_impl_areNumbers ([f1.1, f1.2.1, f1.2.2])).bind fun y2 =>
  some y2

def r_impl_Form_disc (f1 : (Int × Int × Int)) : Option Int :=
  sI (w64 ((w64 (f1.2.1 * f1.2.1)) - (w64 ((w64 (4 * f1.1)) * f1.2.2)))) fun t2 =>
  some t2

def r_impl_isDefinite (f1 : (Int × Int × Int)) : Option Bool :=
  (r_impl_IsForm f1).bind fun y2 =>
  (bif y2 then ((r_impl_Form_disc f1).bind fun y4 => some (ltI y4 0)) else some false).bind fun b5 =>
  some (bif b5 then (ltI 0 f1.1) else false)

def r_impl_isShownForm (f1 : (Int × Int × Int)) : Option Bool :=
  (r_impl_isDefinite f1).bind fun y2 =>
  (bif y2 then ((r_impl_Form_disc f1).bind fun y4 => some (leI (-2000) y4)) else some false).bind fun b5 =>
  some b5

def r_impl_root_L4 (vn1 : Int) : Nat → Int → Int → Option Int
  | 0, _, _ => none
  | n + 1, low2, high3 =>
    bif (ltI low2 high3) then
      (
        sI (w64 (Int.tdiv (w64 ((w64 (low2 + high3)) + 1)) 2)) fun vm7 =>
        bif (leI (w64 (vm7 * vm7)) vn1) then
          (
            r_impl_root_L4 vn1 n vm7 high3
          )
        else
          (
            sI (w64 (vm7 - 1)) fun high9 =>
            r_impl_root_L4 vn1 n low2 high9
          )
      )
    else
      (
        some low2
      )
def r_impl_root (vn1 : Int) : Option Int :=
  (r_impl_root_L4 vn1 FU 0 3000000000).bind fun o5 =>
  some o5

def r_impl_isSquare (vn1 : Int) : Option Bool :=
  (bif (leI 0 vn1) then ((r_impl_root vn1).bind fun y3 => (r_impl_root vn1).bind fun y4 => some (eqI (w64 (y3 * y4)) vn1)) else some false).bind fun b5 =>
  some b5

def r_impl_Form_points_L9 (f1 : (Int × Int × Int)) (vn2 : Int) (y3 : Int) (y5 : Int) : Nat → Int → List ((Int × Int)) → Option (List ((Int × Int)))
  | 0, _, _ => none
  | n + 1, x7, l8 =>
    bif (leI x7 y5) then
      (
        sI (w64 ((w64 ((w64 (y3 * x7)) * x7)) + (w64 ((w64 (4 * f1.2.2)) * vn2)))) fun square12 =>
        (r_impl_isSquare square12).bind fun y13 =>
        bif (!y13) then
          (
            sI (w64 (x7 + 1)) fun x15 =>
            r_impl_Form_points_L9 f1 vn2 y3 y5 n x15 l8
          )
        else
          (
            (r_impl_root square12).bind fun y16 =>
            (
              (nz (w64 (2 * f1.2.2))).bind fun z18 =>
              (some (eqI (Int.tmod (w64 ((w64 ((w64 (0 - f1.2.1)) * x7)) - y16)) (w64 (2 * f1.2.2))) 0)).bind fun t19 =>
              bif t19 then
                (
                  (nz (w64 (2 * f1.2.2))).bind fun z21 =>
                  (room (l8.length + ([(x7, w64 (Int.tdiv (w64 ((w64 ((w64 (0 - f1.2.1)) * x7)) - y16)) (w64 (2 * f1.2.2))))]).length)).bind fun u22 =>
                  (some (l8 ++ ([(x7, w64 (Int.tdiv (w64 ((w64 ((w64 (0 - f1.2.1)) * x7)) - y16)) (w64 (2 * f1.2.2))))]))).bind fun l23 =>
                  some l23
                )
              else
                (
                  some l8
                )
            ).bind fun j17 =>
            (bif (ltI 0 y16) then ((nz (w64 (2 * f1.2.2))).bind fun z25 => some (eqI (Int.tmod (w64 ((w64 ((w64 (0 - f1.2.1)) * x7)) + y16)) (w64 (2 * f1.2.2))) 0)) else some false).bind fun b26 =>
            bif b26 then
              (
                (nz (w64 (2 * f1.2.2))).bind fun z28 =>
                (room (j17.length + ([(x7, w64 (Int.tdiv (w64 ((w64 ((w64 (0 - f1.2.1)) * x7)) + y16)) (w64 (2 * f1.2.2))))]).length)).bind fun u29 =>
                (some (j17 ++ ([(x7, w64 (Int.tdiv (w64 ((w64 ((w64 (0 - f1.2.1)) * x7)) + y16)) (w64 (2 * f1.2.2))))]))).bind fun l30 =>
                sI (w64 (x7 + 1)) fun x31 =>
                r_impl_Form_points_L9 f1 vn2 y3 y5 n x31 l30
              )
            else
              (
                sI (w64 (x7 + 1)) fun x32 =>
                r_impl_Form_points_L9 f1 vn2 y3 y5 n x32 j17
              )
          )
      )
    else
      (
        some l8
      )
def r_impl_Form_points (f1 : (Int × Int × Int)) (vn2 : Int) : Option (List ((Int × Int))) :=
  (r_impl_Form_disc f1).bind fun y3 =>
  (nz (w64 (0 - y3))).bind fun z4 =>
  (r_impl_root (w64 (Int.tdiv (w64 ((w64 (4 * f1.2.2)) * vn2)) (w64 (0 - y3))))).bind fun y5 =>
  sI (w64 (0 - y5)) fun x6 =>
  (r_impl_Form_points_L9 f1 vn2 y3 y5 FU x6 (([] : List ((Int × Int))))).bind fun o10 =>
  some o10

def r_impl_Representations (f1 : (Int × Int × Int)) (vn2 : Int) : Option ((List ((Int × Int))) × Bool) :=
  (r_impl_isShownForm f1).bind fun y3 =>
  (bif (!y3) then some true else ((r_impl_isShown vn2).bind fun y5 => some (!y5))).bind fun b6 =>
  bif b6 then
    (
      some ((([] : List ((Int × Int))), false))
    )
  else
    (
      (r_impl_Form_points f1 vn2).bind fun y8 =>
      some ((y8, true))
    )

def r_impl_PrimitivePoints_L6 (y3 : ((List ((Int × Int))) × Bool)) : Nat → Int → List ((Int × Int)) → Option (List ((Int × Int)))
  | 0, _, _ => none
  | n + 1, t4, l5 =>
    bif (ltI t4 ((y3.1.length : Int))) then
      (
        (getI y3.1 t4).bind fun e9 =>
        (getI y3.1 t4).bind fun e10 =>
        (r_impl_gcd e10.1 e10.2).bind fun y11 =>
        bif (eqI y11 1) then
          (
            (room (l5.length + ([e10]).length)).bind fun u13 =>
            sI (w64 (t4 + 1)) fun t14 =>
            r_impl_PrimitivePoints_L6 y3 n t14 (l5 ++ ([e10]))
          )
        else
          (
            sI (w64 (t4 + 1)) fun t15 =>
            r_impl_PrimitivePoints_L6 y3 n t15 l5
          )
      )
    else
      (
        some l5
      )
def r_impl_PrimitivePoints (f1 : (Int × Int × Int)) (vn2 : Int) : Option ((List ((Int × Int))) × Bool) :=
  (r_impl_Representations f1 vn2).bind fun y3 =>
  (r_impl_PrimitivePoints_L6 y3 FU 0 (([] : List ((Int × Int))))).bind fun o7 =>
  some ((o7, y3.2))

def r_impl_RepresentingForms_L11 (vn2 : Int) (y8 : List ((Int × Int × Int))) : Nat → Int → List ((Int × Int × Int)) → Option (List ((Int × Int × Int)))
  | 0, _, _ => none
  | n + 1, t9, l10 =>
    bif (ltI t9 ((y8.length : Int))) then
      (
        (getI y8 t9).bind fun e14 =>
        (getI y8 t9).bind fun e15 =>
        (r_impl_PrimitivePoints e15 vn2).bind fun y16 =>
        bif (ltI 0 ((y16.1.length : Int))) then
          (
            (room (l10.length + ([e15]).length)).bind fun u18 =>
            sI (w64 (t9 + 1)) fun t19 =>
            r_impl_RepresentingForms_L11 vn2 y8 n t19 (l10 ++ ([e15]))
          )
        else
          (
            sI (w64 (t9 + 1)) fun t20 =>
            r_impl_RepresentingForms_L11 vn2 y8 n t20 l10
          )
      )
    else
      (
        some l10
      )
def r_impl_RepresentingForms (d1 : Int) (vn2 : Int) : Option ((List ((Int × Int × Int))) × Bool) :=
  (r_impl_isNegativeDisc d1).bind fun y3 =>
  (bif (!y3) then some true else ((r_impl_isShown vn2).bind fun y5 => some (!y5))).bind fun b6 =>
  bif b6 then
    (
      some ((([] : List ((Int × Int × Int))), false))
    )
  else
    (
      (r_impl_reducedForms d1).bind fun y8 =>
      (r_impl_RepresentingForms_L11 vn2 y8 FU 0 (([] : List ((Int × Int × Int))))).bind fun o12 =>
      some ((o12, true))
    )

def r_impl_isPrime_L4 (vn1 : Int) : Nat → Int → Option (Unit ⊕ Bool)
  | 0, _ => none
  | n + 1, p3 =>
    bif (leI (w64 (p3 * p3)) vn1) then
      (
        (nz p3).bind fun z7 =>
        bif (eqI (Int.tmod vn1 p3) 0) then
          (
            some (.inr false)
          )
        else
          (
            sI (w64 (p3 + 1)) fun p9 =>
            r_impl_isPrime_L4 vn1 n p9
          )
      )
    else
      (
        some (.inl ())
      )
def r_impl_isPrime (vn1 : Int) : Option Bool :=
  bif (ltI vn1 2) then
    (
      some false
    )
  else
    (
      (r_impl_isPrime_L4 vn1 FU 2).bind fun qo5 =>
      match qo5 with
      | .inr r => some r
      | .inl o5 =>
        some true
    )

def r_impl_isShownPrime (p1 : Int) : Option Bool :=
  (bif (leI p1 10000) then ((r_impl_isPrime p1).bind fun y3 => some y3) else some false).bind fun b4 =>
  some b4

def r_impl_primeForm_L4 (d1 : Int) (p2 : Int) : Nat → Int → Option (Unit ⊕ (((Int × Int × Int)) × Bool))
  | 0, _ => none
  | n + 1, b3 =>
    bif (leI b3 p2) then
      (
        (nz (w64 (4 * p2))).bind fun z7 =>
        bif (eqI (Int.tmod (w64 ((w64 (b3 * b3)) - d1)) (w64 (4 * p2))) 0) then
          (
            (nz (w64 (4 * p2))).bind fun z9 =>
            sI (w64 (Int.tdiv (w64 ((w64 (b3 * b3)) - d1)) (w64 (4 * p2)))) fun f10 =>
            (r_impl_Form_content ((p2, b3, f10))).bind fun y11 =>
            some (.inr ((((p2, b3, f10), eqI y11 1))))
          )
        else
          (
            sI (w64 (b3 + 1)) fun b12 =>
            r_impl_primeForm_L4 d1 p2 n b12
          )
      )
    else
      (
        some (.inl ())
      )
def r_impl_primeForm (d1 : Int) (p2 : Int) : Option (((Int × Int × Int)) × Bool) :=
  (r_impl_primeForm_L4 d1 p2 FU 0).bind fun qo5 =>
  match qo5 with
  | .inr r => some r
  | .inl o5 =>
    some (((0, 0, 0), false))

def r_impl_PrimeForm (d1 : Int) (p2 : Int) : Option (((Int × Int × Int)) × Bool) :=
  (r_impl_isNegativeDisc d1).bind fun y3 =>
  (bif (!y3) then some true else ((r_impl_isShownPrime p2).bind fun y5 => some (!y5))).bind fun b6 =>
  bif b6 then
    (
      some (((0, 0, 0), false))
    )
  else
    (
      (r_impl_primeForm d1 p2).bind fun y8 =>
      bif (!y8.2) then
        (
          some (((0, 0, 0), false))
        )
      else
        (
          some ((y8.1, true))
        )
    )

def r_impl_one : Option (Int × Int × Int × Int) :=
  some ((1, 0, 0, 1))

def r_impl_floorDiv (a1 : Int) (vm2 : Int) : Option Int :=
  (r_impl_mod a1 vm2).bind fun y3 =>
  (nz vm2).bind fun z4 =>
  sI (w64 (Int.tdiv (w64 (a1 - y3)) vm2)) fun t5 =>
  some t5

def r_impl_Form_step (f1 : (Int × Int × Int)) : Option (Int × Int × Int × Int) :=
  (r_impl_Form_isReduced f1).bind fun y2 =>
  bif y2 then
    (
      (r_impl_one).bind fun y4 =>
      some y4
    )
  else
    (
      (r_impl_Form_isNormal f1).bind fun y5 =>
      bif (!y5) then
        (
          (r_impl_floorDiv (w64 (f1.1 - f1.2.1)) (w64 (2 * f1.1))).bind fun y7 =>
          some ((1, y7, 0, 1))
        )
      else
        (
          some ((0, -1, 1, 0))
        )
    )

def r_impl_Form_at (f1 : (Int × Int × Int)) (x2 : Int) (y3 : Int) : Option Int :=
  sI (w64 ((w64 ((w64 ((w64 (f1.1 * x2)) * x2)) + (w64 ((w64 (f1.2.1 * x2)) * y3)))) + (w64 ((w64 (f1.2.2 * y3)) * y3)))) fun t4 =>
  some t4

def r_impl_Form_polar (f1 : (Int × Int × Int)) (x2 : Int) (y3 : Int) (u4 : Int) (v5 : Int) : Option Int :=
  sI (w64 ((w64 ((w64 ((w64 ((w64 (2 * f1.1)) * x2)) * u4)) + (w64 (f1.2.1 * (w64 ((w64 (x2 * v5)) + (w64 (y3 * u4)))))))) + (w64 ((w64 ((w64 (2 * f1.2.2)) * y3)) * v5)))) fun t6 =>
  some t6

def r_impl_Form_substitute (f1 : (Int × Int × Int)) (vm2 : (Int × Int × Int × Int)) : Option (Int × Int × Int) :=
  (r_impl_Form_at f1 vm2.1 vm2.2.2.1).bind fun y3 =>
  (r_impl_Form_polar f1 vm2.1 vm2.2.2.1 vm2.2.1 vm2.2.2.2).bind fun y4 =>
  (r_impl_Form_at f1 vm2.2.1 vm2.2.2.2).bind fun y5 =>
  some ((y3, y4, y5))

def r_impl_Matrix_times (vm1 : (Int × Int × Int × Int)) (vn2 : (Int × Int × Int × Int)) : Option (Int × Int × Int × Int) :=
  sI (w64 ((w64 (vm1.1 * vn2.1)) + (w64 (vm1.2.1 * vn2.2.2.1)))) fun f3 =>
  sI (w64 ((w64 (vm1.1 * vn2.2.1)) + (w64 (vm1.2.1 * vn2.2.2.2)))) fun f4 =>
  sI (w64 ((w64 (vm1.2.2.1 * vn2.1)) + (w64 (vm1.2.2.2 * vn2.2.2.1)))) fun f5 =>
  sI (w64 ((w64 (vm1.2.2.1 * vn2.2.1)) + (w64 (vm1.2.2.2 * vn2.2.2.2)))) fun f6 =>
  some ((f3, f4, f5, f6))

def r_impl_reduce_L10 : Nat → Int → Int → Int → Int → Int → Int → Int → Option (Int × Int × Int × Int × Int × Int × Int)
  | 0, _, _, _, _, _, _, _ => none
  | n + 1, f3, f4, f5, f6, f7, f8, f9 =>
    (r_impl_Form_isReduced ((f7, f8, f9))).bind fun y12 =>
    bif (!y12) then
      (
        (r_impl_Form_step ((f7, f8, f9))).bind fun y14 =>
        (r_impl_Form_substitute ((f7, f8, f9)) y14).bind fun y15 =>
        (r_impl_Matrix_times ((f3, f4, f5, f6)) y14).bind fun y16 =>
        r_impl_reduce_L10 n y16.1 y16.2.1 y16.2.2.1 y16.2.2.2 y15.1 y15.2.1 y15.2.2
      )
    else
      (
        some (f3, f4, f5, f6, f7, f8, f9)
      )
def r_impl_reduce (f1 : (Int × Int × Int)) : Option (((Int × Int × Int)) × ((Int × Int × Int × Int))) :=
  (r_impl_one).bind fun y2 =>
  (r_impl_reduce_L10 FU y2.1 y2.2.1 y2.2.2.1 y2.2.2.2 f1.1 f1.2.1 f1.2.2).bind fun o11 =>
  some ((o11.2.2.2.2, (o11.1, o11.2.1, o11.2.2.1, o11.2.2.2.1)))

def r_impl_reduced (f1 : (Int × Int × Int)) : Option (Int × Int × Int) :=
  (r_impl_reduce f1).bind fun y2 =>
  some y2.1

def r_impl_PrimeClass (d1 : Int) (p2 : Int) : Option (((Int × Int × Int)) × Bool) :=
  (r_impl_PrimeForm d1 p2).bind fun y3 =>
  bif (!y3.2) then
    (
      some (((0, 0, 0), false))
    )
  else
    (
      (r_impl_reduced y3.1).bind fun y5 =>
      some ((y5, true))
    )

def r_impl_isClassForm (f1 : (Int × Int × Int)) : Option Bool :=
  (r_impl_isShownForm f1).bind fun y2 =>
  (bif y2 then ((r_impl_Form_content f1).bind fun y4 => some (eqI y4 1)) else some false).bind fun b5 =>
  some b5

def r_impl_Form_opposite (f1 : (Int × Int × Int)) : Option (Int × Int × Int) :=
  sI (w64 (0 - f1.2.1)) fun f2 =>
  some ((f1.1, f2, f1.2.2))

def r_impl_InverseForm (f1 : (Int × Int × Int)) : Option (((Int × Int × Int)) × Bool) :=
  (r_impl_isClassForm f1).bind fun y2 =>
  bif (!y2) then
    (
      some (((0, 0, 0), false))
    )
  else
    (
      (r_impl_Form_opposite f1).bind fun y4 =>
      (r_impl_reduced y4).bind fun y5 =>
      some ((y5, true))
    )

def r_impl_firstPoint_L11 (a2 : Int) (g1 : (Int × Int × Int)) (size3 : Int) (x6 : Int) : Nat → Int → Option (Unit ⊕ (Int × Int))
  | 0, _ => none
  | n + 1, y10 =>
    bif (leI y10 size3) then
      (
        (bif (eqI (mxI x6 y10) size3) then ((r_impl_gcd x6 y10).bind fun y15 => some (eqI y15 1)) else some false).bind fun b16 =>
        (bif b16 then ((r_impl_Form_at g1 x6 y10).bind fun y18 => (r_impl_gcd y18 a2).bind fun y19 => some (eqI y19 1)) else some false).bind fun b20 =>
        bif b20 then
          (
            some (.inr (((x6, y10))))
          )
        else
          (
            sI (w64 (y10 + 1)) fun y22 =>
            r_impl_firstPoint_L11 a2 g1 size3 x6 n y22
          )
      )
    else
      (
        some (.inl ())
      )
def r_impl_firstPoint_L7 (a2 : Int) (g1 : (Int × Int × Int)) (size3 : Int) : Nat → Int → Option (Unit ⊕ (Int × Int))
  | 0, _ => none
  | n + 1, x6 =>
    bif (leI x6 size3) then
      (
        (r_impl_firstPoint_L11 a2 g1 size3 x6 FU 0).bind fun qo12 =>
        match qo12 with
        | .inr r => some (.inr r)
        | .inl o12 =>
          sI (w64 (x6 + 1)) fun x23 =>
          r_impl_firstPoint_L7 a2 g1 size3 n x23
      )
    else
      (
        some (.inl ())
      )
def r_impl_firstPoint_L4 (a2 : Int) (g1 : (Int × Int × Int)) : Nat → Int → Option (Unit ⊕ (Int × Int))
  | 0, _ => none
  | n + 1, size3 =>
    (r_impl_firstPoint_L7 a2 g1 size3 FU 0).bind fun qo8 =>
    match qo8 with
    | .inr r => some (.inr r)
    | .inl o8 =>
      sI (w64 (size3 + 1)) fun size24 =>
      r_impl_firstPoint_L4 a2 g1 n size24
def r_impl_firstPoint (g1 : (Int × Int × Int)) (a2 : Int) : Option (Int × Int) :=
  (r_impl_firstPoint_L4 a2 g1 FU 0).bind fun qo5 =>
  match qo5 with
  | .inr r => some r
  | .inl _ => none

def r_impl_genusValues (f1 : (Int × Int × Int)) : Option (List Int) :=
  (r_impl_reduced f1).bind fun y2 =>
  (r_impl_Form_disc y2).bind fun y3 =>
  (r_impl_firstPoint y2 (w64 (2 * y3))).bind fun y4 =>
  (r_impl_Form_at y2 y4.1 y4.2).bind fun y5 =>
  (r_impl_valuesAt y3 y5).bind fun y6 =>
  some y6

def r_impl_GenusValues (f1 : (Int × Int × Int)) : Option ((List Int) × Bool) :=
  (r_impl_isClassForm f1).bind fun y2 =>
  bif (!y2) then
    (
      some ((([] : List Int), false))
    )
  else
    (
      (r_impl_genusValues f1).bind fun y4 =>
      some ((y4, true))
    )

def r_impl_sameValues_L5 (x1 : List Int) (y2 : List Int) : Nat → Int → Option (Unit ⊕ Bool)
  | 0, _ => none
  | n + 1, t4 =>
    bif (ltI t4 ((x1.length : Int))) then
      (
        (getI x1 t4).bind fun e8 =>
        (getI y2 t4).bind fun e9 =>
        bif (!eqI e9 e8) then
          (
            some (.inr false)
          )
        else
          (
            sI (w64 (t4 + 1)) fun t11 =>
            r_impl_sameValues_L5 x1 y2 n t11
          )
      )
    else
      (
        some (.inl ())
      )
def r_impl_sameValues (x1 : List Int) (y2 : List Int) : Option Bool :=
  bif (!eqI ((x1.length : Int)) ((y2.length : Int))) then
    (
      some false
    )
  else
    (
      (r_impl_sameValues_L5 x1 y2 FU 0).bind fun qo6 =>
      match qo6 with
      | .inr r => some r
      | .inl o6 =>
        some true
    )

def r_impl_genusWith_L6 (values2 : List Int) (y3 : List ((Int × Int × Int))) : Nat → Int → List ((Int × Int × Int)) → Option (List ((Int × Int × Int)))
  | 0, _, _ => none
  | n + 1, t4, l5 =>
    bif (ltI t4 ((y3.length : Int))) then
      (
        (getI y3 t4).bind fun e9 =>
        (getI y3 t4).bind fun e10 =>
        (r_impl_genusValues e10).bind fun y11 =>
        (r_impl_sameValues y11 values2).bind fun y12 =>
        bif y12 then
          (
            (room (l5.length + ([e10]).length)).bind fun u14 =>
            sI (w64 (t4 + 1)) fun t15 =>
            r_impl_genusWith_L6 values2 y3 n t15 (l5 ++ ([e10]))
          )
        else
          (
            sI (w64 (t4 + 1)) fun t16 =>
            r_impl_genusWith_L6 values2 y3 n t16 l5
          )
      )
    else
      (
        some l5
      )
def r_impl_genusWith (d1 : Int) (values2 : List Int) : Option (List ((Int × Int × Int))) :=
  (r_impl_reducedForms d1).bind fun y3 =>
  (r_impl_genusWith_L6 values2 y3 FU 0 (([] : List ((Int × Int × Int))))).bind fun o7 =>
  some o7

def r_impl_GenusWith_L9 (d1 : Int) (values2 : List Int) : Nat → Int → Option (Unit ⊕ ((List ((Int × Int × Int))) × Bool))
  | 0, _ => none
  | n + 1, t8 =>
    bif (ltI t8 ((values2.length : Int))) then
      (
        (getI values2 t8).bind fun e12 =>
        (r_impl_abs e12).bind fun y13 =>
        bif (!eqI y13 1) then
          (
            some (.inr (((([] : List ((Int × Int × Int))), false))))
          )
        else
          (
            sI (w64 (t8 + 1)) fun t15 =>
            r_impl_GenusWith_L9 d1 values2 n t15
          )
      )
    else
      (
        some (.inl ())
      )
def r_impl_GenusWith (d1 : Int) (values2 : List Int) : Option ((List ((Int × Int × Int))) × Bool) :=
  (r_impl_isNegativeDisc d1).bind fun y3 =>
  (bif (!y3) then some true else ((r_impl_assigned d1).bind fun y5 => some (!eqI ((values2.length : Int)) ((y5.length : Int))))).bind fun b6 =>
  bif b6 then
    (
      some ((([] : List ((Int × Int × Int))), false))
    )
  else
    (
      (r_impl_GenusWith_L9 d1 values2 FU 0).bind fun qo10 =>
      match qo10 with
      | .inr r => some r
      | .inl o10 =>
        (r_impl_genusWith d1 values2).bind fun y16 =>
        bif (eqI ((y16.length : Int)) 0) then
          (
            some ((([] : List ((Int × Int × Int))), false))
          )
        else
          (
            some ((y16, true))
          )
    )

def r_impl_GenusRepresenting (d1 : Int) (vn2 : Int) : Option ((List ((Int × Int × Int))) × Bool) :=
  (r_impl_ValuesAt d1 vn2).bind fun y3 =>
  bif (!y3.2) then
    (
      some ((([] : List ((Int × Int × Int))), false))
    )
  else
    (
      (r_impl_GenusWith d1 y3.1).bind fun y5 =>
      some ((y5.1, y5.2))
    )

def r_laws_qHas_L4 (f2 : (Int × Int × Int)) (l1 : List ((Int × Int × Int))) : Nat → Int → Option (Unit ⊕ Bool)
  | 0, _ => none
  | n + 1, t3 =>
    bif (ltI t3 ((l1.length : Int))) then
      (
        (getI l1 t3).bind fun e7 =>
        (some (((e7.1 == f2.1) && ((e7.2.1 == f2.2.1) && (e7.2.2 == f2.2.2))))).bind fun t8 =>
        bif t8 then
          (
            some (.inr true)
          )
        else
          (
            sI (w64 (t3 + 1)) fun t10 =>
            r_laws_qHas_L4 f2 l1 n t10
          )
      )
    else
      (
        some (.inl ())
      )
def r_laws_qHas (l1 : List ((Int × Int × Int))) (f2 : (Int × Int × Int)) : Option Bool :=
  (r_laws_qHas_L4 f2 l1 FU 0).bind fun qo5 =>
  match qo5 with
  | .inr r => some r
  | .inl o5 =>
    some false

def r_laws_FnPrimeGenera (code1 : List Int) (more2 : List Int) : Option Bool :=
  (r_laws_big code1 more2).bind fun y3 =>
  bif y3 then
    (
      some true
    )
  else
    (
      (r_spec_DrawValuesAt code1).bind fun y5 =>
      (r_laws_numberOf more2).bind fun y6 =>
      (getI ([3, 5, 7, 11, 13, 17, 19, 23, 29, 31, 37, 41, 43, 47, 53, 59, 61, 67, 71, 97, 101, 499, 997] : List Int) (Int.tmod y6 23)).bind fun e7 =>
      (getI ([3, 5, 7, 11, 13, 17, 19, 23, 29, 31, 37, 41, 43, 47, 53, 59, 61, 67, 71, 97, 101, 499, 997] : List Int) (Int.tmod y6 23)).bind fun e8 =>
      (r_impl_ValuesAt y5.1 e8).bind fun y9 =>
      (r_spec_ValuesAt y5.1 e8).bind fun y10 =>
      (bif (y9.2 != y10.2) then some true else ((r_laws_sameInts y9.1 y10.1).bind fun y12 => some (!y12))).bind fun b13 =>
      bif b13 then
        (
          some false
        )
      else
        (
          bif (!y9.2) then
            (
              some true
            )
          else
            (
              (r_impl_KroneckerSymbol y5.1 e8).bind fun y16 =>
              (r_impl_RepresentingForms y5.1 e8).bind fun y17 =>
              (r_impl_PrimeClass y5.1 e8).bind fun y18 =>
              (some (bif (bif (!y16.2) then true else (!y17.2)) then true else (y18.2 != (eqI y16.1 1)))).bind fun t21 =>
              bif t21 then
                (
                  some false
                )
              else
                (
                  bif (!eqI y16.1 1) then
                    (
                      (some (bif (eqI y16.1 (-1)) then (eqI ((y17.1.length : Int)) 0) else false)).bind fun t25 =>
                      some t25
                    )
                  else
                    (
                      (r_impl_InverseForm y18.1).bind fun y26 =>
                      (r_impl_GenusValues y18.1).bind fun y27 =>
                      (r_impl_GenusRepresenting y5.1 e8).bind fun y28 =>
                      (bif (bif (!y26.2) then true else (!y27.2)) then some true else ((r_laws_sameInts y27.1 y9.1).bind fun y31 => some (!y31))).bind fun b32 =>
                      (bif (bif b32 then true else (!y28.2)) then some true else ((r_laws_qHas y28.1 y18.1).bind fun y35 => some (!y35))).bind fun b36 =>
                      (bif b36 then some true else ((r_laws_qHas y28.1 y26.1).bind fun y38 => some (!y38))).bind fun b39 =>
                      (bif b39 then some true else ((r_laws_qHas y17.1 y18.1).bind fun y41 => some (!y41))).bind fun b42 =>
                      (bif b42 then some true else ((r_laws_qHas y17.1 y26.1).bind fun y44 => some (!y44))).bind fun b45 =>
                      bif b45 then
                        (
                          some false
                        )
                      else
                        (
                          (some (bif (bif (((y18.1.1 == y26.1.1) && ((y18.1.2.1 == y26.1.2.1) && (y18.1.2.2 == y26.1.2.2)))) then (eqI ((y17.1.length : Int)) 1) else false) then true else (bif (!((y18.1.1 == y26.1.1) && ((y18.1.2.1 == y26.1.2.1) && (y18.1.2.2 == y26.1.2.2)))) then (eqI ((y17.1.length : Int)) 2) else false))).bind fun t50 =>
                          some t50
                        )
                    )
                )
            )
        )
    )

end Go.Proofs.Ytpfnhgpepgeaiaa
