/-
  What the functions of the program compute, as plain functions.
  Conditions: none.
-/
import Derived.Test.YtgeajejmikaniaaShRs

namespace Go.Proofs.Ytgeajejmikaniaa

set_option linter.unusedVariables false

def r_laws_big (code1 : List Int) (more2 : List Int) : Option Bool :=
  (some (bif (ltI 1048576 ((code1.length : Int))) then true else (ltI (w64 (1048576 - ((code1.length : Int)))) ((more2.length : Int))))).bind fun t4 =>
  some t4

def r_spec_l1Cur_next (c1 : ((List Int) × Int × Int)) : Option (Int × (((List Int) × Int × Int))) :=
  (
    bif (ltI c1.2.1 ((c1.1.length : Int))) then
      (
        (getI c1.1 c1.2.1).bind fun e4 =>
        sI (IntKind.i64.wrap e4) fun b5 =>
        some b5
      )
    else
      (
        some 0
      )
  ).bind fun j2 =>
  sI (w64 (c1.2.1 + 1)) fun f6 =>
  sI (IntKind.u64.wrap ((IntKind.u64.wrap ((IntKind.u64.wrap (c1.2.2 * 6364136223846793005)) + (IntKind.u64.wrap j2))) + 1442695040888963407)) fun f7 =>
  bif (leI f6 ((c1.1.length : Int))) then
    (
      some ((j2, (c1.1, f6, f7)))
    )
  else
    (
      sI (IntKind.i64.wrap (andI .u64 (shrI .u64 f7 40) 255)) fun t9 =>
      some ((t9, (c1.1, f6, f7)))
    )

def r_spec_l1Cur_pick (c1 : ((List Int) × Int × Int)) (vn2 : Int) : Option (Int × (((List Int) × Int × Int))) :=
  bif (leI vn2 1) then
    (
      some ((0, c1))
    )
  else
    (
      (r_spec_l1Cur_next c1).bind fun y4 =>
      bif (ltI 200 vn2) then
        (
          (r_spec_l1Cur_next y4.2).bind fun y6 =>
          sI (w64 ((w64 (y4.1 * 256)) + y6.1)) fun x7 =>
          (nz vn2).bind fun z8 =>
          sI (Int.tmod x7 vn2) fun t9 =>
          some ((t9, y6.2))
        )
      else
        (
          (nz vn2).bind fun z10 =>
          sI (Int.tmod y4.1 vn2) fun t11 =>
          some ((t11, y4.2))
        )
    )

def r_spec_l1Cur_one (c1 : ((List Int) × Int × Int)) (vn2 : Int) : Option (Bool × (((List Int) × Int × Int))) :=
  (r_spec_l1Cur_pick c1 vn2).bind fun y3 =>
  some ((eqI y3.1 0, y3.2))

def r_spec_l1Cur_among (c1 : ((List Int) × Int × Int)) (list2 : List Int) : Option (Int × (((List Int) × Int × Int))) :=
  (r_spec_l1Cur_pick c1 ((list2.length : Int))).bind fun y3 =>
  (getI list2 y3.1).bind fun e4 =>
  some ((e4, y3.2))

def r_spec_l1Cur_number (c1 : ((List Int) × Int × Int)) : Option (Int × (((List Int) × Int × Int))) :=
  (r_spec_l1Cur_pick c1 12).bind fun y2 =>
  bif (eqI y2.1 0) then
    (
      (r_spec_l1Cur_among y2.2 ([0, 1, -1, 1000000, -1000000, 1000001, -1000001, -9223372036854775808, 9223372036854775807, 999983, 999999, 1000])).bind fun y4 =>
      some ((y4.1, y4.2))
    )
  else
    (
      (
        bif (eqI y2.1 1) then
          (
            some (eqI y2.1 1)
          )
        else
          (
            some (eqI y2.1 2)
          )
      ).bind fun j5 =>
      bif j5 then
        (
          (r_spec_l1Cur_pick y2.2 50000).bind fun y8 =>
          (r_spec_l1Cur_pick y8.2 20).bind fun y9 =>
          (r_spec_l1Cur_pick y9.2 2).bind fun y10 =>
          sI (w64 ((w64 (y8.1 * (w64 (1 + y9.1)))) * (w64 (1 - (w64 (2 * y10.1)))))) fun t11 =>
          some ((t11, y10.2))
        )
      else
        (
          (
            bif (eqI y2.1 3) then
              (
                some (eqI y2.1 3)
              )
            else
              (
                some (eqI y2.1 4)
              )
          ).bind fun j12 =>
          bif j12 then
            (
              (r_spec_l1Cur_pick y2.2 2000).bind fun y15 =>
              some ((y15.1, y15.2))
            )
          else
            (
              (r_spec_l1Cur_pick y2.2 121).bind fun y16 =>
              sI (w64 (y16.1 - 40)) fun t17 =>
              some ((t17, y16.2))
            )
        )
    )

def r_spec_nuMod (a1 : Int) (vm2 : Int) : Option Int :=
  (nz vm2).bind fun z3 =>
  sI (Int.tmod a1 vm2) fun vr4 =>
  bif (ltI vr4 0) then
    (
      sI (w64 (vr4 + vm2)) fun vr6 =>
      some vr6
    )
  else
    (
      some vr4
    )

def r_spec_l1Most (a1 : Int) (b2 : Int) : Option Int :=
  bif (ltI b2 a1) then
    (
      some a1
    )
  else
    (
      some b2
    )

def r_spec_l1Cur_disc (c1 : ((List Int) × Int × Int)) : Option (Int × (((List Int) × Int × Int))) :=
  (r_spec_l1Cur_pick c1 16).bind fun y2 =>
  bif (eqI y2.1 0) then
    (
      (r_spec_l1Cur_among y2.2 ([-3, -4, -2000, -1999, -1996, -1995, -163, -2001, -2003, -2004, 0, 1, 5, -1, -2, -5, -9223372036854775808])).bind fun y4 =>
      some ((y4.1, y4.2))
    )
  else
    (
      (
        bif (eqI y2.1 1) then
          (
            some (eqI y2.1 1)
          )
        else
          (
            some (eqI y2.1 2)
          )
      ).bind fun j5 =>
      bif j5 then
        (
          (r_spec_l1Cur_pick y2.2 1998).bind fun y8 =>
          sI (w64 ((-3) - y8.1)) fun d9 =>
          (r_spec_nuMod d9 4).bind fun y10 =>
          bif (ltI 1 y10) then
            (
              (r_spec_l1Most (-2000) (w64 (d9 - 2))).bind fun y12 =>
              some ((y12, y8.2))
            )
          else
            (
              some ((d9, y8.2))
            )
        )
      else
        (
          (
            bif (eqI y2.1 3) then
              (
                some (eqI y2.1 3)
              )
            else
              (
                bif (eqI y2.1 4) then
                  (
                    some (eqI y2.1 4)
                  )
                else
                  (
                    some (eqI y2.1 5)
                  )
              )
          ).bind fun j13 =>
          bif j13 then
            (
              (r_spec_l1Cur_among y2.2 ([-84, -420, -231, -260, -455, -520, -660, -1155, -1320, -1380, -1428, -1540, -399, -1092, -1560, -1785])).bind fun y17 =>
              some ((y17.1, y17.2))
            )
          else
            (
              (
                bif (eqI y2.1 6) then
                  (
                    some (eqI y2.1 6)
                  )
                else
                  (
                    some (eqI y2.1 7)
                  )
              ).bind fun j18 =>
              bif j18 then
                (
                  (r_spec_l1Cur_pick y2.2 60).bind fun y21 =>
                  sI (w64 ((-4) * (w64 (1 + y21.1)))) fun t22 =>
                  some ((t22, y21.2))
                )
              else
                (
                  (r_spec_l1Cur_pick y2.2 50).bind fun y23 =>
                  sI (w64 ((-3) - (w64 (4 * y23.1)))) fun t24 =>
                  some ((t24, y23.2))
                )
            )
        )
    )

def r_spec_l1Cur_anyDisc (c1 : ((List Int) × Int × Int)) : Option (Int × (((List Int) × Int × Int))) :=
  (r_spec_l1Cur_pick c1 8).bind fun y2 =>
  bif (eqI y2.1 0) then
    (
      (r_spec_l1Cur_number y2.2).bind fun y4 =>
      some ((y4.1, y4.2))
    )
  else
    (
      (
        bif (eqI y2.1 1) then
          (
            some (eqI y2.1 1)
          )
        else
          (
            some (eqI y2.1 2)
          )
      ).bind fun j5 =>
      bif j5 then
        (
          (r_spec_l1Cur_among y2.2 ([5, 8, 12, 13, 17, 21, 60, 136, 1000, 997, 4, 9, 1, 0])).bind fun y8 =>
          some ((y8.1, y8.2))
        )
      else
        (
          (r_spec_l1Cur_disc y2.2).bind fun y9 =>
          some ((y9.1, y9.2))
        )
    )

def r_spec_l1Cur_bigDisc (c1 : ((List Int) × Int × Int)) : Option (Int × (((List Int) × Int × Int))) :=
  (r_spec_l1Cur_one c1 2).bind fun y2 =>
  bif y2.1 then
    (
      (r_spec_l1Cur_anyDisc y2.2).bind fun y4 =>
      some ((y4.1, y4.2))
    )
  else
    (
      (r_spec_l1Cur_pick y2.2 60).bind fun y5 =>
      sI (w64 (1 + y5.1)) fun k6 =>
      (r_spec_l1Cur_among y5.2 ([-3, -4, -7, -8, -15, -20, -23, -84, 5, 8, 12, 13, 60, -1, 2, 1])).bind fun y7 =>
      sI (w64 ((w64 (y7.1 * k6)) * k6)) fun t8 =>
      some ((t8, y7.2))
    )

def r_spec_DrawIsDiscriminant (code1 : List Int) : Option Int :=
  (r_spec_l1Cur_one ((code1, 0, 0)) 3).bind fun y2 =>
  bif y2.1 then
    (
      (r_spec_l1Cur_number y2.2).bind fun y4 =>
      some y4.1
    )
  else
    (
      (r_spec_l1Cur_bigDisc y2.2).bind fun y5 =>
      some y5.1
    )

def r_spec_DrawFundamentalPart (code1 : List Int) : Option Int :=
  (r_spec_DrawIsDiscriminant code1).bind fun y2 =>
  some y2

def r_impl_areNumbers_L3 (list1 : List Int) : Nat → Int → Option (Unit ⊕ Bool)
  | 0, _ => none
  | n + 1, t2 =>
    bif (ltI t2 ((list1.length : Int))) then
      (
        (getI list1 t2).bind fun e6 =>
        bif (bif (ltI e6 (-1000000)) then true else (ltI 1000000 e6)) then
          (
            some (.inr false)
          )
        else
          (
            sI (w64 (t2 + 1)) fun t9 =>
            r_impl_areNumbers_L3 list1 n t9
          )
      )
    else
      (
        some (.inl ())
      )
def r_impl_areNumbers (list1 : List Int) : Option Bool :=
  (r_impl_areNumbers_L3 list1 FU 0).bind fun qo4 =>
  match qo4 with
  | .inr r => some r
  | .inl o4 =>
    some true

def r_impl_mod (a1 : Int) (vm2 : Int) : Option Int :=
  (nz vm2).bind fun z3 =>
  sI (Int.tmod a1 vm2) fun vr4 =>
  bif (ltI vr4 0) then
    (
      sI (w64 (vr4 + vm2)) fun vr6 =>
      some vr6
    )
  else
    (
      some vr4
    )

def r_impl_root_L4 (vn1 : Int) : Nat → Int → Int → Option Int
  | 0, _, _ => none
  | n + 1, low2, high3 =>
    bif (ltI low2 high3) then
      (
        sI (w64 (Int.tdiv (w64 ((w64 (low2 + high3)) + 1)) 2)) fun vm7 =>
        bif (leI (w64 (vm7 * vm7)) vn1) then
          (
            r_impl_root_L4 vn1 n vm7 high3
          )
        else
          (
            sI (w64 (vm7 - 1)) fun high9 =>
            r_impl_root_L4 vn1 n low2 high9
          )
      )
    else
      (
        some low2
      )
def r_impl_root (vn1 : Int) : Option Int :=
  (r_impl_root_L4 vn1 FU 0 3000000000).bind fun o5 =>
  some o5

def r_impl_isSquare (vn1 : Int) : Option Bool :=
  (bif (leI 0 vn1) then ((r_impl_root vn1).bind fun y3 => (r_impl_root vn1).bind fun y4 => some (eqI (w64 (y3 * y4)) vn1)) else some false).bind fun b5 =>
  some b5

def r_impl_isDiscriminant (d1 : Int) : Option Bool :=
  (r_impl_areNumbers ([d1])).bind fun y2 =>
  (bif y2 then ((r_impl_mod d1 4).bind fun y4 => some (leI y4 1)) else some false).bind fun b5 =>
  (bif b5 then ((r_impl_isSquare d1).bind fun y7 => some (!y7)) else some false).bind fun b8 =>
  some b8

def r_impl_abs (vn1 : Int) : Option Int :=
  sI (mxI vn1 (w64 (0 - (mxI vn1 (-9223372036854775807))))) fun t2 =>
  some t2

def r_impl_squareFree_L11 (p4 : Int) : Nat → Int → Int → Option (Int × Int)
  | 0, _, _ => none
  | n + 1, vn9, k10 =>
    (nz (w64 (p4 * p4))).bind fun z13 =>
    bif (eqI (Int.tmod vn9 (w64 (p4 * p4))) 0) then
      (
        (nz (w64 (p4 * p4))).bind fun z15 =>
        sI (w64 (Int.tdiv vn9 (w64 (p4 * p4)))) fun vn16 =>
        sI (w64 (k10 * p4)) fun k17 =>
        r_impl_squareFree_L11 p4 n vn16 k17
      )
    else
      (
        some (vn9, k10)
      )
def r_impl_squareFree_L5 : Nat → Int → Int → Int → Option (Int × Int)
  | 0, _, _, _ => none
  | n + 1, vn2, k3, p4 =>
    (r_impl_abs vn2).bind fun y7 =>
    bif (leI (w64 (p4 * p4)) y7) then
      (
        (r_impl_squareFree_L11 p4 FU vn2 k3).bind fun o12 =>
        sI (w64 (p4 + 1)) fun p18 =>
        r_impl_squareFree_L5 n o12.1 o12.2 p18
      )
    else
      (
        some (vn2, k3)
      )
def r_impl_squareFree (vn1 : Int) : Option (Int × Int) :=
  (r_impl_squareFree_L5 FU vn1 1 2).bind fun o6 =>
  some ((o6.1, o6.2))

def r_impl_fundamental (d1 : Int) : Option (Int × Int) :=
  (r_impl_squareFree d1).bind fun y2 =>
  (r_impl_mod y2.1 4).bind fun y3 =>
  bif (!eqI y3 1) then
    (
      sI (w64 (4 * y2.1)) fun t5 =>
      sI (w64 (Int.tdiv y2.2 2)) fun t6 =>
      some ((t5, t6))
    )
  else
    (
      some ((y2.1, y2.2))
    )

def r_impl_FundamentalPart (d1 : Int) : Option (Int × Int × Bool) :=
  (r_impl_isDiscriminant d1).bind fun y2 =>
  bif (!y2) then
    (
      some ((0, 0, false))
    )
  else
    (
      (r_impl_fundamental d1).bind fun y4 =>
      some ((y4.1, y4.2, true))
    )

def r_spec_l1In (vn1 : Int) (lo2 : Int) (hi3 : Int) : Option Bool :=
  some (bif (leI lo2 vn1) then (leI vn1 hi3) else false)

def r_spec_nuGood (vn1 : Int) : Option Bool :=
  (r_spec_l1In vn1 (-1000000) 1000000).bind fun y2 =>
  some y2

def r_spec_nuRoot_L4 (vn1 : Int) : Nat → Int → Int → Option Int
  | 0, _, _ => none
  | n + 1, lo2, hi3 =>
    bif (ltI lo2 hi3) then
      (
        sI (w64 (Int.tdiv (w64 ((w64 (lo2 + hi3)) + 1)) 2)) fun mid7 =>
        bif (leI (w64 (mid7 * mid7)) vn1) then
          (
            r_spec_nuRoot_L4 vn1 n mid7 hi3
          )
        else
          (
            sI (w64 (mid7 - 1)) fun hi9 =>
            r_spec_nuRoot_L4 vn1 n lo2 hi9
          )
      )
    else
      (
        some lo2
      )
def r_spec_nuRoot (vn1 : Int) : Option Int :=
  (r_spec_nuRoot_L4 vn1 FU 0 1000000000).bind fun o5 =>
  some o5

def r_spec_nuSquare (vn1 : Int) : Option Bool :=
  bif (ltI vn1 0) then
    (
      some false
    )
  else
    (
      (r_spec_nuRoot vn1).bind fun y3 =>
      some (eqI (w64 (y3 * y3)) vn1)
    )

def r_spec_diIs (d1 : Int) : Option Bool :=
  (r_spec_nuGood d1).bind fun y2 =>
  (bif y2 then ((r_spec_nuMod d1 4).bind fun y4 => some (ltI y4 2)) else some false).bind fun b5 =>
  (bif b5 then ((r_spec_nuSquare d1).bind fun y7 => some (!y7)) else some false).bind fun b8 =>
  some b8

def r_spec_l1Abs (vn1 : Int) : Option Int :=
  (r_spec_l1Most vn1 (w64 (0 - vn1))).bind fun y2 =>
  some y2

def r_spec_nuFree_L11 (d4 : Int) : Nat → Int → Int → Option (Int × Int)
  | 0, _, _ => none
  | n + 1, vn9, k10 =>
    (nz (w64 (d4 * d4))).bind fun z13 =>
    bif (eqI (Int.tmod vn9 (w64 (d4 * d4))) 0) then
      (
        (nz (w64 (d4 * d4))).bind fun z15 =>
        sI (w64 (Int.tdiv vn9 (w64 (d4 * d4)))) fun vn16 =>
        sI (w64 (k10 * d4)) fun k17 =>
        r_spec_nuFree_L11 d4 n vn16 k17
      )
    else
      (
        some (vn9, k10)
      )
def r_spec_nuFree_L5 : Nat → Int → Int → Int → Option (Int × Int)
  | 0, _, _, _ => none
  | n + 1, vn2, k3, d4 =>
    (r_spec_l1Abs vn2).bind fun y7 =>
    bif (leI (w64 (d4 * d4)) y7) then
      (
        (r_spec_nuFree_L11 d4 FU vn2 k3).bind fun o12 =>
        sI (w64 (d4 + 1)) fun d18 =>
        r_spec_nuFree_L5 n o12.1 o12.2 d18
      )
    else
      (
        some (vn2, k3)
      )
def r_spec_nuFree (vn1 : Int) : Option (Int × Int) :=
  (r_spec_nuFree_L5 FU vn1 1 2).bind fun o6 =>
  some ((o6.1, o6.2))

def r_spec_diSplit (d1 : Int) : Option (Int × Int) :=
  (r_spec_nuFree d1).bind fun y2 =>
  (r_spec_nuMod y2.1 4).bind fun y3 =>
  bif (eqI y3 1) then
    (
      some ((y2.1, y2.2))
    )
  else
    (
      sI (w64 (4 * y2.1)) fun t5 =>
      sI (w64 (Int.tdiv y2.2 2)) fun t6 =>
      some ((t5, t6))
    )

def r_spec_FundamentalPart (d1 : Int) : Option (Int × Int × Bool) :=
  (r_spec_diIs d1).bind fun y2 =>
  bif (!y2) then
    (
      some ((0, 0, false))
    )
  else
    (
      (r_spec_diSplit d1).bind fun y4 =>
      some ((y4.1, y4.2, true))
    )

def r_impl_IsFundamental (d1 : Int) : Option (Bool × Bool) :=
  (r_impl_isDiscriminant d1).bind fun y2 =>
  bif (!y2) then
    (
      some ((false, false))
    )
  else
    (
      (r_impl_fundamental d1).bind fun y4 =>
      some ((eqI y4.2 1, true))
    )

def r_impl_factors_L10 (p3 : Int) : Nat → Int → List Int → Option (Int × (List Int))
  | 0, _, _ => none
  | n + 1, vn8, l9 =>
    (nz p3).bind fun z12 =>
    bif (eqI (Int.tmod vn8 p3) 0) then
      (
        (room (l9.length + ([p3]).length)).bind fun u14 =>
        (nz p3).bind fun z15 =>
        sI (w64 (Int.tdiv vn8 p3)) fun vn16 =>
        r_impl_factors_L10 p3 n vn16 (l9 ++ ([p3]))
      )
    else
      (
        some (vn8, l9)
      )
def r_impl_factors_L5 : Nat → Int → Int → List Int → Option (Int × (List Int))
  | 0, _, _, _ => none
  | n + 1, vn2, p3, l4 =>
    bif (leI (w64 (p3 * p3)) vn2) then
      (
        (r_impl_factors_L10 p3 FU vn2 l4).bind fun o11 =>
        sI (w64 (p3 + 1)) fun p17 =>
        r_impl_factors_L5 n o11.1 p17 o11.2
      )
    else
      (
        some (vn2, l4)
      )
def r_impl_factors (vn1 : Int) : Option (List Int) :=
  (r_impl_factors_L5 FU vn1 2 (([] : List Int))).bind fun o6 =>
  bif (ltI 1 o6.1) then
    (
      (room (o6.2.length + ([o6.1]).length)).bind fun u19 =>
      some (o6.2 ++ ([o6.1]))
    )
  else
    (
      some o6.2
    )

def r_impl_primesOf_L5 (y2 : List Int) : Nat → Int → List Int → Option (List Int)
  | 0, _, _ => none
  | n + 1, t3, l4 =>
    bif (ltI t3 ((y2.length : Int))) then
      (
        (getI y2 t3).bind fun e8 =>
        (getI y2 t3).bind fun e9 =>
        (bif (eqI ((l4.length : Int)) 0) then some true else ((getI l4 (w64 (((l4.length : Int)) - 1))).bind fun e11 => (getI l4 (w64 (((l4.length : Int)) - 1))).bind fun e12 => some (!eqI e12 e9))).bind fun b13 =>
        bif b13 then
          (
            (room (l4.length + ([e9]).length)).bind fun u15 =>
            sI (w64 (t3 + 1)) fun t16 =>
            r_impl_primesOf_L5 y2 n t16 (l4 ++ ([e9]))
          )
        else
          (
            sI (w64 (t3 + 1)) fun t17 =>
            r_impl_primesOf_L5 y2 n t17 l4
          )
      )
    else
      (
        some l4
      )
def r_impl_primesOf (vn1 : Int) : Option (List Int) :=
  (r_impl_factors vn1).bind fun y2 =>
  (r_impl_primesOf_L5 y2 FU 0 (([] : List Int))).bind fun o6 =>
  some o6

def r_impl_primeDiscriminants_L7 (y3 : List Int) : Nat → Int → Int → List Int → Option (Int × (List Int))
  | 0, _, _, _ => none
  | n + 1, t4, rest5, l6 =>
    bif (ltI t4 ((y3.length : Int))) then
      (
        (getI y3 t4).bind fun e10 =>
        (getI y3 t4).bind fun e11 =>
        bif (eqI e11 2) then
          (
            sI (w64 (t4 + 1)) fun t13 =>
            r_impl_primeDiscriminants_L7 y3 n t13 rest5 l6
          )
        else
          (
            (
              bif (eqI (Int.tmod e11 4) 3) then
                (
                  sI (w64 (0 - e11)) fun p16 =>
                  some p16
                )
              else
                (
                  some e11
                )
            ).bind fun j14 =>
            (room (l6.length + ([j14]).length)).bind fun u17 =>
            (nz j14).bind fun z18 =>
            sI (w64 (Int.tdiv rest5 j14)) fun rest19 =>
            sI (w64 (t4 + 1)) fun t20 =>
            r_impl_primeDiscriminants_L7 y3 n t20 rest19 (l6 ++ ([j14]))
          )
      )
    else
      (
        some (rest5, l6)
      )
def r_impl_primeDiscriminants (d1 : Int) : Option (List Int) :=
  (r_impl_abs d1).bind fun y2 =>
  (r_impl_primesOf y2).bind fun y3 =>
  (r_impl_primeDiscriminants_L7 y3 FU 0 d1 (([] : List Int))).bind fun o8 =>
  bif (eqI o8.1 1) then
    (
      some o8.2
    )
  else
    (
      (room (([o8.1]).length + o8.2.length)).bind fun u22 =>
      some (([o8.1]) ++ o8.2)
    )

def r_impl_PrimeDiscriminants (d1 : Int) : Option ((List Int) × Bool) :=
  (r_impl_IsFundamental d1).bind fun y2 =>
  bif (!y2.1) then
    (
      some ((([] : List Int), false))
    )
  else
    (
      (r_impl_primeDiscriminants d1).bind fun y4 =>
      some ((y4, true))
    )

def r_impl_principalForm (d1 : Int) : Option (Int × Int × Int) :=
  (r_impl_mod d1 2).bind fun y2 =>
  sI (w64 (Int.tdiv (w64 (y2 - d1)) 4)) fun f3 =>
  some ((1, y2, f3))

def r_impl_PrincipalForm (d1 : Int) : Option (((Int × Int × Int)) × Bool) :=
  (r_impl_isDiscriminant d1).bind fun y2 =>
  bif (!y2) then
    (
      some (((0, 0, 0), false))
    )
  else
    (
      (r_impl_principalForm d1).bind fun y4 =>
      some ((y4, true))
    )

def r_impl_IsForm (f1 : (Int × Int × Int)) : Option Bool :=
  (r_impl_areNumbers ([f1.1, f1.2.1, f1.2.2])).bind fun y2 =>
  some y2

def r_impl_Form_disc (f1 : (Int × Int × Int)) : Option Int :=
  sI (w64 ((w64 (f1.2.1 * f1.2.1)) - (w64 ((w64 (4 * f1.1)) * f1.2.2)))) fun t2 =>
  some t2

def r_impl_Discriminant (f1 : (Int × Int × Int)) : Option (Int × Bool) :=
  (r_impl_IsForm f1).bind fun y2 =>
  bif (!y2) then
    (
      some ((0, false))
    )
  else
    (
      (r_impl_Form_disc f1).bind fun y4 =>
      some ((y4, true))
    )

def r_laws_numberOf_L4 (b1 : List Int) : Nat → Int → Int → Option Int
  | 0, _, _ => none
  | n + 1, vn2, t3 =>
    bif (ltI t3 ((b1.length : Int))) then
      (
        (getI b1 t3).bind fun e7 =>
        sI (Int.tmod (w64 ((w64 (31 * vn2)) + (IntKind.i64.wrap e7))) 1000003) fun vn8 =>
        sI (w64 (t3 + 1)) fun t9 =>
        r_laws_numberOf_L4 b1 n vn8 t9
      )
    else
      (
        some vn2
      )
def r_laws_numberOf (b1 : List Int) : Option Int :=
  (r_laws_numberOf_L4 b1 FU 0 0).bind fun o5 =>
  some o5

def r_impl_symbolOfTwo (vn1 : Int) : Option Int :=
  (r_impl_mod vn1 8).bind fun y2 =>
  bif (bif (eqI y2 1) then true else (eqI y2 7)) then
    (
      some 1
    )
  else
    (
      some (-1)
    )

def r_impl_jacobi_L12 (vn5 : Int) : Nat → Int → Int → Option (Int × Int)
  | 0, _, _ => none
  | n + 1, a10, vs11 =>
    bif (eqI (Int.tmod a10 2) 0) then
      (
        sI (w64 (Int.tdiv a10 2)) fun a15 =>
        (r_impl_symbolOfTwo vn5).bind fun y16 =>
        sI (w64 (vs11 * y16)) fun vs17 =>
        r_impl_jacobi_L12 vn5 n a15 vs17
      )
    else
      (
        some (a10, vs11)
      )
def r_impl_jacobi_L7 : Nat → Int → Int → Int → Option (Int × Int)
  | 0, _, _, _ => none
  | n + 1, a4, vn5, vs6 =>
    bif (!eqI a4 0) then
      (
        (r_impl_jacobi_L12 vn5 FU a4 vs6).bind fun o13 =>
        (some (bif (eqI (Int.tmod o13.1 4) 3) then (eqI (Int.tmod vn5 4) 3) else false)).bind fun t19 =>
        bif t19 then
          (
            sI (w64 (0 - o13.2)) fun vs21 =>
            (nz o13.1).bind fun z22 =>
            sI (Int.tmod vn5 o13.1) fun a23 =>
            r_impl_jacobi_L7 n a23 o13.1 vs21
          )
        else
          (
            (nz o13.1).bind fun z24 =>
            sI (Int.tmod vn5 o13.1) fun a25 =>
            r_impl_jacobi_L7 n a25 o13.1 o13.2
          )
      )
    else
      (
        some (vn5, vs6)
      )
def r_impl_jacobi (a1 : Int) (vn2 : Int) : Option Int :=
  (r_impl_mod a1 vn2).bind fun y3 =>
  (r_impl_jacobi_L7 FU y3 vn2 1).bind fun o8 =>
  bif (!eqI o8.1 1) then
    (
      some 0
    )
  else
    (
      some o8.2
    )

def r_impl_kronecker_L12 (a1 : Int) : Nat → Int → Int → Option ((Int × Int) ⊕ Int)
  | 0, _, _ => none
  | n + 1, vn10, vs11 =>
    bif (eqI (Int.tmod vn10 2) 0) then
      (
        bif (eqI (Int.tmod a1 2) 0) then
          (
            some (.inr 0)
          )
        else
          (
            sI (w64 (Int.tdiv vn10 2)) fun vn16 =>
            (r_impl_symbolOfTwo a1).bind fun y17 =>
            sI (w64 (vs11 * y17)) fun vs18 =>
            r_impl_kronecker_L12 a1 n vn16 vs18
          )
      )
    else
      (
        some (.inl (vn10, vs11))
      )
def r_impl_kronecker (a1 : Int) (vn2 : Int) : Option Int :=
  bif (eqI vn2 0) then
    (
      (r_impl_abs a1).bind fun y4 =>
      bif (eqI y4 1) then
        (
          some 1
        )
      else
        (
          some 0
        )
    )
  else
    (
      (
        bif (bif (ltI vn2 0) then (ltI a1 0) else false) then
          (
            some (-1)
          )
        else
          (
            some 1
          )
      ).bind fun j6 =>
      (r_impl_abs vn2).bind fun y9 =>
      (r_impl_kronecker_L12 a1 FU y9 j6).bind fun qo13 =>
      match qo13 with
      | .inr r => some r
      | .inl o13 =>
        (r_impl_jacobi a1 o13.1).bind fun y19 =>
        sI (w64 (o13.2 * y19)) fun t20 =>
        some t20
    )

def r_impl_CharacterOf (d1 : Int) (vn2 : Int) : Option (Int × Bool) :=
  (r_impl_isDiscriminant d1).bind fun y3 =>
  (bif (!y3) then some true else ((r_impl_areNumbers ([vn2])).bind fun y5 => some (!y5))).bind fun b6 =>
  bif b6 then
    (
      some ((0, false))
    )
  else
    (
      (r_impl_kronecker d1 vn2).bind fun y8 =>
      some ((y8, true))
    )

def r_laws_qAbs (vn1 : Int) : Option Int :=
  bif (ltI vn1 0) then
    (
      sI (w64 (0 - vn1)) fun t3 =>
      some t3
    )
  else
    (
      some vn1
    )

def r_laws_qGcd_L5 : Nat → Int → Int → Option Int
  | 0, _, _ => none
  | n + 1, a3, b4 =>
    bif (!eqI b4 0) then
      (
        (nz b4).bind fun z8 =>
        sI (Int.tmod a3 b4) fun b9 =>
        r_laws_qGcd_L5 n b4 b9
      )
    else
      (
        some a3
      )
def r_laws_qGcd (a1 : Int) (b2 : Int) : Option Int :=
  (r_laws_qGcd_L5 FU a1 b2).bind fun o6 =>
  (r_laws_qAbs o6).bind fun y10 =>
  some y10

def r_impl_isPrime_L4 (vn1 : Int) : Nat → Int → Option (Unit ⊕ Bool)
  | 0, _ => none
  | n + 1, p3 =>
    bif (leI (w64 (p3 * p3)) vn1) then
      (
        (nz p3).bind fun z7 =>
        bif (eqI (Int.tmod vn1 p3) 0) then
          (
            some (.inr false)
          )
        else
          (
            sI (w64 (p3 + 1)) fun p9 =>
            r_impl_isPrime_L4 vn1 n p9
          )
      )
    else
      (
        some (.inl ())
      )
def r_impl_isPrime (vn1 : Int) : Option Bool :=
  bif (ltI vn1 2) then
    (
      some false
    )
  else
    (
      (r_impl_isPrime_L4 vn1 FU 2).bind fun qo5 =>
      match qo5 with
      | .inr r => some r
      | .inl o5 =>
        some true
    )

def r_impl_IsPrime (vn1 : Int) : Option Bool :=
  (r_impl_areNumbers ([vn1])).bind fun y2 =>
  (bif y2 then ((r_impl_isPrime vn1).bind fun y4 => some y4) else some false).bind fun b5 =>
  some b5

def r_impl_kindOfPrime (d1 : Int) (p2 : Int) : Option Int :=
  (r_impl_fundamental d1).bind fun y3 =>
  (nz p2).bind fun z4 =>
  bif (eqI (Int.tmod y3.2 p2) 0) then
    (
      some 4
    )
  else
    (
      (r_impl_kronecker d1 p2).bind fun y6 =>
      (getI [1, 3, 2] (w64 (y6 + 1))).bind fun e7 =>
      some e7
    )

def r_impl_KindOfPrime (d1 : Int) (p2 : Int) : Option (Int × Bool) :=
  (r_impl_isDiscriminant d1).bind fun y3 =>
  (bif (!y3) then some true else ((r_impl_IsPrime p2).bind fun y5 => some (!y5))).bind fun b6 =>
  bif b6 then
    (
      some ((0, false))
    )
  else
    (
      (r_impl_kindOfPrime d1 p2).bind fun y8 =>
      some ((y8, true))
    )

def r_impl_rootsOfDiscriminant_L5 (d1 : Int) (vn2 : Int) : Nat → Int → List Int → Option (List Int)
  | 0, _, _ => none
  | n + 1, b3, l4 =>
    bif (ltI b3 (w64 (2 * vn2))) then
      (
        (nz (w64 (4 * vn2))).bind fun z8 =>
        (some (eqI (Int.tmod (w64 ((w64 (b3 * b3)) - d1)) (w64 (4 * vn2))) 0)).bind fun t9 =>
        bif t9 then
          (
            (room (l4.length + ([b3]).length)).bind fun u11 =>
            sI (w64 (b3 + 1)) fun b12 =>
            r_impl_rootsOfDiscriminant_L5 d1 vn2 n b12 (l4 ++ ([b3]))
          )
        else
          (
            sI (w64 (b3 + 1)) fun b13 =>
            r_impl_rootsOfDiscriminant_L5 d1 vn2 n b13 l4
          )
      )
    else
      (
        some l4
      )
def r_impl_rootsOfDiscriminant (d1 : Int) (vn2 : Int) : Option (List Int) :=
  (r_impl_rootsOfDiscriminant_L5 d1 vn2 FU 0 (([] : List Int))).bind fun o6 =>
  some o6

def r_impl_RootsOfDiscriminant (d1 : Int) (vn2 : Int) : Option ((List Int) × Bool) :=
  (r_impl_areNumbers ([d1])).bind fun y3 =>
  (some (bif (bif (!y3) then true else (ltI vn2 1)) then true else (ltI 2500 vn2))).bind fun t6 =>
  bif t6 then
    (
      some ((([] : List Int), false))
    )
  else
    (
      (r_impl_rootsOfDiscriminant d1 vn2).bind fun y8 =>
      some ((y8, true))
    )

def r_laws_FnFundamentalParts_L24 (more2 : List Int) (y14 : ((List Int) × Bool)) (y15 : (((Int × Int × Int)) × Bool)) (y5 : Int) (y6 : (Int × Int × Bool)) : Nat → Int → Int → Option Int
  | 0, _, _ => none
  | n + 1, product22, t23 =>
    bif (ltI t23 ((y14.1.length : Int))) then
      (
        (getI y14.1 t23).bind fun e27 =>
        (getI y14.1 t23).bind fun e28 =>
        sI (w64 (product22 * e28)) fun product29 =>
        sI (w64 (t23 + 1)) fun t30 =>
        r_laws_FnFundamentalParts_L24 more2 y14 y15 y5 y6 n product29 t30
      )
    else
      (
        some product22
      )
def r_laws_FnFundamentalParts (code1 : List Int) (more2 : List Int) : Option Bool :=
  (r_laws_big code1 more2).bind fun y3 =>
  bif y3 then
    (
      some true
    )
  else
    (
      (r_spec_DrawFundamentalPart code1).bind fun y5 =>
      (r_impl_FundamentalPart y5).bind fun y6 =>
      (r_spec_FundamentalPart y5).bind fun y7 =>
      (some (bif (bif (y6.2.2 != y7.2.2) then true else (!eqI y6.1 y7.1)) then true else (!eqI y6.2.1 y7.2.1))).bind fun t10 =>
      bif t10 then
        (
          some false
        )
      else
        (
          bif (!y6.2.2) then
            (
              some true
            )
          else
            (
              (r_impl_IsFundamental y6.1).bind fun y13 =>
              (r_impl_PrimeDiscriminants y6.1).bind fun y14 =>
              (r_impl_PrincipalForm y5).bind fun y15 =>
              (some (bif (bif (bif (bif (!y13.2) then true else (!y13.1)) then true else (!y14.2)) then true else (!y15.2)) then true else (!eqI (w64 ((w64 (y6.1 * y6.2.1)) * y6.2.1)) y5))).bind fun t20 =>
              bif t20 then
                (
                  some false
                )
              else
                (
                  (r_laws_FnFundamentalParts_L24 more2 y14 y15 y5 y6 FU 1 0).bind fun o25 =>
                  (r_impl_Discriminant y15.1).bind fun y31 =>
                  (r_laws_numberOf more2).bind fun y32 =>
                  sI (Int.tmod y32 1000) fun vn33 =>
                  (r_impl_CharacterOf y5 vn33).bind fun y34 =>
                  (r_impl_CharacterOf y6.1 vn33).bind fun y35 =>
                  (
                    (r_laws_qGcd vn33 y6.2.1).bind fun y37 =>
                    bif (!eqI y37 1) then
                      (
                        some 0
                      )
                    else
                      (
                        some y35.1
                      )
                  ).bind fun j36 =>
                  (some (bif (bif (bif (bif (bif (!eqI o25 y6.1) then true else (!y31.2)) then true else (!eqI y31.1 y5)) then true else (!y34.2)) then true else (!y35.2)) then true else (!eqI y34.1 j36))).bind fun t44 =>
                  bif t44 then
                    (
                      some false
                    )
                  else
                    (
                      (r_laws_numberOf more2).bind fun y46 =>
                      (getI ([2, 3, 5, 7, 11, 13, 17, 19, 23, 97] : List Int) (Int.tmod y46 10)).bind fun e47 =>
                      (getI ([2, 3, 5, 7, 11, 13, 17, 19, 23, 97] : List Int) (Int.tmod y46 10)).bind fun e48 =>
                      (r_impl_KindOfPrime y5 e48).bind fun y49 =>
                      (r_impl_RootsOfDiscriminant y5 e48).bind fun y50 =>
                      bif (bif (!y49.2) then true else (!y50.2)) then
                        (
                          some false
                        )
                      else
                        (
                          bif (eqI y49.1 2) then
                            (
                              some (eqI ((y50.1.length : Int)) 2)
                            )
                          else
                            (
                              bif (eqI y49.1 1) then
                                (
                                  some (eqI ((y50.1.length : Int)) 0)
                                )
                              else
                                (
                                  some (eqI ((y50.1.length : Int)) 1)
                                )
                            )
                        )
                    )
                )
            )
        )
    )

end Go.Proofs.Ytgeajejmikaniaa
