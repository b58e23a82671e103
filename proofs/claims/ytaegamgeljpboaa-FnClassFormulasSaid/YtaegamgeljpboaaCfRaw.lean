/-
  What the functions of the program compute, as plain functions.
  Conditions: none.
-/
import Derived.Test.YtaegamgeljpboaaShRs

namespace Go.Proofs.Ytaegamgeljpboaa

set_option linter.unusedVariables false

def r_laws_big (code1 : List Int) (more2 : List Int) : Option Bool :=
  (some (bif (ltI 1048576 ((code1.length : Int))) then true else (ltI (w64 (1048576 - ((code1.length : Int)))) ((more2.length : Int))))).bind fun t4 =>
  some t4

def r_spec_l1Cur_next (c1 : ((List Int) × Int × Int)) : Option (Int × (((List Int) × Int × Int))) :=
  (
    bif (ltI c1.2.1 ((c1.1.length : Int))) then
      (
        (getI c1.1 c1.2.1).bind fun e4 =>
        sI (IntKind.i64.wrap e4) fun b5 =>
        some b5
      )
    else
      (
        some 0
      )
  ).bind fun j2 =>
  sI (w64 (c1.2.1 + 1)) fun f6 =>
  sI (IntKind.u64.wrap ((IntKind.u64.wrap ((IntKind.u64.wrap (c1.2.2 * 6364136223846793005)) + (IntKind.u64.wrap j2))) + 1442695040888963407)) fun f7 =>
  bif (leI f6 ((c1.1.length : Int))) then
    (
      some ((j2, (c1.1, f6, f7)))
    )
  else
    (
      sI (IntKind.i64.wrap (andI .u64 (shrI .u64 f7 40) 255)) fun t9 =>
      some ((t9, (c1.1, f6, f7)))
    )

def r_spec_l1Cur_pick (c1 : ((List Int) × Int × Int)) (vn2 : Int) : Option (Int × (((List Int) × Int × Int))) :=
  bif (leI vn2 1) then
    (
      some ((0, c1))
    )
  else
    (
      (r_spec_l1Cur_next c1).bind fun y4 =>
      bif (ltI 200 vn2) then
        (
          (r_spec_l1Cur_next y4.2).bind fun y6 =>
          sI (w64 ((w64 (y4.1 * 256)) + y6.1)) fun x7 =>
          (nz vn2).bind fun z8 =>
          sI (Int.tmod x7 vn2) fun t9 =>
          some ((t9, y6.2))
        )
      else
        (
          (nz vn2).bind fun z10 =>
          sI (Int.tmod y4.1 vn2) fun t11 =>
          some ((t11, y4.2))
        )
    )

def r_spec_l1Cur_among (c1 : ((List Int) × Int × Int)) (list2 : List Int) : Option (Int × (((List Int) × Int × Int))) :=
  (r_spec_l1Cur_pick c1 ((list2.length : Int))).bind fun y3 =>
  (getI list2 y3.1).bind fun e4 =>
  some ((e4, y3.2))

def r_spec_nuMod (a1 : Int) (vm2 : Int) : Option Int :=
  (nz vm2).bind fun z3 =>
  sI (Int.tmod a1 vm2) fun vr4 =>
  bif (ltI vr4 0) then
    (
      sI (w64 (vr4 + vm2)) fun vr6 =>
      some vr6
    )
  else
    (
      some vr4
    )

def r_spec_l1Most (a1 : Int) (b2 : Int) : Option Int :=
  bif (ltI b2 a1) then
    (
      some a1
    )
  else
    (
      some b2
    )

def r_spec_l1Cur_disc (c1 : ((List Int) × Int × Int)) : Option (Int × (((List Int) × Int × Int))) :=
  (r_spec_l1Cur_pick c1 16).bind fun y2 =>
  bif (eqI y2.1 0) then
    (
      (r_spec_l1Cur_among y2.2 ([-3, -4, -2000, -1999, -1996, -1995, -163, -2001, -2003, -2004, 0, 1, 5, -1, -2, -5, -9223372036854775808])).bind fun y4 =>
      some ((y4.1, y4.2))
    )
  else
    (
      (
        bif (eqI y2.1 1) then
          (
            some (eqI y2.1 1)
          )
        else
          (
            some (eqI y2.1 2)
          )
      ).bind fun j5 =>
      bif j5 then
        (
          (r_spec_l1Cur_pick y2.2 1998).bind fun y8 =>
          sI (w64 ((-3) - y8.1)) fun d9 =>
          (r_spec_nuMod d9 4).bind fun y10 =>
          bif (ltI 1 y10) then
            (
              (r_spec_l1Most (-2000) (w64 (d9 - 2))).bind fun y12 =>
              some ((y12, y8.2))
            )
          else
            (
              some ((d9, y8.2))
            )
        )
      else
        (
          (
            bif (eqI y2.1 3) then
              (
                some (eqI y2.1 3)
              )
            else
              (
                bif (eqI y2.1 4) then
                  (
                    some (eqI y2.1 4)
                  )
                else
                  (
                    some (eqI y2.1 5)
                  )
              )
          ).bind fun j13 =>
          bif j13 then
            (
              (r_spec_l1Cur_among y2.2 ([-84, -420, -231, -260, -455, -520, -660, -1155, -1320, -1380, -1428, -1540, -399, -1092, -1560, -1785])).bind fun y17 =>
              some ((y17.1, y17.2))
            )
          else
            (
              (
                bif (eqI y2.1 6) then
                  (
                    some (eqI y2.1 6)
                  )
                else
                  (
                    some (eqI y2.1 7)
                  )
              ).bind fun j18 =>
              bif j18 then
                (
                  (r_spec_l1Cur_pick y2.2 60).bind fun y21 =>
                  sI (w64 ((-4) * (w64 (1 + y21.1)))) fun t22 =>
                  some ((t22, y21.2))
                )
              else
                (
                  (r_spec_l1Cur_pick y2.2 50).bind fun y23 =>
                  sI (w64 ((-3) - (w64 (4 * y23.1)))) fun t24 =>
                  some ((t24, y23.2))
                )
            )
        )
    )

def r_spec_l1In (vn1 : Int) (lo2 : Int) (hi3 : Int) : Option Bool :=
  some (bif (leI lo2 vn1) then (leI vn1 hi3) else false)

def r_spec_reDisc (d1 : Int) : Option Bool :=
  (r_spec_l1In d1 (-2000) (-3)).bind fun y2 =>
  (bif y2 then ((r_spec_nuMod d1 4).bind fun y4 => some (ltI y4 2)) else some false).bind fun b5 =>
  some b5

def r_spec_l1Abs (vn1 : Int) : Option Int :=
  (r_spec_l1Most vn1 (w64 (0 - vn1))).bind fun y2 =>
  some y2

def r_spec_nuFree_L11 (d4 : Int) : Nat → Int → Int → Option (Int × Int)
  | 0, _, _ => none
  | n + 1, vn9, k10 =>
    (nz (w64 (d4 * d4))).bind fun z13 =>
    bif (eqI (Int.tmod vn9 (w64 (d4 * d4))) 0) then
      (
        (nz (w64 (d4 * d4))).bind fun z15 =>
        sI (w64 (Int.tdiv vn9 (w64 (d4 * d4)))) fun vn16 =>
        sI (w64 (k10 * d4)) fun k17 =>
        r_spec_nuFree_L11 d4 n vn16 k17
      )
    else
      (
        some (vn9, k10)
      )
def r_spec_nuFree_L5 : Nat → Int → Int → Int → Option (Int × Int)
  | 0, _, _, _ => none
  | n + 1, vn2, k3, d4 =>
    (r_spec_l1Abs vn2).bind fun y7 =>
    bif (leI (w64 (d4 * d4)) y7) then
      (
        (r_spec_nuFree_L11 d4 FU vn2 k3).bind fun o12 =>
        sI (w64 (d4 + 1)) fun d18 =>
        r_spec_nuFree_L5 n o12.1 o12.2 d18
      )
    else
      (
        some (vn2, k3)
      )
def r_spec_nuFree (vn1 : Int) : Option (Int × Int) :=
  (r_spec_nuFree_L5 FU vn1 1 2).bind fun o6 =>
  some ((o6.1, o6.2))

def r_spec_diSplit (d1 : Int) : Option (Int × Int) :=
  (r_spec_nuFree d1).bind fun y2 =>
  (r_spec_nuMod y2.1 4).bind fun y3 =>
  bif (eqI y3 1) then
    (
      some ((y2.1, y2.2))
    )
  else
    (
      sI (w64 (4 * y2.1)) fun t5 =>
      sI (w64 (Int.tdiv y2.2 2)) fun t6 =>
      some ((t5, t6))
    )

def r_spec_huFundamental (d1 : Int) : Option Bool :=
  (r_spec_reDisc d1).bind fun y2 =>
  bif (!y2) then
    (
      some false
    )
  else
    (
      (r_spec_diSplit d1).bind fun y4 =>
      some (eqI y4.2 1)
    )

def r_spec_DrawClassNumberBySum_L8 : Nat → Int → Int → List Int → Int → Int → Option Int
  | 0, _, _, _, _, _ => none
  | n + 1, d3, k4, f5, f6, f7 =>
    (bif (ltI k4 4) then ((r_spec_huFundamental d3).bind fun y11 => some (!y11)) else some false).bind fun b12 =>
    bif b12 then
      (
        (r_spec_l1Cur_disc ((f5, f6, f7))).bind fun y14 =>
        sI (w64 (k4 + 1)) fun k15 =>
        r_spec_DrawClassNumberBySum_L8 n y14.1 k15 y14.2.1 y14.2.2.1 y14.2.2.2
      )
    else
      (
        some d3
      )
def r_spec_DrawClassNumberBySum (code1 : List Int) : Option Int :=
  (r_spec_l1Cur_disc ((code1, 0, 0))).bind fun y2 =>
  (r_spec_DrawClassNumberBySum_L8 FU y2.1 0 y2.2.1 y2.2.2.1 y2.2.2.2).bind fun o9 =>
  some o9

def r_impl_mod (a1 : Int) (vm2 : Int) : Option Int :=
  (nz vm2).bind fun z3 =>
  sI (Int.tmod a1 vm2) fun vr4 =>
  bif (ltI vr4 0) then
    (
      sI (w64 (vr4 + vm2)) fun vr6 =>
      some vr6
    )
  else
    (
      some vr4
    )

def r_impl_isNegativeDisc (d1 : Int) : Option Bool :=
  (bif (bif (leI (-2000) d1) then (leI d1 (-3)) else false) then ((r_impl_mod d1 4).bind fun y4 => some (leI y4 1)) else some false).bind fun b5 =>
  some b5

def r_impl_abs (vn1 : Int) : Option Int :=
  sI (mxI vn1 (w64 (0 - (mxI vn1 (-9223372036854775807))))) fun t2 =>
  some t2

def r_impl_squareFree_L11 (p4 : Int) : Nat → Int → Int → Option (Int × Int)
  | 0, _, _ => none
  | n + 1, vn9, k10 =>
    (nz (w64 (p4 * p4))).bind fun z13 =>
    bif (eqI (Int.tmod vn9 (w64 (p4 * p4))) 0) then
      (
        (nz (w64 (p4 * p4))).bind fun z15 =>
        sI (w64 (Int.tdiv vn9 (w64 (p4 * p4)))) fun vn16 =>
        sI (w64 (k10 * p4)) fun k17 =>
        r_impl_squareFree_L11 p4 n vn16 k17
      )
    else
      (
        some (vn9, k10)
      )
def r_impl_squareFree_L5 : Nat → Int → Int → Int → Option (Int × Int)
  | 0, _, _, _ => none
  | n + 1, vn2, k3, p4 =>
    (r_impl_abs vn2).bind fun y7 =>
    bif (leI (w64 (p4 * p4)) y7) then
      (
        (r_impl_squareFree_L11 p4 FU vn2 k3).bind fun o12 =>
        sI (w64 (p4 + 1)) fun p18 =>
        r_impl_squareFree_L5 n o12.1 o12.2 p18
      )
    else
      (
        some (vn2, k3)
      )
def r_impl_squareFree (vn1 : Int) : Option (Int × Int) :=
  (r_impl_squareFree_L5 FU vn1 1 2).bind fun o6 =>
  some ((o6.1, o6.2))

def r_impl_fundamental (d1 : Int) : Option (Int × Int) :=
  (r_impl_squareFree d1).bind fun y2 =>
  (r_impl_mod y2.1 4).bind fun y3 =>
  bif (!eqI y3 1) then
    (
      sI (w64 (4 * y2.1)) fun t5 =>
      sI (w64 (Int.tdiv y2.2 2)) fun t6 =>
      some ((t5, t6))
    )
  else
    (
      some ((y2.1, y2.2))
    )

def r_impl_isFundamentalNegative (d1 : Int) : Option Bool :=
  (r_impl_isNegativeDisc d1).bind fun y2 =>
  bif (!y2) then
    (
      some false
    )
  else
    (
      (r_impl_fundamental d1).bind fun y4 =>
      some (eqI y4.2 1)
    )

def r_impl_symbolOfTwo (vn1 : Int) : Option Int :=
  (r_impl_mod vn1 8).bind fun y2 =>
  bif (bif (eqI y2 1) then true else (eqI y2 7)) then
    (
      some 1
    )
  else
    (
      some (-1)
    )

def r_impl_jacobi_L12 (vn5 : Int) : Nat → Int → Int → Option (Int × Int)
  | 0, _, _ => none
  | n + 1, a10, vs11 =>
    bif (eqI (Int.tmod a10 2) 0) then
      (
        sI (w64 (Int.tdiv a10 2)) fun a15 =>
        (r_impl_symbolOfTwo vn5).bind fun y16 =>
        sI (w64 (vs11 * y16)) fun vs17 =>
        r_impl_jacobi_L12 vn5 n a15 vs17
      )
    else
      (
        some (a10, vs11)
      )
def r_impl_jacobi_L7 : Nat → Int → Int → Int → Option (Int × Int)
  | 0, _, _, _ => none
  | n + 1, a4, vn5, vs6 =>
    bif (!eqI a4 0) then
      (
        (r_impl_jacobi_L12 vn5 FU a4 vs6).bind fun o13 =>
        (some (bif (eqI (Int.tmod o13.1 4) 3) then (eqI (Int.tmod vn5 4) 3) else false)).bind fun t19 =>
        bif t19 then
          (
            sI (w64 (0 - o13.2)) fun vs21 =>
            (nz o13.1).bind fun z22 =>
            sI (Int.tmod vn5 o13.1) fun a23 =>
            r_impl_jacobi_L7 n a23 o13.1 vs21
          )
        else
          (
            (nz o13.1).bind fun z24 =>
            sI (Int.tmod vn5 o13.1) fun a25 =>
            r_impl_jacobi_L7 n a25 o13.1 o13.2
          )
      )
    else
      (
        some (vn5, vs6)
      )
def r_impl_jacobi (a1 : Int) (vn2 : Int) : Option Int :=
  (r_impl_mod a1 vn2).bind fun y3 =>
  (r_impl_jacobi_L7 FU y3 vn2 1).bind fun o8 =>
  bif (!eqI o8.1 1) then
    (
      some 0
    )
  else
    (
      some o8.2
    )

def r_impl_kronecker_L12 (a1 : Int) : Nat → Int → Int → Option ((Int × Int) ⊕ Int)
  | 0, _, _ => none
  | n + 1, vn10, vs11 =>
    bif (eqI (Int.tmod vn10 2) 0) then
      (
        bif (eqI (Int.tmod a1 2) 0) then
          (
            some (.inr 0)
          )
        else
          (
            sI (w64 (Int.tdiv vn10 2)) fun vn16 =>
            (r_impl_symbolOfTwo a1).bind fun y17 =>
            sI (w64 (vs11 * y17)) fun vs18 =>
            r_impl_kronecker_L12 a1 n vn16 vs18
          )
      )
    else
      (
        some (.inl (vn10, vs11))
      )
def r_impl_kronecker (a1 : Int) (vn2 : Int) : Option Int :=
  bif (eqI vn2 0) then
    (
      (r_impl_abs a1).bind fun y4 =>
      bif (eqI y4 1) then
        (
          some 1
        )
      else
        (
          some 0
        )
    )
  else
    (
      (
        bif (bif (ltI vn2 0) then (ltI a1 0) else false) then
          (
            some (-1)
          )
        else
          (
            some 1
          )
      ).bind fun j6 =>
      (r_impl_abs vn2).bind fun y9 =>
      (r_impl_kronecker_L12 a1 FU y9 j6).bind fun qo13 =>
      match qo13 with
      | .inr r => some r
      | .inl o13 =>
        (r_impl_jacobi a1 o13.1).bind fun y19 =>
        sI (w64 (o13.2 * y19)) fun t20 =>
        some t20
    )

def r_impl_AutomorphCount (d1 : Int) : Option (Int × Bool) :=
  (r_impl_isNegativeDisc d1).bind fun y2 =>
  bif (!y2) then
    (
      some ((0, false))
    )
  else
    (
      bif (eqI d1 (-3)) then
        (
          some ((6, true))
        )
      else
        (
          bif (eqI d1 (-4)) then
            (
              some ((4, true))
            )
          else
            (
              some ((2, true))
            )
        )
    )

def r_impl_automorphCount (d1 : Int) : Option Int :=
  (r_impl_AutomorphCount d1).bind fun y2 =>
  some y2.1

def r_impl_ClassNumberBySum_L6 (d1 : Int) : Nat → Int → Int → Option Int
  | 0, _, _ => none
  | n + 1, sum4, k5 =>
    bif (ltI k5 (w64 (0 - d1))) then
      (
        (r_impl_kronecker d1 k5).bind fun y9 =>
        sI (w64 (sum4 + (w64 (k5 * y9)))) fun sum10 =>
        sI (w64 (k5 + 1)) fun k11 =>
        r_impl_ClassNumberBySum_L6 d1 n sum10 k11
      )
    else
      (
        some sum4
      )
def r_impl_ClassNumberBySum (d1 : Int) : Option (Int × Bool) :=
  (r_impl_isFundamentalNegative d1).bind fun y2 =>
  bif (!y2) then
    (
      some ((0, false))
    )
  else
    (
      (r_impl_ClassNumberBySum_L6 d1 FU 0 1).bind fun o7 =>
      (r_impl_automorphCount d1).bind fun y12 =>
      (nz (w64 (2 * d1))).bind fun z13 =>
      sI (w64 (Int.tdiv (w64 (y12 * o7)) (w64 (2 * d1)))) fun t14 =>
      some ((t14, true))
    )

def r_spec_syTwo (a1 : Int) : Option Int :=
  (r_spec_nuMod a1 8).bind fun y2 =>
  bif (eqI y2 1) then
    (
      bif (eqI y2 1) then
        (
          some 1
        )
      else
        (
          bif (eqI y2 3) then
            (
              bif (eqI y2 3) then
                (
                  some (-1)
                )
              else
                (
                  some 0
                )
            )
          else
            (
              bif (eqI y2 5) then
                (
                  some (-1)
                )
              else
                (
                  some 0
                )
            )
        )
    )
  else
    (
      bif (eqI y2 7) then
        (
          some 1
        )
      else
        (
          bif (eqI y2 3) then
            (
              bif (eqI y2 3) then
                (
                  some (-1)
                )
              else
                (
                  some 0
                )
            )
          else
            (
              bif (eqI y2 5) then
                (
                  some (-1)
                )
              else
                (
                  some 0
                )
            )
        )
    )

def r_spec_syEnd (vs1 : (Int × Int × Int)) : Option Bool :=
  some (bif (eqI vs1.1 0) then true else (eqI vs1.1 1))

def r_spec_sySuccessor (vs1 : (Int × Int × Int)) : Option (Int × Int × Int) :=
  (r_spec_l1In vs1.1 0 (w64 (vs1.2.1 - 1))).bind fun y2 =>
  bif (!y2) then
    (
      (r_spec_nuMod vs1.1 vs1.2.1).bind fun y4 =>
      some ((y4, vs1.2.1, vs1.2.2))
    )
  else
    (
      bif (eqI (Int.tmod vs1.1 2) 0) then
        (
          sI (w64 (Int.tdiv vs1.1 2)) fun f6 =>
          (r_spec_syTwo vs1.2.1).bind fun y7 =>
          sI (w64 (vs1.2.2 * y7)) fun f8 =>
          some ((f6, vs1.2.1, f8))
        )
      else
        (
          (
            (some (bif (eqI (Int.tmod vs1.1 4) 3) then (eqI (Int.tmod vs1.2.1 4) 3) else false)).bind fun t11 =>
            bif t11 then
              (
                sI (w64 (0 - vs1.2.2)) fun f13 =>
                some f13
              )
            else
              (
                some vs1.2.2
              )
          ).bind fun j9 =>
          some ((vs1.2.1, vs1.1, j9))
        )
    )

def r_spec_syJacobi_L6 : Nat → Int → Int → Int → Option (Int × Int × Int)
  | 0, _, _, _ => none
  | n + 1, f3, f4, f5 =>
    (r_spec_syEnd ((f3, f4, f5))).bind fun y8 =>
    bif (!y8) then
      (
        (r_spec_sySuccessor ((f3, f4, f5))).bind fun y10 =>
        r_spec_syJacobi_L6 n y10.1 y10.2.1 y10.2.2
      )
    else
      (
        some (f3, f4, f5)
      )
def r_spec_syJacobi (a1 : Int) (vn2 : Int) : Option Int :=
  (r_spec_syJacobi_L6 FU a1 vn2 1).bind fun o7 =>
  bif (bif (eqI o7.1 0) then (ltI 1 o7.2.1) else false) then
    (
      some 0
    )
  else
    (
      some o7.2.2
    )

def r_spec_syKronecker_L12 (a1 : Int) : Nat → Int → Int → Option (Int × Int)
  | 0, _, _ => none
  | n + 1, vn10, out11 =>
    bif (eqI (Int.tmod vn10 2) 0) then
      (
        sI (w64 (Int.tdiv vn10 2)) fun vn15 =>
        (r_spec_syTwo a1).bind fun y16 =>
        sI (w64 (out11 * y16)) fun out17 =>
        r_spec_syKronecker_L12 a1 n vn15 out17
      )
    else
      (
        some (vn10, out11)
      )
def r_spec_syKronecker (a1 : Int) (vn2 : Int) : Option Int :=
  bif (eqI vn2 0) then
    (
      (r_spec_l1Abs a1).bind fun y4 =>
      bif (eqI y4 1) then
        (
          some 1
        )
      else
        (
          some 0
        )
    )
  else
    (
      (
        bif (ltI vn2 0) then
          (
            sI (w64 (0 - vn2)) fun vn8 =>
            bif (ltI a1 0) then
              (
                some (vn8, -1)
              )
            else
              (
                some (vn8, 1)
              )
          )
        else
          (
            some (vn2, 1)
          )
      ).bind fun j6 =>
      (r_spec_syKronecker_L12 a1 FU j6.1 j6.2).bind fun o13 =>
      (r_spec_syJacobi a1 o13.1).bind fun y18 =>
      sI (w64 (o13.2 * y18)) fun t19 =>
      some t19
    )

def r_spec_reUnits (d1 : Int) : Option Int :=
  bif (eqI d1 (-3)) then
    (
      some 6
    )
  else
    (
      bif (eqI d1 (-4)) then
        (
          some 4
        )
      else
        (
          some 2
        )
    )

def r_spec_ClassNumberBySum_L6 (d1 : Int) : Nat → Int → Int → Option Int
  | 0, _, _ => none
  | n + 1, sum4, k5 =>
    bif (ltI k5 (w64 (0 - d1))) then
      (
        (r_spec_syKronecker d1 k5).bind fun y9 =>
        sI (w64 (sum4 + (w64 (k5 * y9)))) fun sum10 =>
        sI (w64 (k5 + 1)) fun k11 =>
        r_spec_ClassNumberBySum_L6 d1 n sum10 k11
      )
    else
      (
        some sum4
      )
def r_spec_ClassNumberBySum (d1 : Int) : Option (Int × Bool) :=
  (r_spec_huFundamental d1).bind fun y2 =>
  bif (!y2) then
    (
      some ((0, false))
    )
  else
    (
      (r_spec_ClassNumberBySum_L6 d1 FU 0 1).bind fun o7 =>
      (r_spec_reUnits d1).bind fun y12 =>
      (nz (w64 (2 * d1))).bind fun z13 =>
      sI (w64 (Int.tdiv (w64 (y12 * o7)) (w64 (2 * d1)))) fun t14 =>
      some ((t14, true))
    )

def r_impl_Form_isNormal (f1 : (Int × Int × Int)) : Option Bool :=
  (some (bif (ltI (w64 (0 - f1.1)) f1.2.1) then (leI f1.2.1 f1.1) else false)).bind fun t3 =>
  some t3

def r_impl_Form_isReduced (f1 : (Int × Int × Int)) : Option Bool :=
  (r_impl_Form_isNormal f1).bind fun y2 =>
  (some (bif y2 then (bif (ltI f1.1 f1.2.2) then true else (bif (eqI f1.1 f1.2.2) then (leI 0 f1.2.1) else false)) else false)).bind fun t6 =>
  some t6

def r_impl_allReduced_L10 (a2 : Int) (d1 : Int) : Nat → Int → List ((Int × Int × Int)) → Option (List ((Int × Int × Int)))
  | 0, _, _ => none
  | n + 1, b8, l9 =>
    bif (leI b8 a2) then
      (
        (nz (w64 (4 * a2))).bind fun z13 =>
        (some (!eqI (Int.tmod (w64 ((w64 (b8 * b8)) - d1)) (w64 (4 * a2))) 0)).bind fun t14 =>
        bif t14 then
          (
            sI (w64 (b8 + 1)) fun b16 =>
            r_impl_allReduced_L10 a2 d1 n b16 l9
          )
        else
          (
            (nz (w64 (4 * a2))).bind fun z17 =>
            sI (w64 (Int.tdiv (w64 ((w64 (b8 * b8)) - d1)) (w64 (4 * a2)))) fun f18 =>
            (r_impl_Form_isReduced ((a2, b8, f18))).bind fun y19 =>
            bif y19 then
              (
                (room (l9.length + ([(a2, b8, f18)]).length)).bind fun u21 =>
                sI (w64 (b8 + 1)) fun b22 =>
                r_impl_allReduced_L10 a2 d1 n b22 (l9 ++ ([(a2, b8, f18)]))
              )
            else
              (
                sI (w64 (b8 + 1)) fun b23 =>
                r_impl_allReduced_L10 a2 d1 n b23 l9
              )
          )
      )
    else
      (
        some l9
      )
def r_impl_allReduced_L4 (d1 : Int) : Nat → Int → List ((Int × Int × Int)) → Option (List ((Int × Int × Int)))
  | 0, _, _ => none
  | n + 1, a2, l3 =>
    bif (leI (w64 ((w64 (3 * a2)) * a2)) (w64 (0 - d1))) then
      (
        sI (w64 (1 - a2)) fun b7 =>
        (r_impl_allReduced_L10 a2 d1 FU b7 l3).bind fun o11 =>
        sI (w64 (a2 + 1)) fun a24 =>
        r_impl_allReduced_L4 d1 n a24 o11
      )
    else
      (
        some l3
      )
def r_impl_allReduced (d1 : Int) : Option (List ((Int × Int × Int))) :=
  (r_impl_allReduced_L4 d1 FU 1 (([] : List ((Int × Int × Int))))).bind fun o5 =>
  some o5

def r_impl_gcd_L5 : Nat → Int → Int → Option Int
  | 0, _, _ => none
  | n + 1, a3, b4 =>
    bif (!eqI b4 0) then
      (
        (nz b4).bind fun z8 =>
        sI (Int.tmod a3 b4) fun b9 =>
        r_impl_gcd_L5 n b4 b9
      )
    else
      (
        some a3
      )
def r_impl_gcd (a1 : Int) (b2 : Int) : Option Int :=
  (r_impl_gcd_L5 FU a1 b2).bind fun o6 =>
  (r_impl_abs o6).bind fun y10 =>
  some y10

def r_impl_Form_content (f1 : (Int × Int × Int)) : Option Int :=
  (r_impl_gcd f1.2.1 f1.2.2).bind fun y2 =>
  (r_impl_gcd f1.1 y2).bind fun y3 =>
  some y3

def r_impl_primitiveOf_L4 (forms1 : List ((Int × Int × Int))) : Nat → Int → List ((Int × Int × Int)) → Option (List ((Int × Int × Int)))
  | 0, _, _ => none
  | n + 1, t2, l3 =>
    bif (ltI t2 ((forms1.length : Int))) then
      (
        (getI forms1 t2).bind fun e7 =>
        (r_impl_Form_content e7).bind fun y8 =>
        bif (eqI y8 1) then
          (
            (room (l3.length + ([e7]).length)).bind fun u10 =>
            sI (w64 (t2 + 1)) fun t11 =>
            r_impl_primitiveOf_L4 forms1 n t11 (l3 ++ ([e7]))
          )
        else
          (
            sI (w64 (t2 + 1)) fun t12 =>
            r_impl_primitiveOf_L4 forms1 n t12 l3
          )
      )
    else
      (
        some l3
      )
def r_impl_primitiveOf (forms1 : List ((Int × Int × Int))) : Option (List ((Int × Int × Int))) :=
  (r_impl_primitiveOf_L4 forms1 FU 0 (([] : List ((Int × Int × Int))))).bind fun o5 =>
  some o5

def r_impl_reducedForms (d1 : Int) : Option (List ((Int × Int × Int))) :=
  (r_impl_allReduced d1).bind fun y2 =>
  (r_impl_primitiveOf y2).bind fun y3 =>
  some y3

def r_impl_ReducedForms (d1 : Int) : Option ((List ((Int × Int × Int))) × Bool) :=
  (r_impl_isNegativeDisc d1).bind fun y2 =>
  bif (!y2) then
    (
      some ((([] : List ((Int × Int × Int))), false))
    )
  else
    (
      (r_impl_reducedForms d1).bind fun y4 =>
      some ((y4, true))
    )

def r_impl_ClassNumber (d1 : Int) : Option (Int × Bool) :=
  (r_impl_ReducedForms d1).bind fun y2 =>
  some (((y2.1.length : Int), y2.2))

def r_impl_ClassNumberByHalf_L7 (d1 : Int) : Nat → Int → Int → Option Int
  | 0, _, _ => none
  | n + 1, sum5, k6 =>
    bif (ltI (w64 (2 * k6)) (w64 (0 - d1))) then
      (
        (r_impl_kronecker d1 k6).bind fun y10 =>
        sI (w64 (sum5 + y10)) fun sum11 =>
        sI (w64 (k6 + 1)) fun k12 =>
        r_impl_ClassNumberByHalf_L7 d1 n sum11 k12
      )
    else
      (
        some sum5
      )
def r_impl_ClassNumberByHalf (d1 : Int) : Option (Int × Bool) :=
  (r_impl_isFundamentalNegative d1).bind fun y2 =>
  bif (bif (!y2) then true else (leI (-4) d1)) then
    (
      some ((0, false))
    )
  else
    (
      (r_impl_ClassNumberByHalf_L7 d1 FU 0 1).bind fun o8 =>
      (r_impl_kronecker d1 2).bind fun y13 =>
      (nz (w64 (2 - y13))).bind fun z14 =>
      sI (w64 (Int.tdiv o8 (w64 (2 - y13)))) fun t15 =>
      some ((t15, true))
    )

def r_spec_l1Cur_one (c1 : ((List Int) × Int × Int)) (vn2 : Int) : Option (Bool × (((List Int) × Int × Int))) :=
  (r_spec_l1Cur_pick c1 vn2).bind fun y3 =>
  some ((eqI y3.1 0, y3.2))

def r_spec_DrawClassNumberByConductor (code1 : List Int) : Option Int :=
  (r_spec_l1Cur_one ((code1, 0, 0)) 2).bind fun y2 =>
  bif y2.1 then
    (
      (r_spec_l1Cur_pick y2.2 15).bind fun y4 =>
      sI (w64 (1 + y4.1)) fun k5 =>
      (r_spec_l1Cur_among y4.2 ([-3, -4, -7, -8, -11, -15, -20])).bind fun y6 =>
      sI (w64 ((w64 (y6.1 * k5)) * k5)) fun t7 =>
      some t7
    )
  else
    (
      (r_spec_l1Cur_disc y2.2).bind fun y8 =>
      some y8.1
    )

def r_impl_factors_L10 (p3 : Int) : Nat → Int → List Int → Option (Int × (List Int))
  | 0, _, _ => none
  | n + 1, vn8, l9 =>
    (nz p3).bind fun z12 =>
    bif (eqI (Int.tmod vn8 p3) 0) then
      (
        (room (l9.length + ([p3]).length)).bind fun u14 =>
        (nz p3).bind fun z15 =>
        sI (w64 (Int.tdiv vn8 p3)) fun vn16 =>
        r_impl_factors_L10 p3 n vn16 (l9 ++ ([p3]))
      )
    else
      (
        some (vn8, l9)
      )
def r_impl_factors_L5 : Nat → Int → Int → List Int → Option (Int × (List Int))
  | 0, _, _, _ => none
  | n + 1, vn2, p3, l4 =>
    bif (leI (w64 (p3 * p3)) vn2) then
      (
        (r_impl_factors_L10 p3 FU vn2 l4).bind fun o11 =>
        sI (w64 (p3 + 1)) fun p17 =>
        r_impl_factors_L5 n o11.1 p17 o11.2
      )
    else
      (
        some (vn2, l4)
      )
def r_impl_factors (vn1 : Int) : Option (List Int) :=
  (r_impl_factors_L5 FU vn1 2 (([] : List Int))).bind fun o6 =>
  bif (ltI 1 o6.1) then
    (
      (room (o6.2.length + ([o6.1]).length)).bind fun u19 =>
      some (o6.2 ++ ([o6.1]))
    )
  else
    (
      some o6.2
    )

def r_impl_primesOf_L5 (y2 : List Int) : Nat → Int → List Int → Option (List Int)
  | 0, _, _ => none
  | n + 1, t3, l4 =>
    bif (ltI t3 ((y2.length : Int))) then
      (
        (getI y2 t3).bind fun e8 =>
        (getI y2 t3).bind fun e9 =>
        (bif (eqI ((l4.length : Int)) 0) then some true else ((getI l4 (w64 (((l4.length : Int)) - 1))).bind fun e11 => (getI l4 (w64 (((l4.length : Int)) - 1))).bind fun e12 => some (!eqI e12 e9))).bind fun b13 =>
        bif b13 then
          (
            (room (l4.length + ([e9]).length)).bind fun u15 =>
            sI (w64 (t3 + 1)) fun t16 =>
            r_impl_primesOf_L5 y2 n t16 (l4 ++ ([e9]))
          )
        else
          (
            sI (w64 (t3 + 1)) fun t17 =>
            r_impl_primesOf_L5 y2 n t17 l4
          )
      )
    else
      (
        some l4
      )
def r_impl_primesOf (vn1 : Int) : Option (List Int) :=
  (r_impl_factors vn1).bind fun y2 =>
  (r_impl_primesOf_L5 y2 FU 0 (([] : List Int))).bind fun o6 =>
  some o6

def r_impl_conductorFactor_L6 (e1 : Int) (y3 : List Int) : Nat → Int → Int → Option Int
  | 0, _, _ => none
  | n + 1, product4, t5 =>
    bif (ltI t5 ((y3.length : Int))) then
      (
        (getI y3 t5).bind fun e9 =>
        (getI y3 t5).bind fun e10 =>
        (nz e10).bind fun z11 =>
        (r_impl_kronecker e1 e10).bind fun y12 =>
        sI (w64 ((w64 (Int.tdiv product4 e10)) * (w64 (e10 - y12)))) fun product13 =>
        sI (w64 (t5 + 1)) fun t14 =>
        r_impl_conductorFactor_L6 e1 y3 n product13 t14
      )
    else
      (
        some product4
      )
def r_impl_conductorFactor (e1 : Int) (k2 : Int) : Option Int :=
  (r_impl_primesOf k2).bind fun y3 =>
  (r_impl_conductorFactor_L6 e1 y3 FU k2 0).bind fun o7 =>
  some o7

def r_impl_ClassNumberByConductor (d1 : Int) : Option (Int × Bool) :=
  (r_impl_isNegativeDisc d1).bind fun y2 =>
  bif (!y2) then
    (
      some ((0, false))
    )
  else
    (
      (r_impl_fundamental d1).bind fun y4 =>
      (r_impl_reducedForms y4.1).bind fun y5 =>
      (r_impl_conductorFactor y4.1 y4.2).bind fun y6 =>
      (r_impl_automorphCount d1).bind fun y7 =>
      (r_impl_automorphCount y4.1).bind fun y8 =>
      (nz y8).bind fun z9 =>
      sI (w64 (Int.tdiv (w64 ((w64 (((y5.length : Int)) * y6)) * y7)) y8)) fun t10 =>
      some ((t10, true))
    )

def r_spec_foDisc (f1 : (Int × Int × Int)) : Option Int :=
  sI (w64 ((w64 (f1.2.1 * f1.2.1)) - (w64 ((w64 (4 * f1.1)) * f1.2.2)))) fun t2 =>
  some t2

def r_spec_reIs (f1 : (Int × Int × Int)) : Option Bool :=
  (some (bif (bif (ltI (w64 (0 - f1.1)) f1.2.1) then (leI f1.2.1 f1.1) else false) then (bif (ltI f1.1 f1.2.2) then true else (bif (eqI f1.1 f1.2.2) then (leI 0 f1.2.1) else false)) else false)).bind fun t6 =>
  some t6

def r_spec_reAll_L10 (a2 : Int) (d1 : Int) : Nat → Int → List ((Int × Int × Int)) → Option (List ((Int × Int × Int)))
  | 0, _, _ => none
  | n + 1, b8, l9 =>
    bif (leI b8 a2) then
      (
        (nz (w64 (4 * a2))).bind fun z13 =>
        sI (w64 (Int.tdiv (w64 ((w64 (b8 * b8)) - d1)) (w64 (4 * a2)))) fun f14 =>
        (r_spec_foDisc ((a2, b8, f14))).bind fun y15 =>
        (bif (eqI y15 d1) then ((r_spec_reIs ((a2, b8, f14))).bind fun y17 => some y17) else some false).bind fun b18 =>
        bif b18 then
          (
            (room (l9.length + ([(a2, b8, f14)]).length)).bind fun u20 =>
            sI (w64 (b8 + 1)) fun b21 =>
            r_spec_reAll_L10 a2 d1 n b21 (l9 ++ ([(a2, b8, f14)]))
          )
        else
          (
            sI (w64 (b8 + 1)) fun b22 =>
            r_spec_reAll_L10 a2 d1 n b22 l9
          )
      )
    else
      (
        some l9
      )
def r_spec_reAll_L4 (d1 : Int) : Nat → Int → List ((Int × Int × Int)) → Option (List ((Int × Int × Int)))
  | 0, _, _ => none
  | n + 1, a2, l3 =>
    bif (leI (w64 ((w64 (3 * a2)) * a2)) (w64 (0 - d1))) then
      (
        sI (w64 (1 - a2)) fun b7 =>
        (r_spec_reAll_L10 a2 d1 FU b7 l3).bind fun o11 =>
        sI (w64 (a2 + 1)) fun a23 =>
        r_spec_reAll_L4 d1 n a23 o11
      )
    else
      (
        some l3
      )
def r_spec_reAll (d1 : Int) : Option (List ((Int × Int × Int))) :=
  (r_spec_reAll_L4 d1 FU 1 (([] : List ((Int × Int × Int))))).bind fun o5 =>
  some o5

def r_spec_nuGcd_L7 : Nat → Int → Int → Option Int
  | 0, _, _ => none
  | n + 1, a5, b6 =>
    bif (!eqI b6 0) then
      (
        (nz b6).bind fun z10 =>
        sI (Int.tmod a5 b6) fun b11 =>
        r_spec_nuGcd_L7 n b6 b11
      )
    else
      (
        some a5
      )
def r_spec_nuGcd (a1 : Int) (b2 : Int) : Option Int :=
  (r_spec_l1Abs a1).bind fun y3 =>
  (r_spec_l1Abs b2).bind fun y4 =>
  (r_spec_nuGcd_L7 FU y3 y4).bind fun o8 =>
  some o8

def r_spec_foContent (f1 : (Int × Int × Int)) : Option Int :=
  (r_spec_nuGcd f1.1 f1.2.1).bind fun y2 =>
  (r_spec_nuGcd y2 f1.2.2).bind fun y3 =>
  some y3

def r_spec_reList_L5 (y2 : List ((Int × Int × Int))) : Nat → Int → List ((Int × Int × Int)) → Option (List ((Int × Int × Int)))
  | 0, _, _ => none
  | n + 1, t3, l4 =>
    bif (ltI t3 ((y2.length : Int))) then
      (
        (getI y2 t3).bind fun e8 =>
        (getI y2 t3).bind fun e9 =>
        (r_spec_foContent e9).bind fun y10 =>
        bif (eqI y10 1) then
          (
            (room (l4.length + ([e9]).length)).bind fun u12 =>
            sI (w64 (t3 + 1)) fun t13 =>
            r_spec_reList_L5 y2 n t13 (l4 ++ ([e9]))
          )
        else
          (
            sI (w64 (t3 + 1)) fun t14 =>
            r_spec_reList_L5 y2 n t14 l4
          )
      )
    else
      (
        some l4
      )
def r_spec_reList (d1 : Int) : Option (List ((Int × Int × Int))) :=
  (r_spec_reAll d1).bind fun y2 =>
  (r_spec_reList_L5 y2 FU 0 (([] : List ((Int × Int × Int))))).bind fun o6 =>
  some o6

def r_spec_nuFactors_L10 (d3 : Int) : Nat → Int → List Int → Option (Int × (List Int))
  | 0, _, _ => none
  | n + 1, vn8, l9 =>
    (nz d3).bind fun z12 =>
    bif (eqI (Int.tmod vn8 d3) 0) then
      (
        (room (l9.length + ([d3]).length)).bind fun u14 =>
        (nz d3).bind fun z15 =>
        sI (w64 (Int.tdiv vn8 d3)) fun vn16 =>
        r_spec_nuFactors_L10 d3 n vn16 (l9 ++ ([d3]))
      )
    else
      (
        some (vn8, l9)
      )
def r_spec_nuFactors_L5 : Nat → Int → Int → List Int → Option (Int × (List Int))
  | 0, _, _, _ => none
  | n + 1, vn2, d3, l4 =>
    bif (leI (w64 (d3 * d3)) vn2) then
      (
        (r_spec_nuFactors_L10 d3 FU vn2 l4).bind fun o11 =>
        sI (w64 (d3 + 1)) fun d17 =>
        r_spec_nuFactors_L5 n o11.1 d17 o11.2
      )
    else
      (
        some (vn2, l4)
      )
def r_spec_nuFactors (vn1 : Int) : Option (List Int) :=
  (r_spec_nuFactors_L5 FU vn1 2 (([] : List Int))).bind fun o6 =>
  bif (ltI 1 o6.1) then
    (
      (room (o6.2.length + ([o6.1]).length)).bind fun u19 =>
      some (o6.2 ++ ([o6.1]))
    )
  else
    (
      some o6.2
    )

def r_spec_l1Put_L4 (l1 : List Int) (vn2 : Int) : Nat → Int → Option Int
  | 0, _ => none
  | n + 1, k3 =>
    (bif (ltI k3 ((l1.length : Int))) then ((getI l1 k3).bind fun e7 => some (ltI e7 vn2)) else some false).bind fun b8 =>
    bif b8 then
      (
        sI (w64 (k3 + 1)) fun k10 =>
        r_spec_l1Put_L4 l1 vn2 n k10
      )
    else
      (
        some k3
      )
def r_spec_l1Put (l1 : List Int) (vn2 : Int) : Option (List Int) :=
  (r_spec_l1Put_L4 l1 vn2 FU 0).bind fun o5 =>
  (bif (ltI o5 ((l1.length : Int))) then ((getI l1 o5).bind fun e12 => some (eqI e12 vn2)) else some false).bind fun b13 =>
  bif b13 then
    (
      some l1
    )
  else
    (
      (slc l1.length 0 o5).bind fun u15 =>
      (room ((([] : List Int)).length + (subl l1 0 o5).length)).bind fun u16 =>
      (room (((([] : List Int)) ++ (subl l1 0 o5)).length + ([vn2]).length)).bind fun u17 =>
      (slc l1.length o5 ((l1.length : Int))).bind fun u18 =>
      (room ((((([] : List Int)) ++ (subl l1 0 o5)) ++ ([vn2])).length + (subl l1 o5 ((l1.length : Int))).length)).bind fun u19 =>
      (some ((((([] : List Int)) ++ (subl l1 0 o5)) ++ ([vn2])) ++ (subl l1 o5 ((l1.length : Int))))).bind fun l20 =>
      some l20
    )

def r_spec_nuPrimes_L5 (y2 : List Int) : Nat → List Int → Int → Option (List Int)
  | 0, _, _ => none
  | n + 1, out3, t4 =>
    bif (ltI t4 ((y2.length : Int))) then
      (
        (getI y2 t4).bind fun e8 =>
        (getI y2 t4).bind fun e9 =>
        (r_spec_l1Put out3 e9).bind fun y10 =>
        sI (w64 (t4 + 1)) fun t11 =>
        r_spec_nuPrimes_L5 y2 n y10 t11
      )
    else
      (
        some out3
      )
def r_spec_nuPrimes (vn1 : Int) : Option (List Int) :=
  (r_spec_nuFactors vn1).bind fun y2 =>
  (r_spec_nuPrimes_L5 y2 FU (([] : List Int)) 0).bind fun o6 =>
  some o6

def r_spec_diFactor_L6 (y2 : (Int × Int)) (y3 : List Int) : Nat → Int → Int → Option Int
  | 0, _, _ => none
  | n + 1, out4, t5 =>
    bif (ltI t5 ((y3.length : Int))) then
      (
        (getI y3 t5).bind fun e9 =>
        (nz e9).bind fun z10 =>
        (r_spec_syKronecker y2.1 e9).bind fun y11 =>
        sI (w64 ((w64 (Int.tdiv out4 e9)) * (w64 (e9 - y11)))) fun out12 =>
        sI (w64 (t5 + 1)) fun t13 =>
        r_spec_diFactor_L6 y2 y3 n out12 t13
      )
    else
      (
        some out4
      )
def r_spec_diFactor (d1 : Int) : Option Int :=
  (r_spec_diSplit d1).bind fun y2 =>
  (r_spec_nuPrimes y2.2).bind fun y3 =>
  (r_spec_diFactor_L6 y2 y3 FU y2.2 0).bind fun o7 =>
  some o7

def r_spec_ClassNumberByConductor (d1 : Int) : Option (Int × Bool) :=
  (r_spec_reDisc d1).bind fun y2 =>
  bif (!y2) then
    (
      some ((0, false))
    )
  else
    (
      (r_spec_diSplit d1).bind fun y4 =>
      (r_spec_reList y4.1).bind fun y5 =>
      (r_spec_diFactor d1).bind fun y6 =>
      (r_spec_reUnits y4.1).bind fun y7 =>
      (r_spec_reUnits d1).bind fun y8 =>
      (nz y8).bind fun z9 =>
      (nz (w64 (Int.tdiv y7 y8))).bind fun z10 =>
      sI (w64 (Int.tdiv (w64 (((y5.length : Int)) * y6)) (w64 (Int.tdiv y7 y8)))) fun t11 =>
      some ((t11, true))
    )

def r_impl_divisors_L5 (vn1 : Int) : Nat → Int → List Int → List Int → Option ((List Int) × (List Int))
  | 0, _, _, _ => none
  | n + 1, k2, l3, l4 =>
    bif (leI (w64 (k2 * k2)) vn1) then
      (
        (nz k2).bind fun z8 =>
        bif (!eqI (Int.tmod vn1 k2) 0) then
          (
            sI (w64 (k2 + 1)) fun k10 =>
            r_impl_divisors_L5 vn1 n k10 l3 l4
          )
        else
          (
            (room (l4.length + ([k2]).length)).bind fun u11 =>
            bif (!eqI (w64 (k2 * k2)) vn1) then
              (
                (nz k2).bind fun z13 =>
                (room (l3.length + ([w64 (Int.tdiv vn1 k2)]).length)).bind fun u14 =>
                sI (w64 (k2 + 1)) fun k15 =>
                r_impl_divisors_L5 vn1 n k15 (l3 ++ ([w64 (Int.tdiv vn1 k2)])) (l4 ++ ([k2]))
              )
            else
              (
                sI (w64 (k2 + 1)) fun k16 =>
                r_impl_divisors_L5 vn1 n k16 l3 (l4 ++ ([k2]))
              )
          )
      )
    else
      (
        some (l3, l4)
      )
def r_impl_divisors_L20 (o6 : ((List Int) × (List Int))) : Nat → Int → List Int → Option (List Int)
  | 0, _, _ => none
  | n + 1, i18, l19 =>
    bif (leI 0 i18) then
      (
        (getI o6.1 i18).bind fun e23 =>
        (getI o6.1 i18).bind fun e24 =>
        (room (l19.length + ([e24]).length)).bind fun u25 =>
        sI (w64 (i18 - 1)) fun i26 =>
        r_impl_divisors_L20 o6 n i26 (l19 ++ ([e24]))
      )
    else
      (
        some l19
      )
def r_impl_divisors (vn1 : Int) : Option (List Int) :=
  (r_impl_divisors_L5 vn1 FU 1 (([] : List Int)) (([] : List Int))).bind fun o6 =>
  sI (w64 (((o6.1.length : Int)) - 1)) fun i17 =>
  (r_impl_divisors_L20 o6 FU i17 o6.2).bind fun o21 =>
  some o21

def r_impl_OrdersAbove_L8 (d1 : Int) (y5 : List Int) : Nat → Int → List Int → Option (List Int)
  | 0, _, _ => none
  | n + 1, t6, l7 =>
    bif (ltI t6 ((y5.length : Int))) then
      (
        (getI y5 t6).bind fun e11 =>
        (getI y5 t6).bind fun e12 =>
        (nz (w64 (e12 * e12))).bind fun z13 =>
        (room (l7.length + ([w64 (Int.tdiv d1 (w64 (e12 * e12)))]).length)).bind fun u14 =>
        sI (w64 (t6 + 1)) fun t15 =>
        r_impl_OrdersAbove_L8 d1 y5 n t15 (l7 ++ ([w64 (Int.tdiv d1 (w64 (e12 * e12)))]))
      )
    else
      (
        some l7
      )
def r_impl_OrdersAbove (d1 : Int) : Option ((List Int) × Bool) :=
  (r_impl_isNegativeDisc d1).bind fun y2 =>
  bif (!y2) then
    (
      some ((([] : List Int), false))
    )
  else
    (
      (r_impl_fundamental d1).bind fun y4 =>
      (r_impl_divisors y4.2).bind fun y5 =>
      (r_impl_OrdersAbove_L8 d1 y5 FU 0 (([] : List Int))).bind fun o9 =>
      some ((o9, true))
    )

def r_impl_OverDiscriminants (d1 : Int) : Option ((List Int) × Bool) :=
  (r_impl_OrdersAbove d1).bind fun y2 =>
  some ((y2.1, y2.2))

def r_laws_sameInts_L5 (a1 : List Int) (b2 : List Int) : Nat → Int → Option (Unit ⊕ Bool)
  | 0, _ => none
  | n + 1, t4 =>
    bif (ltI t4 ((a1.length : Int))) then
      (
        (getI a1 t4).bind fun e8 =>
        (getI b2 t4).bind fun e9 =>
        bif (!eqI e8 e9) then
          (
            some (.inr false)
          )
        else
          (
            sI (w64 (t4 + 1)) fun t11 =>
            r_laws_sameInts_L5 a1 b2 n t11
          )
      )
    else
      (
        some (.inl ())
      )
def r_laws_sameInts (a1 : List Int) (b2 : List Int) : Option Bool :=
  bif (!eqI ((a1.length : Int)) ((b2.length : Int))) then
    (
      some false
    )
  else
    (
      (r_laws_sameInts_L5 a1 b2 FU 0).bind fun qo6 =>
      match qo6 with
      | .inr r => some r
      | .inl o6 =>
        some true
    )

def r_laws_FnClassFormulas (code1 : List Int) (more2 : List Int) : Option Bool :=
  (r_laws_big code1 more2).bind fun y3 =>
  bif y3 then
    (
      some true
    )
  else
    (
      (r_spec_DrawClassNumberBySum code1).bind fun y5 =>
      (r_impl_ClassNumberBySum y5).bind fun y6 =>
      (r_spec_ClassNumberBySum y5).bind fun y7 =>
      bif (bif (y6.2 != y7.2) then true else (!eqI y6.1 y7.1)) then
        (
          some false
        )
      else
        (
          bif y6.2 then
            (
              (r_impl_ClassNumber y5).bind fun y11 =>
              (r_impl_ClassNumberByHalf y5).bind fun y12 =>
              (some (bif (bif (bif (!y11.2) then true else (!eqI y11.1 y6.1)) then true else (y12.2 != (ltI y5 (-4)))) then true else (bif y12.2 then (!eqI y12.1 y6.1) else false))).bind fun t17 =>
              bif t17 then
                (
                  some false
                )
              else
                (
                  (r_spec_DrawClassNumberByConductor more2).bind fun y19 =>
                  (r_impl_ClassNumberByConductor y19).bind fun y20 =>
                  (r_spec_ClassNumberByConductor y19).bind fun y21 =>
                  bif (bif (y20.2 != y21.2) then true else (!eqI y20.1 y21.1)) then
                    (
                      some false
                    )
                  else
                    (
                      bif y20.2 then
                        (
                          (r_impl_ClassNumber y19).bind fun y25 =>
                          (r_impl_OrdersAbove y19).bind fun y26 =>
                          (r_impl_OverDiscriminants y19).bind fun y27 =>
                          (bif (bif (bif (bif y25.2 then (eqI y25.1 y20.1) else false) then y26.2 else false) then y27.2 else false) then ((r_laws_sameInts y26.1 y27.1).bind fun y32 => some y32) else some false).bind fun b33 =>
                          some b33
                        )
                      else
                        (
                          some true
                        )
                    )
                )
            )
          else
            (
              (r_spec_DrawClassNumberByConductor more2).bind fun y34 =>
              (r_impl_ClassNumberByConductor y34).bind fun y35 =>
              (r_spec_ClassNumberByConductor y34).bind fun y36 =>
              bif (bif (y35.2 != y36.2) then true else (!eqI y35.1 y36.1)) then
                (
                  some false
                )
              else
                (
                  bif y35.2 then
                    (
                      (r_impl_ClassNumber y34).bind fun y40 =>
                      (r_impl_OrdersAbove y34).bind fun y41 =>
                      (r_impl_OverDiscriminants y34).bind fun y42 =>
                      (bif (bif (bif (bif y40.2 then (eqI y40.1 y35.1) else false) then y41.2 else false) then y42.2 else false) then ((r_laws_sameInts y41.1 y42.1).bind fun y47 => some y47) else some false).bind fun b48 =>
                      some b48
                    )
                  else
                    (
                      some true
                    )
                )
            )
        )
    )

end Go.Proofs.Ytaegamgeljpboaa
