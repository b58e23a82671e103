/-
  What the functions of the program compute, as plain functions.
  Conditions: none.
-/
import Derived.Test.YtpfnhgpepgeaiaaShRs

namespace Go.Proofs.Ytpfnhgpepgeaiaa

set_option linter.unusedVariables false

def r_laws_big (code1 : List Int) (more2 : List Int) : Option Bool :=
  (some (bif (ltI 1048576 ((code1.length : Int))) then true else (ltI (w64 (1048576 - ((code1.length : Int)))) ((more2.length : Int))))).bind fun t4 =>
  some t4

def r_spec_l1Cur_next (c1 : ((List Int) × Int × Int)) : Option (Int × (((List Int) × Int × Int))) :=
  (
    bif (ltI c1.2.1 ((c1.1.length : Int))) then
      (
        (getI c1.1 c1.2.1).bind fun e4 =>
        sI (IntKind.i64.wrap e4) fun b5 =>
        some b5
      )
    else
      (
        some 0
      )
  ).bind fun j2 =>
  sI (w64 (c1.2.1 + 1)) fun f6 =>
  sI (IntKind.u64.wrap ((IntKind.u64.wrap ((IntKind.u64.wrap (c1.2.2 * 6364136223846793005)) + (IntKind.u64.wrap j2))) + 1442695040888963407)) fun f7 =>
  bif (leI f6 ((c1.1.length : Int))) then
    (
      some ((j2, (c1.1, f6, f7)))
    )
  else
    (
      sI (IntKind.i64.wrap (andI .u64 (shrI .u64 f7 40) 255)) fun t9 =>
      some ((t9, (c1.1, f6, f7)))
    )

def r_spec_l1Cur_pick (c1 : ((List Int) × Int × Int)) (vn2 : Int) : Option (Int × (((List Int) × Int × Int))) :=
  bif (leI vn2 1) then
    (
      some ((0, c1))
    )
  else
    (
      (r_spec_l1Cur_next c1).bind fun y4 =>
      bif (ltI 200 vn2) then
        (
          (r_spec_l1Cur_next y4.2).bind fun y6 =>
          sI (w64 ((w64 (y4.1 * 256)) + y6.1)) fun x7 =>
          (nz vn2).bind fun z8 =>
          sI (Int.tmod x7 vn2) fun t9 =>
          some ((t9, y6.2))
        )
      else
        (
          (nz vn2).bind fun z10 =>
          sI (Int.tmod y4.1 vn2) fun t11 =>
          some ((t11, y4.2))
        )
    )

def r_spec_l1Cur_among (c1 : ((List Int) × Int × Int)) (list2 : List Int) : Option (Int × (((List Int) × Int × Int))) :=
  (r_spec_l1Cur_pick c1 ((list2.length : Int))).bind fun y3 =>
  (getI list2 y3.1).bind fun e4 =>
  some ((e4, y3.2))

def r_spec_l1Cur_oddPrime (c1 : ((List Int) × Int × Int)) : Option (Int × (((List Int) × Int × Int))) :=
  (r_spec_l1Cur_among c1 ([3, 5, 7, 11, 13, 17, 19, 23, 29, 31, 97, 101, 9973, 10007, 999983, 9, 2, 1, 0, -7, 15, 1000003, 3, 5, 7])).bind fun y2 =>
  some ((y2.1, y2.2))

def r_spec_DrawLeastNonresidue (code1 : List Int) : Option Int :=
  (r_spec_l1Cur_oddPrime ((code1, 0, 0))).bind fun y2 =>
  (r_spec_l1Cur_among y2.2 ([3, 5, 7, 23, 71, 311, 479, 1559, 999983, 2, 1, 9, 0, -3, y2.1])).bind fun y3 =>
  some y3.1

def r_impl_areNumbers_L3 (list1 : List Int) : Nat → Int → Option (Unit ⊕ Bool)
  | 0, _ => none
  | n + 1, t2 =>
    bif (ltI t2 ((list1.length : Int))) then
      (
        (getI list1 t2).bind fun e6 =>
        bif (bif (ltI e6 (-1000000)) then true else (ltI 1000000 e6)) then
          (
            some (.inr false)
          )
        else
          (
            sI (w64 (t2 + 1)) fun t9 =>
            r_impl_areNumbers_L3 list1 n t9
          )
      )
    else
      (
        some (.inl ())
      )
def r_impl_areNumbers (list1 : List Int) : Option Bool :=
  (r_impl_areNumbers_L3 list1 FU 0).bind fun qo4 =>
  match qo4 with
  | .inr r => some r
  | .inl o4 =>
    some true

def r_impl_isPrime_L4 (vn1 : Int) : Nat → Int → Option (Unit ⊕ Bool)
  | 0, _ => none
  | n + 1, p3 =>
    bif (leI (w64 (p3 * p3)) vn1) then
      (
        (nz p3).bind fun z7 =>
        bif (eqI (Int.tmod vn1 p3) 0) then
          (
            some (.inr false)
          )
        else
          (
            sI (w64 (p3 + 1)) fun p9 =>
            r_impl_isPrime_L4 vn1 n p9
          )
      )
    else
      (
        some (.inl ())
      )
def r_impl_isPrime (vn1 : Int) : Option Bool :=
  bif (ltI vn1 2) then
    (
      some false
    )
  else
    (
      (r_impl_isPrime_L4 vn1 FU 2).bind fun qo5 =>
      match qo5 with
      | .inr r => some r
      | .inl o5 =>
        some true
    )

def r_impl_IsPrime (vn1 : Int) : Option Bool :=
  (r_impl_areNumbers ([vn1])).bind fun y2 =>
  (bif y2 then ((r_impl_isPrime vn1).bind fun y4 => some y4) else some false).bind fun b5 =>
  some b5

def r_impl_isOddPrime (vn1 : Int) : Option Bool :=
  (bif (!eqI vn1 2) then ((r_impl_IsPrime vn1).bind fun y3 => some y3) else some false).bind fun b4 =>
  some b4

def r_impl_mod (a1 : Int) (vm2 : Int) : Option Int :=
  (nz vm2).bind fun z3 =>
  sI (Int.tmod a1 vm2) fun vr4 =>
  bif (ltI vr4 0) then
    (
      sI (w64 (vr4 + vm2)) fun vr6 =>
      some vr6
    )
  else
    (
      some vr4
    )

def r_impl_symbolOfTwo (vn1 : Int) : Option Int :=
  (r_impl_mod vn1 8).bind fun y2 =>
  bif (bif (eqI y2 1) then true else (eqI y2 7)) then
    (
      some 1
    )
  else
    (
      some (-1)
    )

def r_impl_jacobi_L12 (vn5 : Int) : Nat → Int → Int → Option (Int × Int)
  | 0, _, _ => none
  | n + 1, a10, vs11 =>
    bif (eqI (Int.tmod a10 2) 0) then
      (
        sI (w64 (Int.tdiv a10 2)) fun a15 =>
        (r_impl_symbolOfTwo vn5).bind fun y16 =>
        sI (w64 (vs11 * y16)) fun vs17 =>
        r_impl_jacobi_L12 vn5 n a15 vs17
      )
    else
      (
        some (a10, vs11)
      )
def r_impl_jacobi_L7 : Nat → Int → Int → Int → Option (Int × Int)
  | 0, _, _, _ => none
  | n + 1, a4, vn5, vs6 =>
    bif (!eqI a4 0) then
      (
        (r_impl_jacobi_L12 vn5 FU a4 vs6).bind fun o13 =>
        (some (bif (eqI (Int.tmod o13.1 4) 3) then (eqI (Int.tmod vn5 4) 3) else false)).bind fun t19 =>
        bif t19 then
          (
            sI (w64 (0 - o13.2)) fun vs21 =>
            (nz o13.1).bind fun z22 =>
            sI (Int.tmod vn5 o13.1) fun a23 =>
            r_impl_jacobi_L7 n a23 o13.1 vs21
          )
        else
          (
            (nz o13.1).bind fun z24 =>
            sI (Int.tmod vn5 o13.1) fun a25 =>
            r_impl_jacobi_L7 n a25 o13.1 o13.2
          )
      )
    else
      (
        some (vn5, vs6)
      )
def r_impl_jacobi (a1 : Int) (vn2 : Int) : Option Int :=
  (r_impl_mod a1 vn2).bind fun y3 =>
  (r_impl_jacobi_L7 FU y3 vn2 1).bind fun o8 =>
  bif (!eqI o8.1 1) then
    (
      some 0
    )
  else
    (
      some o8.2
    )

def r_impl_LeastNonresidue_L5 (p1 : Int) : Nat → Int → Option Int
  | 0, _ => none
  | n + 1, a4 =>
    (r_impl_jacobi a4 p1).bind fun y7 =>
    bif (!eqI y7 (-1)) then
      (
        sI (w64 (a4 + 1)) fun a9 =>
        r_impl_LeastNonresidue_L5 p1 n a9
      )
    else
      (
        some a4
      )
def r_impl_LeastNonresidue (p1 : Int) : Option (Int × Bool) :=
  (r_impl_isOddPrime p1).bind fun y2 =>
  bif (!y2) then
    (
      some ((0, false))
    )
  else
    (
      (r_impl_LeastNonresidue_L5 p1 FU 2).bind fun o6 =>
      some ((o6, true))
    )

def r_spec_l1In (vn1 : Int) (lo2 : Int) (hi3 : Int) : Option Bool :=
  some (bif (leI lo2 vn1) then (leI vn1 hi3) else false)

def r_spec_nuGood (vn1 : Int) : Option Bool :=
  (r_spec_l1In vn1 (-1000000) 1000000).bind fun y2 =>
  some y2

def r_spec_nuPrime_L4 (vn1 : Int) : Nat → Int → Option (Unit ⊕ Bool)
  | 0, _ => none
  | n + 1, d3 =>
    bif (leI (w64 (d3 * d3)) vn1) then
      (
        (nz d3).bind fun z7 =>
        bif (eqI (Int.tmod vn1 d3) 0) then
          (
            some (.inr false)
          )
        else
          (
            sI (w64 (d3 + 1)) fun d9 =>
            r_spec_nuPrime_L4 vn1 n d9
          )
      )
    else
      (
        some (.inl ())
      )
def r_spec_nuPrime (vn1 : Int) : Option Bool :=
  bif (ltI vn1 2) then
    (
      some false
    )
  else
    (
      (r_spec_nuPrime_L4 vn1 FU 2).bind fun qo5 =>
      match qo5 with
      | .inr r => some r
      | .inl o5 =>
        some true
    )

def r_spec_syOddPrime (p1 : Int) : Option Bool :=
  (bif (ltI 2 p1) then ((r_spec_nuGood p1).bind fun y3 => some y3) else some false).bind fun b4 =>
  (bif b4 then ((r_spec_nuPrime p1).bind fun y6 => some y6) else some false).bind fun b7 =>
  some b7

def r_spec_syEnd (vs1 : (Int × Int × Int)) : Option Bool :=
  some (bif (eqI vs1.1 0) then true else (eqI vs1.1 1))

def r_spec_nuMod (a1 : Int) (vm2 : Int) : Option Int :=
  (nz vm2).bind fun z3 =>
  sI (Int.tmod a1 vm2) fun vr4 =>
  bif (ltI vr4 0) then
    (
      sI (w64 (vr4 + vm2)) fun vr6 =>
      some vr6
    )
  else
    (
      some vr4
    )

def r_spec_syTwo (a1 : Int) : Option Int :=
  (r_spec_nuMod a1 8).bind fun y2 =>
  bif (eqI y2 1) then
    (
      bif (eqI y2 1) then
        (
          some 1
        )
      else
        (
          bif (eqI y2 3) then
            (
              bif (eqI y2 3) then
                (
                  some (-1)
                )
              else
                (
                  some 0
                )
            )
          else
            (
              bif (eqI y2 5) then
                (
                  some (-1)
                )
              else
                (
                  some 0
                )
            )
        )
    )
  else
    (
      bif (eqI y2 7) then
        (
          some 1
        )
      else
        (
          bif (eqI y2 3) then
            (
              bif (eqI y2 3) then
                (
                  some (-1)
                )
              else
                (
                  some 0
                )
            )
          else
            (
              bif (eqI y2 5) then
                (
                  some (-1)
                )
              else
                (
                  some 0
                )
            )
        )
    )

def r_spec_sySuccessor (vs1 : (Int × Int × Int)) : Option (Int × Int × Int) :=
  (r_spec_l1In vs1.1 0 (w64 (vs1.2.1 - 1))).bind fun y2 =>
  bif (!y2) then
    (
      (r_spec_nuMod vs1.1 vs1.2.1).bind fun y4 =>
      some ((y4, vs1.2.1, vs1.2.2))
    )
  else
    (
      bif (eqI (Int.tmod vs1.1 2) 0) then
        (
          sI (w64 (Int.tdiv vs1.1 2)) fun f6 =>
          (r_spec_syTwo vs1.2.1).bind fun y7 =>
          sI (w64 (vs1.2.2 * y7)) fun f8 =>
          some ((f6, vs1.2.1, f8))
        )
      else
        (
          (
            (some (bif (eqI (Int.tmod vs1.1 4) 3) then (eqI (Int.tmod vs1.2.1 4) 3) else false)).bind fun t11 =>
            bif t11 then
              (
                sI (w64 (0 - vs1.2.2)) fun f13 =>
                some f13
              )
            else
              (
                some vs1.2.2
              )
          ).bind fun j9 =>
          some ((vs1.2.1, vs1.1, j9))
        )
    )

def r_spec_syJacobi_L6 : Nat → Int → Int → Int → Option (Int × Int × Int)
  | 0, _, _, _ => none
  | n + 1, f3, f4, f5 =>
    (r_spec_syEnd ((f3, f4, f5))).bind fun y8 =>
    bif (!y8) then
      (
        (r_spec_sySuccessor ((f3, f4, f5))).bind fun y10 =>
        r_spec_syJacobi_L6 n y10.1 y10.2.1 y10.2.2
      )
    else
      (
        some (f3, f4, f5)
      )
def r_spec_syJacobi (a1 : Int) (vn2 : Int) : Option Int :=
  (r_spec_syJacobi_L6 FU a1 vn2 1).bind fun o7 =>
  bif (bif (eqI o7.1 0) then (ltI 1 o7.2.1) else false) then
    (
      some 0
    )
  else
    (
      some o7.2.2
    )

def r_spec_LeastNonresidue_L5 (p1 : Int) : Nat → Int → Option Int
  | 0, _ => none
  | n + 1, a4 =>
    (r_spec_syJacobi a4 p1).bind fun y7 =>
    bif (!eqI y7 (-1)) then
      (
        sI (w64 (a4 + 1)) fun a9 =>
        r_spec_LeastNonresidue_L5 p1 n a9
      )
    else
      (
        some a4
      )
def r_spec_LeastNonresidue (p1 : Int) : Option (Int × Bool) :=
  (r_spec_syOddPrime p1).bind fun y2 =>
  bif (!y2) then
    (
      some ((0, false))
    )
  else
    (
      (r_spec_LeastNonresidue_L5 p1 FU 2).bind fun o6 =>
      some ((o6, true))
    )

def r_impl_LegendreSymbol (a1 : Int) (p2 : Int) : Option (Int × Bool) :=
  (r_impl_areNumbers ([a1])).bind fun y3 =>
  (bif (!y3) then some true else ((r_impl_isOddPrime p2).bind fun y5 => some (!y5))).bind fun b6 =>
  bif b6 then
    (
      some ((0, false))
    )
  else
    (
      (r_impl_jacobi a1 p2).bind fun y8 =>
      some ((y8, true))
    )

def r_impl_SquareResidues_L7 (vm1 : Int) : Nat → Int → List Bool → Option (List Bool)
  | 0, _, _ => none
  | n + 1, x5, l6 =>
    bif (ltI x5 vm1) then
      (
        (nz vm1).bind fun z10 =>
        (getI l6 (Int.tmod (w64 (x5 * x5)) vm1)).bind fun e11 =>
        (getI l6 (Int.tmod (w64 (x5 * x5)) vm1)).bind fun e12 =>
        sI (w64 (x5 + 1)) fun x13 =>
        r_impl_SquareResidues_L7 vm1 n x13 (l6.set (Int.toNat (Int.tmod (w64 (x5 * x5)) vm1)) true)
      )
    else
      (
        some l6
      )
def r_impl_SquareResidues_L16 (o8 : List Bool) : Nat → Int → List Int → Option (List Int)
  | 0, _, _ => none
  | n + 1, t14, l15 =>
    bif (ltI t14 ((o8.length : Int))) then
      (
        (getI o8 t14).bind fun e19 =>
        (getI o8 t14).bind fun e20 =>
        bif e20 then
          (
            (room (l15.length + ([t14]).length)).bind fun u22 =>
            sI (w64 (t14 + 1)) fun t23 =>
            r_impl_SquareResidues_L16 o8 n t23 (l15 ++ ([t14]))
          )
        else
          (
            sI (w64 (t14 + 1)) fun t24 =>
            r_impl_SquareResidues_L16 o8 n t24 l15
          )
      )
    else
      (
        some l15
      )
def r_impl_SquareResidues (vm1 : Int) : Option ((List Int) × Bool) :=
  bif (bif (ltI vm1 1) then true else (ltI 10000 vm1)) then
    (
      some ((([] : List Int), false))
    )
  else
    (
      (mk vm1 vm1).bind fun u4 =>
      (r_impl_SquareResidues_L7 vm1 FU 0 (List.replicate (Int.toNat (vm1)) ((false : Bool)))).bind fun o8 =>
      (r_impl_SquareResidues_L16 o8 FU 0 (([] : List Int))).bind fun o17 =>
      some ((o17, true))
    )

def r_laws_qIn_L4 (l1 : List Int) (vn2 : Int) : Nat → Int → Option (Unit ⊕ Bool)
  | 0, _ => none
  | n + 1, t3 =>
    bif (ltI t3 ((l1.length : Int))) then
      (
        (getI l1 t3).bind fun e7 =>
        bif (eqI e7 vn2) then
          (
            some (.inr true)
          )
        else
          (
            sI (w64 (t3 + 1)) fun t9 =>
            r_laws_qIn_L4 l1 vn2 n t9
          )
      )
    else
      (
        some (.inl ())
      )
def r_laws_qIn (l1 : List Int) (vn2 : Int) : Option Bool :=
  (r_laws_qIn_L4 l1 vn2 FU 0).bind fun qo5 =>
  match qo5 with
  | .inr r => some r
  | .inl o5 =>
    some false

def r_spec_l1Cur_number (c1 : ((List Int) × Int × Int)) : Option (Int × (((List Int) × Int × Int))) :=
  (r_spec_l1Cur_pick c1 12).bind fun y2 =>
  bif (eqI y2.1 0) then
    (
      (r_spec_l1Cur_among y2.2 ([0, 1, -1, 1000000, -1000000, 1000001, -1000001, -9223372036854775808, 9223372036854775807, 999983, 999999, 1000])).bind fun y4 =>
      some ((y4.1, y4.2))
    )
  else
    (
      (
        bif (eqI y2.1 1) then
          (
            some (eqI y2.1 1)
          )
        else
          (
            some (eqI y2.1 2)
          )
      ).bind fun j5 =>
      bif j5 then
        (
          (r_spec_l1Cur_pick y2.2 50000).bind fun y8 =>
          (r_spec_l1Cur_pick y8.2 20).bind fun y9 =>
          (r_spec_l1Cur_pick y9.2 2).bind fun y10 =>
          sI (w64 ((w64 (y8.1 * (w64 (1 + y9.1)))) * (w64 (1 - (w64 (2 * y10.1)))))) fun t11 =>
          some ((t11, y10.2))
        )
      else
        (
          (
            bif (eqI y2.1 3) then
              (
                some (eqI y2.1 3)
              )
            else
              (
                some (eqI y2.1 4)
              )
          ).bind fun j12 =>
          bif j12 then
            (
              (r_spec_l1Cur_pick y2.2 2000).bind fun y15 =>
              some ((y15.1, y15.2))
            )
          else
            (
              (r_spec_l1Cur_pick y2.2 121).bind fun y16 =>
              sI (w64 (y16.1 - 40)) fun t17 =>
              some ((t17, y16.2))
            )
        )
    )

def r_spec_l1Most (a1 : Int) (b2 : Int) : Option Int :=
  bif (ltI b2 a1) then
    (
      some a1
    )
  else
    (
      some b2
    )

def r_spec_l1Cur_disc (c1 : ((List Int) × Int × Int)) : Option (Int × (((List Int) × Int × Int))) :=
  (r_spec_l1Cur_pick c1 16).bind fun y2 =>
  bif (eqI y2.1 0) then
    (
      (r_spec_l1Cur_among y2.2 ([-3, -4, -2000, -1999, -1996, -1995, -163, -2001, -2003, -2004, 0, 1, 5, -1, -2, -5, -9223372036854775808])).bind fun y4 =>
      some ((y4.1, y4.2))
    )
  else
    (
      (
        bif (eqI y2.1 1) then
          (
            some (eqI y2.1 1)
          )
        else
          (
            some (eqI y2.1 2)
          )
      ).bind fun j5 =>
      bif j5 then
        (
          (r_spec_l1Cur_pick y2.2 1998).bind fun y8 =>
          sI (w64 ((-3) - y8.1)) fun d9 =>
          (r_spec_nuMod d9 4).bind fun y10 =>
          bif (ltI 1 y10) then
            (
              (r_spec_l1Most (-2000) (w64 (d9 - 2))).bind fun y12 =>
              some ((y12, y8.2))
            )
          else
            (
              some ((d9, y8.2))
            )
        )
      else
        (
          (
            bif (eqI y2.1 3) then
              (
                some (eqI y2.1 3)
              )
            else
              (
                bif (eqI y2.1 4) then
                  (
                    some (eqI y2.1 4)
                  )
                else
                  (
                    some (eqI y2.1 5)
                  )
              )
          ).bind fun j13 =>
          bif j13 then
            (
              (r_spec_l1Cur_among y2.2 ([-84, -420, -231, -260, -455, -520, -660, -1155, -1320, -1380, -1428, -1540, -399, -1092, -1560, -1785])).bind fun y17 =>
              some ((y17.1, y17.2))
            )
          else
            (
              (
                bif (eqI y2.1 6) then
                  (
                    some (eqI y2.1 6)
                  )
                else
                  (
                    some (eqI y2.1 7)
                  )
              ).bind fun j18 =>
              bif j18 then
                (
                  (r_spec_l1Cur_pick y2.2 60).bind fun y21 =>
                  sI (w64 ((-4) * (w64 (1 + y21.1)))) fun t22 =>
                  some ((t22, y21.2))
                )
              else
                (
                  (r_spec_l1Cur_pick y2.2 50).bind fun y23 =>
                  sI (w64 ((-3) - (w64 (4 * y23.1)))) fun t24 =>
                  some ((t24, y23.2))
                )
            )
        )
    )

def r_spec_l1Cur_anyDisc (c1 : ((List Int) × Int × Int)) : Option (Int × (((List Int) × Int × Int))) :=
  (r_spec_l1Cur_pick c1 8).bind fun y2 =>
  bif (eqI y2.1 0) then
    (
      (r_spec_l1Cur_number y2.2).bind fun y4 =>
      some ((y4.1, y4.2))
    )
  else
    (
      (
        bif (eqI y2.1 1) then
          (
            some (eqI y2.1 1)
          )
        else
          (
            some (eqI y2.1 2)
          )
      ).bind fun j5 =>
      bif j5 then
        (
          (r_spec_l1Cur_among y2.2 ([5, 8, 12, 13, 17, 21, 60, 136, 1000, 997, 4, 9, 1, 0])).bind fun y8 =>
          some ((y8.1, y8.2))
        )
      else
        (
          (r_spec_l1Cur_disc y2.2).bind fun y9 =>
          some ((y9.1, y9.2))
        )
    )

def r_spec_DrawCharacterRow (code1 : List Int) : Option Int :=
  (r_spec_l1Cur_anyDisc ((code1, 0, 0))).bind fun y2 =>
  some y2.1

def r_impl_root_L4 (vn1 : Int) : Nat → Int → Int → Option Int
  | 0, _, _ => none
  | n + 1, low2, high3 =>
    bif (ltI low2 high3) then
      (
        sI (w64 (Int.tdiv (w64 ((w64 (low2 + high3)) + 1)) 2)) fun vm7 =>
        bif (leI (w64 (vm7 * vm7)) vn1) then
          (
            r_impl_root_L4 vn1 n vm7 high3
          )
        else
          (
            sI (w64 (vm7 - 1)) fun high9 =>
            r_impl_root_L4 vn1 n low2 high9
          )
      )
    else
      (
        some low2
      )
def r_impl_root (vn1 : Int) : Option Int :=
  (r_impl_root_L4 vn1 FU 0 3000000000).bind fun o5 =>
  some o5

def r_impl_isSquare (vn1 : Int) : Option Bool :=
  (bif (leI 0 vn1) then ((r_impl_root vn1).bind fun y3 => (r_impl_root vn1).bind fun y4 => some (eqI (w64 (y3 * y4)) vn1)) else some false).bind fun b5 =>
  some b5

def r_impl_isDiscriminant (d1 : Int) : Option Bool :=
  (r_impl_areNumbers ([d1])).bind fun y2 =>
  (bif y2 then ((r_impl_mod d1 4).bind fun y4 => some (leI y4 1)) else some false).bind fun b5 =>
  (bif b5 then ((r_impl_isSquare d1).bind fun y7 => some (!y7)) else some false).bind fun b8 =>
  some b8

def r_impl_abs (vn1 : Int) : Option Int :=
  sI (mxI vn1 (w64 (0 - (mxI vn1 (-9223372036854775807))))) fun t2 =>
  some t2

def r_impl_kronecker_L12 (a1 : Int) : Nat → Int → Int → Option ((Int × Int) ⊕ Int)
  | 0, _, _ => none
  | n + 1, vn10, vs11 =>
    bif (eqI (Int.tmod vn10 2) 0) then
      (
        bif (eqI (Int.tmod a1 2) 0) then
          (
            some (.inr 0)
          )
        else
          (
            sI (w64 (Int.tdiv vn10 2)) fun vn16 =>
            (r_impl_symbolOfTwo a1).bind fun y17 =>
            sI (w64 (vs11 * y17)) fun vs18 =>
            r_impl_kronecker_L12 a1 n vn16 vs18
          )
      )
    else
      (
        some (.inl (vn10, vs11))
      )
def r_impl_kronecker (a1 : Int) (vn2 : Int) : Option Int :=
  bif (eqI vn2 0) then
    (
      (r_impl_abs a1).bind fun y4 =>
      bif (eqI y4 1) then
        (
          some 1
        )
      else
        (
          some 0
        )
    )
  else
    (
      (
        bif (bif (ltI vn2 0) then (ltI a1 0) else false) then
          (
            some (-1)
          )
        else
          (
            some 1
          )
      ).bind fun j6 =>
      (r_impl_abs vn2).bind fun y9 =>
      (r_impl_kronecker_L12 a1 FU y9 j6).bind fun qo13 =>
      match qo13 with
      | .inr r => some r
      | .inl o13 =>
        (r_impl_jacobi a1 o13.1).bind fun y19 =>
        sI (w64 (o13.2 * y19)) fun t20 =>
        some t20
    )

def r_impl_CharacterRow_L9 (d1 : Int) : Nat → Int → List Int → Option (List Int)
  | 0, _, _ => none
  | n + 1, vn7, l8 =>
    (r_impl_abs d1).bind fun y11 =>
    bif (ltI vn7 y11) then
      (
        (r_impl_kronecker d1 vn7).bind fun y13 =>
        (room (l8.length + ([y13]).length)).bind fun u14 =>
        sI (w64 (vn7 + 1)) fun vn15 =>
        r_impl_CharacterRow_L9 d1 n vn15 (l8 ++ ([y13]))
      )
    else
      (
        some l8
      )
def r_impl_CharacterRow (d1 : Int) : Option ((List Int) × Bool) :=
  (r_impl_isDiscriminant d1).bind fun y2 =>
  (bif (!y2) then some true else ((r_impl_abs d1).bind fun y4 => some (ltI 2000 y4))).bind fun b5 =>
  bif b5 then
    (
      some ((([] : List Int), false))
    )
  else
    (
      (r_impl_CharacterRow_L9 d1 FU 0 (([] : List Int))).bind fun o10 =>
      some ((o10, true))
    )

def r_spec_nuRoot_L4 (vn1 : Int) : Nat → Int → Int → Option Int
  | 0, _, _ => none
  | n + 1, lo2, hi3 =>
    bif (ltI lo2 hi3) then
      (
        sI (w64 (Int.tdiv (w64 ((w64 (lo2 + hi3)) + 1)) 2)) fun mid7 =>
        bif (leI (w64 (mid7 * mid7)) vn1) then
          (
            r_spec_nuRoot_L4 vn1 n mid7 hi3
          )
        else
          (
            sI (w64 (mid7 - 1)) fun hi9 =>
            r_spec_nuRoot_L4 vn1 n lo2 hi9
          )
      )
    else
      (
        some lo2
      )
def r_spec_nuRoot (vn1 : Int) : Option Int :=
  (r_spec_nuRoot_L4 vn1 FU 0 1000000000).bind fun o5 =>
  some o5

def r_spec_nuSquare (vn1 : Int) : Option Bool :=
  bif (ltI vn1 0) then
    (
      some false
    )
  else
    (
      (r_spec_nuRoot vn1).bind fun y3 =>
      some (eqI (w64 (y3 * y3)) vn1)
    )

def r_spec_diIs (d1 : Int) : Option Bool :=
  (r_spec_nuGood d1).bind fun y2 =>
  (bif y2 then ((r_spec_nuMod d1 4).bind fun y4 => some (ltI y4 2)) else some false).bind fun b5 =>
  (bif b5 then ((r_spec_nuSquare d1).bind fun y7 => some (!y7)) else some false).bind fun b8 =>
  some b8

def r_spec_l1Abs (vn1 : Int) : Option Int :=
  (r_spec_l1Most vn1 (w64 (0 - vn1))).bind fun y2 =>
  some y2

def r_spec_syKronecker_L12 (a1 : Int) : Nat → Int → Int → Option (Int × Int)
  | 0, _, _ => none
  | n + 1, vn10, out11 =>
    bif (eqI (Int.tmod vn10 2) 0) then
      (
        sI (w64 (Int.tdiv vn10 2)) fun vn15 =>
        (r_spec_syTwo a1).bind fun y16 =>
        sI (w64 (out11 * y16)) fun out17 =>
        r_spec_syKronecker_L12 a1 n vn15 out17
      )
    else
      (
        some (vn10, out11)
      )
def r_spec_syKronecker (a1 : Int) (vn2 : Int) : Option Int :=
  bif (eqI vn2 0) then
    (
      (r_spec_l1Abs a1).bind fun y4 =>
      bif (eqI y4 1) then
        (
          some 1
        )
      else
        (
          some 0
        )
    )
  else
    (
      (
        bif (ltI vn2 0) then
          (
            sI (w64 (0 - vn2)) fun vn8 =>
            bif (ltI a1 0) then
              (
                some (vn8, -1)
              )
            else
              (
                some (vn8, 1)
              )
          )
        else
          (
            some (vn2, 1)
          )
      ).bind fun j6 =>
      (r_spec_syKronecker_L12 a1 FU j6.1 j6.2).bind fun o13 =>
      (r_spec_syJacobi a1 o13.1).bind fun y18 =>
      sI (w64 (o13.2 * y18)) fun t19 =>
      some t19
    )

def r_spec_CharacterRow_L9 (d1 : Int) : Nat → Int → List Int → Option (List Int)
  | 0, _, _ => none
  | n + 1, vn7, l8 =>
    (r_spec_l1Abs d1).bind fun y11 =>
    bif (ltI vn7 y11) then
      (
        (r_spec_syKronecker d1 vn7).bind fun y13 =>
        (room (l8.length + ([y13]).length)).bind fun u14 =>
        sI (w64 (vn7 + 1)) fun vn15 =>
        r_spec_CharacterRow_L9 d1 n vn15 (l8 ++ ([y13]))
      )
    else
      (
        some l8
      )
def r_spec_CharacterRow (d1 : Int) : Option ((List Int) × Bool) :=
  (r_spec_diIs d1).bind fun y2 =>
  (bif (!y2) then some true else ((r_spec_l1Abs d1).bind fun y4 => some (ltI 2000 y4))).bind fun b5 =>
  bif b5 then
    (
      some ((([] : List Int), false))
    )
  else
    (
      (r_spec_CharacterRow_L9 d1 FU 0 (([] : List Int))).bind fun o10 =>
      some ((o10, true))
    )

def r_laws_sameInts_L5 (a1 : List Int) (b2 : List Int) : Nat → Int → Option (Unit ⊕ Bool)
  | 0, _ => none
  | n + 1, t4 =>
    bif (ltI t4 ((a1.length : Int))) then
      (
        (getI a1 t4).bind fun e8 =>
        (getI b2 t4).bind fun e9 =>
        bif (!eqI e8 e9) then
          (
            some (.inr false)
          )
        else
          (
            sI (w64 (t4 + 1)) fun t11 =>
            r_laws_sameInts_L5 a1 b2 n t11
          )
      )
    else
      (
        some (.inl ())
      )
def r_laws_sameInts (a1 : List Int) (b2 : List Int) : Option Bool :=
  bif (!eqI ((a1.length : Int)) ((b2.length : Int))) then
    (
      some false
    )
  else
    (
      (r_laws_sameInts_L5 a1 b2 FU 0).bind fun qo6 =>
      match qo6 with
      | .inr r => some r
      | .inl o6 =>
        some true
    )

def r_impl_SymbolSum_L10 (d1 : Int) (vn2 : Int) : Nat → Int → Int → Option Int
  | 0, _, _ => none
  | n + 1, sum8, k9 =>
    bif (leI k9 vn2) then
      (
        (r_impl_kronecker d1 k9).bind fun y13 =>
        sI (w64 (sum8 + y13)) fun sum14 =>
        sI (w64 (k9 + 1)) fun k15 =>
        r_impl_SymbolSum_L10 d1 vn2 n sum14 k15
      )
    else
      (
        some sum8
      )
def r_impl_SymbolSum (d1 : Int) (vn2 : Int) : Option (Int × Bool) :=
  (r_impl_areNumbers ([d1])).bind fun y3 =>
  (some (bif (bif (!y3) then true else (ltI vn2 0)) then true else (ltI 10000 vn2))).bind fun t6 =>
  bif t6 then
    (
      some ((0, false))
    )
  else
    (
      (r_impl_SymbolSum_L10 d1 vn2 FU 0 1).bind fun o11 =>
      some ((o11, true))
    )

def r_laws_numberOf_L4 (b1 : List Int) : Nat → Int → Int → Option Int
  | 0, _, _ => none
  | n + 1, vn2, t3 =>
    bif (ltI t3 ((b1.length : Int))) then
      (
        (getI b1 t3).bind fun e7 =>
        sI (Int.tmod (w64 ((w64 (31 * vn2)) + (IntKind.i64.wrap e7))) 1000003) fun vn8 =>
        sI (w64 (t3 + 1)) fun t9 =>
        r_laws_numberOf_L4 b1 n vn8 t9
      )
    else
      (
        some vn2
      )
def r_laws_numberOf (b1 : List Int) : Option Int :=
  (r_laws_numberOf_L4 b1 FU 0 0).bind fun o5 =>
  some o5

def r_laws_qSum_L4 (l1 : List Int) : Nat → Int → Int → Option Int
  | 0, _, _ => none
  | n + 1, sum2, t3 =>
    bif (ltI t3 ((l1.length : Int))) then
      (
        (getI l1 t3).bind fun e7 =>
        sI (w64 (sum2 + e7)) fun sum8 =>
        sI (w64 (t3 + 1)) fun t9 =>
        r_laws_qSum_L4 l1 n sum8 t9
      )
    else
      (
        some sum2
      )
def r_laws_qSum (l1 : List Int) : Option Int :=
  (r_laws_qSum_L4 l1 FU 0 0).bind fun o5 =>
  some o5

def r_laws_FnSquareResidues_L13 (code1 : List Int) (more2 : List Int) (y5 : Int) (y6 : (Int × Bool)) : Nat → Int → Option (Unit ⊕ Bool)
  | 0, _ => none
  | n + 1, k12 =>
    bif (leI k12 y6.1) then
      (
        (r_impl_LegendreSymbol k12 y5).bind fun y16 =>
        (some (bif (!y16.2) then true else ((eqI y16.1 (-1)) != (eqI k12 y6.1)))).bind fun t18 =>
        bif t18 then
          (
            some (.inr false)
          )
        else
          (
            sI (w64 (k12 + 1)) fun k20 =>
            r_laws_FnSquareResidues_L13 code1 more2 y5 y6 n k20
          )
      )
    else
      (
        some (.inl ())
      )
def r_laws_FnSquareResidues (code1 : List Int) (more2 : List Int) : Option Bool :=
  (r_laws_big code1 more2).bind fun y3 =>
  bif y3 then
    (
      some true
    )
  else
    (
      (r_spec_DrawLeastNonresidue code1).bind fun y5 =>
      (r_impl_LeastNonresidue y5).bind fun y6 =>
      (r_spec_LeastNonresidue y5).bind fun y7 =>
      bif (bif (y6.2 != y7.2) then true else (!eqI y6.1 y7.1)) then
        (
          some false
        )
      else
        (
          ((
            bif y6.2 then
              (
                (r_laws_FnSquareResidues_L13 code1 more2 y5 y6 FU 1).bind fun qo14 =>
                match qo14 with
                | .inr r => some (.inr r)
                | .inl o14 =>
                  bif (leI y5 10000) then
                    (
                      (r_impl_SquareResidues y5).bind fun y22 =>
                      (bif (bif (!y22.2) then true else (!eqI ((y22.1.length : Int)) (w64 (Int.tdiv (w64 (y5 + 1)) 2)))) then some true else ((r_laws_qIn y22.1 y6.1).bind fun y25 => some y25)).bind fun b26 =>
                      bif b26 then
                        (
                          some (.inr false)
                        )
                      else
                        (
                          some (.inl ())
                        )
                    )
                  else
                    (
                      some (.inl ())
                    )
              )
            else
              (
                some (.inl ())
              )
          ) : Option (Unit ⊕ Bool)).bind fun qo10 =>
          match qo10 with
          | .inr r => some r
          | .inl o10 =>
            (r_spec_DrawCharacterRow more2).bind fun y28 =>
            (r_impl_CharacterRow y28).bind fun y29 =>
            (r_spec_CharacterRow y28).bind fun y30 =>
            (bif (y29.2 != y30.2) then some true else ((r_laws_sameInts y29.1 y30.1).bind fun y32 => some (!y32))).bind fun b33 =>
            bif b33 then
              (
                some false
              )
            else
              (
                bif y29.2 then
                  (
                    (r_impl_SymbolSum y28 (w64 (((y30.1.length : Int)) - 1))).bind fun y36 =>
                    (r_laws_numberOf code1).bind fun y37 =>
                    (nz ((y30.1.length : Int))).bind fun z38 =>
                    (r_laws_numberOf more2).bind fun y39 =>
                    (nz ((y30.1.length : Int))).bind fun z40 =>
                    sI (Int.tmod y37 ((y30.1.length : Int))) fun i41 =>
                    sI (Int.tmod y39 ((y30.1.length : Int))) fun j42 =>
                    (bif (bif y36.2 then (eqI y36.1 0) else false) then ((r_laws_qSum y30.1).bind fun y45 => some (eqI y45 0)) else some false).bind fun b46 =>
                    (bif b46 then ((getI y29.1 i41).bind fun e48 => (getI y29.1 i41).bind fun e49 => (getI y29.1 j42).bind fun e50 => (getI y29.1 j42).bind fun e51 => (nz ((y30.1.length : Int))).bind fun z52 => (getI y29.1 (Int.tmod (w64 (i41 * j42)) ((y30.1.length : Int)))).bind fun e53 => (getI y29.1 (Int.tmod (w64 (i41 * j42)) ((y30.1.length : Int)))).bind fun e54 => some (eqI (w64 (e49 * e51)) e54)) else some false).bind fun b55 =>
                    some b55
                  )
                else
                  (
                    some true
                  )
              )
        )
    )

end Go.Proofs.Ytpfnhgpepgeaiaa
