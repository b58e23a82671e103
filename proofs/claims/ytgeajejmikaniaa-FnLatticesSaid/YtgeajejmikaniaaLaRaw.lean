/-
  What the functions of the program compute, as plain functions.
  Conditions: none.
-/
import Derived.Test.YtgeajejmikaniaaShRs

namespace Go.Proofs.Ytgeajejmikaniaa

set_option linter.unusedVariables false

def r_laws_big (code1 : List Int) (more2 : List Int) : Option Bool :=
  (some (bif (ltI 1048576 ((code1.length : Int))) then true else (ltI (w64 (1048576 - ((code1.length : Int)))) ((more2.length : Int))))).bind fun t4 =>
  some t4

def r_spec_l1Cur_next (c1 : ((List Int) × Int × Int)) : Option (Int × (((List Int) × Int × Int))) :=
  (
    bif (ltI c1.2.1 ((c1.1.length : Int))) then
      (
        (getI c1.1 c1.2.1).bind fun e4 =>
        sI (IntKind.i64.wrap e4) fun b5 =>
        some b5
      )
    else
      (
        some 0
      )
  ).bind fun j2 =>
  sI (w64 (c1.2.1 + 1)) fun f6 =>
  sI (IntKind.u64.wrap ((IntKind.u64.wrap ((IntKind.u64.wrap (c1.2.2 * 6364136223846793005)) + (IntKind.u64.wrap j2))) + 1442695040888963407)) fun f7 =>
  bif (leI f6 ((c1.1.length : Int))) then
    (
      some ((j2, (c1.1, f6, f7)))
    )
  else
    (
      sI (IntKind.i64.wrap (andI .u64 (shrI .u64 f7 40) 255)) fun t9 =>
      some ((t9, (c1.1, f6, f7)))
    )

def r_spec_l1Cur_pick (c1 : ((List Int) × Int × Int)) (vn2 : Int) : Option (Int × (((List Int) × Int × Int))) :=
  bif (leI vn2 1) then
    (
      some ((0, c1))
    )
  else
    (
      (r_spec_l1Cur_next c1).bind fun y4 =>
      bif (ltI 200 vn2) then
        (
          (r_spec_l1Cur_next y4.2).bind fun y6 =>
          sI (w64 ((w64 (y4.1 * 256)) + y6.1)) fun x7 =>
          (nz vn2).bind fun z8 =>
          sI (Int.tmod x7 vn2) fun t9 =>
          some ((t9, y6.2))
        )
      else
        (
          (nz vn2).bind fun z10 =>
          sI (Int.tmod y4.1 vn2) fun t11 =>
          some ((t11, y4.2))
        )
    )

def r_spec_l1Cur_among (c1 : ((List Int) × Int × Int)) (list2 : List Int) : Option (Int × (((List Int) × Int × Int))) :=
  (r_spec_l1Cur_pick c1 ((list2.length : Int))).bind fun y3 =>
  (getI list2 y3.1).bind fun e4 =>
  some ((e4, y3.2))

def r_spec_l1Cur_number (c1 : ((List Int) × Int × Int)) : Option (Int × (((List Int) × Int × Int))) :=
  (r_spec_l1Cur_pick c1 12).bind fun y2 =>
  bif (eqI y2.1 0) then
    (
      (r_spec_l1Cur_among y2.2 ([0, 1, -1, 1000000, -1000000, 1000001, -1000001, -9223372036854775808, 9223372036854775807, 999983, 999999, 1000])).bind fun y4 =>
      some ((y4.1, y4.2))
    )
  else
    (
      (
        bif (eqI y2.1 1) then
          (
            some (eqI y2.1 1)
          )
        else
          (
            some (eqI y2.1 2)
          )
      ).bind fun j5 =>
      bif j5 then
        (
          (r_spec_l1Cur_pick y2.2 50000).bind fun y8 =>
          (r_spec_l1Cur_pick y8.2 20).bind fun y9 =>
          (r_spec_l1Cur_pick y9.2 2).bind fun y10 =>
          sI (w64 ((w64 (y8.1 * (w64 (1 + y9.1)))) * (w64 (1 - (w64 (2 * y10.1)))))) fun t11 =>
          some ((t11, y10.2))
        )
      else
        (
          (
            bif (eqI y2.1 3) then
              (
                some (eqI y2.1 3)
              )
            else
              (
                some (eqI y2.1 4)
              )
          ).bind fun j12 =>
          bif j12 then
            (
              (r_spec_l1Cur_pick y2.2 2000).bind fun y15 =>
              some ((y15.1, y15.2))
            )
          else
            (
              (r_spec_l1Cur_pick y2.2 121).bind fun y16 =>
              sI (w64 (y16.1 - 40)) fun t17 =>
              some ((t17, y16.2))
            )
        )
    )

def r_spec_l1Cur_lattice (c1 : ((List Int) × Int × Int)) : Option (((Int × Int × Int)) × (((List Int) × Int × Int))) :=
  (r_spec_l1Cur_pick c1 30).bind fun y2 =>
  (r_spec_l1Cur_pick y2.2 30).bind fun y3 =>
  sI (w64 (1 + y2.1)) fun a4 =>
  sI (w64 (1 + y3.1)) fun d5 =>
  ((
    (r_spec_l1Cur_pick y3.2 16).bind fun y7 =>
    bif (eqI y7.1 0) then
      (
        (r_spec_l1Cur_number y7.2).bind fun y9 =>
        (r_spec_l1Cur_number y9.2).bind fun y10 =>
        (r_spec_l1Cur_number y10.2).bind fun y11 =>
        some (.inr ((((y9.1, y10.1, y11.1), y11.2))))
      )
    else
      (
        bif (eqI y7.1 1) then
          (
            (r_spec_l1Cur_among y7.2 ([1000, 1001, 1, 999])).bind fun y13 =>
            some (.inl (y13.1, d5, y13.2.1, y13.2.2.1, y13.2.2.2))
          )
        else
          (
            bif (eqI y7.1 2) then
              (
                (r_spec_l1Cur_among y7.2 ([1000, 1001, 0, 999])).bind fun y15 =>
                some (.inl (a4, y15.1, y15.2.1, y15.2.2.1, y15.2.2.2))
              )
            else
              (
                bif (eqI y7.1 3) then
                  (
                    some (.inr ((((a4, a4, d5), y7.2))))
                  )
                else
                  (
                    (
                      bif (eqI y7.1 4) then
                        (
                          some (eqI y7.1 4)
                        )
                      else
                        (
                          some (eqI y7.1 5)
                        )
                    ).bind fun j17 =>
                    bif j17 then
                      (
                        (r_spec_l1Cur_pick y7.2 6).bind fun y20 =>
                        sI (w64 (1 + y20.1)) fun k21 =>
                        (r_spec_l1Cur_pick y20.2 a4).bind fun y22 =>
                        sI (w64 (k21 * a4)) fun f23 =>
                        sI (w64 (k21 * y22.1)) fun f24 =>
                        sI (w64 (k21 * d5)) fun f25 =>
                        some (.inr ((((f23, f24, f25), y22.2))))
                      )
                    else
                      (
                        some (.inl (a4, d5, y7.2.1, y7.2.2.1, y7.2.2.2))
                      )
                  )
              )
          )
      )
  ) : Option ((Int × Int × (List Int) × Int × Int) ⊕ (((Int × Int × Int)) × (((List Int) × Int × Int))))).bind fun qo6 =>
  match qo6 with
  | .inr r => some r
  | .inl o6 =>
    (r_spec_l1Cur_pick o6.2.2 o6.1).bind fun y26 =>
    some (((o6.1, y26.1, o6.2.1), y26.2))

def r_spec_DrawSumOfLattices (code1 : List Int) : Option (((Int × Int × Int)) × ((Int × Int × Int))) :=
  (r_spec_l1Cur_lattice ((code1, 0, 0))).bind fun y2 =>
  (r_spec_l1Cur_lattice y2.2).bind fun y3 =>
  some ((y2.1, y3.1))

def r_spec_DrawMeetOfLattices (code1 : List Int) : Option (((Int × Int × Int)) × ((Int × Int × Int))) :=
  (r_spec_DrawSumOfLattices code1).bind fun y2 =>
  some ((y2.1, y2.2))

def r_impl_isLattice (l1 : (Int × Int × Int)) : Option Bool :=
  (some (bif (bif (bif (bif (bif (leI 1 l1.1) then (leI l1.1 1000) else false) then (leI 1 l1.2.2) else false) then (leI l1.2.2 1000) else false) then (leI 0 l1.2.1) else false) then (ltI l1.2.1 l1.1) else false)).bind fun t7 =>
  some t7

def r_impl_abs (vn1 : Int) : Option Int :=
  sI (mxI vn1 (w64 (0 - (mxI vn1 (-9223372036854775807))))) fun t2 =>
  some t2

def r_impl_gcd_L5 : Nat → Int → Int → Option Int
  | 0, _, _ => none
  | n + 1, a3, b4 =>
    bif (!eqI b4 0) then
      (
        (nz b4).bind fun z8 =>
        sI (Int.tmod a3 b4) fun b9 =>
        r_impl_gcd_L5 n b4 b9
      )
    else
      (
        some a3
      )
def r_impl_gcd (a1 : Int) (b2 : Int) : Option Int :=
  (r_impl_gcd_L5 FU a1 b2).bind fun o6 =>
  (r_impl_abs o6).bind fun y10 =>
  some y10

def r_impl_mod (a1 : Int) (vm2 : Int) : Option Int :=
  (nz vm2).bind fun z3 =>
  sI (Int.tmod a1 vm2) fun vr4 =>
  bif (ltI vr4 0) then
    (
      sI (w64 (vr4 + vm2)) fun vr6 =>
      some vr6
    )
  else
    (
      some vr4
    )

def r_impl_validLattice (l1 : (Int × Int × Int)) : Option (((Int × Int × Int)) × Bool) :=
  (r_impl_isLattice l1).bind fun y2 =>
  bif (!y2) then
    (
      some (((0, 0, 0), false))
    )
  else
    (
      some ((l1, true))
    )

def r_impl_MeetOfLattices_L13 (a1 : (Int × Int × Int)) (b2 : (Int × Int × Int)) (step11 : Int) (y8 : Int) : Nat → Int → Option Int
  | 0, _ => none
  | n + 1, y12 =>
    (nz a1.2.2).bind fun z15 =>
    (nz b2.2.2).bind fun z16 =>
    (nz y8).bind fun z17 =>
    (some (!eqI (Int.tmod (w64 ((w64 ((w64 (Int.tdiv y12 a1.2.2)) * a1.2.1)) - (w64 ((w64 (Int.tdiv y12 b2.2.2)) * b2.2.1)))) y8) 0)).bind fun t18 =>
    bif t18 then
      (
        sI (w64 (y12 + step11)) fun y20 =>
        r_impl_MeetOfLattices_L13 a1 b2 step11 y8 n y20
      )
    else
      (
        some y12
      )
def r_impl_MeetOfLattices_L28 (a1 : (Int × Int × Int)) (b2 : (Int × Int × Int)) (o14 : Int) (side22 : Int) : Nat → Int → Option Int
  | 0, _ => none
  | n + 1, x27 =>
    (nz b2.2.2).bind fun z30 =>
    (r_impl_mod (w64 (x27 - (w64 ((w64 (Int.tdiv o14 b2.2.2)) * b2.2.1)))) b2.1).bind fun y31 =>
    bif (!eqI y31 0) then
      (
        sI (w64 (x27 + a1.1)) fun x33 =>
        r_impl_MeetOfLattices_L28 a1 b2 o14 side22 n x33
      )
    else
      (
        some x27
      )
def r_impl_MeetOfLattices (a1 : (Int × Int × Int)) (b2 : (Int × Int × Int)) : Option (((Int × Int × Int)) × Bool) :=
  (r_impl_isLattice a1).bind fun y3 =>
  (bif (!y3) then some true else ((r_impl_isLattice b2).bind fun y5 => some (!y5))).bind fun b6 =>
  bif b6 then
    (
      some (((0, 0, 0), false))
    )
  else
    (
      (r_impl_gcd a1.1 b2.1).bind fun y8 =>
      (r_impl_gcd a1.2.2 b2.2.2).bind fun y9 =>
      (nz y9).bind fun z10 =>
      sI (w64 ((w64 (Int.tdiv a1.2.2 y9)) * b2.2.2)) fun step11 =>
      (r_impl_MeetOfLattices_L13 a1 b2 step11 y8 FU step11).bind fun o14 =>
      (nz y8).bind fun z21 =>
      sI (w64 ((w64 (Int.tdiv a1.1 y8)) * b2.1)) fun side22 =>
      bif (bif (ltI 1000 side22) then true else (ltI 1000 o14)) then
        (
          some (((0, 0, 0), false))
        )
      else
        (
          (nz a1.2.2).bind fun z25 =>
          (r_impl_mod (w64 ((w64 (Int.tdiv o14 a1.2.2)) * a1.2.1)) a1.1).bind fun y26 =>
          (r_impl_MeetOfLattices_L28 a1 b2 o14 side22 FU y26).bind fun o29 =>
          (r_impl_mod o29 side22).bind fun y34 =>
          (r_impl_validLattice ((side22, y34, o14))).bind fun y35 =>
          some ((y35.1, y35.2))
        )
    )

def r_spec_l1In (vn1 : Int) (lo2 : Int) (hi3 : Int) : Option Bool :=
  some (bif (leI lo2 vn1) then (leI vn1 hi3) else false)

def r_spec_laGood (l1 : (Int × Int × Int)) : Option Bool :=
  (r_spec_l1In l1.1 1 1000).bind fun y2 =>
  (bif y2 then ((r_spec_l1In l1.2.2 1 1000).bind fun y4 => some y4) else some false).bind fun b5 =>
  (bif b5 then ((r_spec_l1In l1.2.1 0 (w64 (l1.1 - 1))).bind fun y7 => some y7) else some false).bind fun b8 =>
  some b8

def r_spec_l1Most (a1 : Int) (b2 : Int) : Option Int :=
  bif (ltI b2 a1) then
    (
      some a1
    )
  else
    (
      some b2
    )

def r_spec_l1Abs (vn1 : Int) : Option Int :=
  (r_spec_l1Most vn1 (w64 (0 - vn1))).bind fun y2 =>
  some y2

def r_spec_nuGcd_L7 : Nat → Int → Int → Option Int
  | 0, _, _ => none
  | n + 1, a5, b6 =>
    bif (!eqI b6 0) then
      (
        (nz b6).bind fun z10 =>
        sI (Int.tmod a5 b6) fun b11 =>
        r_spec_nuGcd_L7 n b6 b11
      )
    else
      (
        some a5
      )
def r_spec_nuGcd (a1 : Int) (b2 : Int) : Option Int :=
  (r_spec_l1Abs a1).bind fun y3 =>
  (r_spec_l1Abs b2).bind fun y4 =>
  (r_spec_nuGcd_L7 FU y3 y4).bind fun o8 =>
  some o8

def r_spec_nuMod (a1 : Int) (vm2 : Int) : Option Int :=
  (nz vm2).bind fun z3 =>
  sI (Int.tmod a1 vm2) fun vr4 =>
  bif (ltI vr4 0) then
    (
      sI (w64 (vr4 + vm2)) fun vr6 =>
      some vr6
    )
  else
    (
      some vr4
    )

def r_spec_nuInverse_L8 (vm2 : Int) : Nat → Int → Int → Int → Int → Option (Int × Int)
  | 0, _, _, _, _ => none
  | n + 1, vr4, next5, x6, y7 =>
    bif (!eqI next5 0) then
      (
        (nz next5).bind fun z11 =>
        sI (w64 (Int.tdiv vr4 next5)) fun q12 =>
        sI (w64 (vr4 - (w64 (q12 * next5)))) fun next13 =>
        sI (w64 (x6 - (w64 (q12 * y7)))) fun y14 =>
        r_spec_nuInverse_L8 vm2 n next5 next13 y7 y14
      )
    else
      (
        some (vr4, x6)
      )
def r_spec_nuInverse (a1 : Int) (vm2 : Int) : Option Int :=
  (r_spec_nuMod a1 vm2).bind fun y3 =>
  (r_spec_nuInverse_L8 vm2 FU vm2 y3 0 1).bind fun o9 =>
  bif (!eqI o9.1 1) then
    (
      some (-1)
    )
  else
    (
      (r_spec_nuMod o9.2 vm2).bind fun y16 =>
      some y16
    )

def r_spec_nuCommon (a1 : Int) (vm2 : Int) (b3 : Int) (vn4 : Int) : Option (Int × Int × Bool) :=
  (r_spec_nuGcd vm2 vn4).bind fun y5 =>
  (nz y5).bind fun z6 =>
  bif (!eqI (Int.tmod (w64 (b3 - a1)) y5) 0) then
    (
      some ((0, 0, false))
    )
  else
    (
      (nz y5).bind fun z8 =>
      (nz y5).bind fun z9 =>
      (nz y5).bind fun z10 =>
      (r_spec_nuInverse (w64 (Int.tdiv vm2 y5)) (w64 (Int.tdiv vn4 y5))).bind fun y11 =>
      (nz y5).bind fun z12 =>
      (r_spec_nuMod (w64 ((w64 (Int.tdiv (w64 (b3 - a1)) y5)) * y11)) (w64 (Int.tdiv vn4 y5))).bind fun y13 =>
      (nz y5).bind fun z14 =>
      sI (w64 ((w64 (Int.tdiv vm2 y5)) * vn4)) fun all15 =>
      (r_spec_nuMod (w64 (a1 + (w64 (vm2 * y13)))) all15).bind fun y16 =>
      some ((y16, all15, true))
    )

def r_spec_MeetOfLattices_L12 (a1 : (Int × Int × Int)) (b2 : (Int × Int × Int)) (step10 : Int) : Nat → Int → Option (Unit ⊕ (((Int × Int × Int)) × Bool))
  | 0, _ => none
  | n + 1, k11 =>
    (r_spec_nuGcd a1.1 b2.1).bind fun y14 =>
    bif (leI k11 y14) then
      (
        sI (w64 (k11 * step10)) fun y16 =>
        (nz a1.2.2).bind fun z17 =>
        (r_spec_nuMod (w64 ((w64 (Int.tdiv y16 a1.2.2)) * a1.2.1)) a1.1).bind fun y18 =>
        (nz b2.2.2).bind fun z19 =>
        (r_spec_nuMod (w64 ((w64 (Int.tdiv y16 b2.2.2)) * b2.2.1)) b2.1).bind fun y20 =>
        (r_spec_nuCommon y18 a1.1 y20 b2.1).bind fun y21 =>
        bif (!y21.2.2) then
          (
            sI (w64 (k11 + 1)) fun k23 =>
            r_spec_MeetOfLattices_L12 a1 b2 step10 n k23
          )
        else
          (
            (r_spec_laGood ((y21.2.1, y21.1, y16))).bind fun y24 =>
            bif (!y24) then
              (
                some (.inr ((((0, 0, 0), false))))
              )
            else
              (
                some (.inr ((((y21.2.1, y21.1, y16), true))))
              )
          )
      )
    else
      (
        some (.inl ())
      )
def r_spec_MeetOfLattices (a1 : (Int × Int × Int)) (b2 : (Int × Int × Int)) : Option (((Int × Int × Int)) × Bool) :=
  (r_spec_laGood a1).bind fun y3 =>
  (bif (!y3) then some true else ((r_spec_laGood b2).bind fun y5 => some (!y5))).bind fun b6 =>
  bif b6 then
    (
      some (((0, 0, 0), false))
    )
  else
    (
      (r_spec_nuGcd a1.2.2 b2.2.2).bind fun y8 =>
      (nz y8).bind fun z9 =>
      sI (w64 ((w64 (Int.tdiv a1.2.2 y8)) * b2.2.2)) fun step10 =>
      (r_spec_MeetOfLattices_L12 a1 b2 step10 FU 1).bind fun qo13 =>
      match qo13 with
      | .inr r => some r
      | .inl o13 =>
        some (((0, 0, 0), false))
    )

def r_impl_Lattice_basis (l1 : (Int × Int × Int)) : Option (List ((Int × Int))) :=
  some ([(l1.1, 0), l1.2])

def r_impl_hermite_L14 (a2 : Int) (list1 : List ((Int × Int))) (t5 : Int) : Nat → Int → Int → Int → Int → Option (Int × Int × Int)
  | 0, _, _, _, _ => none
  | n + 1, b10, d11, x12, y13 =>
    bif (!eqI y13 0) then
      (
        (nz y13).bind fun z17 =>
        sI (w64 (Int.tdiv d11 y13)) fun q18 =>
        sI (w64 (b10 - (w64 (q18 * x12)))) fun x19 =>
        sI (w64 (d11 - (w64 (q18 * y13)))) fun y20 =>
        bif (!eqI a2 0) then
          (
            (r_impl_mod x19 a2).bind fun y22 =>
            r_impl_hermite_L14 a2 list1 t5 n x12 y13 y22 y20
          )
        else
          (
            r_impl_hermite_L14 a2 list1 t5 n x12 y13 x19 y20
          )
      )
    else
      (
        some (b10, d11, x12)
      )
def r_impl_hermite_L6 (list1 : List ((Int × Int))) : Nat → Int → Int → Int → Int → Option (Int × Int × Int)
  | 0, _, _, _, _ => none
  | n + 1, a2, b3, d4, t5 =>
    bif (ltI t5 ((list1.length : Int))) then
      (
        (getI list1 t5).bind fun e9 =>
        (r_impl_hermite_L14 a2 list1 t5 FU b3 d4 e9.1 e9.2).bind fun o15 =>
        (r_impl_gcd a2 o15.2.2).bind fun y23 =>
        bif (!eqI y23 0) then
          (
            (r_impl_mod o15.1 y23).bind fun y25 =>
            sI (w64 (t5 + 1)) fun t26 =>
            r_impl_hermite_L6 list1 n y23 y25 o15.2.1 t26
          )
        else
          (
            sI (w64 (t5 + 1)) fun t27 =>
            r_impl_hermite_L6 list1 n y23 o15.1 o15.2.1 t27
          )
      )
    else
      (
        some (a2, b3, d4)
      )
def r_impl_hermite (list1 : List ((Int × Int))) : Option (Int × Int × Int × Bool) :=
  (r_impl_hermite_L6 list1 FU 0 0 0 0).bind fun o7 =>
  bif (bif (eqI o7.1 0) then true else (eqI o7.2.2 0)) then
    (
      some ((0, 0, 0, false))
    )
  else
    (
      (
        bif (ltI o7.2.2 0) then
          (
            (r_impl_mod (w64 (0 - o7.2.1)) o7.1).bind fun y32 =>
            sI (w64 (0 - o7.2.2)) fun d33 =>
            some (y32, d33)
          )
        else
          (
            some (o7.2.1, o7.2.2)
          )
      ).bind fun j30 =>
      some ((o7.1, j30.1, j30.2, true))
    )

def r_impl_latticeOf (list1 : List ((Int × Int))) : Option (((Int × Int × Int)) × Bool) :=
  (r_impl_hermite list1).bind fun y2 =>
  bif (!y2.2.2.2) then
    (
      some (((0, 0, 0), false))
    )
  else
    (
      (r_impl_validLattice ((y2.1, y2.2.1, y2.2.2.1))).bind fun y4 =>
      some ((y4.1, y4.2))
    )

def r_impl_SumOfLattices (a1 : (Int × Int × Int)) (b2 : (Int × Int × Int)) : Option (((Int × Int × Int)) × Bool) :=
  (r_impl_isLattice a1).bind fun y3 =>
  (bif (!y3) then some true else ((r_impl_isLattice b2).bind fun y5 => some (!y5))).bind fun b6 =>
  bif b6 then
    (
      some (((0, 0, 0), false))
    )
  else
    (
      (r_impl_Lattice_basis a1).bind fun y8 =>
      (r_impl_Lattice_basis b2).bind fun y9 =>
      (room (y8.length + y9.length)).bind fun u10 =>
      (r_impl_latticeOf (y8 ++ y9)).bind fun y11 =>
      some ((y11.1, y11.2))
    )

def r_spec_laBasis (l1 : (Int × Int × Int)) : Option (List ((Int × Int))) :=
  some ([(l1.1, 0), l1.2])

def r_spec_laHermite_L14 (a2 : Int) (p1 : List ((Int × Int))) (t3 : Int) : Nat → Int → Int → Int → Int → Option (Int × Int × Int × Int)
  | 0, _, _, _, _ => none
  | n + 1, f10, f11, f12, f13 =>
    bif (!eqI f11 0) then
      (
        (nz f11).bind fun z17 =>
        sI (w64 (Int.tdiv f13 f11)) fun k18 =>
        sI (w64 (f12 - (w64 (k18 * f10)))) fun f19 =>
        sI (w64 (f13 - (w64 (k18 * f11)))) fun f20 =>
        r_spec_laHermite_L14 a2 p1 t3 n f19 f20 f10 f11
      )
    else
      (
        some (f10, f11, f12, f13)
      )
def r_spec_laHermite_L6 (p1 : List ((Int × Int))) : Nat → Int → Int → Int → Int → Option (Int × Int × Int)
  | 0, _, _, _, _ => none
  | n + 1, a2, t3, f4, f5 =>
    bif (ltI t3 ((p1.length : Int))) then
      (
        (getI p1 t3).bind fun e9 =>
        (r_spec_laHermite_L14 a2 p1 t3 FU e9.1 e9.2 f4 f5).bind fun o15 =>
        (r_spec_nuGcd a2 o15.1).bind fun y21 =>
        (
          bif (ltI o15.2.2.2 0) then
            (
              sI (w64 (0 - o15.2.2.1)) fun f24 =>
              sI (w64 (0 - o15.2.2.2)) fun f25 =>
              some (f24, f25)
            )
          else
            (
              some (o15.2.2.1, o15.2.2.2)
            )
        ).bind fun j22 =>
        bif (ltI 0 y21) then
          (
            (r_spec_nuMod j22.1 y21).bind fun y27 =>
            sI (w64 (t3 + 1)) fun t28 =>
            r_spec_laHermite_L6 p1 n y21 t28 y27 j22.2
          )
        else
          (
            sI (w64 (t3 + 1)) fun t29 =>
            r_spec_laHermite_L6 p1 n y21 t29 j22.1 j22.2
          )
      )
    else
      (
        some (a2, f4, f5)
      )
def r_spec_laHermite (p1 : List ((Int × Int))) : Option (Int × Int × Int) :=
  (r_spec_laHermite_L6 p1 FU 0 0 0 0).bind fun o7 =>
  some o7

def r_spec_SumOfLattices (a1 : (Int × Int × Int)) (b2 : (Int × Int × Int)) : Option (((Int × Int × Int)) × Bool) :=
  (r_spec_laGood a1).bind fun y3 =>
  (bif (!y3) then some true else ((r_spec_laGood b2).bind fun y5 => some (!y5))).bind fun b6 =>
  bif b6 then
    (
      some (((0, 0, 0), false))
    )
  else
    (
      (r_spec_laBasis a1).bind fun y8 =>
      (r_spec_laBasis b2).bind fun y9 =>
      (room (y8.length + y9.length)).bind fun u10 =>
      (r_spec_laHermite (y8 ++ y9)).bind fun y11 =>
      some ((y11, true))
    )

def r_impl_LatticeIndex (l1 : (Int × Int × Int)) : Option (Int × Bool) :=
  (r_impl_isLattice l1).bind fun y2 =>
  bif (!y2) then
    (
      some ((0, false))
    )
  else
    (
      sI (w64 (l1.1 * l1.2.2)) fun t4 =>
      some ((t4, true))
    )

def r_laws_numberOf_L4 (b1 : List Int) : Nat → Int → Int → Option Int
  | 0, _, _ => none
  | n + 1, vn2, t3 =>
    bif (ltI t3 ((b1.length : Int))) then
      (
        (getI b1 t3).bind fun e7 =>
        sI (Int.tmod (w64 ((w64 (31 * vn2)) + (IntKind.i64.wrap e7))) 1000003) fun vn8 =>
        sI (w64 (t3 + 1)) fun t9 =>
        r_laws_numberOf_L4 b1 n vn8 t9
      )
    else
      (
        some vn2
      )
def r_laws_numberOf (b1 : List Int) : Option Int :=
  (r_laws_numberOf_L4 b1 FU 0 0).bind fun o5 =>
  some o5

def r_impl_isPlain (p1 : (Int × Int)) : Option Bool :=
  (r_impl_abs p1.1).bind fun y2 =>
  (bif (leI y2 10000) then ((r_impl_abs p1.2).bind fun y4 => some (leI y4 10000)) else some false).bind fun b5 =>
  some b5

def r_impl_Lattice_has (l1 : (Int × Int × Int)) (x2 : Int) (y3 : Int) : Option Bool :=
  (nz l1.2.2).bind fun z4 =>
  (bif (eqI (Int.tmod y3 l1.2.2) 0) then ((nz l1.2.2).bind fun z6 => (nz l1.1).bind fun z7 => some (eqI (Int.tmod (w64 (x2 - (w64 ((w64 (Int.tdiv y3 l1.2.2)) * l1.2.1)))) l1.1) 0)) else some false).bind fun b8 =>
  some b8

def r_impl_IsInLattice (l1 : (Int × Int × Int)) (p2 : (Int × Int)) : Option (Bool × Bool) :=
  (r_impl_isLattice l1).bind fun y3 =>
  (bif (!y3) then some true else ((r_impl_isPlain p2).bind fun y5 => some (!y5))).bind fun b6 =>
  bif b6 then
    (
      some ((false, false))
    )
  else
    (
      (r_impl_Lattice_has l1 p2.1 p2.2).bind fun y8 =>
      some ((y8, true))
    )

def r_impl_IsSublattice (a1 : (Int × Int × Int)) (b2 : (Int × Int × Int)) : Option (Bool × Bool) :=
  (r_impl_isLattice a1).bind fun y3 =>
  (bif (!y3) then some true else ((r_impl_isLattice b2).bind fun y5 => some (!y5))).bind fun b6 =>
  bif b6 then
    (
      some ((false, false))
    )
  else
    (
      (r_impl_Lattice_has b2 a1.1 0).bind fun y8 =>
      (bif y8 then ((r_impl_Lattice_has b2 a1.2.1 a1.2.2).bind fun y10 => some y10) else some false).bind fun b11 =>
      some ((b11, true))
    )

def r_laws_FnLattices (code1 : List Int) (more2 : List Int) : Option Bool :=
  (r_laws_big code1 more2).bind fun y3 =>
  bif y3 then
    (
      some true
    )
  else
    (
      (r_spec_DrawMeetOfLattices code1).bind fun y5 =>
      (r_impl_MeetOfLattices y5.1 y5.2).bind fun y6 =>
      (r_spec_MeetOfLattices y5.1 y5.2).bind fun y7 =>
      (r_impl_SumOfLattices y5.1 y5.2).bind fun y8 =>
      (r_spec_SumOfLattices y5.1 y5.2).bind fun y9 =>
      (some (bif (bif (bif (y6.2 != y7.2) then true else (!((y6.1.1 == y7.1.1) && ((y6.1.2.1 == y7.1.2.1) && (y6.1.2.2 == y7.1.2.2))))) then true else (y8.2 != y9.2)) then true else (!((y8.1.1 == y9.1.1) && ((y8.1.2.1 == y9.1.2.1) && (y8.1.2.2 == y9.1.2.2)))))).bind fun t13 =>
      bif t13 then
        (
          some false
        )
      else
        (
          bif (bif y6.2 then y8.2 else false) then
            (
              (r_impl_LatticeIndex y5.1).bind fun y17 =>
              (r_impl_LatticeIndex y5.2).bind fun y18 =>
              (r_impl_LatticeIndex y6.1).bind fun y19 =>
              (r_impl_LatticeIndex y8.1).bind fun y20 =>
              (some (bif (bif (bif (bif (!y17.2) then true else (!y18.2)) then true else (!y19.2)) then true else (!y20.2)) then true else (!eqI (w64 (y17.1 * y18.1)) (w64 (y19.1 * y20.1))))).bind fun t25 =>
              bif t25 then
                (
                  some false
                )
              else
                (
                  (r_laws_numberOf more2).bind fun y27 =>
                  sI (w64 ((Int.tmod y27 2001) - 1000)) fun f28 =>
                  sI (w64 ((Int.tmod (w64 (Int.tdiv y27 2001)) 401) - 200)) fun f29 =>
                  (
                    bif (eqI (Int.tmod y27 2) 0) then
                      (
                        sI (w64 ((w64 (y5.1.2.1 * (Int.tmod y27 7))) + (w64 (y5.1.1 * (Int.tmod y27 5))))) fun f32 =>
                        sI (w64 (y5.1.2.2 * (Int.tmod y27 7))) fun f33 =>
                        some (f32, f33)
                      )
                    else
                      (
                        some (f28, f29)
                      )
                  ).bind fun j30 =>
                  (r_impl_IsInLattice y5.1 j30).bind fun y34 =>
                  (r_impl_IsInLattice y5.2 j30).bind fun y35 =>
                  (r_impl_IsInLattice y6.1 j30).bind fun y36 =>
                  (r_impl_IsInLattice y8.1 j30).bind fun y37 =>
                  (some (bif (bif (bif (bif y34.2 then y35.2 else false) then y36.2 else false) then y37.2 else false) then (bif (y36.1 != (bif y34.1 then y35.1 else false)) then true else (bif (bif y34.1 then true else y35.1) then (!y37.1) else false)) else false)).bind fun t46 =>
                  bif t46 then
                    (
                      some false
                    )
                  else
                    (
                      (r_impl_IsSublattice y6.1 y5.1).bind fun y48 =>
                      (r_impl_IsSublattice y5.2 y8.1).bind fun y49 =>
                      (some (bif (bif (bif y48.2 then y48.1 else false) then y49.2 else false) then y49.1 else false)).bind fun t53 =>
                      some t53
                    )
                )
            )
          else
            (
              some true
            )
        )
    )

end Go.Proofs.Ytgeajejmikaniaa
