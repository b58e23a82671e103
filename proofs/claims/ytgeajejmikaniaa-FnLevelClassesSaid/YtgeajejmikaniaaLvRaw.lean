/-
  What the functions of the program compute, as plain functions.
  Conditions: none.
-/
import Derived.Test.YtgeajejmikaniaaShRs

namespace Go.Proofs.Ytgeajejmikaniaa

set_option linter.unusedVariables false

def r_laws_big (code1 : List Int) (more2 : List Int) : Option Bool :=
  (some (bif (ltI 1048576 ((code1.length : Int))) then true else (ltI (w64 (1048576 - ((code1.length : Int)))) ((more2.length : Int))))).bind fun t4 =>
  some t4

def r_spec_l1Cur_next (c1 : ((List Int) × Int × Int)) : Option (Int × (((List Int) × Int × Int))) :=
  (
    bif (ltI c1.2.1 ((c1.1.length : Int))) then
      (
        (getI c1.1 c1.2.1).bind fun e4 =>
        sI (IntKind.i64.wrap e4) fun b5 =>
        some b5
      )
    else
      (
        some 0
      )
  ).bind fun j2 =>
  sI (w64 (c1.2.1 + 1)) fun f6 =>
  sI (IntKind.u64.wrap ((IntKind.u64.wrap ((IntKind.u64.wrap (c1.2.2 * 6364136223846793005)) + (IntKind.u64.wrap j2))) + 1442695040888963407)) fun f7 =>
  bif (leI f6 ((c1.1.length : Int))) then
    (
      some ((j2, (c1.1, f6, f7)))
    )
  else
    (
      sI (IntKind.i64.wrap (andI .u64 (shrI .u64 f7 40) 255)) fun t9 =>
      some ((t9, (c1.1, f6, f7)))
    )

def r_spec_l1Cur_pick (c1 : ((List Int) × Int × Int)) (vn2 : Int) : Option (Int × (((List Int) × Int × Int))) :=
  bif (leI vn2 1) then
    (
      some ((0, c1))
    )
  else
    (
      (r_spec_l1Cur_next c1).bind fun y4 =>
      bif (ltI 200 vn2) then
        (
          (r_spec_l1Cur_next y4.2).bind fun y6 =>
          sI (w64 ((w64 (y4.1 * 256)) + y6.1)) fun x7 =>
          (nz vn2).bind fun z8 =>
          sI (Int.tmod x7 vn2) fun t9 =>
          some ((t9, y6.2))
        )
      else
        (
          (nz vn2).bind fun z10 =>
          sI (Int.tmod y4.1 vn2) fun t11 =>
          some ((t11, y4.2))
        )
    )

def r_spec_l1Cur_among (c1 : ((List Int) × Int × Int)) (list2 : List Int) : Option (Int × (((List Int) × Int × Int))) :=
  (r_spec_l1Cur_pick c1 ((list2.length : Int))).bind fun y3 =>
  (getI list2 y3.1).bind fun e4 =>
  some ((e4, y3.2))

def r_spec_nuMod (a1 : Int) (vm2 : Int) : Option Int :=
  (nz vm2).bind fun z3 =>
  sI (Int.tmod a1 vm2) fun vr4 =>
  bif (ltI vr4 0) then
    (
      sI (w64 (vr4 + vm2)) fun vr6 =>
      some vr6
    )
  else
    (
      some vr4
    )

def r_spec_l1Most (a1 : Int) (b2 : Int) : Option Int :=
  bif (ltI b2 a1) then
    (
      some a1
    )
  else
    (
      some b2
    )

def r_spec_l1Cur_disc (c1 : ((List Int) × Int × Int)) : Option (Int × (((List Int) × Int × Int))) :=
  (r_spec_l1Cur_pick c1 16).bind fun y2 =>
  bif (eqI y2.1 0) then
    (
      (r_spec_l1Cur_among y2.2 ([-3, -4, -2000, -1999, -1996, -1995, -163, -2001, -2003, -2004, 0, 1, 5, -1, -2, -5, -9223372036854775808])).bind fun y4 =>
      some ((y4.1, y4.2))
    )
  else
    (
      (
        bif (eqI y2.1 1) then
          (
            some (eqI y2.1 1)
          )
        else
          (
            some (eqI y2.1 2)
          )
      ).bind fun j5 =>
      bif j5 then
        (
          (r_spec_l1Cur_pick y2.2 1998).bind fun y8 =>
          sI (w64 ((-3) - y8.1)) fun d9 =>
          (r_spec_nuMod d9 4).bind fun y10 =>
          bif (ltI 1 y10) then
            (
              (r_spec_l1Most (-2000) (w64 (d9 - 2))).bind fun y12 =>
              some ((y12, y8.2))
            )
          else
            (
              some ((d9, y8.2))
            )
        )
      else
        (
          (
            bif (eqI y2.1 3) then
              (
                some (eqI y2.1 3)
              )
            else
              (
                bif (eqI y2.1 4) then
                  (
                    some (eqI y2.1 4)
                  )
                else
                  (
                    some (eqI y2.1 5)
                  )
              )
          ).bind fun j13 =>
          bif j13 then
            (
              (r_spec_l1Cur_among y2.2 ([-84, -420, -231, -260, -455, -520, -660, -1155, -1320, -1380, -1428, -1540, -399, -1092, -1560, -1785])).bind fun y17 =>
              some ((y17.1, y17.2))
            )
          else
            (
              (
                bif (eqI y2.1 6) then
                  (
                    some (eqI y2.1 6)
                  )
                else
                  (
                    some (eqI y2.1 7)
                  )
              ).bind fun j18 =>
              bif j18 then
                (
                  (r_spec_l1Cur_pick y2.2 60).bind fun y21 =>
                  sI (w64 ((-4) * (w64 (1 + y21.1)))) fun t22 =>
                  some ((t22, y21.2))
                )
              else
                (
                  (r_spec_l1Cur_pick y2.2 50).bind fun y23 =>
                  sI (w64 ((-3) - (w64 (4 * y23.1)))) fun t24 =>
                  some ((t24, y23.2))
                )
            )
        )
    )

def r_spec_l1Cur_one (c1 : ((List Int) × Int × Int)) (vn2 : Int) : Option (Bool × (((List Int) × Int × Int))) :=
  (r_spec_l1Cur_pick c1 vn2).bind fun y3 =>
  some ((eqI y3.1 0, y3.2))

def r_spec_l1In (vn1 : Int) (lo2 : Int) (hi3 : Int) : Option Bool :=
  some (bif (leI lo2 vn1) then (leI vn1 hi3) else false)

def r_spec_reDisc (d1 : Int) : Option Bool :=
  (r_spec_l1In d1 (-2000) (-3)).bind fun y2 =>
  (bif y2 then ((r_spec_nuMod d1 4).bind fun y4 => some (ltI y4 2)) else some false).bind fun b5 =>
  some b5

def r_spec_l1Abs (vn1 : Int) : Option Int :=
  (r_spec_l1Most vn1 (w64 (0 - vn1))).bind fun y2 =>
  some y2

def r_spec_nuGcd_L7 : Nat → Int → Int → Option Int
  | 0, _, _ => none
  | n + 1, a5, b6 =>
    bif (!eqI b6 0) then
      (
        (nz b6).bind fun z10 =>
        sI (Int.tmod a5 b6) fun b11 =>
        r_spec_nuGcd_L7 n b6 b11
      )
    else
      (
        some a5
      )
def r_spec_nuGcd (a1 : Int) (b2 : Int) : Option Int :=
  (r_spec_l1Abs a1).bind fun y3 =>
  (r_spec_l1Abs b2).bind fun y4 =>
  (r_spec_nuGcd_L7 FU y3 y4).bind fun o8 =>
  some o8

def r_spec_lvRoots_L5 (d1 : Int) (vn2 : Int) : Nat → Int → List Int → Option (List Int)
  | 0, _, _ => none
  | n + 1, vr3, l4 =>
    bif (ltI vr3 (w64 (2 * vn2))) then
      (
        (nz (w64 (4 * vn2))).bind fun z8 =>
        (some (eqI (Int.tmod (w64 ((w64 (vr3 * vr3)) - d1)) (w64 (4 * vn2))) 0)).bind fun t9 =>
        bif t9 then
          (
            (room (l4.length + ([vr3]).length)).bind fun u11 =>
            sI (w64 (vr3 + 1)) fun vr12 =>
            r_spec_lvRoots_L5 d1 vn2 n vr12 (l4 ++ ([vr3]))
          )
        else
          (
            sI (w64 (vr3 + 1)) fun vr13 =>
            r_spec_lvRoots_L5 d1 vn2 n vr13 l4
          )
      )
    else
      (
        some l4
      )
def r_spec_lvRoots (d1 : Int) (vn2 : Int) : Option (List Int) :=
  (r_spec_lvRoots_L5 d1 vn2 FU 0 (([] : List Int))).bind fun o6 =>
  some o6

def r_spec_l1Cur_level_L13 (d2 : Int) (y9 : (Int × (((List Int) × Int × Int)))) : Nat → Int → Int → Option Int
  | 0, _, _ => none
  | n + 1, vn11, k12 =>
    (bif (ltI k12 60) then ((r_spec_nuGcd vn11 d2).bind fun y16 => (bif (ltI 1 y16) then some true else ((r_spec_lvRoots d2 vn11).bind fun y18 => some (eqI ((y18.length : Int)) 0))).bind fun b19 => some b19) else some false).bind fun b20 =>
    bif b20 then
      (
        sI (w64 ((Int.tmod vn11 30) + 1)) fun vn22 =>
        bif (ltI 30 k12) then
          (
            sI (w64 (k12 + 1)) fun k24 =>
            r_spec_l1Cur_level_L13 d2 y9 n 1 k24
          )
        else
          (
            sI (w64 (k12 + 1)) fun k25 =>
            r_spec_l1Cur_level_L13 d2 y9 n vn22 k25
          )
      )
    else
      (
        some vn11
      )
def r_spec_l1Cur_level (c1 : ((List Int) × Int × Int)) (d2 : Int) : Option (Int × (((List Int) × Int × Int))) :=
  (r_spec_l1Cur_one c1 12).bind fun y3 =>
  (bif y3.1 then some true else ((r_spec_reDisc d2).bind fun y5 => some (!y5))).bind fun b6 =>
  bif b6 then
    (
      (r_spec_l1Cur_among y3.2 ([0, 1, 30, 31, -1, 2, 4611686018427387904])).bind fun y8 =>
      some ((y8.1, y8.2))
    )
  else
    (
      (r_spec_l1Cur_pick y3.2 30).bind fun y9 =>
      sI (w64 (1 + y9.1)) fun vn10 =>
      (r_spec_l1Cur_level_L13 d2 y9 FU vn10 0).bind fun o14 =>
      (r_spec_l1Cur_one y9.2 8).bind fun y26 =>
      bif y26.1 then
        (
          (r_spec_l1Cur_pick y26.2 30).bind fun y28 =>
          sI (w64 (1 + y28.1)) fun t29 =>
          some ((t29, y28.2))
        )
      else
        (
          some ((o14, y26.2))
        )
    )

def r_spec_DrawLevelRoots (code1 : List Int) : Option (Int × Int) :=
  (r_spec_l1Cur_disc ((code1, 0, 0))).bind fun y2 =>
  (r_spec_l1Cur_level y2.2 y2.1).bind fun y3 =>
  some ((y2.1, y3.1))

def r_spec_DrawLevelClasses (code1 : List Int) : Option (Int × Int) :=
  (r_spec_DrawLevelRoots code1).bind fun y2 =>
  some ((y2.1, y2.2))

def r_impl_mod (a1 : Int) (vm2 : Int) : Option Int :=
  (nz vm2).bind fun z3 =>
  sI (Int.tmod a1 vm2) fun vr4 =>
  bif (ltI vr4 0) then
    (
      sI (w64 (vr4 + vm2)) fun vr6 =>
      some vr6
    )
  else
    (
      some vr4
    )

def r_impl_isNegativeDisc (d1 : Int) : Option Bool :=
  (bif (bif (leI (-2000) d1) then (leI d1 (-3)) else false) then ((r_impl_mod d1 4).bind fun y4 => some (leI y4 1)) else some false).bind fun b5 =>
  some b5

def r_impl_abs (vn1 : Int) : Option Int :=
  sI (mxI vn1 (w64 (0 - (mxI vn1 (-9223372036854775807))))) fun t2 =>
  some t2

def r_impl_gcd_L5 : Nat → Int → Int → Option Int
  | 0, _, _ => none
  | n + 1, a3, b4 =>
    bif (!eqI b4 0) then
      (
        (nz b4).bind fun z8 =>
        sI (Int.tmod a3 b4) fun b9 =>
        r_impl_gcd_L5 n b4 b9
      )
    else
      (
        some a3
      )
def r_impl_gcd (a1 : Int) (b2 : Int) : Option Int :=
  (r_impl_gcd_L5 FU a1 b2).bind fun o6 =>
  (r_impl_abs o6).bind fun y10 =>
  some y10

def r_impl_isLevel (d1 : Int) (vn2 : Int) : Option Bool :=
  (bif (bif (leI 1 vn2) then (leI vn2 30) else false) then ((r_impl_gcd d1 vn2).bind fun y5 => some (eqI y5 1)) else some false).bind fun b6 =>
  some b6

def r_impl_rootsOfDiscriminant_L5 (d1 : Int) (vn2 : Int) : Nat → Int → List Int → Option (List Int)
  | 0, _, _ => none
  | n + 1, b3, l4 =>
    bif (ltI b3 (w64 (2 * vn2))) then
      (
        (nz (w64 (4 * vn2))).bind fun z8 =>
        (some (eqI (Int.tmod (w64 ((w64 (b3 * b3)) - d1)) (w64 (4 * vn2))) 0)).bind fun t9 =>
        bif t9 then
          (
            (room (l4.length + ([b3]).length)).bind fun u11 =>
            sI (w64 (b3 + 1)) fun b12 =>
            r_impl_rootsOfDiscriminant_L5 d1 vn2 n b12 (l4 ++ ([b3]))
          )
        else
          (
            sI (w64 (b3 + 1)) fun b13 =>
            r_impl_rootsOfDiscriminant_L5 d1 vn2 n b13 l4
          )
      )
    else
      (
        some l4
      )
def r_impl_rootsOfDiscriminant (d1 : Int) (vn2 : Int) : Option (List Int) :=
  (r_impl_rootsOfDiscriminant_L5 d1 vn2 FU 0 (([] : List Int))).bind fun o6 =>
  some o6

def r_impl_LevelRoots (d1 : Int) (vn2 : Int) : Option ((List Int) × Bool) :=
  (r_impl_isNegativeDisc d1).bind fun y3 =>
  (bif (!y3) then some true else ((r_impl_isLevel d1 vn2).bind fun y5 => some (!y5))).bind fun b6 =>
  bif b6 then
    (
      some ((([] : List Int), false))
    )
  else
    (
      (r_impl_rootsOfDiscriminant d1 vn2).bind fun y8 =>
      some ((y8, true))
    )

def r_impl_Form_isNormal (f1 : (Int × Int × Int)) : Option Bool :=
  (some (bif (ltI (w64 (0 - f1.1)) f1.2.1) then (leI f1.2.1 f1.1) else false)).bind fun t3 =>
  some t3

def r_impl_Form_isReduced (f1 : (Int × Int × Int)) : Option Bool :=
  (r_impl_Form_isNormal f1).bind fun y2 =>
  (some (bif y2 then (bif (ltI f1.1 f1.2.2) then true else (bif (eqI f1.1 f1.2.2) then (leI 0 f1.2.1) else false)) else false)).bind fun t6 =>
  some t6

def r_impl_allReduced_L10 (a2 : Int) (d1 : Int) : Nat → Int → List ((Int × Int × Int)) → Option (List ((Int × Int × Int)))
  | 0, _, _ => none
  | n + 1, b8, l9 =>
    bif (leI b8 a2) then
      (
        (nz (w64 (4 * a2))).bind fun z13 =>
        (some (!eqI (Int.tmod (w64 ((w64 (b8 * b8)) - d1)) (w64 (4 * a2))) 0)).bind fun t14 =>
        bif t14 then
          (
            sI (w64 (b8 + 1)) fun b16 =>
            r_impl_allReduced_L10 a2 d1 n b16 l9
          )
        else
          (
            (nz (w64 (4 * a2))).bind fun z17 =>
            sI (w64 (Int.tdiv (w64 ((w64 (b8 * b8)) - d1)) (w64 (4 * a2)))) fun f18 =>
            (r_impl_Form_isReduced ((a2, b8, f18))).bind fun y19 =>
            bif y19 then
              (
                (room (l9.length + ([(a2, b8, f18)]).length)).bind fun u21 =>
                sI (w64 (b8 + 1)) fun b22 =>
                r_impl_allReduced_L10 a2 d1 n b22 (l9 ++ ([(a2, b8, f18)]))
              )
            else
              (
                sI (w64 (b8 + 1)) fun b23 =>
                r_impl_allReduced_L10 a2 d1 n b23 l9
              )
          )
      )
    else
      (
        some l9
      )
def r_impl_allReduced_L4 (d1 : Int) : Nat → Int → List ((Int × Int × Int)) → Option (List ((Int × Int × Int)))
  | 0, _, _ => none
  | n + 1, a2, l3 =>
    bif (leI (w64 ((w64 (3 * a2)) * a2)) (w64 (0 - d1))) then
      (
        sI (w64 (1 - a2)) fun b7 =>
        (r_impl_allReduced_L10 a2 d1 FU b7 l3).bind fun o11 =>
        sI (w64 (a2 + 1)) fun a24 =>
        r_impl_allReduced_L4 d1 n a24 o11
      )
    else
      (
        some l3
      )
def r_impl_allReduced (d1 : Int) : Option (List ((Int × Int × Int))) :=
  (r_impl_allReduced_L4 d1 FU 1 (([] : List ((Int × Int × Int))))).bind fun o5 =>
  some o5

def r_impl_Form_content (f1 : (Int × Int × Int)) : Option Int :=
  (r_impl_gcd f1.2.1 f1.2.2).bind fun y2 =>
  (r_impl_gcd f1.1 y2).bind fun y3 =>
  some y3

def r_impl_primitiveOf_L4 (forms1 : List ((Int × Int × Int))) : Nat → Int → List ((Int × Int × Int)) → Option (List ((Int × Int × Int)))
  | 0, _, _ => none
  | n + 1, t2, l3 =>
    bif (ltI t2 ((forms1.length : Int))) then
      (
        (getI forms1 t2).bind fun e7 =>
        (r_impl_Form_content e7).bind fun y8 =>
        bif (eqI y8 1) then
          (
            (room (l3.length + ([e7]).length)).bind fun u10 =>
            sI (w64 (t2 + 1)) fun t11 =>
            r_impl_primitiveOf_L4 forms1 n t11 (l3 ++ ([e7]))
          )
        else
          (
            sI (w64 (t2 + 1)) fun t12 =>
            r_impl_primitiveOf_L4 forms1 n t12 l3
          )
      )
    else
      (
        some l3
      )
def r_impl_primitiveOf (forms1 : List ((Int × Int × Int))) : Option (List ((Int × Int × Int))) :=
  (r_impl_primitiveOf_L4 forms1 FU 0 (([] : List ((Int × Int × Int))))).bind fun o5 =>
  some o5

def r_impl_reducedForms (d1 : Int) : Option (List ((Int × Int × Int))) :=
  (r_impl_allReduced d1).bind fun y2 =>
  (r_impl_primitiveOf y2).bind fun y3 =>
  some y3

def r_impl_Form_at (f1 : (Int × Int × Int)) (x2 : Int) (y3 : Int) : Option Int :=
  sI (w64 ((w64 ((w64 ((w64 (f1.1 * x2)) * x2)) + (w64 ((w64 (f1.2.1 * x2)) * y3)))) + (w64 ((w64 (f1.2.2 * y3)) * y3)))) fun t4 =>
  some t4

def r_impl_firstPoint_L11 (a2 : Int) (g1 : (Int × Int × Int)) (size3 : Int) (x6 : Int) : Nat → Int → Option (Unit ⊕ (Int × Int))
  | 0, _ => none
  | n + 1, y10 =>
    bif (leI y10 size3) then
      (
        (bif (eqI (mxI x6 y10) size3) then ((r_impl_gcd x6 y10).bind fun y15 => some (eqI y15 1)) else some false).bind fun b16 =>
        (bif b16 then ((r_impl_Form_at g1 x6 y10).bind fun y18 => (r_impl_gcd y18 a2).bind fun y19 => some (eqI y19 1)) else some false).bind fun b20 =>
        bif b20 then
          (
            some (.inr (((x6, y10))))
          )
        else
          (
            sI (w64 (y10 + 1)) fun y22 =>
            r_impl_firstPoint_L11 a2 g1 size3 x6 n y22
          )
      )
    else
      (
        some (.inl ())
      )
def r_impl_firstPoint_L7 (a2 : Int) (g1 : (Int × Int × Int)) (size3 : Int) : Nat → Int → Option (Unit ⊕ (Int × Int))
  | 0, _ => none
  | n + 1, x6 =>
    bif (leI x6 size3) then
      (
        (r_impl_firstPoint_L11 a2 g1 size3 x6 FU 0).bind fun qo12 =>
        match qo12 with
        | .inr r => some (.inr r)
        | .inl o12 =>
          sI (w64 (x6 + 1)) fun x23 =>
          r_impl_firstPoint_L7 a2 g1 size3 n x23
      )
    else
      (
        some (.inl ())
      )
def r_impl_firstPoint_L4 (a2 : Int) (g1 : (Int × Int × Int)) : Nat → Int → Option (Unit ⊕ (Int × Int))
  | 0, _ => none
  | n + 1, size3 =>
    (r_impl_firstPoint_L7 a2 g1 size3 FU 0).bind fun qo8 =>
    match qo8 with
    | .inr r => some (.inr r)
    | .inl o8 =>
      sI (w64 (size3 + 1)) fun size24 =>
      r_impl_firstPoint_L4 a2 g1 n size24
def r_impl_firstPoint (g1 : (Int × Int × Int)) (a2 : Int) : Option (Int × Int) :=
  (r_impl_firstPoint_L4 a2 g1 FU 0).bind fun qo5 =>
  match qo5 with
  | .inr r => some r
  | .inl _ => none

def r_impl_inverse_L8 (vm2 : Int) : Nat → Int → Int → Int → Int → Option Int
  | 0, _, _, _, _ => none
  | n + 1, x4, y5, vr6, vs7 =>
    bif (!eqI vs7 0) then
      (
        (nz vs7).bind fun z11 =>
        sI (w64 (Int.tdiv vr6 vs7)) fun q12 =>
        sI (w64 (vr6 - (w64 (q12 * vs7)))) fun vs13 =>
        sI (w64 (x4 - (w64 (q12 * y5)))) fun y14 =>
        r_impl_inverse_L8 vm2 n y5 y14 vs7 vs13
      )
    else
      (
        some x4
      )
def r_impl_inverse (a1 : Int) (vm2 : Int) : Option Int :=
  (r_impl_mod a1 vm2).bind fun y3 =>
  (r_impl_inverse_L8 vm2 FU 1 0 y3 vm2).bind fun o9 =>
  (r_impl_mod o9 vm2).bind fun y15 =>
  some y15

def r_impl_Form_polar (f1 : (Int × Int × Int)) (x2 : Int) (y3 : Int) (u4 : Int) (v5 : Int) : Option Int :=
  sI (w64 ((w64 ((w64 ((w64 ((w64 (2 * f1.1)) * x2)) * u4)) + (w64 (f1.2.1 * (w64 ((w64 (x2 * v5)) + (w64 (y3 * u4)))))))) + (w64 ((w64 ((w64 (2 * f1.2.2)) * y3)) * v5)))) fun t6 =>
  some t6

def r_impl_Form_substitute (f1 : (Int × Int × Int)) (vm2 : (Int × Int × Int × Int)) : Option (Int × Int × Int) :=
  (r_impl_Form_at f1 vm2.1 vm2.2.2.1).bind fun y3 =>
  (r_impl_Form_polar f1 vm2.1 vm2.2.2.1 vm2.2.1 vm2.2.2.2).bind fun y4 =>
  (r_impl_Form_at f1 vm2.2.1 vm2.2.2.2).bind fun y5 =>
  some ((y3, y4, y5))

def r_impl_floorDiv (a1 : Int) (vm2 : Int) : Option Int :=
  (r_impl_mod a1 vm2).bind fun y3 =>
  (nz vm2).bind fun z4 =>
  sI (w64 (Int.tdiv (w64 (a1 - y3)) vm2)) fun t5 =>
  some t5

def r_impl_Form_complete (f1 : (Int × Int × Int)) (x2 : Int) (y3 : Int) : Option (((Int × Int × Int)) × ((Int × Int × Int × Int))) :=
  (
    bif (eqI y3 0) then
      (
        some (0, x2)
      )
    else
      (
        (r_impl_abs y3).bind fun y6 =>
        (r_impl_inverse x2 y6).bind fun y7 =>
        (nz y3).bind fun z8 =>
        sI (w64 (Int.tdiv (w64 ((w64 (x2 * y7)) - 1)) y3)) fun f9 =>
        some (f9, y7)
      )
  ).bind fun j4 =>
  (r_impl_Form_substitute f1 ((x2, j4.1, y3, j4.2))).bind fun y10 =>
  (r_impl_floorDiv y10.2.1 (w64 (2 * y10.1))).bind fun y11 =>
  sI (w64 (0 - y11)) fun t12 =>
  sI (w64 (j4.1 + (w64 (t12 * x2)))) fun f13 =>
  sI (w64 (j4.2 + (w64 (t12 * y3)))) fun f14 =>
  (r_impl_Form_substitute f1 ((x2, f13, y3, f14))).bind fun y15 =>
  some ((y15, (x2, f13, y3, f14)))

def r_impl_Form_disc (f1 : (Int × Int × Int)) : Option Int :=
  sI (w64 ((w64 (f1.2.1 * f1.2.1)) - (w64 ((w64 (4 * f1.1)) * f1.2.2)))) fun t2 =>
  some t2

def r_impl_areNumbers_L3 (list1 : List Int) : Nat → Int → Option (Unit ⊕ Bool)
  | 0, _ => none
  | n + 1, t2 =>
    bif (ltI t2 ((list1.length : Int))) then
      (
        (getI list1 t2).bind fun e6 =>
        bif (bif (ltI e6 (-1000000)) then true else (ltI 1000000 e6)) then
          (
            some (.inr false)
          )
        else
          (
            sI (w64 (t2 + 1)) fun t9 =>
            r_impl_areNumbers_L3 list1 n t9
          )
      )
    else
      (
        some (.inl ())
      )
def r_impl_areNumbers (list1 : List Int) : Option Bool :=
  (r_impl_areNumbers_L3 list1 FU 0).bind fun qo4 =>
  match qo4 with
  | .inr r => some r
  | .inl o4 =>
    some true

def r_impl_IsForm (f1 : (Int × Int × Int)) : Option Bool :=
  (r_impl_areNumbers ([f1.1, f1.2.1, f1.2.2])).bind fun y2 =>
  some y2

def r_impl_levelForm_L7 (f1 : (Int × Int × Int)) (vn2 : Int) (vr3 : Int) (y5 : (((Int × Int × Int)) × ((Int × Int × Int × Int)))) : Nat → Int → Option Int
  | 0, _ => none
  | n + 1, b6 =>
    (r_impl_mod (w64 (b6 + vr3)) (w64 (2 * vn2))).bind fun y9 =>
    bif (!eqI y9 0) then
      (
        sI (w64 (b6 + (w64 (2 * y5.1.1)))) fun b11 =>
        r_impl_levelForm_L7 f1 vn2 vr3 y5 n b11
      )
    else
      (
        some b6
      )
def r_impl_levelForm (f1 : (Int × Int × Int)) (vn2 : Int) (vr3 : Int) : Option (((Int × Int × Int)) × Bool) :=
  (r_impl_firstPoint f1 vn2).bind fun y4 =>
  (r_impl_Form_complete f1 y4.1 y4.2).bind fun y5 =>
  (r_impl_levelForm_L7 f1 vn2 vr3 y5 FU y5.1.2.1).bind fun o8 =>
  (r_impl_mod (w64 ((w64 (y5.1.1 * vn2)) - o8)) (w64 ((w64 (2 * y5.1.1)) * vn2))).bind fun y12 =>
  sI (w64 ((w64 (y5.1.1 * vn2)) - y12)) fun b13 =>
  (r_impl_Form_disc f1).bind fun y14 =>
  (nz (w64 (4 * y5.1.1))).bind fun z15 =>
  sI (w64 (Int.tdiv (w64 ((w64 (b13 * b13)) - y14)) (w64 (4 * y5.1.1)))) fun f16 =>
  sI (w64 (0 - b13)) fun f17 =>
  (r_impl_IsForm ((f16, f17, y5.1.1))).bind fun y18 =>
  some (((f16, f17, y5.1.1), y18))

def r_impl_LevelClasses_L15 (d1 : Int) (e11 : Int) (t5 : Int) (vn2 : Int) (y12 : List ((Int × Int × Int))) (y3 : ((List Int) × Bool)) : Nat → Int → List ((Int × Int × Int)) → Option (List ((Int × Int × Int)) ⊕ ((List ((Int × Int × Int))) × Bool))
  | 0, _, _ => none
  | n + 1, t13, l14 =>
    bif (ltI t13 ((y12.length : Int))) then
      (
        (getI y12 t13).bind fun e18 =>
        (getI y12 t13).bind fun e19 =>
        (r_impl_levelForm e19 vn2 e11).bind fun y20 =>
        bif (!y20.2) then
          (
            some (.inr (((([] : List ((Int × Int × Int))), false))))
          )
        else
          (
            (room (l14.length + ([y20.1]).length)).bind fun u22 =>
            sI (w64 (t13 + 1)) fun t23 =>
            r_impl_LevelClasses_L15 d1 e11 t5 vn2 y12 y3 n t23 (l14 ++ ([y20.1]))
          )
      )
    else
      (
        some (.inl l14)
      )
def r_impl_LevelClasses_L7 (d1 : Int) (vn2 : Int) (y3 : ((List Int) × Bool)) : Nat → Int → List ((Int × Int × Int)) → Option (List ((Int × Int × Int)) ⊕ ((List ((Int × Int × Int))) × Bool))
  | 0, _, _ => none
  | n + 1, t5, l6 =>
    bif (ltI t5 ((y3.1.length : Int))) then
      (
        (getI y3.1 t5).bind fun e10 =>
        (getI y3.1 t5).bind fun e11 =>
        (r_impl_reducedForms d1).bind fun y12 =>
        (r_impl_LevelClasses_L15 d1 e11 t5 vn2 y12 y3 FU 0 l6).bind fun qo16 =>
        match qo16 with
        | .inr r => some (.inr r)
        | .inl o16 =>
          sI (w64 (t5 + 1)) fun t24 =>
          r_impl_LevelClasses_L7 d1 vn2 y3 n t24 o16
      )
    else
      (
        some (.inl l6)
      )
def r_impl_LevelClasses (d1 : Int) (vn2 : Int) : Option ((List ((Int × Int × Int))) × Bool) :=
  (r_impl_LevelRoots d1 vn2).bind fun y3 =>
  bif (!y3.2) then
    (
      some ((([] : List ((Int × Int × Int))), false))
    )
  else
    (
      (r_impl_LevelClasses_L7 d1 vn2 y3 FU 0 (([] : List ((Int × Int × Int))))).bind fun qo8 =>
      match qo8 with
      | .inr r => some r
      | .inl o8 =>
        some ((o8, true))
    )

def r_spec_lvGood (d1 : Int) (vn2 : Int) : Option Bool :=
  (r_spec_l1In vn2 1 30).bind fun y3 =>
  (bif y3 then ((r_spec_nuGcd d1 vn2).bind fun y5 => some (eqI y5 1)) else some false).bind fun b6 =>
  some b6

def r_spec_foDisc (f1 : (Int × Int × Int)) : Option Int :=
  sI (w64 ((w64 (f1.2.1 * f1.2.1)) - (w64 ((w64 (4 * f1.1)) * f1.2.2)))) fun t2 =>
  some t2

def r_spec_reIs (f1 : (Int × Int × Int)) : Option Bool :=
  (some (bif (bif (ltI (w64 (0 - f1.1)) f1.2.1) then (leI f1.2.1 f1.1) else false) then (bif (ltI f1.1 f1.2.2) then true else (bif (eqI f1.1 f1.2.2) then (leI 0 f1.2.1) else false)) else false)).bind fun t6 =>
  some t6

def r_spec_reAll_L10 (a2 : Int) (d1 : Int) : Nat → Int → List ((Int × Int × Int)) → Option (List ((Int × Int × Int)))
  | 0, _, _ => none
  | n + 1, b8, l9 =>
    bif (leI b8 a2) then
      (
        (nz (w64 (4 * a2))).bind fun z13 =>
        sI (w64 (Int.tdiv (w64 ((w64 (b8 * b8)) - d1)) (w64 (4 * a2)))) fun f14 =>
        (r_spec_foDisc ((a2, b8, f14))).bind fun y15 =>
        (bif (eqI y15 d1) then ((r_spec_reIs ((a2, b8, f14))).bind fun y17 => some y17) else some false).bind fun b18 =>
        bif b18 then
          (
            (room (l9.length + ([(a2, b8, f14)]).length)).bind fun u20 =>
            sI (w64 (b8 + 1)) fun b21 =>
            r_spec_reAll_L10 a2 d1 n b21 (l9 ++ ([(a2, b8, f14)]))
          )
        else
          (
            sI (w64 (b8 + 1)) fun b22 =>
            r_spec_reAll_L10 a2 d1 n b22 l9
          )
      )
    else
      (
        some l9
      )
def r_spec_reAll_L4 (d1 : Int) : Nat → Int → List ((Int × Int × Int)) → Option (List ((Int × Int × Int)))
  | 0, _, _ => none
  | n + 1, a2, l3 =>
    bif (leI (w64 ((w64 (3 * a2)) * a2)) (w64 (0 - d1))) then
      (
        sI (w64 (1 - a2)) fun b7 =>
        (r_spec_reAll_L10 a2 d1 FU b7 l3).bind fun o11 =>
        sI (w64 (a2 + 1)) fun a23 =>
        r_spec_reAll_L4 d1 n a23 o11
      )
    else
      (
        some l3
      )
def r_spec_reAll (d1 : Int) : Option (List ((Int × Int × Int))) :=
  (r_spec_reAll_L4 d1 FU 1 (([] : List ((Int × Int × Int))))).bind fun o5 =>
  some o5

def r_spec_foContent (f1 : (Int × Int × Int)) : Option Int :=
  (r_spec_nuGcd f1.1 f1.2.1).bind fun y2 =>
  (r_spec_nuGcd y2 f1.2.2).bind fun y3 =>
  some y3

def r_spec_reList_L5 (y2 : List ((Int × Int × Int))) : Nat → Int → List ((Int × Int × Int)) → Option (List ((Int × Int × Int)))
  | 0, _, _ => none
  | n + 1, t3, l4 =>
    bif (ltI t3 ((y2.length : Int))) then
      (
        (getI y2 t3).bind fun e8 =>
        (getI y2 t3).bind fun e9 =>
        (r_spec_foContent e9).bind fun y10 =>
        bif (eqI y10 1) then
          (
            (room (l4.length + ([e9]).length)).bind fun u12 =>
            sI (w64 (t3 + 1)) fun t13 =>
            r_spec_reList_L5 y2 n t13 (l4 ++ ([e9]))
          )
        else
          (
            sI (w64 (t3 + 1)) fun t14 =>
            r_spec_reList_L5 y2 n t14 l4
          )
      )
    else
      (
        some l4
      )
def r_spec_reList (d1 : Int) : Option (List ((Int × Int × Int))) :=
  (r_spec_reAll d1).bind fun y2 =>
  (r_spec_reList_L5 y2 FU 0 (([] : List ((Int × Int × Int))))).bind fun o6 =>
  some o6

def r_spec_reNormal (f1 : (Int × Int × Int)) : Option Int :=
  (r_spec_nuMod (w64 (f1.1 - f1.2.1)) (w64 (2 * f1.1))).bind fun y2 =>
  (nz (w64 (2 * f1.1))).bind fun z3 =>
  sI (w64 (Int.tdiv (w64 ((w64 (f1.1 - f1.2.1)) - y2)) (w64 (2 * f1.1)))) fun t4 =>
  some t4

def r_spec_reMove (f1 : (Int × Int × Int)) : Option (Int × Int × Int × Int) :=
  (r_spec_reNormal f1).bind fun y2 =>
  bif (!eqI y2 0) then
    (
      some ((1, y2, 0, 1))
    )
  else
    (
      (r_spec_reIs f1).bind fun y4 =>
      bif y4 then
        (
          some ((1, 0, 0, 1))
        )
      else
        (
          some ((0, -1, 1, 0))
        )
    )

def r_spec_foValue (f1 : (Int × Int × Int)) (x2 : Int) (y3 : Int) : Option Int :=
  sI (w64 ((w64 ((w64 ((w64 (f1.1 * x2)) * x2)) + (w64 ((w64 (f1.2.1 * x2)) * y3)))) + (w64 ((w64 (f1.2.2 * y3)) * y3)))) fun t4 =>
  some t4

def r_spec_foPolar (f1 : (Int × Int × Int)) (x2 : Int) (y3 : Int) (u4 : Int) (v5 : Int) : Option Int :=
  sI (w64 ((w64 ((w64 ((w64 ((w64 (2 * f1.1)) * x2)) * u4)) + (w64 (f1.2.1 * (w64 ((w64 (x2 * v5)) + (w64 (y3 * u4)))))))) + (w64 ((w64 ((w64 (2 * f1.2.2)) * y3)) * v5)))) fun t6 =>
  some t6

def r_spec_foAct (f1 : (Int × Int × Int)) (vm2 : (Int × Int × Int × Int)) : Option (Int × Int × Int) :=
  (r_spec_foValue f1 vm2.1 vm2.2.2.1).bind fun y3 =>
  (r_spec_foPolar f1 vm2.1 vm2.2.2.1 vm2.2.1 vm2.2.2.2).bind fun y4 =>
  (r_spec_foValue f1 vm2.2.1 vm2.2.2.2).bind fun y5 =>
  some ((y3, y4, y5))

def r_spec_foMul (vm1 : (Int × Int × Int × Int)) (vn2 : (Int × Int × Int × Int)) : Option (Int × Int × Int × Int) :=
  sI (w64 ((w64 (vm1.1 * vn2.1)) + (w64 (vm1.2.1 * vn2.2.2.1)))) fun f3 =>
  sI (w64 ((w64 (vm1.1 * vn2.2.1)) + (w64 (vm1.2.1 * vn2.2.2.2)))) fun f4 =>
  sI (w64 ((w64 (vm1.2.2.1 * vn2.1)) + (w64 (vm1.2.2.2 * vn2.2.2.1)))) fun f5 =>
  sI (w64 ((w64 (vm1.2.2.1 * vn2.2.1)) + (w64 (vm1.2.2.2 * vn2.2.2.2)))) fun f6 =>
  some ((f3, f4, f5, f6))

def r_spec_reReduce_L9 : Nat → Int → Int → Int → Int → Int → Int → Int → Option (Int × Int × Int × Int × Int × Int × Int)
  | 0, _, _, _, _, _, _, _ => none
  | n + 1, f2, f3, f4, f5, f6, f7, f8 =>
    (r_spec_reIs ((f6, f7, f8))).bind fun y11 =>
    bif (!y11) then
      (
        (r_spec_reMove ((f6, f7, f8))).bind fun y13 =>
        (r_spec_foAct ((f6, f7, f8)) y13).bind fun y14 =>
        (r_spec_foMul ((f2, f3, f4, f5)) y13).bind fun y15 =>
        r_spec_reReduce_L9 n y15.1 y15.2.1 y15.2.2.1 y15.2.2.2 y14.1 y14.2.1 y14.2.2
      )
    else
      (
        some (f2, f3, f4, f5, f6, f7, f8)
      )
def r_spec_reReduce (f1 : (Int × Int × Int)) : Option (((Int × Int × Int)) × ((Int × Int × Int × Int))) :=
  (r_spec_reReduce_L9 FU 1 0 0 1 f1.1 f1.2.1 f1.2.2).bind fun o10 =>
  some ((o10.2.2.2.2, (o10.1, o10.2.1, o10.2.2.1, o10.2.2.2.1)))

def r_spec_reClass (f1 : (Int × Int × Int)) : Option (Int × Int × Int) :=
  (r_spec_reReduce f1).bind fun y2 =>
  some y2.1

def r_spec_coPoint_L12 (a2 : Int) (g1 : (Int × Int × Int)) (k3 : Int) (x7 : Int) : Nat → Int → Option (Unit ⊕ (Int × Int))
  | 0, _ => none
  | n + 1, y11 =>
    bif (leI y11 k3) then
      (
        (r_spec_l1Most x7 y11).bind fun y15 =>
        (bif (eqI y15 k3) then ((r_spec_nuGcd x7 y11).bind fun y17 => some (eqI y17 1)) else some false).bind fun b18 =>
        (bif b18 then ((r_spec_foValue g1 x7 y11).bind fun y20 => (r_spec_nuGcd y20 a2).bind fun y21 => some (eqI y21 1)) else some false).bind fun b22 =>
        bif b22 then
          (
            some (.inr (((x7, y11))))
          )
        else
          (
            sI (w64 (y11 + 1)) fun y24 =>
            r_spec_coPoint_L12 a2 g1 k3 x7 n y24
          )
      )
    else
      (
        some (.inl ())
      )
def r_spec_coPoint_L8 (a2 : Int) (g1 : (Int × Int × Int)) (k3 : Int) : Nat → Int → Option (Unit ⊕ (Int × Int))
  | 0, _ => none
  | n + 1, x7 =>
    bif (leI x7 k3) then
      (
        (r_spec_coPoint_L12 a2 g1 k3 x7 FU 0).bind fun qo13 =>
        match qo13 with
        | .inr r => some (.inr r)
        | .inl o13 =>
          sI (w64 (x7 + 1)) fun x25 =>
          r_spec_coPoint_L8 a2 g1 k3 n x25
      )
    else
      (
        some (.inl ())
      )
def r_spec_coPoint_L4 (a2 : Int) (g1 : (Int × Int × Int)) : Nat → Int → Option (Unit ⊕ (Int × Int))
  | 0, _ => none
  | n + 1, k3 =>
    bif (leI k3 100) then
      (
        (r_spec_coPoint_L8 a2 g1 k3 FU 0).bind fun qo9 =>
        match qo9 with
        | .inr r => some (.inr r)
        | .inl o9 =>
          sI (w64 (k3 + 1)) fun k26 =>
          r_spec_coPoint_L4 a2 g1 n k26
      )
    else
      (
        some (.inl ())
      )
def r_spec_coPoint (g1 : (Int × Int × Int)) (a2 : Int) : Option (Int × Int) :=
  (r_spec_coPoint_L4 a2 g1 FU 1).bind fun qo5 =>
  match qo5 with
  | .inr r => some r
  | .inl o5 =>
    some ((1, 0))

def r_spec_l1Sign (vn1 : Int) : Option Int :=
  bif (ltI 0 vn1) then
    (
      some 1
    )
  else
    (
      bif (ltI vn1 0) then
        (
          some (-1)
        )
      else
        (
          some 0
        )
    )

def r_spec_nuInverse_L8 (vm2 : Int) : Nat → Int → Int → Int → Int → Option (Int × Int)
  | 0, _, _, _, _ => none
  | n + 1, vr4, next5, x6, y7 =>
    bif (!eqI next5 0) then
      (
        (nz next5).bind fun z11 =>
        sI (w64 (Int.tdiv vr4 next5)) fun q12 =>
        sI (w64 (vr4 - (w64 (q12 * next5)))) fun next13 =>
        sI (w64 (x6 - (w64 (q12 * y7)))) fun y14 =>
        r_spec_nuInverse_L8 vm2 n next5 next13 y7 y14
      )
    else
      (
        some (vr4, x6)
      )
def r_spec_nuInverse (a1 : Int) (vm2 : Int) : Option Int :=
  (r_spec_nuMod a1 vm2).bind fun y3 =>
  (r_spec_nuInverse_L8 vm2 FU vm2 y3 0 1).bind fun o9 =>
  bif (!eqI o9.1 1) then
    (
      some (-1)
    )
  else
    (
      (r_spec_nuMod o9.2 vm2).bind fun y16 =>
      some y16
    )

def r_spec_nuBezout (a1 : Int) (b2 : Int) : Option (Int × Int × Int) :=
  (r_spec_nuGcd a1 b2).bind fun y3 =>
  bif (eqI b2 0) then
    (
      (r_spec_l1Sign a1).bind fun y5 =>
      some ((y3, y5, 0))
    )
  else
    (
      (nz y3).bind fun z6 =>
      (r_spec_l1Abs b2).bind fun y7 =>
      (nz y3).bind fun z8 =>
      (r_spec_nuInverse (w64 (Int.tdiv a1 y3)) (w64 (Int.tdiv y7 y3))).bind fun y9 =>
      (nz b2).bind fun z10 =>
      sI (w64 (Int.tdiv (w64 (y3 - (w64 (a1 * y9)))) b2)) fun t11 =>
      some ((y3, y9, t11))
    )

def r_spec_vaComplete (f1 : (Int × Int × Int)) (x2 : Int) (y3 : Int) : Option (((Int × Int × Int)) × ((Int × Int × Int × Int))) :=
  (r_spec_nuBezout x2 y3).bind fun y4 =>
  (r_spec_foValue f1 x2 y3).bind fun y5 =>
  sI (w64 (0 - y4.2.2)) fun q6 =>
  (r_spec_foPolar f1 x2 y3 q6 y4.2.1).bind fun y7 =>
  (r_spec_nuMod y7 (w64 (2 * y5))).bind fun y8 =>
  (nz (w64 (2 * y5))).bind fun z9 =>
  sI (w64 (Int.tdiv (w64 (y8 - y7)) (w64 (2 * y5)))) fun t10 =>
  sI (w64 (q6 + (w64 (x2 * t10)))) fun f11 =>
  sI (w64 (y4.2.1 + (w64 (y3 * t10)))) fun f12 =>
  sI (w64 (y7 + (w64 ((w64 (2 * y5)) * t10)))) fun b13 =>
  (r_spec_foDisc f1).bind fun y14 =>
  (nz (w64 (4 * y5))).bind fun z15 =>
  sI (w64 (Int.tdiv (w64 ((w64 (b13 * b13)) - y14)) (w64 (4 * y5)))) fun f16 =>
  some (((y5, b13, f16), (x2, f11, y3, f12)))

def r_spec_nuCommon (a1 : Int) (vm2 : Int) (b3 : Int) (vn4 : Int) : Option (Int × Int × Bool) :=
  (r_spec_nuGcd vm2 vn4).bind fun y5 =>
  (nz y5).bind fun z6 =>
  bif (!eqI (Int.tmod (w64 (b3 - a1)) y5) 0) then
    (
      some ((0, 0, false))
    )
  else
    (
      (nz y5).bind fun z8 =>
      (nz y5).bind fun z9 =>
      (nz y5).bind fun z10 =>
      (r_spec_nuInverse (w64 (Int.tdiv vm2 y5)) (w64 (Int.tdiv vn4 y5))).bind fun y11 =>
      (nz y5).bind fun z12 =>
      (r_spec_nuMod (w64 ((w64 (Int.tdiv (w64 (b3 - a1)) y5)) * y11)) (w64 (Int.tdiv vn4 y5))).bind fun y13 =>
      (nz y5).bind fun z14 =>
      sI (w64 ((w64 (Int.tdiv vm2 y5)) * vn4)) fun all15 =>
      (r_spec_nuMod (w64 (a1 + (w64 (vm2 * y13)))) all15).bind fun y16 =>
      some ((y16, all15, true))
    )

def r_spec_lvMake (f1 : (Int × Int × Int)) (vn2 : Int) (vr3 : Int) : Option (Int × Int × Int) :=
  (r_spec_reClass f1).bind fun y4 =>
  (r_spec_coPoint y4 vn2).bind fun y5 =>
  (r_spec_vaComplete y4 y5.1 y5.2).bind fun y6 =>
  (r_spec_nuMod (w64 (0 - vr3)) (w64 (2 * vn2))).bind fun y7 =>
  (r_spec_nuCommon y6.1.2.1 (w64 (2 * y6.1.1)) y7 (w64 (2 * vn2))).bind fun y8 =>
  (
    bif (ltI (w64 (Int.tdiv y8.2.1 2)) y8.1) then
      (
        sI (w64 (y8.1 - y8.2.1)) fun b11 =>
        some b11
      )
    else
      (
        some y8.1
      )
  ).bind fun j9 =>
  (r_spec_foDisc y4).bind fun y12 =>
  (nz (w64 (4 * y6.1.1))).bind fun z13 =>
  sI (w64 (Int.tdiv (w64 ((w64 (j9 * j9)) - y12)) (w64 (4 * y6.1.1)))) fun f14 =>
  sI (w64 (0 - j9)) fun f15 =>
  some ((f14, f15, y6.1.1))

def r_spec_nuGood (vn1 : Int) : Option Bool :=
  (r_spec_l1In vn1 (-1000000) 1000000).bind fun y2 =>
  some y2

def r_spec_foGood (f1 : (Int × Int × Int)) : Option Bool :=
  (r_spec_nuGood f1.1).bind fun y2 =>
  (bif y2 then ((r_spec_nuGood f1.2.1).bind fun y4 => some y4) else some false).bind fun b5 =>
  (bif b5 then ((r_spec_nuGood f1.2.2).bind fun y7 => some y7) else some false).bind fun b8 =>
  some b8

def r_spec_LevelClasses_L19 (d1 : Int) (e15 : Int) (t9 : Int) (vn2 : Int) (y16 : List ((Int × Int × Int))) (y8 : List Int) : Nat → Int → List ((Int × Int × Int)) → Option (List ((Int × Int × Int)) ⊕ ((List ((Int × Int × Int))) × Bool))
  | 0, _, _ => none
  | n + 1, t17, l18 =>
    bif (ltI t17 ((y16.length : Int))) then
      (
        (getI y16 t17).bind fun e22 =>
        (getI y16 t17).bind fun e23 =>
        (r_spec_lvMake e23 vn2 e15).bind fun y24 =>
        (r_spec_foGood y24).bind fun y25 =>
        bif (!y25) then
          (
            some (.inr (((([] : List ((Int × Int × Int))), false))))
          )
        else
          (
            (room (l18.length + ([y24]).length)).bind fun u27 =>
            sI (w64 (t17 + 1)) fun t28 =>
            r_spec_LevelClasses_L19 d1 e15 t9 vn2 y16 y8 n t28 (l18 ++ ([y24]))
          )
      )
    else
      (
        some (.inl l18)
      )
def r_spec_LevelClasses_L11 (d1 : Int) (vn2 : Int) (y8 : List Int) : Nat → Int → List ((Int × Int × Int)) → Option (List ((Int × Int × Int)) ⊕ ((List ((Int × Int × Int))) × Bool))
  | 0, _, _ => none
  | n + 1, t9, l10 =>
    bif (ltI t9 ((y8.length : Int))) then
      (
        (getI y8 t9).bind fun e14 =>
        (getI y8 t9).bind fun e15 =>
        (r_spec_reList d1).bind fun y16 =>
        (r_spec_LevelClasses_L19 d1 e15 t9 vn2 y16 y8 FU 0 l10).bind fun qo20 =>
        match qo20 with
        | .inr r => some (.inr r)
        | .inl o20 =>
          sI (w64 (t9 + 1)) fun t29 =>
          r_spec_LevelClasses_L11 d1 vn2 y8 n t29 o20
      )
    else
      (
        some (.inl l10)
      )
def r_spec_LevelClasses (d1 : Int) (vn2 : Int) : Option ((List ((Int × Int × Int))) × Bool) :=
  (r_spec_reDisc d1).bind fun y3 =>
  (bif (!y3) then some true else ((r_spec_lvGood d1 vn2).bind fun y5 => some (!y5))).bind fun b6 =>
  bif b6 then
    (
      some ((([] : List ((Int × Int × Int))), false))
    )
  else
    (
      (r_spec_lvRoots d1 vn2).bind fun y8 =>
      (r_spec_LevelClasses_L11 d1 vn2 y8 FU 0 (([] : List ((Int × Int × Int))))).bind fun qo12 =>
      match qo12 with
      | .inr r => some r
      | .inl o12 =>
        some ((o12, true))
    )

def r_laws_pSameForms_L5 (a1 : List ((Int × Int × Int))) (b2 : List ((Int × Int × Int))) : Nat → Int → Option (Unit ⊕ Bool)
  | 0, _ => none
  | n + 1, t4 =>
    bif (ltI t4 ((a1.length : Int))) then
      (
        (getI a1 t4).bind fun e8 =>
        (getI b2 t4).bind fun e9 =>
        (some (!((e8.1 == e9.1) && ((e8.2.1 == e9.2.1) && (e8.2.2 == e9.2.2))))).bind fun t10 =>
        bif t10 then
          (
            some (.inr false)
          )
        else
          (
            sI (w64 (t4 + 1)) fun t12 =>
            r_laws_pSameForms_L5 a1 b2 n t12
          )
      )
    else
      (
        some (.inl ())
      )
def r_laws_pSameForms (a1 : List ((Int × Int × Int))) (b2 : List ((Int × Int × Int))) : Option Bool :=
  bif (!eqI ((a1.length : Int)) ((b2.length : Int))) then
    (
      some false
    )
  else
    (
      (r_laws_pSameForms_L5 a1 b2 FU 0).bind fun qo6 =>
      match qo6 with
      | .inr r => some r
      | .inl o6 =>
        some true
    )

def r_impl_ReducedForms (d1 : Int) : Option ((List ((Int × Int × Int))) × Bool) :=
  (r_impl_isNegativeDisc d1).bind fun y2 =>
  bif (!y2) then
    (
      some ((([] : List ((Int × Int × Int))), false))
    )
  else
    (
      (r_impl_reducedForms d1).bind fun y4 =>
      some ((y4, true))
    )

def r_impl_ClassNumber (d1 : Int) : Option (Int × Bool) :=
  (r_impl_ReducedForms d1).bind fun y2 =>
  some (((y2.1.length : Int), y2.2))

def r_impl_RootsOfDiscriminant (d1 : Int) (vn2 : Int) : Option ((List Int) × Bool) :=
  (r_impl_areNumbers ([d1])).bind fun y3 =>
  (some (bif (bif (!y3) then true else (ltI vn2 1)) then true else (ltI 2500 vn2))).bind fun t6 =>
  bif t6 then
    (
      some ((([] : List Int), false))
    )
  else
    (
      (r_impl_rootsOfDiscriminant d1 vn2).bind fun y8 =>
      some ((y8, true))
    )

def r_laws_sameInts_L5 (a1 : List Int) (b2 : List Int) : Nat → Int → Option (Unit ⊕ Bool)
  | 0, _ => none
  | n + 1, t4 =>
    bif (ltI t4 ((a1.length : Int))) then
      (
        (getI a1 t4).bind fun e8 =>
        (getI b2 t4).bind fun e9 =>
        bif (!eqI e8 e9) then
          (
            some (.inr false)
          )
        else
          (
            sI (w64 (t4 + 1)) fun t11 =>
            r_laws_sameInts_L5 a1 b2 n t11
          )
      )
    else
      (
        some (.inl ())
      )
def r_laws_sameInts (a1 : List Int) (b2 : List Int) : Option Bool :=
  bif (!eqI ((a1.length : Int)) ((b2.length : Int))) then
    (
      some false
    )
  else
    (
      (r_laws_sameInts_L5 a1 b2 FU 0).bind fun qo6 =>
      match qo6 with
      | .inr r => some r
      | .inl o6 =>
        some true
    )

def r_laws_numberOf_L4 (b1 : List Int) : Nat → Int → Int → Option Int
  | 0, _, _ => none
  | n + 1, vn2, t3 =>
    bif (ltI t3 ((b1.length : Int))) then
      (
        (getI b1 t3).bind fun e7 =>
        sI (Int.tmod (w64 ((w64 (31 * vn2)) + (IntKind.i64.wrap e7))) 1000003) fun vn8 =>
        sI (w64 (t3 + 1)) fun t9 =>
        r_laws_numberOf_L4 b1 n vn8 t9
      )
    else
      (
        some vn2
      )
def r_laws_numberOf (b1 : List Int) : Option Int :=
  (r_laws_numberOf_L4 b1 FU 0 0).bind fun o5 =>
  some o5

def r_impl_isDefinite (f1 : (Int × Int × Int)) : Option Bool :=
  (r_impl_IsForm f1).bind fun y2 =>
  (bif y2 then ((r_impl_Form_disc f1).bind fun y4 => some (ltI y4 0)) else some false).bind fun b5 =>
  some (bif b5 then (ltI 0 f1.1) else false)

def r_impl_isShownForm (f1 : (Int × Int × Int)) : Option Bool :=
  (r_impl_isDefinite f1).bind fun y2 =>
  (bif y2 then ((r_impl_Form_disc f1).bind fun y4 => some (leI (-2000) y4)) else some false).bind fun b5 =>
  some b5

def r_impl_isClassForm (f1 : (Int × Int × Int)) : Option Bool :=
  (r_impl_isShownForm f1).bind fun y2 =>
  (bif y2 then ((r_impl_Form_content f1).bind fun y4 => some (eqI y4 1)) else some false).bind fun b5 =>
  some b5

def r_impl_hasLevel (f1 : (Int × Int × Int)) (vn2 : Int) : Option Bool :=
  (r_impl_isClassForm f1).bind fun y3 =>
  (bif y3 then ((r_impl_Form_disc f1).bind fun y5 => (r_impl_isLevel y5 vn2).bind fun y6 => some y6) else some false).bind fun b7 =>
  some b7

def r_impl_isLevelForm (f1 : (Int × Int × Int)) (vn2 : Int) : Option Bool :=
  (r_impl_hasLevel f1 vn2).bind fun y3 =>
  (bif y3 then ((nz vn2).bind fun z5 => some (eqI (Int.tmod f1.1 vn2) 0)) else some false).bind fun b6 =>
  some b6

def r_impl_one : Option (Int × Int × Int × Int) :=
  some ((1, 0, 0, 1))

def r_impl_Form_step (f1 : (Int × Int × Int)) : Option (Int × Int × Int × Int) :=
  (r_impl_Form_isReduced f1).bind fun y2 =>
  bif y2 then
    (
      (r_impl_one).bind fun y4 =>
      some y4
    )
  else
    (
      (r_impl_Form_isNormal f1).bind fun y5 =>
      bif (!y5) then
        (
          (r_impl_floorDiv (w64 (f1.1 - f1.2.1)) (w64 (2 * f1.1))).bind fun y7 =>
          some ((1, y7, 0, 1))
        )
      else
        (
          some ((0, -1, 1, 0))
        )
    )

def r_impl_Matrix_times (vm1 : (Int × Int × Int × Int)) (vn2 : (Int × Int × Int × Int)) : Option (Int × Int × Int × Int) :=
  sI (w64 ((w64 (vm1.1 * vn2.1)) + (w64 (vm1.2.1 * vn2.2.2.1)))) fun f3 =>
  sI (w64 ((w64 (vm1.1 * vn2.2.1)) + (w64 (vm1.2.1 * vn2.2.2.2)))) fun f4 =>
  sI (w64 ((w64 (vm1.2.2.1 * vn2.1)) + (w64 (vm1.2.2.2 * vn2.2.2.1)))) fun f5 =>
  sI (w64 ((w64 (vm1.2.2.1 * vn2.2.1)) + (w64 (vm1.2.2.2 * vn2.2.2.2)))) fun f6 =>
  some ((f3, f4, f5, f6))

def r_impl_reduce_L10 : Nat → Int → Int → Int → Int → Int → Int → Int → Option (Int × Int × Int × Int × Int × Int × Int)
  | 0, _, _, _, _, _, _, _ => none
  | n + 1, f3, f4, f5, f6, f7, f8, f9 =>
    (r_impl_Form_isReduced ((f7, f8, f9))).bind fun y12 =>
    bif (!y12) then
      (
        (r_impl_Form_step ((f7, f8, f9))).bind fun y14 =>
        (r_impl_Form_substitute ((f7, f8, f9)) y14).bind fun y15 =>
        (r_impl_Matrix_times ((f3, f4, f5, f6)) y14).bind fun y16 =>
        r_impl_reduce_L10 n y16.1 y16.2.1 y16.2.2.1 y16.2.2.2 y15.1 y15.2.1 y15.2.2
      )
    else
      (
        some (f3, f4, f5, f6, f7, f8, f9)
      )
def r_impl_reduce (f1 : (Int × Int × Int)) : Option (((Int × Int × Int)) × ((Int × Int × Int × Int))) :=
  (r_impl_one).bind fun y2 =>
  (r_impl_reduce_L10 FU y2.1 y2.2.1 y2.2.2.1 y2.2.2.2 f1.1 f1.2.1 f1.2.2).bind fun o11 =>
  some ((o11.2.2.2.2, (o11.1, o11.2.1, o11.2.2.1, o11.2.2.2.1)))

def r_impl_Form_turns_V (f1 : List ((Int × Int × Int × Int))) : Nat → Int → List ((Int × Int × Int × Int)) → Option (List ((Int × Int × Int × Int)))
  | 0, _, _ => none
  | n + 1, t3, l4 =>
    bif (ltI t3 ((f1.length : Int))) then
      (
        (getI f1 t3).bind fun e8 =>
        (room ((f1 ++ l4).length + ([(w64 (0 - e8.1), w64 (0 - e8.2.1), w64 (0 - e8.2.2.1), w64 (0 - e8.2.2.2))]).length)).bind fun u9 =>
        sI (w64 (t3 + 1)) fun t11 =>
        r_impl_Form_turns_V f1 n t11 (l4 ++ ([(w64 (0 - e8.1), w64 (0 - e8.2.1), w64 (0 - e8.2.2.1), w64 (0 - e8.2.2.2))]))
      )
    else
      (
        some l4
      )

def r_impl_Form_turns (f1 : (Int × Int × Int)) : Option (List ((Int × Int × Int × Int))) :=
  (r_impl_one).bind fun y2 =>
  bif (bif (eqI f1.1 f1.2.2) then (eqI f1.2.1 0) else false) then
    (
      (room (([y2]).length + ([(0, -1, 1, 0)]).length)).bind fun u5 =>
      (r_impl_Form_turns_V (([y2]) ++ ([(0, -1, 1, 0)])) FU 0 []).bind fun oV =>
      some ((([y2]) ++ ([(0, -1, 1, 0)])) ++ oV)
    )
  else
    (
      bif (bif (eqI f1.1 f1.2.2) then (eqI f1.2.1 f1.1) else false) then
        (
          (room (([y2]).length + ([(0, -1, 1, 1), (1, 1, -1, 0)]).length)).bind fun u8 =>
          (r_impl_Form_turns_V (([y2]) ++ ([(0, -1, 1, 1), (1, 1, -1, 0)])) FU 0 []).bind fun oV =>
          some ((([y2]) ++ ([(0, -1, 1, 1), (1, 1, -1, 0)])) ++ oV)
        )
      else
        (
          (r_impl_Form_turns_V ([y2]) FU 0 []).bind fun oV =>
          some (([y2]) ++ oV)
        )
    )

def r_impl_Matrix_det (vm1 : (Int × Int × Int × Int)) : Option Int :=
  sI (w64 ((w64 (vm1.1 * vm1.2.2.2)) - (w64 (vm1.2.1 * vm1.2.2.1)))) fun t2 =>
  some t2

def r_impl_Matrix_inverse (vm1 : (Int × Int × Int × Int)) : Option (Int × Int × Int × Int) :=
  (r_impl_Matrix_det vm1).bind fun y2 =>
  sI (w64 (y2 * vm1.2.2.2)) fun f3 =>
  sI (w64 ((w64 (0 - y2)) * vm1.2.1)) fun f4 =>
  sI (w64 ((w64 (0 - y2)) * vm1.2.2.1)) fun f5 =>
  sI (w64 (y2 * vm1.1)) fun f6 =>
  some ((f3, f4, f5, f6))

def r_impl_IsMatrix (vm1 : (Int × Int × Int × Int)) : Option Bool :=
  (r_impl_areNumbers ([vm1.1, vm1.2.1, vm1.2.2.1, vm1.2.2.2])).bind fun y2 =>
  some y2

def r_impl_lessMatrix (vm1 : (Int × Int × Int × Int)) (vn2 : (Int × Int × Int × Int)) : Option Bool :=
  bif (!eqI vm1.1 vn2.1) then
    (
      some (ltI vm1.1 vn2.1)
    )
  else
    (
      bif (!eqI vm1.2.1 vn2.2.1) then
        (
          some (ltI vm1.2.1 vn2.2.1)
        )
      else
        (
          bif (!eqI vm1.2.2.1 vn2.2.2.1) then
            (
              some (ltI vm1.2.2.1 vn2.2.2.1)
            )
          else
            (
              some (ltI vm1.2.2.2 vn2.2.2.2)
            )
        )
    )

def r_impl_Automorphs_L19 (l7 : List ((Int × Int × Int × Int))) (t6 : Int) (y15 : (Int × Int × Int × Int)) (y4 : (((Int × Int × Int)) × ((Int × Int × Int × Int)))) (y5 : List ((Int × Int × Int × Int))) : Nat → Int → Option Int
  | 0, _ => none
  | n + 1, vat18 =>
    (bif (ltI 0 vat18) then ((getI l7 (w64 (vat18 - 1))).bind fun e22 => (getI l7 (w64 (vat18 - 1))).bind fun e23 => (r_impl_lessMatrix y15 e23).bind fun y24 => some y24) else some false).bind fun b25 =>
    bif b25 then
      (
        sI (w64 (vat18 - 1)) fun vat27 =>
        r_impl_Automorphs_L19 l7 t6 y15 y4 y5 n vat27
      )
    else
      (
        some vat18
      )
def r_impl_Automorphs_L8 (y4 : (((Int × Int × Int)) × ((Int × Int × Int × Int)))) (y5 : List ((Int × Int × Int × Int))) : Nat → Int → List ((Int × Int × Int × Int)) → Option (List ((Int × Int × Int × Int)) ⊕ ((List ((Int × Int × Int × Int))) × Bool))
  | 0, _, _ => none
  | n + 1, t6, l7 =>
    bif (ltI t6 ((y5.length : Int))) then
      (
        (getI y5 t6).bind fun e11 =>
        (getI y5 t6).bind fun e12 =>
        (r_impl_Matrix_times y4.2 e12).bind fun y13 =>
        (r_impl_Matrix_inverse y4.2).bind fun y14 =>
        (r_impl_Matrix_times y13 y14).bind fun y15 =>
        (r_impl_IsMatrix y15).bind fun y16 =>
        bif (!y16) then
          (
            some (.inr (((([] : List ((Int × Int × Int × Int))), false))))
          )
        else
          (
            (r_impl_Automorphs_L19 l7 t6 y15 y4 y5 FU ((l7.length : Int))).bind fun o20 =>
            (room (l7.length + ([(0, 0, 0, 0)]).length)).bind fun u28 =>
            (slc (l7 ++ ([(0, 0, 0, 0)])).length (w64 (o20 + 1)) ((l7 ++ ([(0, 0, 0, 0)])).length : Int)).bind fun u29 =>
            (slc (l7 ++ ([(0, 0, 0, 0)])).length o20 ((l7 ++ ([(0, 0, 0, 0)])).length : Int)).bind fun u30 =>
            (some (copyL (l7 ++ ([(0, 0, 0, 0)])) (Int.toNat (w64 (o20 + 1))) (Int.toNat o20))).bind fun l31 =>
            (getI l31 o20).bind fun e32 =>
            (getI l31 o20).bind fun e33 =>
            sI (w64 (t6 + 1)) fun t34 =>
            r_impl_Automorphs_L8 y4 y5 n t34 (l31.set (Int.toNat (o20)) y15)
          )
      )
    else
      (
        some (.inl l7)
      )
def r_impl_Automorphs (f1 : (Int × Int × Int)) : Option ((List ((Int × Int × Int × Int))) × Bool) :=
  (r_impl_isDefinite f1).bind fun y2 =>
  bif (!y2) then
    (
      some ((([] : List ((Int × Int × Int × Int))), false))
    )
  else
    (
      (r_impl_reduce f1).bind fun y4 =>
      (r_impl_Form_turns y4.1).bind fun y5 =>
      (r_impl_Automorphs_L8 y4 y5 FU 0 (([] : List ((Int × Int × Int × Int))))).bind fun qo9 =>
      match qo9 with
      | .inr r => some r
      | .inl o9 =>
        some ((o9, true))
    )

def r_impl_levelMatrix_L10 (vn3 : Int) (y4 : (((Int × Int × Int)) × ((Int × Int × Int × Int)))) (y5 : (((Int × Int × Int)) × ((Int × Int × Int × Int)))) (y6 : ((List ((Int × Int × Int × Int))) × Bool)) : Nat → Int → Option (Unit ⊕ (((Int × Int × Int × Int)) × Bool))
  | 0, _ => none
  | n + 1, t9 =>
    bif (ltI t9 ((y6.1.length : Int))) then
      (
        (getI y6.1 t9).bind fun e13 =>
        (getI y6.1 t9).bind fun e14 =>
        (r_impl_Matrix_times e14 y4.2).bind fun y15 =>
        (r_impl_Matrix_inverse y5.2).bind fun y16 =>
        (r_impl_Matrix_times y15 y16).bind fun y17 =>
        (nz vn3).bind fun z18 =>
        bif (eqI (Int.tmod y17.2.2.1 vn3) 0) then
          (
            some (.inr (((y17, true))))
          )
        else
          (
            sI (w64 (t9 + 1)) fun t20 =>
            r_impl_levelMatrix_L10 vn3 y4 y5 y6 n t20
          )
      )
    else
      (
        some (.inl ())
      )
def r_impl_levelMatrix (f1 : (Int × Int × Int)) (g2 : (Int × Int × Int)) (vn3 : Int) : Option (((Int × Int × Int × Int)) × Bool) :=
  (r_impl_reduce f1).bind fun y4 =>
  (r_impl_reduce g2).bind fun y5 =>
  (r_impl_Automorphs f1).bind fun y6 =>
  (some (!((y4.1.1 == y5.1.1) && ((y4.1.2.1 == y5.1.2.1) && (y4.1.2.2 == y5.1.2.2))))).bind fun t7 =>
  bif t7 then
    (
      some (((0, 0, 0, 0), false))
    )
  else
    (
      (r_impl_levelMatrix_L10 vn3 y4 y5 y6 FU 0).bind fun qo11 =>
      match qo11 with
      | .inr r => some r
      | .inl o11 =>
        some (((0, 0, 0, 0), false))
    )

def r_impl_AreLevelEquivalent (f1 : (Int × Int × Int)) (g2 : (Int × Int × Int)) (vn3 : Int) : Option (Bool × Bool) :=
  (r_impl_isLevelForm f1 vn3).bind fun y4 =>
  (bif (!y4) then some true else ((r_impl_isLevelForm g2 vn3).bind fun y6 => some (!y6))).bind fun b7 =>
  bif b7 then
    (
      some ((false, false))
    )
  else
    (
      (r_impl_levelMatrix f1 g2 vn3).bind fun y9 =>
      some ((y9.2, true))
    )

def r_impl_LevelRootOf (f1 : (Int × Int × Int)) (vn2 : Int) : Option (Int × Bool) :=
  (r_impl_isLevelForm f1 vn2).bind fun y3 =>
  bif (!y3) then
    (
      some ((0, false))
    )
  else
    (
      (r_impl_mod f1.2.1 (w64 (2 * vn2))).bind fun y5 =>
      some ((y5, true))
    )

def r_impl_IsLevelForm (f1 : (Int × Int × Int)) (vn2 : Int) : Option (Bool × Bool) :=
  (r_impl_isLevelForm f1 vn2).bind fun y3 =>
  (r_impl_hasLevel f1 vn2).bind fun y4 =>
  some ((y3, y4))

def r_laws_FnLevelClasses (code1 : List Int) (more2 : List Int) : Option Bool :=
  (r_laws_big code1 more2).bind fun y3 =>
  bif y3 then
    (
      some true
    )
  else
    (
      (r_spec_DrawLevelClasses code1).bind fun y5 =>
      (r_impl_LevelClasses y5.1 y5.2).bind fun y6 =>
      (r_spec_LevelClasses y5.1 y5.2).bind fun y7 =>
      (bif (y6.2 != y7.2) then some true else ((r_laws_pSameForms y6.1 y7.1).bind fun y9 => some (!y9))).bind fun b10 =>
      bif b10 then
        (
          some false
        )
      else
        (
          bif (!y6.2) then
            (
              some true
            )
          else
            (
              (r_impl_ClassNumber y5.1).bind fun y13 =>
              (r_impl_LevelRoots y5.1 y5.2).bind fun y14 =>
              (r_impl_RootsOfDiscriminant y5.1 y5.2).bind fun y15 =>
              (bif (bif (bif (bif (!y13.2) then true else (!y14.2)) then true else (!y15.2)) then true else (!eqI ((y6.1.length : Int)) (w64 (y13.1 * ((y14.1.length : Int)))))) then some true else ((r_laws_sameInts y14.1 y15.1).bind fun y20 => some (!y20))).bind fun b21 =>
              bif b21 then
                (
                  some false
                )
              else
                (
                  bif (eqI ((y6.1.length : Int)) 0) then
                    (
                      some true
                    )
                  else
                    (
                      (r_laws_numberOf more2).bind fun y24 =>
                      (nz ((y6.1.length : Int))).bind fun z25 =>
                      (nz ((y6.1.length : Int))).bind fun z26 =>
                      (nz ((y6.1.length : Int))).bind fun z27 =>
                      sI (Int.tmod y24 ((y6.1.length : Int))) fun i28 =>
                      sI (Int.tmod (w64 (Int.tdiv y24 ((y6.1.length : Int)))) ((y6.1.length : Int))) fun j29 =>
                      (getI y6.1 i28).bind fun e30 =>
                      (getI y6.1 i28).bind fun e31 =>
                      (getI y6.1 j29).bind fun e32 =>
                      (getI y6.1 j29).bind fun e33 =>
                      (r_impl_AreLevelEquivalent e31 e33 y5.2).bind fun y34 =>
                      (getI y6.1 i28).bind fun e35 =>
                      (getI y6.1 i28).bind fun e36 =>
                      (r_impl_LevelRootOf e36 y5.2).bind fun y37 =>
                      (getI y6.1 i28).bind fun e38 =>
                      (getI y6.1 i28).bind fun e39 =>
                      (r_impl_IsLevelForm e39 y5.2).bind fun y40 =>
                      (bif (bif (bif y34.2 then (y34.1 == (eqI i28 j29)) else false) then y37.2 else false) then ((nz y13.1).bind fun z44 => (getI y14.1 (w64 (Int.tdiv i28 y13.1))).bind fun e45 => (getI y14.1 (w64 (Int.tdiv i28 y13.1))).bind fun e46 => some (eqI y37.1 e46)) else some false).bind fun b47 =>
                      some (bif (bif b47 then y40.2 else false) then y40.1 else false)
                    )
                )
            )
        )
    )

end Go.Proofs.Ytgeajejmikaniaa
