/-
  What the functions of the program compute, as plain functions.
  Conditions: none.
-/
import Derived.Test.YtaegamgeljpboaaShRs

namespace Go.Proofs.Ytaegamgeljpboaa

set_option linter.unusedVariables false

def r_laws_big (code1 : List Int) (more2 : List Int) : Option Bool :=
  (some (bif (ltI 1048576 ((code1.length : Int))) then true else (ltI (w64 (1048576 - ((code1.length : Int)))) ((more2.length : Int))))).bind fun t4 =>
  some t4

def r_spec_l1Cur_next (c1 : ((List Int) × Int × Int)) : Option (Int × (((List Int) × Int × Int))) :=
  (
    bif (ltI c1.2.1 ((c1.1.length : Int))) then
      (
        (getI c1.1 c1.2.1).bind fun e4 =>
        sI (IntKind.i64.wrap e4) fun b5 =>
        some b5
      )
    else
      (
        some 0
      )
  ).bind fun j2 =>
  sI (w64 (c1.2.1 + 1)) fun f6 =>
  sI (IntKind.u64.wrap ((IntKind.u64.wrap ((IntKind.u64.wrap (c1.2.2 * 6364136223846793005)) + (IntKind.u64.wrap j2))) + 1442695040888963407)) fun f7 =>
  bif (leI f6 ((c1.1.length : Int))) then
    (
      some ((j2, (c1.1, f6, f7)))
    )
  else
    (
      sI (IntKind.i64.wrap (andI .u64 (shrI .u64 f7 40) 255)) fun t9 =>
      some ((t9, (c1.1, f6, f7)))
    )

def r_spec_l1Cur_pick (c1 : ((List Int) × Int × Int)) (vn2 : Int) : Option (Int × (((List Int) × Int × Int))) :=
  bif (leI vn2 1) then
    (
      some ((0, c1))
    )
  else
    (
      (r_spec_l1Cur_next c1).bind fun y4 =>
      bif (ltI 200 vn2) then
        (
          (r_spec_l1Cur_next y4.2).bind fun y6 =>
          sI (w64 ((w64 (y4.1 * 256)) + y6.1)) fun x7 =>
          (nz vn2).bind fun z8 =>
          sI (Int.tmod x7 vn2) fun t9 =>
          some ((t9, y6.2))
        )
      else
        (
          (nz vn2).bind fun z10 =>
          sI (Int.tmod y4.1 vn2) fun t11 =>
          some ((t11, y4.2))
        )
    )

def r_spec_l1Cur_among (c1 : ((List Int) × Int × Int)) (list2 : List Int) : Option (Int × (((List Int) × Int × Int))) :=
  (r_spec_l1Cur_pick c1 ((list2.length : Int))).bind fun y3 =>
  (getI list2 y3.1).bind fun e4 =>
  some ((e4, y3.2))

def r_spec_nuMod (a1 : Int) (vm2 : Int) : Option Int :=
  (nz vm2).bind fun z3 =>
  sI (Int.tmod a1 vm2) fun vr4 =>
  bif (ltI vr4 0) then
    (
      sI (w64 (vr4 + vm2)) fun vr6 =>
      some vr6
    )
  else
    (
      some vr4
    )

def r_spec_l1Most (a1 : Int) (b2 : Int) : Option Int :=
  bif (ltI b2 a1) then
    (
      some a1
    )
  else
    (
      some b2
    )

def r_spec_l1Cur_disc (c1 : ((List Int) × Int × Int)) : Option (Int × (((List Int) × Int × Int))) :=
  (r_spec_l1Cur_pick c1 16).bind fun y2 =>
  bif (eqI y2.1 0) then
    (
      (r_spec_l1Cur_among y2.2 ([-3, -4, -2000, -1999, -1996, -1995, -163, -2001, -2003, -2004, 0, 1, 5, -1, -2, -5, -9223372036854775808])).bind fun y4 =>
      some ((y4.1, y4.2))
    )
  else
    (
      (
        bif (eqI y2.1 1) then
          (
            some (eqI y2.1 1)
          )
        else
          (
            some (eqI y2.1 2)
          )
      ).bind fun j5 =>
      bif j5 then
        (
          (r_spec_l1Cur_pick y2.2 1998).bind fun y8 =>
          sI (w64 ((-3) - y8.1)) fun d9 =>
          (r_spec_nuMod d9 4).bind fun y10 =>
          bif (ltI 1 y10) then
            (
              (r_spec_l1Most (-2000) (w64 (d9 - 2))).bind fun y12 =>
              some ((y12, y8.2))
            )
          else
            (
              some ((d9, y8.2))
            )
        )
      else
        (
          (
            bif (eqI y2.1 3) then
              (
                some (eqI y2.1 3)
              )
            else
              (
                bif (eqI y2.1 4) then
                  (
                    some (eqI y2.1 4)
                  )
                else
                  (
                    some (eqI y2.1 5)
                  )
              )
          ).bind fun j13 =>
          bif j13 then
            (
              (r_spec_l1Cur_among y2.2 ([-84, -420, -231, -260, -455, -520, -660, -1155, -1320, -1380, -1428, -1540, -399, -1092, -1560, -1785])).bind fun y17 =>
              some ((y17.1, y17.2))
            )
          else
            (
              (
                bif (eqI y2.1 6) then
                  (
                    some (eqI y2.1 6)
                  )
                else
                  (
                    some (eqI y2.1 7)
                  )
              ).bind fun j18 =>
              bif j18 then
                (
                  (r_spec_l1Cur_pick y2.2 60).bind fun y21 =>
                  sI (w64 ((-4) * (w64 (1 + y21.1)))) fun t22 =>
                  some ((t22, y21.2))
                )
              else
                (
                  (r_spec_l1Cur_pick y2.2 50).bind fun y23 =>
                  sI (w64 ((-3) - (w64 (4 * y23.1)))) fun t24 =>
                  some ((t24, y23.2))
                )
            )
        )
    )

def r_spec_DrawReducedForms (code1 : List Int) : Option Int :=
  (r_spec_l1Cur_disc ((code1, 0, 0))).bind fun y2 =>
  some y2.1

def r_laws_numberOf_L4 (b1 : List Int) : Nat → Int → Int → Option Int
  | 0, _, _ => none
  | n + 1, vn2, t3 =>
    bif (ltI t3 ((b1.length : Int))) then
      (
        (getI b1 t3).bind fun e7 =>
        sI (Int.tmod (w64 ((w64 (31 * vn2)) + (IntKind.i64.wrap e7))) 1000003) fun vn8 =>
        sI (w64 (t3 + 1)) fun t9 =>
        r_laws_numberOf_L4 b1 n vn8 t9
      )
    else
      (
        some vn2
      )
def r_laws_numberOf (b1 : List Int) : Option Int :=
  (r_laws_numberOf_L4 b1 FU 0 0).bind fun o5 =>
  some o5

def r_impl_areNumbers_L3 (list1 : List Int) : Nat → Int → Option (Unit ⊕ Bool)
  | 0, _ => none
  | n + 1, t2 =>
    bif (ltI t2 ((list1.length : Int))) then
      (
        (getI list1 t2).bind fun e6 =>
        bif (bif (ltI e6 (-1000000)) then true else (ltI 1000000 e6)) then
          (
            some (.inr false)
          )
        else
          (
            sI (w64 (t2 + 1)) fun t9 =>
            r_impl_areNumbers_L3 list1 n t9
          )
      )
    else
      (
        some (.inl ())
      )
def r_impl_areNumbers (list1 : List Int) : Option Bool :=
  (r_impl_areNumbers_L3 list1 FU 0).bind fun qo4 =>
  match qo4 with
  | .inr r => some r
  | .inl o4 =>
    some true

def r_impl_rootsOfDiscriminant_L5 (d1 : Int) (vn2 : Int) : Nat → Int → List Int → Option (List Int)
  | 0, _, _ => none
  | n + 1, b3, l4 =>
    bif (ltI b3 (w64 (2 * vn2))) then
      (
        (nz (w64 (4 * vn2))).bind fun z8 =>
        (some (eqI (Int.tmod (w64 ((w64 (b3 * b3)) - d1)) (w64 (4 * vn2))) 0)).bind fun t9 =>
        bif t9 then
          (
            (room (l4.length + ([b3]).length)).bind fun u11 =>
            sI (w64 (b3 + 1)) fun b12 =>
            r_impl_rootsOfDiscriminant_L5 d1 vn2 n b12 (l4 ++ ([b3]))
          )
        else
          (
            sI (w64 (b3 + 1)) fun b13 =>
            r_impl_rootsOfDiscriminant_L5 d1 vn2 n b13 l4
          )
      )
    else
      (
        some l4
      )
def r_impl_rootsOfDiscriminant (d1 : Int) (vn2 : Int) : Option (List Int) :=
  (r_impl_rootsOfDiscriminant_L5 d1 vn2 FU 0 (([] : List Int))).bind fun o6 =>
  some o6

def r_impl_formsWithLeading_L6 (d1 : Int) (vn2 : Int) (y3 : List Int) : Nat → Int → List ((Int × Int × Int)) → Option (List ((Int × Int × Int)))
  | 0, _, _ => none
  | n + 1, t4, l5 =>
    bif (ltI t4 ((y3.length : Int))) then
      (
        (getI y3 t4).bind fun e9 =>
        (getI y3 t4).bind fun e10 =>
        (nz (w64 (4 * vn2))).bind fun z11 =>
        (room (l5.length + ([(vn2, e10, w64 (Int.tdiv (w64 ((w64 (e10 * e10)) - d1)) (w64 (4 * vn2))))]).length)).bind fun u12 =>
        (some (l5 ++ ([(vn2, e10, w64 (Int.tdiv (w64 ((w64 (e10 * e10)) - d1)) (w64 (4 * vn2))))]))).bind fun l13 =>
        sI (w64 (t4 + 1)) fun t14 =>
        r_impl_formsWithLeading_L6 d1 vn2 y3 n t14 l13
      )
    else
      (
        some l5
      )
def r_impl_formsWithLeading (d1 : Int) (vn2 : Int) : Option (List ((Int × Int × Int))) :=
  (r_impl_rootsOfDiscriminant d1 vn2).bind fun y3 =>
  (r_impl_formsWithLeading_L6 d1 vn2 y3 FU 0 (([] : List ((Int × Int × Int))))).bind fun o7 =>
  some o7

def r_impl_FormsWithLeading (d1 : Int) (vn2 : Int) : Option ((List ((Int × Int × Int))) × Bool) :=
  (r_impl_areNumbers ([d1])).bind fun y3 =>
  (some (bif (bif (!y3) then true else (ltI vn2 1)) then true else (ltI 2500 vn2))).bind fun t6 =>
  bif t6 then
    (
      some ((([] : List ((Int × Int × Int))), false))
    )
  else
    (
      (r_impl_formsWithLeading d1 vn2).bind fun y8 =>
      some ((y8, true))
    )

def r_impl_abs (vn1 : Int) : Option Int :=
  sI (mxI vn1 (w64 (0 - (mxI vn1 (-9223372036854775807))))) fun t2 =>
  some t2

def r_impl_gcd_L5 : Nat → Int → Int → Option Int
  | 0, _, _ => none
  | n + 1, a3, b4 =>
    bif (!eqI b4 0) then
      (
        (nz b4).bind fun z8 =>
        sI (Int.tmod a3 b4) fun b9 =>
        r_impl_gcd_L5 n b4 b9
      )
    else
      (
        some a3
      )
def r_impl_gcd (a1 : Int) (b2 : Int) : Option Int :=
  (r_impl_gcd_L5 FU a1 b2).bind fun o6 =>
  (r_impl_abs o6).bind fun y10 =>
  some y10

def r_impl_Form_content (f1 : (Int × Int × Int)) : Option Int :=
  (r_impl_gcd f1.2.1 f1.2.2).bind fun y2 =>
  (r_impl_gcd f1.1 y2).bind fun y3 =>
  some y3

def r_impl_primitiveOf_L4 (forms1 : List ((Int × Int × Int))) : Nat → Int → List ((Int × Int × Int)) → Option (List ((Int × Int × Int)))
  | 0, _, _ => none
  | n + 1, t2, l3 =>
    bif (ltI t2 ((forms1.length : Int))) then
      (
        (getI forms1 t2).bind fun e7 =>
        (r_impl_Form_content e7).bind fun y8 =>
        bif (eqI y8 1) then
          (
            (room (l3.length + ([e7]).length)).bind fun u10 =>
            sI (w64 (t2 + 1)) fun t11 =>
            r_impl_primitiveOf_L4 forms1 n t11 (l3 ++ ([e7]))
          )
        else
          (
            sI (w64 (t2 + 1)) fun t12 =>
            r_impl_primitiveOf_L4 forms1 n t12 l3
          )
      )
    else
      (
        some l3
      )
def r_impl_primitiveOf (forms1 : List ((Int × Int × Int))) : Option (List ((Int × Int × Int))) :=
  (r_impl_primitiveOf_L4 forms1 FU 0 (([] : List ((Int × Int × Int))))).bind fun o5 =>
  some o5

def r_impl_PrimitiveFormsWithLeading (d1 : Int) (vn2 : Int) : Option ((List ((Int × Int × Int))) × Bool) :=
  (r_impl_FormsWithLeading d1 vn2).bind fun y3 =>
  (r_impl_primitiveOf y3.1).bind fun y4 =>
  some ((y4, y3.2))

def r_spec_l1In (vn1 : Int) (lo2 : Int) (hi3 : Int) : Option Bool :=
  some (bif (leI lo2 vn1) then (leI vn1 hi3) else false)

def r_spec_nuGood (vn1 : Int) : Option Bool :=
  (r_spec_l1In vn1 (-1000000) 1000000).bind fun y2 =>
  some y2

def r_spec_roDisc_L5 (d1 : Int) (vn2 : Int) : Nat → Int → List Int → Option (List Int)
  | 0, _, _ => none
  | n + 1, b3, l4 =>
    bif (ltI b3 (w64 (2 * vn2))) then
      (
        (nz (w64 (4 * vn2))).bind fun z8 =>
        (some (eqI (Int.tmod (w64 ((w64 (b3 * b3)) - d1)) (w64 (4 * vn2))) 0)).bind fun t9 =>
        bif t9 then
          (
            (room (l4.length + ([b3]).length)).bind fun u11 =>
            sI (w64 (b3 + 1)) fun b12 =>
            r_spec_roDisc_L5 d1 vn2 n b12 (l4 ++ ([b3]))
          )
        else
          (
            sI (w64 (b3 + 1)) fun b13 =>
            r_spec_roDisc_L5 d1 vn2 n b13 l4
          )
      )
    else
      (
        some l4
      )
def r_spec_roDisc (d1 : Int) (vn2 : Int) : Option (List Int) :=
  (r_spec_roDisc_L5 d1 vn2 FU 0 (([] : List Int))).bind fun o6 =>
  some o6

def r_spec_roForms_L6 (d1 : Int) (vn2 : Int) (y3 : List Int) : Nat → Int → List ((Int × Int × Int)) → Option (List ((Int × Int × Int)))
  | 0, _, _ => none
  | n + 1, t4, l5 =>
    bif (ltI t4 ((y3.length : Int))) then
      (
        (getI y3 t4).bind fun e9 =>
        (getI y3 t4).bind fun e10 =>
        (nz (w64 (4 * vn2))).bind fun z11 =>
        (room (l5.length + ([(vn2, e10, w64 (Int.tdiv (w64 ((w64 (e10 * e10)) - d1)) (w64 (4 * vn2))))]).length)).bind fun u12 =>
        (some (l5 ++ ([(vn2, e10, w64 (Int.tdiv (w64 ((w64 (e10 * e10)) - d1)) (w64 (4 * vn2))))]))).bind fun l13 =>
        sI (w64 (t4 + 1)) fun t14 =>
        r_spec_roForms_L6 d1 vn2 y3 n t14 l13
      )
    else
      (
        some l5
      )
def r_spec_roForms (d1 : Int) (vn2 : Int) : Option (List ((Int × Int × Int))) :=
  (r_spec_roDisc d1 vn2).bind fun y3 =>
  (r_spec_roForms_L6 d1 vn2 y3 FU 0 (([] : List ((Int × Int × Int))))).bind fun o7 =>
  some o7

def r_spec_l1Abs (vn1 : Int) : Option Int :=
  (r_spec_l1Most vn1 (w64 (0 - vn1))).bind fun y2 =>
  some y2

def r_spec_nuGcd_L7 : Nat → Int → Int → Option Int
  | 0, _, _ => none
  | n + 1, a5, b6 =>
    bif (!eqI b6 0) then
      (
        (nz b6).bind fun z10 =>
        sI (Int.tmod a5 b6) fun b11 =>
        r_spec_nuGcd_L7 n b6 b11
      )
    else
      (
        some a5
      )
def r_spec_nuGcd (a1 : Int) (b2 : Int) : Option Int :=
  (r_spec_l1Abs a1).bind fun y3 =>
  (r_spec_l1Abs b2).bind fun y4 =>
  (r_spec_nuGcd_L7 FU y3 y4).bind fun o8 =>
  some o8

def r_spec_foContent (f1 : (Int × Int × Int)) : Option Int :=
  (r_spec_nuGcd f1.1 f1.2.1).bind fun y2 =>
  (r_spec_nuGcd y2 f1.2.2).bind fun y3 =>
  some y3

def r_spec_PrimitiveFormsWithLeading_L11 (y8 : List ((Int × Int × Int))) : Nat → Int → List ((Int × Int × Int)) → Option (List ((Int × Int × Int)))
  | 0, _, _ => none
  | n + 1, t9, l10 =>
    bif (ltI t9 ((y8.length : Int))) then
      (
        (getI y8 t9).bind fun e14 =>
        (getI y8 t9).bind fun e15 =>
        (r_spec_foContent e15).bind fun y16 =>
        bif (eqI y16 1) then
          (
            (room (l10.length + ([e15]).length)).bind fun u18 =>
            sI (w64 (t9 + 1)) fun t19 =>
            r_spec_PrimitiveFormsWithLeading_L11 y8 n t19 (l10 ++ ([e15]))
          )
        else
          (
            sI (w64 (t9 + 1)) fun t20 =>
            r_spec_PrimitiveFormsWithLeading_L11 y8 n t20 l10
          )
      )
    else
      (
        some l10
      )
def r_spec_PrimitiveFormsWithLeading (d1 : Int) (vn2 : Int) : Option ((List ((Int × Int × Int))) × Bool) :=
  (r_spec_nuGood d1).bind fun y3 =>
  (bif (!y3) then some true else ((r_spec_l1In vn2 1 2500).bind fun y5 => some (!y5))).bind fun b6 =>
  bif b6 then
    (
      some ((([] : List ((Int × Int × Int))), false))
    )
  else
    (
      (r_spec_roForms d1 vn2).bind fun y8 =>
      (r_spec_PrimitiveFormsWithLeading_L11 y8 FU 0 (([] : List ((Int × Int × Int))))).bind fun o12 =>
      some ((o12, true))
    )

def r_laws_qForms_L5 (a1 : List ((Int × Int × Int))) (b2 : List ((Int × Int × Int))) : Nat → Int → Option (Unit ⊕ Bool)
  | 0, _ => none
  | n + 1, t4 =>
    bif (ltI t4 ((a1.length : Int))) then
      (
        (getI a1 t4).bind fun e8 =>
        (getI b2 t4).bind fun e9 =>
        (some (!((e8.1 == e9.1) && ((e8.2.1 == e9.2.1) && (e8.2.2 == e9.2.2))))).bind fun t10 =>
        bif t10 then
          (
            some (.inr false)
          )
        else
          (
            sI (w64 (t4 + 1)) fun t12 =>
            r_laws_qForms_L5 a1 b2 n t12
          )
      )
    else
      (
        some (.inl ())
      )
def r_laws_qForms (a1 : List ((Int × Int × Int))) (b2 : List ((Int × Int × Int))) : Option Bool :=
  bif (!eqI ((a1.length : Int)) ((b2.length : Int))) then
    (
      some false
    )
  else
    (
      (r_laws_qForms_L5 a1 b2 FU 0).bind fun qo6 =>
      match qo6 with
      | .inr r => some r
      | .inl o6 =>
        some true
    )

def r_impl_mod (a1 : Int) (vm2 : Int) : Option Int :=
  (nz vm2).bind fun z3 =>
  sI (Int.tmod a1 vm2) fun vr4 =>
  bif (ltI vr4 0) then
    (
      sI (w64 (vr4 + vm2)) fun vr6 =>
      some vr6
    )
  else
    (
      some vr4
    )

def r_impl_isNegativeDisc (d1 : Int) : Option Bool :=
  (bif (bif (leI (-2000) d1) then (leI d1 (-3)) else false) then ((r_impl_mod d1 4).bind fun y4 => some (leI y4 1)) else some false).bind fun b5 =>
  some b5

def r_impl_AutomorphCount (d1 : Int) : Option (Int × Bool) :=
  (r_impl_isNegativeDisc d1).bind fun y2 =>
  bif (!y2) then
    (
      some ((0, false))
    )
  else
    (
      bif (eqI d1 (-3)) then
        (
          some ((6, true))
        )
      else
        (
          bif (eqI d1 (-4)) then
            (
              some ((4, true))
            )
          else
            (
              some ((2, true))
            )
        )
    )

def r_spec_reDisc (d1 : Int) : Option Bool :=
  (r_spec_l1In d1 (-2000) (-3)).bind fun y2 =>
  (bif y2 then ((r_spec_nuMod d1 4).bind fun y4 => some (ltI y4 2)) else some false).bind fun b5 =>
  some b5

def r_spec_reUnits (d1 : Int) : Option Int :=
  bif (eqI d1 (-3)) then
    (
      some 6
    )
  else
    (
      bif (eqI d1 (-4)) then
        (
          some 4
        )
      else
        (
          some 2
        )
    )

def r_spec_AutomorphCount (d1 : Int) : Option (Int × Bool) :=
  (r_spec_reDisc d1).bind fun y2 =>
  bif (!y2) then
    (
      some ((0, false))
    )
  else
    (
      (r_spec_reUnits d1).bind fun y4 =>
      some ((y4, true))
    )

def r_impl_Form_isNormal (f1 : (Int × Int × Int)) : Option Bool :=
  (some (bif (ltI (w64 (0 - f1.1)) f1.2.1) then (leI f1.2.1 f1.1) else false)).bind fun t3 =>
  some t3

def r_impl_Form_isReduced (f1 : (Int × Int × Int)) : Option Bool :=
  (r_impl_Form_isNormal f1).bind fun y2 =>
  (some (bif y2 then (bif (ltI f1.1 f1.2.2) then true else (bif (eqI f1.1 f1.2.2) then (leI 0 f1.2.1) else false)) else false)).bind fun t6 =>
  some t6

def r_impl_allReduced_L10 (a2 : Int) (d1 : Int) : Nat → Int → List ((Int × Int × Int)) → Option (List ((Int × Int × Int)))
  | 0, _, _ => none
  | n + 1, b8, l9 =>
    bif (leI b8 a2) then
      (
        (nz (w64 (4 * a2))).bind fun z13 =>
        (some (!eqI (Int.tmod (w64 ((w64 (b8 * b8)) - d1)) (w64 (4 * a2))) 0)).bind fun t14 =>
        bif t14 then
          (
            sI (w64 (b8 + 1)) fun b16 =>
            r_impl_allReduced_L10 a2 d1 n b16 l9
          )
        else
          (
            (nz (w64 (4 * a2))).bind fun z17 =>
            sI (w64 (Int.tdiv (w64 ((w64 (b8 * b8)) - d1)) (w64 (4 * a2)))) fun f18 =>
            (r_impl_Form_isReduced ((a2, b8, f18))).bind fun y19 =>
            bif y19 then
              (
                (room (l9.length + ([(a2, b8, f18)]).length)).bind fun u21 =>
                sI (w64 (b8 + 1)) fun b22 =>
                r_impl_allReduced_L10 a2 d1 n b22 (l9 ++ ([(a2, b8, f18)]))
              )
            else
              (
                sI (w64 (b8 + 1)) fun b23 =>
                r_impl_allReduced_L10 a2 d1 n b23 l9
              )
          )
      )
    else
      (
        some l9
      )
def r_impl_allReduced_L4 (d1 : Int) : Nat → Int → List ((Int × Int × Int)) → Option (List ((Int × Int × Int)))
  | 0, _, _ => none
  | n + 1, a2, l3 =>
    bif (leI (w64 ((w64 (3 * a2)) * a2)) (w64 (0 - d1))) then
      (
        sI (w64 (1 - a2)) fun b7 =>
        (r_impl_allReduced_L10 a2 d1 FU b7 l3).bind fun o11 =>
        sI (w64 (a2 + 1)) fun a24 =>
        r_impl_allReduced_L4 d1 n a24 o11
      )
    else
      (
        some l3
      )
def r_impl_allReduced (d1 : Int) : Option (List ((Int × Int × Int))) :=
  (r_impl_allReduced_L4 d1 FU 1 (([] : List ((Int × Int × Int))))).bind fun o5 =>
  some o5

def r_impl_reducedForms (d1 : Int) : Option (List ((Int × Int × Int))) :=
  (r_impl_allReduced d1).bind fun y2 =>
  (r_impl_primitiveOf y2).bind fun y3 =>
  some y3

def r_impl_ReducedForms (d1 : Int) : Option ((List ((Int × Int × Int))) × Bool) :=
  (r_impl_isNegativeDisc d1).bind fun y2 =>
  bif (!y2) then
    (
      some ((([] : List ((Int × Int × Int))), false))
    )
  else
    (
      (r_impl_reducedForms d1).bind fun y4 =>
      some ((y4, true))
    )

def r_impl_IsForm (f1 : (Int × Int × Int)) : Option Bool :=
  (r_impl_areNumbers ([f1.1, f1.2.1, f1.2.2])).bind fun y2 =>
  some y2

def r_impl_Form_disc (f1 : (Int × Int × Int)) : Option Int :=
  sI (w64 ((w64 (f1.2.1 * f1.2.1)) - (w64 ((w64 (4 * f1.1)) * f1.2.2)))) fun t2 =>
  some t2

def r_impl_isDefinite (f1 : (Int × Int × Int)) : Option Bool :=
  (r_impl_IsForm f1).bind fun y2 =>
  (bif y2 then ((r_impl_Form_disc f1).bind fun y4 => some (ltI y4 0)) else some false).bind fun b5 =>
  some (bif b5 then (ltI 0 f1.1) else false)

def r_impl_isShownForm (f1 : (Int × Int × Int)) : Option Bool :=
  (r_impl_isDefinite f1).bind fun y2 =>
  (bif y2 then ((r_impl_Form_disc f1).bind fun y4 => some (leI (-2000) y4)) else some false).bind fun b5 =>
  some b5

def r_impl_isShown (vn1 : Int) : Option Bool :=
  some (bif (leI 1 vn1) then (leI vn1 10000) else false)

def r_impl_root_L4 (vn1 : Int) : Nat → Int → Int → Option Int
  | 0, _, _ => none
  | n + 1, low2, high3 =>
    bif (ltI low2 high3) then
      (
        sI (w64 (Int.tdiv (w64 ((w64 (low2 + high3)) + 1)) 2)) fun vm7 =>
        bif (leI (w64 (vm7 * vm7)) vn1) then
          (
            r_impl_root_L4 vn1 n vm7 high3
          )
        else
          (
            sI (w64 (vm7 - 1)) fun high9 =>
            r_impl_root_L4 vn1 n low2 high9
          )
      )
    else
      (
        some low2
      )
def r_impl_root (vn1 : Int) : Option Int :=
  (r_impl_root_L4 vn1 FU 0 3000000000).bind fun o5 =>
  some o5

def r_impl_isSquare (vn1 : Int) : Option Bool :=
  (bif (leI 0 vn1) then ((r_impl_root vn1).bind fun y3 => (r_impl_root vn1).bind fun y4 => some (eqI (w64 (y3 * y4)) vn1)) else some false).bind fun b5 =>
  some b5

def r_impl_Form_points_L9 (f1 : (Int × Int × Int)) (vn2 : Int) (y3 : Int) (y5 : Int) : Nat → Int → List ((Int × Int)) → Option (List ((Int × Int)))
  | 0, _, _ => none
  | n + 1, x7, l8 =>
    bif (leI x7 y5) then
      (
        sI (w64 ((w64 ((w64 (y3 * x7)) * x7)) + (w64 ((w64 (4 * f1.2.2)) * vn2)))) fun square12 =>
        (r_impl_isSquare square12).bind fun y13 =>
        bif (!y13) then
          (
            sI (w64 (x7 + 1)) fun x15 =>
            r_impl_Form_points_L9 f1 vn2 y3 y5 n x15 l8
          )
        else
          (
            (r_impl_root square12).bind fun y16 =>
            (
              (nz (w64 (2 * f1.2.2))).bind fun z18 =>
              (some (eqI (Int.tmod (w64 ((w64 ((w64 (0 - f1.2.1)) * x7)) - y16)) (w64 (2 * f1.2.2))) 0)).bind fun t19 =>
              bif t19 then
                (
                  (nz (w64 (2 * f1.2.2))).bind fun z21 =>
                  (room (l8.length + ([(x7, w64 (Int.tdiv (w64 ((w64 ((w64 (0 - f1.2.1)) * x7)) - y16)) (w64 (2 * f1.2.2))))]).length)).bind fun u22 =>
                  (some (l8 ++ ([(x7, w64 (Int.tdiv (w64 ((w64 ((w64 (0 - f1.2.1)) * x7)) - y16)) (w64 (2 * f1.2.2))))]))).bind fun l23 =>
                  some l23
                )
              else
                (
                  some l8
                )
            ).bind fun j17 =>
            (bif (ltI 0 y16) then ((nz (w64 (2 * f1.2.2))).bind fun z25 => some (eqI (Int.tmod (w64 ((w64 ((w64 (0 - f1.2.1)) * x7)) + y16)) (w64 (2 * f1.2.2))) 0)) else some false).bind fun b26 =>
            bif b26 then
              (
                (nz (w64 (2 * f1.2.2))).bind fun z28 =>
                (room (j17.length + ([(x7, w64 (Int.tdiv (w64 ((w64 ((w64 (0 - f1.2.1)) * x7)) + y16)) (w64 (2 * f1.2.2))))]).length)).bind fun u29 =>
                (some (j17 ++ ([(x7, w64 (Int.tdiv (w64 ((w64 ((w64 (0 - f1.2.1)) * x7)) + y16)) (w64 (2 * f1.2.2))))]))).bind fun l30 =>
                sI (w64 (x7 + 1)) fun x31 =>
                r_impl_Form_points_L9 f1 vn2 y3 y5 n x31 l30
              )
            else
              (
                sI (w64 (x7 + 1)) fun x32 =>
                r_impl_Form_points_L9 f1 vn2 y3 y5 n x32 j17
              )
          )
      )
    else
      (
        some l8
      )
def r_impl_Form_points (f1 : (Int × Int × Int)) (vn2 : Int) : Option (List ((Int × Int))) :=
  (r_impl_Form_disc f1).bind fun y3 =>
  (nz (w64 (0 - y3))).bind fun z4 =>
  (r_impl_root (w64 (Int.tdiv (w64 ((w64 (4 * f1.2.2)) * vn2)) (w64 (0 - y3))))).bind fun y5 =>
  sI (w64 (0 - y5)) fun x6 =>
  (r_impl_Form_points_L9 f1 vn2 y3 y5 FU x6 (([] : List ((Int × Int))))).bind fun o10 =>
  some o10

def r_impl_Representations (f1 : (Int × Int × Int)) (vn2 : Int) : Option ((List ((Int × Int))) × Bool) :=
  (r_impl_isShownForm f1).bind fun y3 =>
  (bif (!y3) then some true else ((r_impl_isShown vn2).bind fun y5 => some (!y5))).bind fun b6 =>
  bif b6 then
    (
      some ((([] : List ((Int × Int))), false))
    )
  else
    (
      (r_impl_Form_points f1 vn2).bind fun y8 =>
      some ((y8, true))
    )

def r_impl_PrimitivePoints_L6 (y3 : ((List ((Int × Int))) × Bool)) : Nat → Int → List ((Int × Int)) → Option (List ((Int × Int)))
  | 0, _, _ => none
  | n + 1, t4, l5 =>
    bif (ltI t4 ((y3.1.length : Int))) then
      (
        (getI y3.1 t4).bind fun e9 =>
        (getI y3.1 t4).bind fun e10 =>
        (r_impl_gcd e10.1 e10.2).bind fun y11 =>
        bif (eqI y11 1) then
          (
            (room (l5.length + ([e10]).length)).bind fun u13 =>
            sI (w64 (t4 + 1)) fun t14 =>
            r_impl_PrimitivePoints_L6 y3 n t14 (l5 ++ ([e10]))
          )
        else
          (
            sI (w64 (t4 + 1)) fun t15 =>
            r_impl_PrimitivePoints_L6 y3 n t15 l5
          )
      )
    else
      (
        some l5
      )
def r_impl_PrimitivePoints (f1 : (Int × Int × Int)) (vn2 : Int) : Option ((List ((Int × Int))) × Bool) :=
  (r_impl_Representations f1 vn2).bind fun y3 =>
  (r_impl_PrimitivePoints_L6 y3 FU 0 (([] : List ((Int × Int))))).bind fun o7 =>
  some ((o7, y3.2))

def r_laws_FnRootCounts_L23 (vn7 : Int) (y14 : (Int × Bool)) (y19 : ((List ((Int × Int × Int))) × Bool)) (y8 : ((List ((Int × Int × Int))) × Bool)) : Nat → Int → Int → Option (Int ⊕ Bool)
  | 0, _, _ => none
  | n + 1, sum21, t22 =>
    bif (ltI t22 ((y19.1.length : Int))) then
      (
        (getI y19.1 t22).bind fun e26 =>
        (getI y19.1 t22).bind fun e27 =>
        (r_impl_PrimitivePoints e27 vn7).bind fun y28 =>
        bif (!y28.2) then
          (
            some (.inr false)
          )
        else
          (
            sI (w64 (sum21 + ((y28.1.length : Int)))) fun sum30 =>
            sI (w64 (t22 + 1)) fun t31 =>
            r_laws_FnRootCounts_L23 vn7 y14 y19 y8 n sum30 t31
          )
      )
    else
      (
        some (.inl sum21)
      )
def r_laws_FnRootCounts (code1 : List Int) (more2 : List Int) : Option Bool :=
  (r_laws_big code1 more2).bind fun y3 =>
  bif y3 then
    (
      some true
    )
  else
    (
      (r_spec_DrawReducedForms code1).bind fun y5 =>
      (r_laws_numberOf more2).bind fun y6 =>
      sI (w64 (1 + (Int.tmod y6 200))) fun vn7 =>
      (r_impl_PrimitiveFormsWithLeading y5 vn7).bind fun y8 =>
      (r_spec_PrimitiveFormsWithLeading y5 vn7).bind fun y9 =>
      (bif (y8.2 != y9.2) then some true else ((r_laws_qForms y8.1 y9.1).bind fun y11 => some (!y11))).bind fun b12 =>
      bif b12 then
        (
          some false
        )
      else
        (
          (r_impl_AutomorphCount y5).bind fun y14 =>
          (r_spec_AutomorphCount y5).bind fun y15 =>
          bif (bif (y14.2 != y15.2) then true else (!eqI y14.1 y15.1)) then
            (
              some false
            )
          else
            (
              bif y14.2 then
                (
                  (r_impl_ReducedForms y5).bind fun y19 =>
                  bif (!y19.2) then
                    (
                      some false
                    )
                  else
                    (
                      (r_laws_FnRootCounts_L23 vn7 y14 y19 y8 FU 0 0).bind fun qo24 =>
                      match qo24 with
                      | .inr r => some r
                      | .inl o24 =>
                        some (eqI o24 (w64 (y14.1 * ((y8.1.length : Int)))))
                    )
                )
              else
                (
                  some true
                )
            )
        )
    )

end Go.Proofs.Ytaegamgeljpboaa
