/-
  What the functions of the program compute, as plain functions.
  Conditions: none.
-/
import Derived.Test.YtelefcfmbpdomaaShR

namespace Go.Proofs.Ytelefcfmbpdomaa

set_option linter.unusedVariables false

def r_laws_big (code1 : List Int) (more2 : List Int) : Option Bool :=
  (some (bif (ltI 1048576 ((code1.length : Int))) then true else (ltI (w64 (1048576 - ((code1.length : Int)))) ((more2.length : Int))))).bind fun t4 =>
  some t4

def r_spec_l1Cur_next (c1 : ((List Int) × Int × Int)) : Option (Int × (((List Int) × Int × Int))) :=
  (
    bif (ltI c1.2.1 ((c1.1.length : Int))) then
      (
        (getI c1.1 c1.2.1).bind fun e4 =>
        sI (IntKind.i64.wrap e4) fun b5 =>
        some b5
      )
    else
      (
        some 0
      )
  ).bind fun j2 =>
  sI (w64 (c1.2.1 + 1)) fun f6 =>
  sI (IntKind.u64.wrap ((IntKind.u64.wrap ((IntKind.u64.wrap (c1.2.2 * 6364136223846793005)) + (IntKind.u64.wrap j2))) + 1442695040888963407)) fun f7 =>
  bif (leI f6 ((c1.1.length : Int))) then
    (
      some ((j2, (c1.1, f6, f7)))
    )
  else
    (
      sI (IntKind.i64.wrap (andI .u64 (shrI .u64 f7 40) 255)) fun t9 =>
      some ((t9, (c1.1, f6, f7)))
    )

def r_spec_l1Cur_pick (c1 : ((List Int) × Int × Int)) (vn2 : Int) : Option (Int × (((List Int) × Int × Int))) :=
  bif (leI vn2 1) then
    (
      some ((0, c1))
    )
  else
    (
      (r_spec_l1Cur_next c1).bind fun y4 =>
      bif (ltI 200 vn2) then
        (
          (r_spec_l1Cur_next y4.2).bind fun y6 =>
          sI (w64 ((w64 (y4.1 * 256)) + y6.1)) fun x7 =>
          (nz vn2).bind fun z8 =>
          sI (Int.tmod x7 vn2) fun t9 =>
          some ((t9, y6.2))
        )
      else
        (
          (nz vn2).bind fun z10 =>
          sI (Int.tmod y4.1 vn2) fun t11 =>
          some ((t11, y4.2))
        )
    )

def r_spec_l1Cur_among (c1 : ((List Int) × Int × Int)) (list2 : List Int) : Option (Int × (((List Int) × Int × Int))) :=
  (r_spec_l1Cur_pick c1 ((list2.length : Int))).bind fun y3 =>
  (getI list2 y3.1).bind fun e4 =>
  some ((e4, y3.2))

def r_spec_DrawRelationTerms (code1 : List Int) : Option Int :=
  (r_spec_l1Cur_pick ((code1, 0, 0)) 200).bind fun y2 =>
  (r_spec_l1Cur_pick y2.2 200).bind fun y3 =>
  (r_spec_l1Cur_among y3.2 ([0, 1, 2, 3, 4, 9, 16, 500, 501, -1, w64 (1 + y2.1), w64 (1 + y3.1)])).bind fun y4 =>
  some y4.1

def r_spec_DrawRelationSum (code1 : List Int) : Option Int :=
  (r_spec_DrawRelationTerms code1).bind fun y2 =>
  some y2

def r_impl_isRelation (vn1 : Int) : Option Bool :=
  some (bif (leI 1 vn1) then (leI vn1 500) else false)

def r_impl_mod (a1 : Int) (vm2 : Int) : Option Int :=
  (nz vm2).bind fun z3 =>
  sI (Int.tmod a1 vm2) fun vr4 =>
  bif (ltI vr4 0) then
    (
      sI (w64 (vr4 + vm2)) fun vr6 =>
      some vr6
    )
  else
    (
      some vr4
    )

def r_impl_isNegativeDisc (d1 : Int) : Option Bool :=
  (bif (bif (leI (-2000) d1) then (leI d1 (-3)) else false) then ((r_impl_mod d1 4).bind fun y4 => some (leI y4 1)) else some false).bind fun b5 =>
  some b5

def r_impl_Form_isNormal (f1 : (Int × Int × Int)) : Option Bool :=
  (some (bif (ltI (w64 (0 - f1.1)) f1.2.1) then (leI f1.2.1 f1.1) else false)).bind fun t3 =>
  some t3

def r_impl_Form_isReduced (f1 : (Int × Int × Int)) : Option Bool :=
  (r_impl_Form_isNormal f1).bind fun y2 =>
  (some (bif y2 then (bif (ltI f1.1 f1.2.2) then true else (bif (eqI f1.1 f1.2.2) then (leI 0 f1.2.1) else false)) else false)).bind fun t6 =>
  some t6

def r_impl_allReduced_L10 (a2 : Int) (d1 : Int) : Nat → Int → List ((Int × Int × Int)) → Option (List ((Int × Int × Int)))
  | 0, _, _ => none
  | n + 1, b8, l9 =>
    bif (leI b8 a2) then
      (
        (nz (w64 (4 * a2))).bind fun z13 =>
        (some (!eqI (Int.tmod (w64 ((w64 (b8 * b8)) - d1)) (w64 (4 * a2))) 0)).bind fun t14 =>
        bif t14 then
          (
            sI (w64 (b8 + 1)) fun b16 =>
            r_impl_allReduced_L10 a2 d1 n b16 l9
          )
        else
          (
            (nz (w64 (4 * a2))).bind fun z17 =>
            sI (w64 (Int.tdiv (w64 ((w64 (b8 * b8)) - d1)) (w64 (4 * a2)))) fun f18 =>
            (r_impl_Form_isReduced ((a2, b8, f18))).bind fun y19 =>
            bif y19 then
              (
                (room (l9.length + ([(a2, b8, f18)]).length)).bind fun u21 =>
                sI (w64 (b8 + 1)) fun b22 =>
                r_impl_allReduced_L10 a2 d1 n b22 (l9 ++ ([(a2, b8, f18)]))
              )
            else
              (
                sI (w64 (b8 + 1)) fun b23 =>
                r_impl_allReduced_L10 a2 d1 n b23 l9
              )
          )
      )
    else
      (
        some l9
      )
def r_impl_allReduced_L4 (d1 : Int) : Nat → Int → List ((Int × Int × Int)) → Option (List ((Int × Int × Int)))
  | 0, _, _ => none
  | n + 1, a2, l3 =>
    bif (leI (w64 ((w64 (3 * a2)) * a2)) (w64 (0 - d1))) then
      (
        sI (w64 (1 - a2)) fun b7 =>
        (r_impl_allReduced_L10 a2 d1 FU b7 l3).bind fun o11 =>
        sI (w64 (a2 + 1)) fun a24 =>
        r_impl_allReduced_L4 d1 n a24 o11
      )
    else
      (
        some l3
      )
def r_impl_allReduced (d1 : Int) : Option (List ((Int × Int × Int))) :=
  (r_impl_allReduced_L4 d1 FU 1 (([] : List ((Int × Int × Int))))).bind fun o5 =>
  some o5

def r_impl_hurwitz_L8 (y5 : List ((Int × Int × Int))) : Nat → Int → Int → Option Int
  | 0, _, _ => none
  | n + 1, sum6, t7 =>
    bif (ltI t7 ((y5.length : Int))) then
      (
        (getI y5 t7).bind fun e11 =>
        (getI y5 t7).bind fun e12 =>
        bif (bif (eqI e12.2.1 0) then (eqI e12.1 e12.2.2) else false) then
          (
            sI (w64 (sum6 + 6)) fun sum15 =>
            sI (w64 (t7 + 1)) fun t16 =>
            r_impl_hurwitz_L8 y5 n sum15 t16
          )
        else
          (
            bif (bif (eqI e12.1 e12.2.1) then (eqI e12.1 e12.2.2) else false) then
              (
                sI (w64 (sum6 + 4)) fun sum19 =>
                sI (w64 (t7 + 1)) fun t20 =>
                r_impl_hurwitz_L8 y5 n sum19 t20
              )
            else
              (
                sI (w64 (sum6 + 12)) fun sum21 =>
                sI (w64 (t7 + 1)) fun t22 =>
                r_impl_hurwitz_L8 y5 n sum21 t22
              )
          )
      )
    else
      (
        some sum6
      )
def r_impl_hurwitz (vn1 : Int) : Option Int :=
  bif (eqI vn1 0) then
    (
      some (-1)
    )
  else
    (
      (r_impl_isNegativeDisc (w64 (0 - vn1))).bind fun y3 =>
      bif (!y3) then
        (
          some 0
        )
      else
        (
          (r_impl_allReduced (w64 (0 - vn1))).bind fun y5 =>
          (r_impl_hurwitz_L8 y5 FU 0 0).bind fun o9 =>
          some o9
        )
    )

def r_impl_RelationTerms_L6 (vn1 : Int) : Nat → Int → List Int → Option (List Int)
  | 0, _, _ => none
  | n + 1, t4, l5 =>
    bif (leI (w64 (t4 * t4)) (w64 (4 * vn1))) then
      (
        (r_impl_hurwitz (w64 ((w64 (4 * vn1)) - (w64 (t4 * t4))))).bind fun y9 =>
        (room (l5.length + ([y9]).length)).bind fun u10 =>
        sI (w64 (t4 + 1)) fun t11 =>
        r_impl_RelationTerms_L6 vn1 n t11 (l5 ++ ([y9]))
      )
    else
      (
        some l5
      )
def r_impl_RelationTerms (vn1 : Int) : Option ((List Int) × Bool) :=
  (r_impl_isRelation vn1).bind fun y2 =>
  bif (!y2) then
    (
      some ((([] : List Int), false))
    )
  else
    (
      (r_impl_RelationTerms_L6 vn1 FU 0 (([] : List Int))).bind fun o7 =>
      some ((o7, true))
    )

def r_impl_RelationSum_L10 (t7 : Int) (y2 : ((List Int) × Bool)) : Nat → Int → Int → Option Int
  | 0, _, _ => none
  | n + 1, sum8, t9 =>
    bif (ltI t9 t7) then
      (
        (getI (subl y2.1 1 ((y2.1.length : Int))) t9).bind fun e13 =>
        sI (w64 (sum8 + (w64 (2 * e13)))) fun sum14 =>
        sI (w64 (t9 + 1)) fun t15 =>
        r_impl_RelationSum_L10 t7 y2 n sum14 t15
      )
    else
      (
        some sum8
      )
def r_impl_RelationSum (vn1 : Int) : Option (Int × Bool) :=
  (r_impl_RelationTerms vn1).bind fun y2 =>
  bif (!y2.2) then
    (
      some ((0, false))
    )
  else
    (
      (getI y2.1 0).bind fun e4 =>
      (getI y2.1 0).bind fun e5 =>
      (slc y2.1.length 1 ((y2.1.length : Int))).bind fun u6 =>
      sI (((subl y2.1 1 ((y2.1.length : Int))).length : Int)) fun t7 =>
      (r_impl_RelationSum_L10 t7 y2 FU e5 0).bind fun o11 =>
      some ((o11, true))
    )

def r_spec_l1In (vn1 : Int) (lo2 : Int) (hi3 : Int) : Option Bool :=
  some (bif (leI lo2 vn1) then (leI vn1 hi3) else false)

def r_spec_nuMod (a1 : Int) (vm2 : Int) : Option Int :=
  (nz vm2).bind fun z3 =>
  sI (Int.tmod a1 vm2) fun vr4 =>
  bif (ltI vr4 0) then
    (
      sI (w64 (vr4 + vm2)) fun vr6 =>
      some vr6
    )
  else
    (
      some vr4
    )

def r_spec_reDisc (d1 : Int) : Option Bool :=
  (r_spec_l1In d1 (-2000) (-3)).bind fun y2 =>
  (bif y2 then ((r_spec_nuMod d1 4).bind fun y4 => some (ltI y4 2)) else some false).bind fun b5 =>
  some b5

def r_spec_foDisc (f1 : (Int × Int × Int)) : Option Int :=
  sI (w64 ((w64 (f1.2.1 * f1.2.1)) - (w64 ((w64 (4 * f1.1)) * f1.2.2)))) fun t2 =>
  some t2

def r_spec_reIs (f1 : (Int × Int × Int)) : Option Bool :=
  (some (bif (bif (ltI (w64 (0 - f1.1)) f1.2.1) then (leI f1.2.1 f1.1) else false) then (bif (ltI f1.1 f1.2.2) then true else (bif (eqI f1.1 f1.2.2) then (leI 0 f1.2.1) else false)) else false)).bind fun t6 =>
  some t6

def r_spec_reAll_L10 (a2 : Int) (d1 : Int) : Nat → Int → List ((Int × Int × Int)) → Option (List ((Int × Int × Int)))
  | 0, _, _ => none
  | n + 1, b8, l9 =>
    bif (leI b8 a2) then
      (
        (nz (w64 (4 * a2))).bind fun z13 =>
        sI (w64 (Int.tdiv (w64 ((w64 (b8 * b8)) - d1)) (w64 (4 * a2)))) fun f14 =>
        (r_spec_foDisc ((a2, b8, f14))).bind fun y15 =>
        (bif (eqI y15 d1) then ((r_spec_reIs ((a2, b8, f14))).bind fun y17 => some y17) else some false).bind fun b18 =>
        bif b18 then
          (
            (room (l9.length + ([(a2, b8, f14)]).length)).bind fun u20 =>
            sI (w64 (b8 + 1)) fun b21 =>
            r_spec_reAll_L10 a2 d1 n b21 (l9 ++ ([(a2, b8, f14)]))
          )
        else
          (
            sI (w64 (b8 + 1)) fun b22 =>
            r_spec_reAll_L10 a2 d1 n b22 l9
          )
      )
    else
      (
        some l9
      )
def r_spec_reAll_L4 (d1 : Int) : Nat → Int → List ((Int × Int × Int)) → Option (List ((Int × Int × Int)))
  | 0, _, _ => none
  | n + 1, a2, l3 =>
    bif (leI (w64 ((w64 (3 * a2)) * a2)) (w64 (0 - d1))) then
      (
        sI (w64 (1 - a2)) fun b7 =>
        (r_spec_reAll_L10 a2 d1 FU b7 l3).bind fun o11 =>
        sI (w64 (a2 + 1)) fun a23 =>
        r_spec_reAll_L4 d1 n a23 o11
      )
    else
      (
        some l3
      )
def r_spec_reAll (d1 : Int) : Option (List ((Int × Int × Int))) :=
  (r_spec_reAll_L4 d1 FU 1 (([] : List ((Int × Int × Int))))).bind fun o5 =>
  some o5

def r_spec_huTwelve_L8 (y5 : List ((Int × Int × Int))) : Nat → Int → Int → Option Int
  | 0, _, _ => none
  | n + 1, sum6, t7 =>
    bif (ltI t7 ((y5.length : Int))) then
      (
        (getI y5 t7).bind fun e11 =>
        (getI y5 t7).bind fun e12 =>
        bif (bif (eqI e12.1 e12.2.2) then (eqI e12.2.1 0) else false) then
          (
            sI (w64 (sum6 + 6)) fun sum15 =>
            sI (w64 (t7 + 1)) fun t16 =>
            r_spec_huTwelve_L8 y5 n sum15 t16
          )
        else
          (
            bif (bif (eqI e12.1 e12.2.2) then (eqI e12.1 e12.2.1) else false) then
              (
                sI (w64 (sum6 + 4)) fun sum19 =>
                sI (w64 (t7 + 1)) fun t20 =>
                r_spec_huTwelve_L8 y5 n sum19 t20
              )
            else
              (
                sI (w64 (sum6 + 12)) fun sum21 =>
                sI (w64 (t7 + 1)) fun t22 =>
                r_spec_huTwelve_L8 y5 n sum21 t22
              )
          )
      )
    else
      (
        some sum6
      )
def r_spec_huTwelve (vn1 : Int) : Option Int :=
  bif (eqI vn1 0) then
    (
      some (-1)
    )
  else
    (
      (r_spec_reDisc (w64 (0 - vn1))).bind fun y3 =>
      bif (!y3) then
        (
          some 0
        )
      else
        (
          (r_spec_reAll (w64 (0 - vn1))).bind fun y5 =>
          (r_spec_huTwelve_L8 y5 FU 0 0).bind fun o9 =>
          some o9
        )
    )

def r_spec_huTerms_L4 (vn1 : Int) : Nat → Int → List Int → Option (List Int)
  | 0, _, _ => none
  | n + 1, t2, l3 =>
    bif (leI (w64 (t2 * t2)) (w64 (4 * vn1))) then
      (
        (r_spec_huTwelve (w64 ((w64 (4 * vn1)) - (w64 (t2 * t2))))).bind fun y7 =>
        (room (l3.length + ([y7]).length)).bind fun u8 =>
        sI (w64 (t2 + 1)) fun t9 =>
        r_spec_huTerms_L4 vn1 n t9 (l3 ++ ([y7]))
      )
    else
      (
        some l3
      )
def r_spec_huTerms (vn1 : Int) : Option (List Int) :=
  (r_spec_huTerms_L4 vn1 FU 0 (([] : List Int))).bind fun o5 =>
  some o5

def r_spec_RelationSum_L7 (y4 : List Int) : Nat → Int → Int → Option Int
  | 0, _, _ => none
  | n + 1, sum5, t6 =>
    bif (ltI t6 ((y4.length : Int))) then
      (
        (getI y4 t6).bind fun e10 =>
        (getI y4 t6).bind fun e11 =>
        sI (w64 (sum5 + e11)) fun sum12 =>
        bif (ltI 0 t6) then
          (
            sI (w64 (sum12 + e11)) fun sum14 =>
            sI (w64 (t6 + 1)) fun t15 =>
            r_spec_RelationSum_L7 y4 n sum14 t15
          )
        else
          (
            sI (w64 (t6 + 1)) fun t16 =>
            r_spec_RelationSum_L7 y4 n sum12 t16
          )
      )
    else
      (
        some sum5
      )
def r_spec_RelationSum (vn1 : Int) : Option (Int × Bool) :=
  (r_spec_l1In vn1 1 500).bind fun y2 =>
  bif (!y2) then
    (
      some ((0, false))
    )
  else
    (
      (r_spec_huTerms vn1).bind fun y4 =>
      (r_spec_RelationSum_L7 y4 FU 0 0).bind fun o8 =>
      some ((o8, true))
    )

def r_impl_divisors_L5 (vn1 : Int) : Nat → Int → List Int → List Int → Option ((List Int) × (List Int))
  | 0, _, _, _ => none
  | n + 1, k2, l3, l4 =>
    bif (leI (w64 (k2 * k2)) vn1) then
      (
        (nz k2).bind fun z8 =>
        bif (!eqI (Int.tmod vn1 k2) 0) then
          (
            sI (w64 (k2 + 1)) fun k10 =>
            r_impl_divisors_L5 vn1 n k10 l3 l4
          )
        else
          (
            (room (l4.length + ([k2]).length)).bind fun u11 =>
            bif (!eqI (w64 (k2 * k2)) vn1) then
              (
                (nz k2).bind fun z13 =>
                (room (l3.length + ([w64 (Int.tdiv vn1 k2)]).length)).bind fun u14 =>
                sI (w64 (k2 + 1)) fun k15 =>
                r_impl_divisors_L5 vn1 n k15 (l3 ++ ([w64 (Int.tdiv vn1 k2)])) (l4 ++ ([k2]))
              )
            else
              (
                sI (w64 (k2 + 1)) fun k16 =>
                r_impl_divisors_L5 vn1 n k16 l3 (l4 ++ ([k2]))
              )
          )
      )
    else
      (
        some (l3, l4)
      )
def r_impl_divisors_L20 (o6 : ((List Int) × (List Int))) : Nat → Int → List Int → Option (List Int)
  | 0, _, _ => none
  | n + 1, i18, l19 =>
    bif (leI 0 i18) then
      (
        (getI o6.1 i18).bind fun e23 =>
        (getI o6.1 i18).bind fun e24 =>
        (room (l19.length + ([e24]).length)).bind fun u25 =>
        sI (w64 (i18 - 1)) fun i26 =>
        r_impl_divisors_L20 o6 n i26 (l19 ++ ([e24]))
      )
    else
      (
        some l19
      )
def r_impl_divisors (vn1 : Int) : Option (List Int) :=
  (r_impl_divisors_L5 vn1 FU 1 (([] : List Int)) (([] : List Int))).bind fun o6 =>
  sI (w64 (((o6.1.length : Int)) - 1)) fun i17 =>
  (r_impl_divisors_L20 o6 FU i17 o6.2).bind fun o21 =>
  some o21

def r_impl_DivisorSide_L7 (vn1 : Int) (y4 : List Int) : Nat → Int → Int → Option Int
  | 0, _, _ => none
  | n + 1, sum5, t6 =>
    bif (ltI t6 ((y4.length : Int))) then
      (
        (getI y4 t6).bind fun e10 =>
        (getI y4 t6).bind fun e11 =>
        (nz e11).bind fun z12 =>
        sI (w64 (sum5 + (w64 ((w64 (2 * e11)) - (mnI e11 (w64 (Int.tdiv vn1 e11))))))) fun sum13 =>
        sI (w64 (t6 + 1)) fun t14 =>
        r_impl_DivisorSide_L7 vn1 y4 n sum13 t14
      )
    else
      (
        some sum5
      )
def r_impl_DivisorSide (vn1 : Int) : Option (Int × Bool) :=
  (r_impl_isRelation vn1).bind fun y2 =>
  bif (!y2) then
    (
      some ((0, false))
    )
  else
    (
      (r_impl_divisors vn1).bind fun y4 =>
      (r_impl_DivisorSide_L7 vn1 y4 FU 0 0).bind fun o8 =>
      sI (w64 (12 * o8)) fun t15 =>
      some ((t15, true))
    )

def r_laws_qSum_L4 (l1 : List Int) : Nat → Int → Int → Option Int
  | 0, _, _ => none
  | n + 1, sum2, t3 =>
    bif (ltI t3 ((l1.length : Int))) then
      (
        (getI l1 t3).bind fun e7 =>
        sI (w64 (sum2 + e7)) fun sum8 =>
        sI (w64 (t3 + 1)) fun t9 =>
        r_laws_qSum_L4 l1 n sum8 t9
      )
    else
      (
        some sum2
      )
def r_laws_qSum (l1 : List Int) : Option Int :=
  (r_laws_qSum_L4 l1 FU 0 0).bind fun o5 =>
  some o5

def r_impl_HurwitzNumber (vn1 : Int) : Option (Int × Bool) :=
  bif (bif (ltI vn1 0) then true else (ltI 2000 vn1)) then
    (
      some ((0, false))
    )
  else
    (
      (r_impl_hurwitz vn1).bind fun y4 =>
      some ((y4, true))
    )

def r_laws_numberOf_L4 (b1 : List Int) : Nat → Int → Int → Option Int
  | 0, _, _ => none
  | n + 1, vn2, t3 =>
    bif (ltI t3 ((b1.length : Int))) then
      (
        (getI b1 t3).bind fun e7 =>
        sI (Int.tmod (w64 ((w64 (31 * vn2)) + (IntKind.i64.wrap e7))) 1000003) fun vn8 =>
        sI (w64 (t3 + 1)) fun t9 =>
        r_laws_numberOf_L4 b1 n vn8 t9
      )
    else
      (
        some vn2
      )
def r_laws_numberOf (b1 : List Int) : Option Int :=
  (r_laws_numberOf_L4 b1 FU 0 0).bind fun o5 =>
  some o5

def r_spec_HurwitzNumber (vn1 : Int) : Option (Int × Bool) :=
  (r_spec_l1In vn1 0 2000).bind fun y2 =>
  bif (!y2) then
    (
      some ((0, false))
    )
  else
    (
      (r_spec_huTwelve vn1).bind fun y4 =>
      some ((y4, true))
    )

def r_impl_abs (vn1 : Int) : Option Int :=
  sI (mxI vn1 (w64 (0 - (mxI vn1 (-9223372036854775807))))) fun t2 =>
  some t2

def r_impl_gcd_L5 : Nat → Int → Int → Option Int
  | 0, _, _ => none
  | n + 1, a3, b4 =>
    bif (!eqI b4 0) then
      (
        (nz b4).bind fun z8 =>
        sI (Int.tmod a3 b4) fun b9 =>
        r_impl_gcd_L5 n b4 b9
      )
    else
      (
        some a3
      )
def r_impl_gcd (a1 : Int) (b2 : Int) : Option Int :=
  (r_impl_gcd_L5 FU a1 b2).bind fun o6 =>
  (r_impl_abs o6).bind fun y10 =>
  some y10

def r_impl_Form_content (f1 : (Int × Int × Int)) : Option Int :=
  (r_impl_gcd f1.2.1 f1.2.2).bind fun y2 =>
  (r_impl_gcd f1.1 y2).bind fun y3 =>
  some y3

def r_impl_primitiveOf_L4 (forms1 : List ((Int × Int × Int))) : Nat → Int → List ((Int × Int × Int)) → Option (List ((Int × Int × Int)))
  | 0, _, _ => none
  | n + 1, t2, l3 =>
    bif (ltI t2 ((forms1.length : Int))) then
      (
        (getI forms1 t2).bind fun e7 =>
        (r_impl_Form_content e7).bind fun y8 =>
        bif (eqI y8 1) then
          (
            (room (l3.length + ([e7]).length)).bind fun u10 =>
            sI (w64 (t2 + 1)) fun t11 =>
            r_impl_primitiveOf_L4 forms1 n t11 (l3 ++ ([e7]))
          )
        else
          (
            sI (w64 (t2 + 1)) fun t12 =>
            r_impl_primitiveOf_L4 forms1 n t12 l3
          )
      )
    else
      (
        some l3
      )
def r_impl_primitiveOf (forms1 : List ((Int × Int × Int))) : Option (List ((Int × Int × Int))) :=
  (r_impl_primitiveOf_L4 forms1 FU 0 (([] : List ((Int × Int × Int))))).bind fun o5 =>
  some o5

def r_impl_reducedForms (d1 : Int) : Option (List ((Int × Int × Int))) :=
  (r_impl_allReduced d1).bind fun y2 =>
  (r_impl_primitiveOf y2).bind fun y3 =>
  some y3

def r_impl_AutomorphCount (d1 : Int) : Option (Int × Bool) :=
  (r_impl_isNegativeDisc d1).bind fun y2 =>
  bif (!y2) then
    (
      some ((0, false))
    )
  else
    (
      bif (eqI d1 (-3)) then
        (
          some ((6, true))
        )
      else
        (
          bif (eqI d1 (-4)) then
            (
              some ((4, true))
            )
          else
            (
              some ((2, true))
            )
        )
    )

def r_impl_automorphCount (d1 : Int) : Option Int :=
  (r_impl_AutomorphCount d1).bind fun y2 =>
  some y2.1

def r_impl_HurwitzByConductors_L6 (vn1 : Int) : Nat → Int → Int → Option Int
  | 0, _, _ => none
  | n + 1, sum4, k5 =>
    bif (leI (w64 (k5 * k5)) vn1) then
      (
        (nz (w64 (k5 * k5))).bind fun z9 =>
        sI (w64 (Int.tdiv (w64 (0 - vn1)) (w64 (k5 * k5)))) fun d10 =>
        (nz (w64 (k5 * k5))).bind fun z11 =>
        (bif (eqI (Int.tmod vn1 (w64 (k5 * k5))) 0) then ((r_impl_isNegativeDisc d10).bind fun y13 => some y13) else some false).bind fun b14 =>
        bif b14 then
          (
            (r_impl_reducedForms d10).bind fun y16 =>
            (r_impl_automorphCount d10).bind fun y17 =>
            (nz y17).bind fun z18 =>
            sI (w64 (sum4 + (w64 (Int.tdiv (w64 (24 * ((y16.length : Int)))) y17)))) fun sum19 =>
            sI (w64 (k5 + 1)) fun k20 =>
            r_impl_HurwitzByConductors_L6 vn1 n sum19 k20
          )
        else
          (
            sI (w64 (k5 + 1)) fun k21 =>
            r_impl_HurwitzByConductors_L6 vn1 n sum4 k21
          )
      )
    else
      (
        some sum4
      )
def r_impl_HurwitzByConductors (vn1 : Int) : Option (Int × Bool) :=
  bif (bif (ltI vn1 1) then true else (ltI 2000 vn1)) then
    (
      some ((0, false))
    )
  else
    (
      (r_impl_HurwitzByConductors_L6 vn1 FU 0 1).bind fun o7 =>
      some ((o7, true))
    )

def r_laws_FnHurwitz_L23 (more2 : List Int) (y12 : ((List Int) × Bool)) (y5 : Int) : Nat → Int → Option (Unit ⊕ Bool)
  | 0, _ => none
  | n + 1, t22 =>
    bif (ltI t22 ((y12.1.length : Int))) then
      (
        (getI y12.1 t22).bind fun e26 =>
        (getI y12.1 t22).bind fun e27 =>
        (r_impl_HurwitzNumber (w64 ((w64 (4 * y5)) - (w64 (t22 * t22))))).bind fun y28 =>
        bif (bif (!y28.2) then true else (!eqI y28.1 e27)) then
          (
            some (.inr false)
          )
        else
          (
            sI (w64 (t22 + 1)) fun t31 =>
            r_laws_FnHurwitz_L23 more2 y12 y5 n t31
          )
      )
    else
      (
        some (.inl ())
      )
def r_laws_FnHurwitz (code1 : List Int) (more2 : List Int) : Option Bool :=
  (r_laws_big code1 more2).bind fun y3 =>
  bif y3 then
    (
      some true
    )
  else
    (
      (r_spec_DrawRelationSum code1).bind fun y5 =>
      (r_impl_RelationSum y5).bind fun y6 =>
      (r_spec_RelationSum y5).bind fun y7 =>
      bif (bif (y6.2 != y7.2) then true else (!eqI y6.1 y7.1)) then
        (
          some false
        )
      else
        (
          bif y6.2 then
            (
              (r_impl_DivisorSide y5).bind fun y11 =>
              (r_impl_RelationTerms y5).bind fun y12 =>
              (bif (bif (bif (bif (!y11.2) then true else (!eqI y11.1 y6.1)) then true else (!y12.2)) then true else (eqI ((y12.1.length : Int)) 0)) then some true else ((r_laws_qSum y12.1).bind fun y17 => (getI y12.1 0).bind fun e18 => (getI y12.1 0).bind fun e19 => some (!eqI (w64 ((w64 (2 * y17)) - e19)) y6.1))).bind fun b20 =>
              bif b20 then
                (
                  some false
                )
              else
                (
                  (r_laws_FnHurwitz_L23 more2 y12 y5 FU 0).bind fun qo24 =>
                  match qo24 with
                  | .inr r => some r
                  | .inl o24 =>
                    (r_laws_numberOf more2).bind fun y32 =>
                    sI (w64 (1 + (Int.tmod y32 2000))) fun vm33 =>
                    (r_impl_HurwitzNumber vm33).bind fun y34 =>
                    (r_spec_HurwitzNumber vm33).bind fun y35 =>
                    (r_impl_HurwitzByConductors vm33).bind fun y36 =>
                    (some (bif (bif (bif (bif y34.2 then y35.2 else false) then (eqI y34.1 y35.1) else false) then y36.2 else false) then (eqI y36.1 y34.1) else false)).bind fun t41 =>
                    some t41
                )
            )
          else
            (
              (r_laws_numberOf more2).bind fun y42 =>
              sI (w64 (1 + (Int.tmod y42 2000))) fun vm43 =>
              (r_impl_HurwitzNumber vm43).bind fun y44 =>
              (r_spec_HurwitzNumber vm43).bind fun y45 =>
              (r_impl_HurwitzByConductors vm43).bind fun y46 =>
              (some (bif (bif (bif (bif y44.2 then y45.2 else false) then (eqI y44.1 y45.1) else false) then y46.2 else false) then (eqI y46.1 y44.1) else false)).bind fun t51 =>
              some t51
            )
        )
    )

end Go.Proofs.Ytelefcfmbpdomaa
