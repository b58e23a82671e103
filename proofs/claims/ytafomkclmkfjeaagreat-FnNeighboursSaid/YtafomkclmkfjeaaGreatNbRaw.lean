/-
  What the functions of the program compute, as plain functions.
  Conditions: none.
-/
import Derived.Test.YtafomkclmkfjeaaGreatShRs

namespace Go.Proofs.YtafomkclmkfjeaaGreat

set_option linter.unusedVariables false

def r_laws_big (code1 : List Int) (more2 : List Int) : Option Bool :=
  (some (bif (ltI 1048576 ((code1.length : Int))) then true else (ltI (w64 (1048576 - ((code1.length : Int)))) ((more2.length : Int))))).bind fun t4 =>
  some t4

def r_spec_l1Cur_next (c1 : ((List Int) × Int × Int)) : Option (Int × (((List Int) × Int × Int))) :=
  (
    bif (ltI c1.2.1 ((c1.1.length : Int))) then
      (
        (getI c1.1 c1.2.1).bind fun e4 =>
        sI (IntKind.i64.wrap e4) fun b5 =>
        some b5
      )
    else
      (
        some 0
      )
  ).bind fun j2 =>
  sI (w64 (c1.2.1 + 1)) fun f6 =>
  sI (IntKind.u64.wrap ((IntKind.u64.wrap ((IntKind.u64.wrap (c1.2.2 * 6364136223846793005)) + (IntKind.u64.wrap j2))) + 1442695040888963407)) fun f7 =>
  bif (leI f6 ((c1.1.length : Int))) then
    (
      some ((j2, (c1.1, f6, f7)))
    )
  else
    (
      sI (IntKind.i64.wrap (andI .u64 (shrI .u64 f7 40) 255)) fun t9 =>
      some ((t9, (c1.1, f6, f7)))
    )

def r_spec_l1Cur_pick (c1 : ((List Int) × Int × Int)) (vn2 : Int) : Option (Int × (((List Int) × Int × Int))) :=
  bif (leI vn2 1) then
    (
      some ((0, c1))
    )
  else
    (
      (r_spec_l1Cur_next c1).bind fun y4 =>
      bif (ltI 200 vn2) then
        (
          (r_spec_l1Cur_next y4.2).bind fun y6 =>
          sI (w64 ((w64 (y4.1 * 256)) + y6.1)) fun x7 =>
          (nz vn2).bind fun z8 =>
          sI (Int.tmod x7 vn2) fun t9 =>
          some ((t9, y6.2))
        )
      else
        (
          (nz vn2).bind fun z10 =>
          sI (Int.tmod y4.1 vn2) fun t11 =>
          some ((t11, y4.2))
        )
    )

def r_spec_l1Cur_among (c1 : ((List Int) × Int × Int)) (list2 : List Int) : Option (Int × (((List Int) × Int × Int))) :=
  (r_spec_l1Cur_pick c1 ((list2.length : Int))).bind fun y3 =>
  (getI list2 y3.1).bind fun e4 =>
  some ((e4, y3.2))

def r_spec_nuMod (a1 : Int) (vm2 : Int) : Option Int :=
  (nz vm2).bind fun z3 =>
  sI (Int.tmod a1 vm2) fun vr4 =>
  bif (ltI vr4 0) then
    (
      sI (w64 (vr4 + vm2)) fun vr6 =>
      some vr6
    )
  else
    (
      some vr4
    )

def r_spec_l1Most (a1 : Int) (b2 : Int) : Option Int :=
  bif (ltI b2 a1) then
    (
      some a1
    )
  else
    (
      some b2
    )

def r_spec_l1Cur_disc (c1 : ((List Int) × Int × Int)) : Option (Int × (((List Int) × Int × Int))) :=
  (r_spec_l1Cur_pick c1 16).bind fun y2 =>
  bif (eqI y2.1 0) then
    (
      (r_spec_l1Cur_among y2.2 ([-3, -4, -2000, -1999, -1996, -1995, -163, -2001, -2003, -2004, 0, 1, 5, -1, -2, -5, -9223372036854775808])).bind fun y4 =>
      some ((y4.1, y4.2))
    )
  else
    (
      (
        bif (eqI y2.1 1) then
          (
            some (eqI y2.1 1)
          )
        else
          (
            some (eqI y2.1 2)
          )
      ).bind fun j5 =>
      bif j5 then
        (
          (r_spec_l1Cur_pick y2.2 1998).bind fun y8 =>
          sI (w64 ((-3) - y8.1)) fun d9 =>
          (r_spec_nuMod d9 4).bind fun y10 =>
          bif (ltI 1 y10) then
            (
              (r_spec_l1Most (-2000) (w64 (d9 - 2))).bind fun y12 =>
              some ((y12, y8.2))
            )
          else
            (
              some ((d9, y8.2))
            )
        )
      else
        (
          (
            bif (eqI y2.1 3) then
              (
                some (eqI y2.1 3)
              )
            else
              (
                bif (eqI y2.1 4) then
                  (
                    some (eqI y2.1 4)
                  )
                else
                  (
                    some (eqI y2.1 5)
                  )
              )
          ).bind fun j13 =>
          bif j13 then
            (
              (r_spec_l1Cur_among y2.2 ([-84, -420, -231, -260, -455, -520, -660, -1155, -1320, -1380, -1428, -1540, -399, -1092, -1560, -1785])).bind fun y17 =>
              some ((y17.1, y17.2))
            )
          else
            (
              (
                bif (eqI y2.1 6) then
                  (
                    some (eqI y2.1 6)
                  )
                else
                  (
                    some (eqI y2.1 7)
                  )
              ).bind fun j18 =>
              bif j18 then
                (
                  (r_spec_l1Cur_pick y2.2 60).bind fun y21 =>
                  sI (w64 ((-4) * (w64 (1 + y21.1)))) fun t22 =>
                  some ((t22, y21.2))
                )
              else
                (
                  (r_spec_l1Cur_pick y2.2 50).bind fun y23 =>
                  sI (w64 ((-3) - (w64 (4 * y23.1)))) fun t24 =>
                  some ((t24, y23.2))
                )
            )
        )
    )

def r_spec_l1Cur_index (c1 : ((List Int) × Int × Int)) : Option (Int × (((List Int) × Int × Int))) :=
  (r_spec_l1Cur_among c1 ([2, 2, 3, 3, 5, 5, 7, 11, 13, 17, 23, 41, 43, 47, 4, 1, 0, -2])).bind fun y2 =>
  some ((y2.1, y2.2))

def r_spec_DrawNeighbourMatrix (code1 : List Int) : Option (Int × Int) :=
  (r_spec_l1Cur_disc ((code1, 0, 0))).bind fun y2 =>
  (r_spec_l1Cur_index y2.2).bind fun y3 =>
  some ((y2.1, y3.1))

def r_impl_mod (a1 : Int) (vm2 : Int) : Option Int :=
  (nz vm2).bind fun z3 =>
  sI (Int.tmod a1 vm2) fun vr4 =>
  bif (ltI vr4 0) then
    (
      sI (w64 (vr4 + vm2)) fun vr6 =>
      some vr6
    )
  else
    (
      some vr4
    )

def r_impl_isNegativeDisc (d1 : Int) : Option Bool :=
  (bif (bif (leI (-2000) d1) then (leI d1 (-3)) else false) then ((r_impl_mod d1 4).bind fun y4 => some (leI y4 1)) else some false).bind fun b5 =>
  some b5

def r_impl_isPrime_L4 (vn1 : Int) : Nat → Int → Option (Unit ⊕ Bool)
  | 0, _ => none
  | n + 1, p3 =>
    bif (leI (w64 (p3 * p3)) vn1) then
      (
        (nz p3).bind fun z7 =>
        bif (eqI (Int.tmod vn1 p3) 0) then
          (
            some (.inr false)
          )
        else
          (
            sI (w64 (p3 + 1)) fun p9 =>
            r_impl_isPrime_L4 vn1 n p9
          )
      )
    else
      (
        some (.inl ())
      )
def r_impl_isPrime (vn1 : Int) : Option Bool :=
  bif (ltI vn1 2) then
    (
      some false
    )
  else
    (
      (r_impl_isPrime_L4 vn1 FU 2).bind fun qo5 =>
      match qo5 with
      | .inr r => some r
      | .inl o5 =>
        some true
    )

def r_impl_isIndex (p1 : Int) : Option Bool :=
  (bif (leI p1 43) then ((r_impl_isPrime p1).bind fun y3 => some y3) else some false).bind fun b4 =>
  some b4

def r_impl_Form_isNormal (f1 : (Int × Int × Int)) : Option Bool :=
  (some (bif (ltI (w64 (0 - f1.1)) f1.2.1) then (leI f1.2.1 f1.1) else false)).bind fun t3 =>
  some t3

def r_impl_Form_isReduced (f1 : (Int × Int × Int)) : Option Bool :=
  (r_impl_Form_isNormal f1).bind fun y2 =>
  (some (bif y2 then (bif (ltI f1.1 f1.2.2) then true else (bif (eqI f1.1 f1.2.2) then (leI 0 f1.2.1) else false)) else false)).bind fun t6 =>
  some t6

def r_impl_allReduced_L10 (a2 : Int) (d1 : Int) : Nat → Int → List ((Int × Int × Int)) → Option (List ((Int × Int × Int)))
  | 0, _, _ => none
  | n + 1, b8, l9 =>
    bif (leI b8 a2) then
      (
        (nz (w64 (4 * a2))).bind fun z13 =>
        (some (!eqI (Int.tmod (w64 ((w64 (b8 * b8)) - d1)) (w64 (4 * a2))) 0)).bind fun t14 =>
        bif t14 then
          (
            sI (w64 (b8 + 1)) fun b16 =>
            r_impl_allReduced_L10 a2 d1 n b16 l9
          )
        else
          (
            (nz (w64 (4 * a2))).bind fun z17 =>
            sI (w64 (Int.tdiv (w64 ((w64 (b8 * b8)) - d1)) (w64 (4 * a2)))) fun f18 =>
            (r_impl_Form_isReduced ((a2, b8, f18))).bind fun y19 =>
            bif y19 then
              (
                (room (l9.length + ([(a2, b8, f18)]).length)).bind fun u21 =>
                sI (w64 (b8 + 1)) fun b22 =>
                r_impl_allReduced_L10 a2 d1 n b22 (l9 ++ ([(a2, b8, f18)]))
              )
            else
              (
                sI (w64 (b8 + 1)) fun b23 =>
                r_impl_allReduced_L10 a2 d1 n b23 l9
              )
          )
      )
    else
      (
        some l9
      )
def r_impl_allReduced_L4 (d1 : Int) : Nat → Int → List ((Int × Int × Int)) → Option (List ((Int × Int × Int)))
  | 0, _, _ => none
  | n + 1, a2, l3 =>
    bif (leI (w64 ((w64 (3 * a2)) * a2)) (w64 (0 - d1))) then
      (
        sI (w64 (1 - a2)) fun b7 =>
        (r_impl_allReduced_L10 a2 d1 FU b7 l3).bind fun o11 =>
        sI (w64 (a2 + 1)) fun a24 =>
        r_impl_allReduced_L4 d1 n a24 o11
      )
    else
      (
        some l3
      )
def r_impl_allReduced (d1 : Int) : Option (List ((Int × Int × Int))) :=
  (r_impl_allReduced_L4 d1 FU 1 (([] : List ((Int × Int × Int))))).bind fun o5 =>
  some o5

def r_impl_abs (vn1 : Int) : Option Int :=
  sI (mxI vn1 (w64 (0 - (mxI vn1 (-9223372036854775807))))) fun t2 =>
  some t2

def r_impl_gcd_L5 : Nat → Int → Int → Option Int
  | 0, _, _ => none
  | n + 1, a3, b4 =>
    bif (!eqI b4 0) then
      (
        (nz b4).bind fun z8 =>
        sI (Int.tmod a3 b4) fun b9 =>
        r_impl_gcd_L5 n b4 b9
      )
    else
      (
        some a3
      )
def r_impl_gcd (a1 : Int) (b2 : Int) : Option Int :=
  (r_impl_gcd_L5 FU a1 b2).bind fun o6 =>
  (r_impl_abs o6).bind fun y10 =>
  some y10

def r_impl_Form_content (f1 : (Int × Int × Int)) : Option Int :=
  (r_impl_gcd f1.2.1 f1.2.2).bind fun y2 =>
  (r_impl_gcd f1.1 y2).bind fun y3 =>
  some y3

def r_impl_primitiveOf_L4 (forms1 : List ((Int × Int × Int))) : Nat → Int → List ((Int × Int × Int)) → Option (List ((Int × Int × Int)))
  | 0, _, _ => none
  | n + 1, t2, l3 =>
    bif (ltI t2 ((forms1.length : Int))) then
      (
        (getI forms1 t2).bind fun e7 =>
        (r_impl_Form_content e7).bind fun y8 =>
        bif (eqI y8 1) then
          (
            (room (l3.length + ([e7]).length)).bind fun u10 =>
            sI (w64 (t2 + 1)) fun t11 =>
            r_impl_primitiveOf_L4 forms1 n t11 (l3 ++ ([e7]))
          )
        else
          (
            sI (w64 (t2 + 1)) fun t12 =>
            r_impl_primitiveOf_L4 forms1 n t12 l3
          )
      )
    else
      (
        some l3
      )
def r_impl_primitiveOf (forms1 : List ((Int × Int × Int))) : Option (List ((Int × Int × Int))) :=
  (r_impl_primitiveOf_L4 forms1 FU 0 (([] : List ((Int × Int × Int))))).bind fun o5 =>
  some o5

def r_impl_reducedForms (d1 : Int) : Option (List ((Int × Int × Int))) :=
  (r_impl_allReduced d1).bind fun y2 =>
  (r_impl_primitiveOf y2).bind fun y3 =>
  some y3

def r_impl_groupOf_L5 (y2 : List ((Int × Int × Int))) : Nat → Int → List ((((Int × Int × Int)) × Int)) → Option (List ((((Int × Int × Int)) × Int)))
  | 0, _, _ => none
  | n + 1, t3, l4 =>
    bif (ltI t3 ((y2.length : Int))) then
      (
        (getI y2 t3).bind fun e8 =>
        sI (w64 (t3 + 1)) fun t9 =>
        r_impl_groupOf_L5 y2 n t9 (mPut e8 t3 l4)
      )
    else
      (
        some l4
      )
def r_impl_groupOf (d1 : Int) : Option ((List ((Int × Int × Int))) × (List ((((Int × Int × Int)) × Int)))) :=
  (r_impl_reducedForms d1).bind fun y2 =>
  (r_impl_groupOf_L5 y2 FU 0 (([] : List ((((Int × Int × Int)) × Int))))).bind fun o6 =>
  some ((y2, o6))

def r_impl_indexMatrices_L4 (p1 : Int) : Nat → Int → List ((Int × Int × Int × Int)) → Option (List ((Int × Int × Int × Int)))
  | 0, _, _ => none
  | n + 1, k2, l3 =>
    bif (ltI k2 p1) then
      (
        (room (l3.length + ([(1, 0, k2, p1)]).length)).bind fun u7 =>
        sI (w64 (k2 + 1)) fun k8 =>
        r_impl_indexMatrices_L4 p1 n k8 (l3 ++ ([(1, 0, k2, p1)]))
      )
    else
      (
        some l3
      )
def r_impl_indexMatrices (p1 : Int) : Option (List ((Int × Int × Int × Int))) :=
  (r_impl_indexMatrices_L4 p1 FU 0 (([] : List ((Int × Int × Int × Int))))).bind fun o5 =>
  (room (o5.length + ([(p1, 0, 0, 1)]).length)).bind fun u9 =>
  some (o5 ++ ([(p1, 0, 0, 1)]))

def r_impl_Form_at (f1 : (Int × Int × Int)) (x2 : Int) (y3 : Int) : Option Int :=
  sI (w64 ((w64 ((w64 ((w64 (f1.1 * x2)) * x2)) + (w64 ((w64 (f1.2.1 * x2)) * y3)))) + (w64 ((w64 (f1.2.2 * y3)) * y3)))) fun t4 =>
  some t4

def r_impl_Form_polar (f1 : (Int × Int × Int)) (x2 : Int) (y3 : Int) (u4 : Int) (v5 : Int) : Option Int :=
  sI (w64 ((w64 ((w64 ((w64 ((w64 (2 * f1.1)) * x2)) * u4)) + (w64 (f1.2.1 * (w64 ((w64 (x2 * v5)) + (w64 (y3 * u4)))))))) + (w64 ((w64 ((w64 (2 * f1.2.2)) * y3)) * v5)))) fun t6 =>
  some t6

def r_impl_Form_substitute (f1 : (Int × Int × Int)) (vm2 : (Int × Int × Int × Int)) : Option (Int × Int × Int) :=
  (r_impl_Form_at f1 vm2.1 vm2.2.2.1).bind fun y3 =>
  (r_impl_Form_polar f1 vm2.1 vm2.2.2.1 vm2.2.1 vm2.2.2.2).bind fun y4 =>
  (r_impl_Form_at f1 vm2.2.1 vm2.2.2.2).bind fun y5 =>
  some ((y3, y4, y5))

def r_impl_sublatticeForms_L6 (f1 : (Int × Int × Int)) (y3 : List ((Int × Int × Int × Int))) : Nat → Int → List ((Int × Int × Int)) → Option (List ((Int × Int × Int)))
  | 0, _, _ => none
  | n + 1, t4, l5 =>
    bif (ltI t4 ((y3.length : Int))) then
      (
        (getI y3 t4).bind fun e9 =>
        (getI y3 t4).bind fun e10 =>
        (r_impl_Form_substitute f1 e10).bind fun y11 =>
        (room (l5.length + ([y11]).length)).bind fun u12 =>
        sI (w64 (t4 + 1)) fun t13 =>
        r_impl_sublatticeForms_L6 f1 y3 n t13 (l5 ++ ([y11]))
      )
    else
      (
        some l5
      )
def r_impl_sublatticeForms (f1 : (Int × Int × Int)) (p2 : Int) : Option (List ((Int × Int × Int))) :=
  (r_impl_indexMatrices p2).bind fun y3 =>
  (r_impl_sublatticeForms_L6 f1 y3 FU 0 (([] : List ((Int × Int × Int))))).bind fun o7 =>
  some o7

def r_impl_one : Option (Int × Int × Int × Int) :=
  some ((1, 0, 0, 1))

def r_impl_floorDiv (a1 : Int) (vm2 : Int) : Option Int :=
  (r_impl_mod a1 vm2).bind fun y3 =>
  (nz vm2).bind fun z4 =>
  sI (w64 (Int.tdiv (w64 (a1 - y3)) vm2)) fun t5 =>
  some t5

def r_impl_Form_step (f1 : (Int × Int × Int)) : Option (Int × Int × Int × Int) :=
  (r_impl_Form_isReduced f1).bind fun y2 =>
  bif y2 then
    (
      (r_impl_one).bind fun y4 =>
      some y4
    )
  else
    (
      (r_impl_Form_isNormal f1).bind fun y5 =>
      bif (!y5) then
        (
          (r_impl_floorDiv (w64 (f1.1 - f1.2.1)) (w64 (2 * f1.1))).bind fun y7 =>
          some ((1, y7, 0, 1))
        )
      else
        (
          some ((0, -1, 1, 0))
        )
    )

def r_impl_Matrix_times (vm1 : (Int × Int × Int × Int)) (vn2 : (Int × Int × Int × Int)) : Option (Int × Int × Int × Int) :=
  sI (w64 ((w64 (vm1.1 * vn2.1)) + (w64 (vm1.2.1 * vn2.2.2.1)))) fun f3 =>
  sI (w64 ((w64 (vm1.1 * vn2.2.1)) + (w64 (vm1.2.1 * vn2.2.2.2)))) fun f4 =>
  sI (w64 ((w64 (vm1.2.2.1 * vn2.1)) + (w64 (vm1.2.2.2 * vn2.2.2.1)))) fun f5 =>
  sI (w64 ((w64 (vm1.2.2.1 * vn2.2.1)) + (w64 (vm1.2.2.2 * vn2.2.2.2)))) fun f6 =>
  some ((f3, f4, f5, f6))

def r_impl_reduce_L10 : Nat → Int → Int → Int → Int → Int → Int → Int → Option (Int × Int × Int × Int × Int × Int × Int)
  | 0, _, _, _, _, _, _, _ => none
  | n + 1, f3, f4, f5, f6, f7, f8, f9 =>
    (r_impl_Form_isReduced ((f7, f8, f9))).bind fun y12 =>
    bif (!y12) then
      (
        (r_impl_Form_step ((f7, f8, f9))).bind fun y14 =>
        (r_impl_Form_substitute ((f7, f8, f9)) y14).bind fun y15 =>
        (r_impl_Matrix_times ((f3, f4, f5, f6)) y14).bind fun y16 =>
        r_impl_reduce_L10 n y16.1 y16.2.1 y16.2.2.1 y16.2.2.2 y15.1 y15.2.1 y15.2.2
      )
    else
      (
        some (f3, f4, f5, f6, f7, f8, f9)
      )
def r_impl_reduce (f1 : (Int × Int × Int)) : Option (((Int × Int × Int)) × ((Int × Int × Int × Int))) :=
  (r_impl_one).bind fun y2 =>
  (r_impl_reduce_L10 FU y2.1 y2.2.1 y2.2.2.1 y2.2.2.2 f1.1 f1.2.1 f1.2.2).bind fun o11 =>
  some ((o11.2.2.2.2, (o11.1, o11.2.1, o11.2.2.1, o11.2.2.2.1)))

def r_impl_reduced (f1 : (Int × Int × Int)) : Option (Int × Int × Int) :=
  (r_impl_reduce f1).bind fun y2 =>
  some y2.1

def r_impl_neighbours_L6 (p2 : Int) (y3 : List ((Int × Int × Int))) : Nat → Int → List ((Int × Int × Int)) → Option (List ((Int × Int × Int)))
  | 0, _, _ => none
  | n + 1, t4, l5 =>
    bif (ltI t4 ((y3.length : Int))) then
      (
        (getI y3 t4).bind fun e9 =>
        (getI y3 t4).bind fun e10 =>
        (r_impl_Form_content e10).bind fun y11 =>
        bif (eqI y11 p2) then
          (
            (nz p2).bind fun z13 =>
            (nz p2).bind fun z14 =>
            (nz p2).bind fun z15 =>
            (r_impl_reduced ((w64 (Int.tdiv e10.1 p2), w64 (Int.tdiv e10.2.1 p2), w64 (Int.tdiv e10.2.2 p2)))).bind fun y16 =>
            (room (l5.length + ([y16]).length)).bind fun u17 =>
            sI (w64 (t4 + 1)) fun t18 =>
            r_impl_neighbours_L6 p2 y3 n t18 (l5 ++ ([y16]))
          )
        else
          (
            sI (w64 (t4 + 1)) fun t19 =>
            r_impl_neighbours_L6 p2 y3 n t19 l5
          )
      )
    else
      (
        some l5
      )
def r_impl_neighbours (f1 : (Int × Int × Int)) (p2 : Int) : Option (List ((Int × Int × Int))) :=
  (r_impl_sublatticeForms f1 p2).bind fun y3 =>
  (r_impl_neighbours_L6 p2 y3 FU 0 (([] : List ((Int × Int × Int))))).bind fun o7 =>
  some o7

def r_impl_neighbourMatrix_L14 (l5 : List (List Int)) (p2 : Int) (t4 : Int) (y11 : List ((Int × Int × Int))) (y3 : ((List ((Int × Int × Int))) × (List ((((Int × Int × Int)) × Int))))) : Nat → Int → List Int → Option (List Int)
  | 0, _, _ => none
  | n + 1, t12, l13 =>
    bif (ltI t12 ((y11.length : Int))) then
      (
        (getI y11 t12).bind fun e17 =>
        (getI y11 t12).bind fun e18 =>
        (getI l13 (mAt e18 y3.2 0)).bind fun e19 =>
        (getI l13 (mAt e18 y3.2 0)).bind fun e20 =>
        (getI l13 (mAt e18 y3.2 0)).bind fun e21 =>
        (getI l13 (mAt e18 y3.2 0)).bind fun e22 =>
        sI (w64 (t12 + 1)) fun t23 =>
        r_impl_neighbourMatrix_L14 l5 p2 t4 y11 y3 n t23 (l13.set (Int.toNat (mAt e18 y3.2 0)) (w64 (e20 + 1)))
      )
    else
      (
        some l13
      )
def r_impl_neighbourMatrix_L6 (p2 : Int) (y3 : ((List ((Int × Int × Int))) × (List ((((Int × Int × Int)) × Int))))) : Nat → Int → List (List Int) → Option (List (List Int))
  | 0, _, _ => none
  | n + 1, t4, l5 =>
    bif (ltI t4 ((y3.1.length : Int))) then
      (
        (getI y3.1 t4).bind fun e9 =>
        (mk ((y3.1.length : Int)) ((y3.1.length : Int))).bind fun u10 =>
        (r_impl_neighbours e9 p2).bind fun y11 =>
        (r_impl_neighbourMatrix_L14 l5 p2 t4 y11 y3 FU 0 (List.replicate (Int.toNat ((y3.1.length : Int))) ((0 : Int)))).bind fun o15 =>
        (room (l5.length + ([o15]).length)).bind fun u24 =>
        sI (w64 (t4 + 1)) fun t25 =>
        r_impl_neighbourMatrix_L6 p2 y3 n t25 (l5 ++ ([o15]))
      )
    else
      (
        some l5
      )
def r_impl_neighbourMatrix (d1 : Int) (p2 : Int) : Option (List (List Int)) :=
  (r_impl_groupOf d1).bind fun y3 =>
  (r_impl_neighbourMatrix_L6 p2 y3 FU 0 (([] : List (List Int)))).bind fun o7 =>
  some o7

def r_impl_NeighbourMatrix (d1 : Int) (p2 : Int) : Option ((List (List Int)) × Bool) :=
  (r_impl_isNegativeDisc d1).bind fun y3 =>
  (bif (!y3) then some true else ((r_impl_isIndex p2).bind fun y5 => some (!y5))).bind fun b6 =>
  bif b6 then
    (
      some ((([] : List (List Int)), false))
    )
  else
    (
      (r_impl_neighbourMatrix d1 p2).bind fun y8 =>
      some ((y8, true))
    )

def r_spec_l1In (vn1 : Int) (lo2 : Int) (hi3 : Int) : Option Bool :=
  some (bif (leI lo2 vn1) then (leI vn1 hi3) else false)

def r_spec_reDisc (d1 : Int) : Option Bool :=
  (r_spec_l1In d1 (-2000) (-3)).bind fun y2 =>
  (bif y2 then ((r_spec_nuMod d1 4).bind fun y4 => some (ltI y4 2)) else some false).bind fun b5 =>
  some b5

def r_spec_nuPrime_L4 (vn1 : Int) : Nat → Int → Option (Unit ⊕ Bool)
  | 0, _ => none
  | n + 1, d3 =>
    bif (leI (w64 (d3 * d3)) vn1) then
      (
        (nz d3).bind fun z7 =>
        bif (eqI (Int.tmod vn1 d3) 0) then
          (
            some (.inr false)
          )
        else
          (
            sI (w64 (d3 + 1)) fun d9 =>
            r_spec_nuPrime_L4 vn1 n d9
          )
      )
    else
      (
        some (.inl ())
      )
def r_spec_nuPrime (vn1 : Int) : Option Bool :=
  bif (ltI vn1 2) then
    (
      some false
    )
  else
    (
      (r_spec_nuPrime_L4 vn1 FU 2).bind fun qo5 =>
      match qo5 with
      | .inr r => some r
      | .inl o5 =>
        some true
    )

def r_spec_hkPrime (p1 : Int) : Option Bool :=
  (r_spec_l1In p1 2 43).bind fun y2 =>
  (bif y2 then ((r_spec_nuPrime p1).bind fun y4 => some y4) else some false).bind fun b5 =>
  some b5

def r_spec_foDisc (f1 : (Int × Int × Int)) : Option Int :=
  sI (w64 ((w64 (f1.2.1 * f1.2.1)) - (w64 ((w64 (4 * f1.1)) * f1.2.2)))) fun t2 =>
  some t2

def r_spec_reIs (f1 : (Int × Int × Int)) : Option Bool :=
  (some (bif (bif (ltI (w64 (0 - f1.1)) f1.2.1) then (leI f1.2.1 f1.1) else false) then (bif (ltI f1.1 f1.2.2) then true else (bif (eqI f1.1 f1.2.2) then (leI 0 f1.2.1) else false)) else false)).bind fun t6 =>
  some t6

def r_spec_reAll_L10 (a2 : Int) (d1 : Int) : Nat → Int → List ((Int × Int × Int)) → Option (List ((Int × Int × Int)))
  | 0, _, _ => none
  | n + 1, b8, l9 =>
    bif (leI b8 a2) then
      (
        (nz (w64 (4 * a2))).bind fun z13 =>
        sI (w64 (Int.tdiv (w64 ((w64 (b8 * b8)) - d1)) (w64 (4 * a2)))) fun f14 =>
        (r_spec_foDisc ((a2, b8, f14))).bind fun y15 =>
        (bif (eqI y15 d1) then ((r_spec_reIs ((a2, b8, f14))).bind fun y17 => some y17) else some false).bind fun b18 =>
        bif b18 then
          (
            (room (l9.length + ([(a2, b8, f14)]).length)).bind fun u20 =>
            sI (w64 (b8 + 1)) fun b21 =>
            r_spec_reAll_L10 a2 d1 n b21 (l9 ++ ([(a2, b8, f14)]))
          )
        else
          (
            sI (w64 (b8 + 1)) fun b22 =>
            r_spec_reAll_L10 a2 d1 n b22 l9
          )
      )
    else
      (
        some l9
      )
def r_spec_reAll_L4 (d1 : Int) : Nat → Int → List ((Int × Int × Int)) → Option (List ((Int × Int × Int)))
  | 0, _, _ => none
  | n + 1, a2, l3 =>
    bif (leI (w64 ((w64 (3 * a2)) * a2)) (w64 (0 - d1))) then
      (
        sI (w64 (1 - a2)) fun b7 =>
        (r_spec_reAll_L10 a2 d1 FU b7 l3).bind fun o11 =>
        sI (w64 (a2 + 1)) fun a23 =>
        r_spec_reAll_L4 d1 n a23 o11
      )
    else
      (
        some l3
      )
def r_spec_reAll (d1 : Int) : Option (List ((Int × Int × Int))) :=
  (r_spec_reAll_L4 d1 FU 1 (([] : List ((Int × Int × Int))))).bind fun o5 =>
  some o5

def r_spec_l1Abs (vn1 : Int) : Option Int :=
  (r_spec_l1Most vn1 (w64 (0 - vn1))).bind fun y2 =>
  some y2

def r_spec_nuGcd_L7 : Nat → Int → Int → Option Int
  | 0, _, _ => none
  | n + 1, a5, b6 =>
    bif (!eqI b6 0) then
      (
        (nz b6).bind fun z10 =>
        sI (Int.tmod a5 b6) fun b11 =>
        r_spec_nuGcd_L7 n b6 b11
      )
    else
      (
        some a5
      )
def r_spec_nuGcd (a1 : Int) (b2 : Int) : Option Int :=
  (r_spec_l1Abs a1).bind fun y3 =>
  (r_spec_l1Abs b2).bind fun y4 =>
  (r_spec_nuGcd_L7 FU y3 y4).bind fun o8 =>
  some o8

def r_spec_foContent (f1 : (Int × Int × Int)) : Option Int :=
  (r_spec_nuGcd f1.1 f1.2.1).bind fun y2 =>
  (r_spec_nuGcd y2 f1.2.2).bind fun y3 =>
  some y3

def r_spec_reList_L5 (y2 : List ((Int × Int × Int))) : Nat → Int → List ((Int × Int × Int)) → Option (List ((Int × Int × Int)))
  | 0, _, _ => none
  | n + 1, t3, l4 =>
    bif (ltI t3 ((y2.length : Int))) then
      (
        (getI y2 t3).bind fun e8 =>
        (getI y2 t3).bind fun e9 =>
        (r_spec_foContent e9).bind fun y10 =>
        bif (eqI y10 1) then
          (
            (room (l4.length + ([e9]).length)).bind fun u12 =>
            sI (w64 (t3 + 1)) fun t13 =>
            r_spec_reList_L5 y2 n t13 (l4 ++ ([e9]))
          )
        else
          (
            sI (w64 (t3 + 1)) fun t14 =>
            r_spec_reList_L5 y2 n t14 l4
          )
      )
    else
      (
        some l4
      )
def r_spec_reList (d1 : Int) : Option (List ((Int × Int × Int))) :=
  (r_spec_reAll d1).bind fun y2 =>
  (r_spec_reList_L5 y2 FU 0 (([] : List ((Int × Int × Int))))).bind fun o6 =>
  some o6

def r_spec_reNormal (f1 : (Int × Int × Int)) : Option Int :=
  (r_spec_nuMod (w64 (f1.1 - f1.2.1)) (w64 (2 * f1.1))).bind fun y2 =>
  (nz (w64 (2 * f1.1))).bind fun z3 =>
  sI (w64 (Int.tdiv (w64 ((w64 (f1.1 - f1.2.1)) - y2)) (w64 (2 * f1.1)))) fun t4 =>
  some t4

def r_spec_reMove (f1 : (Int × Int × Int)) : Option (Int × Int × Int × Int) :=
  (r_spec_reNormal f1).bind fun y2 =>
  bif (!eqI y2 0) then
    (
      some ((1, y2, 0, 1))
    )
  else
    (
      (r_spec_reIs f1).bind fun y4 =>
      bif y4 then
        (
          some ((1, 0, 0, 1))
        )
      else
        (
          some ((0, -1, 1, 0))
        )
    )

def r_spec_foValue (f1 : (Int × Int × Int)) (x2 : Int) (y3 : Int) : Option Int :=
  sI (w64 ((w64 ((w64 ((w64 (f1.1 * x2)) * x2)) + (w64 ((w64 (f1.2.1 * x2)) * y3)))) + (w64 ((w64 (f1.2.2 * y3)) * y3)))) fun t4 =>
  some t4

def r_spec_foPolar (f1 : (Int × Int × Int)) (x2 : Int) (y3 : Int) (u4 : Int) (v5 : Int) : Option Int :=
  sI (w64 ((w64 ((w64 ((w64 ((w64 (2 * f1.1)) * x2)) * u4)) + (w64 (f1.2.1 * (w64 ((w64 (x2 * v5)) + (w64 (y3 * u4)))))))) + (w64 ((w64 ((w64 (2 * f1.2.2)) * y3)) * v5)))) fun t6 =>
  some t6

def r_spec_foAct (f1 : (Int × Int × Int)) (vm2 : (Int × Int × Int × Int)) : Option (Int × Int × Int) :=
  (r_spec_foValue f1 vm2.1 vm2.2.2.1).bind fun y3 =>
  (r_spec_foPolar f1 vm2.1 vm2.2.2.1 vm2.2.1 vm2.2.2.2).bind fun y4 =>
  (r_spec_foValue f1 vm2.2.1 vm2.2.2.2).bind fun y5 =>
  some ((y3, y4, y5))

def r_spec_foMul (vm1 : (Int × Int × Int × Int)) (vn2 : (Int × Int × Int × Int)) : Option (Int × Int × Int × Int) :=
  sI (w64 ((w64 (vm1.1 * vn2.1)) + (w64 (vm1.2.1 * vn2.2.2.1)))) fun f3 =>
  sI (w64 ((w64 (vm1.1 * vn2.2.1)) + (w64 (vm1.2.1 * vn2.2.2.2)))) fun f4 =>
  sI (w64 ((w64 (vm1.2.2.1 * vn2.1)) + (w64 (vm1.2.2.2 * vn2.2.2.1)))) fun f5 =>
  sI (w64 ((w64 (vm1.2.2.1 * vn2.2.1)) + (w64 (vm1.2.2.2 * vn2.2.2.2)))) fun f6 =>
  some ((f3, f4, f5, f6))

def r_spec_reReduce_L9 : Nat → Int → Int → Int → Int → Int → Int → Int → Option (Int × Int × Int × Int × Int × Int × Int)
  | 0, _, _, _, _, _, _, _ => none
  | n + 1, f2, f3, f4, f5, f6, f7, f8 =>
    (r_spec_reIs ((f6, f7, f8))).bind fun y11 =>
    bif (!y11) then
      (
        (r_spec_reMove ((f6, f7, f8))).bind fun y13 =>
        (r_spec_foAct ((f6, f7, f8)) y13).bind fun y14 =>
        (r_spec_foMul ((f2, f3, f4, f5)) y13).bind fun y15 =>
        r_spec_reReduce_L9 n y15.1 y15.2.1 y15.2.2.1 y15.2.2.2 y14.1 y14.2.1 y14.2.2
      )
    else
      (
        some (f2, f3, f4, f5, f6, f7, f8)
      )
def r_spec_reReduce (f1 : (Int × Int × Int)) : Option (((Int × Int × Int)) × ((Int × Int × Int × Int))) :=
  (r_spec_reReduce_L9 FU 1 0 0 1 f1.1 f1.2.1 f1.2.2).bind fun o10 =>
  some ((o10.2.2.2.2, (o10.1, o10.2.1, o10.2.2.1, o10.2.2.2.1)))

def r_spec_reClass (f1 : (Int × Int × Int)) : Option (Int × Int × Int) :=
  (r_spec_reReduce f1).bind fun y2 =>
  some y2.1

def r_spec_hkMatrices_L4 (p1 : Int) : Nat → Int → List ((Int × Int × Int × Int)) → Option (List ((Int × Int × Int × Int)))
  | 0, _, _ => none
  | n + 1, k2, l3 =>
    bif (ltI k2 p1) then
      (
        (room (l3.length + ([(1, 0, k2, p1)]).length)).bind fun u7 =>
        sI (w64 (k2 + 1)) fun k8 =>
        r_spec_hkMatrices_L4 p1 n k8 (l3 ++ ([(1, 0, k2, p1)]))
      )
    else
      (
        some l3
      )
def r_spec_hkMatrices (p1 : Int) : Option (List ((Int × Int × Int × Int))) :=
  (r_spec_hkMatrices_L4 p1 FU 0 (([] : List ((Int × Int × Int × Int))))).bind fun o5 =>
  (room (o5.length + ([(p1, 0, 0, 1)]).length)).bind fun u9 =>
  some (o5 ++ ([(p1, 0, 0, 1)]))

def r_spec_hkForms_L7 (y3 : (Int × Int × Int)) (y4 : List ((Int × Int × Int × Int))) : Nat → Int → List ((Int × Int × Int)) → Option (List ((Int × Int × Int)))
  | 0, _, _ => none
  | n + 1, t5, l6 =>
    bif (ltI t5 ((y4.length : Int))) then
      (
        (getI y4 t5).bind fun e10 =>
        (getI y4 t5).bind fun e11 =>
        (r_spec_foAct y3 e11).bind fun y12 =>
        (room (l6.length + ([y12]).length)).bind fun u13 =>
        sI (w64 (t5 + 1)) fun t14 =>
        r_spec_hkForms_L7 y3 y4 n t14 (l6 ++ ([y12]))
      )
    else
      (
        some l6
      )
def r_spec_hkForms (f1 : (Int × Int × Int)) (p2 : Int) : Option (List ((Int × Int × Int))) :=
  (r_spec_reClass f1).bind fun y3 =>
  (r_spec_hkMatrices p2).bind fun y4 =>
  (r_spec_hkForms_L7 y3 y4 FU 0 (([] : List ((Int × Int × Int))))).bind fun o8 =>
  some o8

def r_spec_hkNeighbours_L6 (p2 : Int) (y3 : List ((Int × Int × Int))) : Nat → Int → List ((Int × Int × Int)) → Option (List ((Int × Int × Int)))
  | 0, _, _ => none
  | n + 1, t4, l5 =>
    bif (ltI t4 ((y3.length : Int))) then
      (
        (getI y3 t4).bind fun e9 =>
        (getI y3 t4).bind fun e10 =>
        (r_spec_foContent e10).bind fun y11 =>
        bif (eqI y11 p2) then
          (
            (nz p2).bind fun z13 =>
            (nz p2).bind fun z14 =>
            (nz p2).bind fun z15 =>
            (r_spec_reClass ((w64 (Int.tdiv e10.1 p2), w64 (Int.tdiv e10.2.1 p2), w64 (Int.tdiv e10.2.2 p2)))).bind fun y16 =>
            (room (l5.length + ([y16]).length)).bind fun u17 =>
            sI (w64 (t4 + 1)) fun t18 =>
            r_spec_hkNeighbours_L6 p2 y3 n t18 (l5 ++ ([y16]))
          )
        else
          (
            sI (w64 (t4 + 1)) fun t19 =>
            r_spec_hkNeighbours_L6 p2 y3 n t19 l5
          )
      )
    else
      (
        some l5
      )
def r_spec_hkNeighbours (f1 : (Int × Int × Int)) (p2 : Int) : Option (List ((Int × Int × Int))) :=
  (r_spec_hkForms f1 p2).bind fun y3 =>
  (r_spec_hkNeighbours_L6 p2 y3 FU 0 (([] : List ((Int × Int × Int))))).bind fun o7 =>
  some o7

def r_spec_grIndex_L4 (f2 : (Int × Int × Int)) (l1 : List ((Int × Int × Int))) : Nat → Int → Option (Unit ⊕ Int)
  | 0, _ => none
  | n + 1, t3 =>
    bif (ltI t3 ((l1.length : Int))) then
      (
        (getI l1 t3).bind fun e7 =>
        (some (((e7.1 == f2.1) && ((e7.2.1 == f2.2.1) && (e7.2.2 == f2.2.2))))).bind fun t8 =>
        bif t8 then
          (
            some (.inr t3)
          )
        else
          (
            sI (w64 (t3 + 1)) fun t10 =>
            r_spec_grIndex_L4 f2 l1 n t10
          )
      )
    else
      (
        some (.inl ())
      )
def r_spec_grIndex (l1 : List ((Int × Int × Int))) (f2 : (Int × Int × Int)) : Option Int :=
  (r_spec_grIndex_L4 f2 l1 FU 0).bind fun qo5 =>
  match qo5 with
  | .inr r => some r
  | .inl o5 =>
    some (-1)

def r_spec_hkMatrix_L15 (l5 : List (List Int)) (p2 : Int) (t4 : Int) (y12 : List ((Int × Int × Int))) (y3 : List ((Int × Int × Int))) : Nat → Int → List Int → Option (List Int)
  | 0, _, _ => none
  | n + 1, t13, l14 =>
    bif (ltI t13 ((y12.length : Int))) then
      (
        (getI y12 t13).bind fun e18 =>
        (getI y12 t13).bind fun e19 =>
        (r_spec_grIndex y3 e19).bind fun y20 =>
        (getI l14 y20).bind fun e21 =>
        (getI l14 y20).bind fun e22 =>
        (getI l14 y20).bind fun e23 =>
        (getI l14 y20).bind fun e24 =>
        sI (w64 (t13 + 1)) fun t25 =>
        r_spec_hkMatrix_L15 l5 p2 t4 y12 y3 n t25 (l14.set (Int.toNat (y20)) (w64 (e22 + 1)))
      )
    else
      (
        some l14
      )
def r_spec_hkMatrix_L6 (p2 : Int) (y3 : List ((Int × Int × Int))) : Nat → Int → List (List Int) → Option (List (List Int))
  | 0, _, _ => none
  | n + 1, t4, l5 =>
    bif (ltI t4 ((y3.length : Int))) then
      (
        (getI y3 t4).bind fun e9 =>
        (getI y3 t4).bind fun e10 =>
        (mk ((y3.length : Int)) ((y3.length : Int))).bind fun u11 =>
        (r_spec_hkNeighbours e10 p2).bind fun y12 =>
        (r_spec_hkMatrix_L15 l5 p2 t4 y12 y3 FU 0 (List.replicate (Int.toNat ((y3.length : Int))) ((0 : Int)))).bind fun o16 =>
        (room (l5.length + ([o16]).length)).bind fun u26 =>
        sI (w64 (t4 + 1)) fun t27 =>
        r_spec_hkMatrix_L6 p2 y3 n t27 (l5 ++ ([o16]))
      )
    else
      (
        some l5
      )
def r_spec_hkMatrix (d1 : Int) (p2 : Int) : Option (List (List Int)) :=
  (r_spec_reList d1).bind fun y3 =>
  (r_spec_hkMatrix_L6 p2 y3 FU 0 (([] : List (List Int)))).bind fun o7 =>
  some o7

def r_spec_NeighbourMatrix (d1 : Int) (p2 : Int) : Option ((List (List Int)) × Bool) :=
  (r_spec_reDisc d1).bind fun y3 =>
  (bif (!y3) then some true else ((r_spec_hkPrime p2).bind fun y5 => some (!y5))).bind fun b6 =>
  bif b6 then
    (
      some ((([] : List (List Int)), false))
    )
  else
    (
      (r_spec_hkMatrix d1 p2).bind fun y8 =>
      some ((y8, true))
    )

def r_laws_sameInts_L5 (a1 : List Int) (b2 : List Int) : Nat → Int → Option (Unit ⊕ Bool)
  | 0, _ => none
  | n + 1, t4 =>
    bif (ltI t4 ((a1.length : Int))) then
      (
        (getI a1 t4).bind fun e8 =>
        (getI b2 t4).bind fun e9 =>
        bif (!eqI e8 e9) then
          (
            some (.inr false)
          )
        else
          (
            sI (w64 (t4 + 1)) fun t11 =>
            r_laws_sameInts_L5 a1 b2 n t11
          )
      )
    else
      (
        some (.inl ())
      )
def r_laws_sameInts (a1 : List Int) (b2 : List Int) : Option Bool :=
  bif (!eqI ((a1.length : Int)) ((b2.length : Int))) then
    (
      some false
    )
  else
    (
      (r_laws_sameInts_L5 a1 b2 FU 0).bind fun qo6 =>
      match qo6 with
      | .inr r => some r
      | .inl o6 =>
        some true
    )

def r_laws_sameLists_L5 (a1 : List (List Int)) (b2 : List (List Int)) : Nat → Int → Option (Unit ⊕ Bool)
  | 0, _ => none
  | n + 1, t4 =>
    bif (ltI t4 ((a1.length : Int))) then
      (
        (getI a1 t4).bind fun e8 =>
        (getI b2 t4).bind fun e9 =>
        (r_laws_sameInts e8 e9).bind fun y10 =>
        bif (!y10) then
          (
            some (.inr false)
          )
        else
          (
            sI (w64 (t4 + 1)) fun t12 =>
            r_laws_sameLists_L5 a1 b2 n t12
          )
      )
    else
      (
        some (.inl ())
      )
def r_laws_sameLists (a1 : List (List Int)) (b2 : List (List Int)) : Option Bool :=
  bif (!eqI ((a1.length : Int)) ((b2.length : Int))) then
    (
      some false
    )
  else
    (
      (r_laws_sameLists_L5 a1 b2 FU 0).bind fun qo6 =>
      match qo6 with
      | .inr r => some r
      | .inl o6 =>
        some true
    )

def r_impl_areNumbers_L3 (list1 : List Int) : Nat → Int → Option (Unit ⊕ Bool)
  | 0, _ => none
  | n + 1, t2 =>
    bif (ltI t2 ((list1.length : Int))) then
      (
        (getI list1 t2).bind fun e6 =>
        bif (bif (ltI e6 (-1000000)) then true else (ltI 1000000 e6)) then
          (
            some (.inr false)
          )
        else
          (
            sI (w64 (t2 + 1)) fun t9 =>
            r_impl_areNumbers_L3 list1 n t9
          )
      )
    else
      (
        some (.inl ())
      )
def r_impl_areNumbers (list1 : List Int) : Option Bool :=
  (r_impl_areNumbers_L3 list1 FU 0).bind fun qo4 =>
  match qo4 with
  | .inr r => some r
  | .inl o4 =>
    some true

def r_impl_root_L4 (vn1 : Int) : Nat → Int → Int → Option Int
  | 0, _, _ => none
  | n + 1, low2, high3 =>
    bif (ltI low2 high3) then
      (
        sI (w64 (Int.tdiv (w64 ((w64 (low2 + high3)) + 1)) 2)) fun vm7 =>
        bif (leI (w64 (vm7 * vm7)) vn1) then
          (
            r_impl_root_L4 vn1 n vm7 high3
          )
        else
          (
            sI (w64 (vm7 - 1)) fun high9 =>
            r_impl_root_L4 vn1 n low2 high9
          )
      )
    else
      (
        some low2
      )
def r_impl_root (vn1 : Int) : Option Int :=
  (r_impl_root_L4 vn1 FU 0 3000000000).bind fun o5 =>
  some o5

def r_impl_isSquare (vn1 : Int) : Option Bool :=
  (bif (leI 0 vn1) then ((r_impl_root vn1).bind fun y3 => (r_impl_root vn1).bind fun y4 => some (eqI (w64 (y3 * y4)) vn1)) else some false).bind fun b5 =>
  some b5

def r_impl_isDiscriminant (d1 : Int) : Option Bool :=
  (r_impl_areNumbers ([d1])).bind fun y2 =>
  (bif y2 then ((r_impl_mod d1 4).bind fun y4 => some (leI y4 1)) else some false).bind fun b5 =>
  (bif b5 then ((r_impl_isSquare d1).bind fun y7 => some (!y7)) else some false).bind fun b8 =>
  some b8

def r_impl_IsPrime (vn1 : Int) : Option Bool :=
  (r_impl_areNumbers ([vn1])).bind fun y2 =>
  (bif y2 then ((r_impl_isPrime vn1).bind fun y4 => some y4) else some false).bind fun b5 =>
  some b5

def r_impl_squareFree_L11 (p4 : Int) : Nat → Int → Int → Option (Int × Int)
  | 0, _, _ => none
  | n + 1, vn9, k10 =>
    (nz (w64 (p4 * p4))).bind fun z13 =>
    bif (eqI (Int.tmod vn9 (w64 (p4 * p4))) 0) then
      (
        (nz (w64 (p4 * p4))).bind fun z15 =>
        sI (w64 (Int.tdiv vn9 (w64 (p4 * p4)))) fun vn16 =>
        sI (w64 (k10 * p4)) fun k17 =>
        r_impl_squareFree_L11 p4 n vn16 k17
      )
    else
      (
        some (vn9, k10)
      )
def r_impl_squareFree_L5 : Nat → Int → Int → Int → Option (Int × Int)
  | 0, _, _, _ => none
  | n + 1, vn2, k3, p4 =>
    (r_impl_abs vn2).bind fun y7 =>
    bif (leI (w64 (p4 * p4)) y7) then
      (
        (r_impl_squareFree_L11 p4 FU vn2 k3).bind fun o12 =>
        sI (w64 (p4 + 1)) fun p18 =>
        r_impl_squareFree_L5 n o12.1 o12.2 p18
      )
    else
      (
        some (vn2, k3)
      )
def r_impl_squareFree (vn1 : Int) : Option (Int × Int) :=
  (r_impl_squareFree_L5 FU vn1 1 2).bind fun o6 =>
  some ((o6.1, o6.2))

def r_impl_fundamental (d1 : Int) : Option (Int × Int) :=
  (r_impl_squareFree d1).bind fun y2 =>
  (r_impl_mod y2.1 4).bind fun y3 =>
  bif (!eqI y3 1) then
    (
      sI (w64 (4 * y2.1)) fun t5 =>
      sI (w64 (Int.tdiv y2.2 2)) fun t6 =>
      some ((t5, t6))
    )
  else
    (
      some ((y2.1, y2.2))
    )

def r_impl_symbolOfTwo (vn1 : Int) : Option Int :=
  (r_impl_mod vn1 8).bind fun y2 =>
  bif (bif (eqI y2 1) then true else (eqI y2 7)) then
    (
      some 1
    )
  else
    (
      some (-1)
    )

def r_impl_jacobi_L12 (vn5 : Int) : Nat → Int → Int → Option (Int × Int)
  | 0, _, _ => none
  | n + 1, a10, vs11 =>
    bif (eqI (Int.tmod a10 2) 0) then
      (
        sI (w64 (Int.tdiv a10 2)) fun a15 =>
        (r_impl_symbolOfTwo vn5).bind fun y16 =>
        sI (w64 (vs11 * y16)) fun vs17 =>
        r_impl_jacobi_L12 vn5 n a15 vs17
      )
    else
      (
        some (a10, vs11)
      )
def r_impl_jacobi_L7 : Nat → Int → Int → Int → Option (Int × Int)
  | 0, _, _, _ => none
  | n + 1, a4, vn5, vs6 =>
    bif (!eqI a4 0) then
      (
        (r_impl_jacobi_L12 vn5 FU a4 vs6).bind fun o13 =>
        (some (bif (eqI (Int.tmod o13.1 4) 3) then (eqI (Int.tmod vn5 4) 3) else false)).bind fun t19 =>
        bif t19 then
          (
            sI (w64 (0 - o13.2)) fun vs21 =>
            (nz o13.1).bind fun z22 =>
            sI (Int.tmod vn5 o13.1) fun a23 =>
            r_impl_jacobi_L7 n a23 o13.1 vs21
          )
        else
          (
            (nz o13.1).bind fun z24 =>
            sI (Int.tmod vn5 o13.1) fun a25 =>
            r_impl_jacobi_L7 n a25 o13.1 o13.2
          )
      )
    else
      (
        some (vn5, vs6)
      )
def r_impl_jacobi (a1 : Int) (vn2 : Int) : Option Int :=
  (r_impl_mod a1 vn2).bind fun y3 =>
  (r_impl_jacobi_L7 FU y3 vn2 1).bind fun o8 =>
  bif (!eqI o8.1 1) then
    (
      some 0
    )
  else
    (
      some o8.2
    )

def r_impl_kronecker_L12 (a1 : Int) : Nat → Int → Int → Option ((Int × Int) ⊕ Int)
  | 0, _, _ => none
  | n + 1, vn10, vs11 =>
    bif (eqI (Int.tmod vn10 2) 0) then
      (
        bif (eqI (Int.tmod a1 2) 0) then
          (
            some (.inr 0)
          )
        else
          (
            sI (w64 (Int.tdiv vn10 2)) fun vn16 =>
            (r_impl_symbolOfTwo a1).bind fun y17 =>
            sI (w64 (vs11 * y17)) fun vs18 =>
            r_impl_kronecker_L12 a1 n vn16 vs18
          )
      )
    else
      (
        some (.inl (vn10, vs11))
      )
def r_impl_kronecker (a1 : Int) (vn2 : Int) : Option Int :=
  bif (eqI vn2 0) then
    (
      (r_impl_abs a1).bind fun y4 =>
      bif (eqI y4 1) then
        (
          some 1
        )
      else
        (
          some 0
        )
    )
  else
    (
      (
        bif (bif (ltI vn2 0) then (ltI a1 0) else false) then
          (
            some (-1)
          )
        else
          (
            some 1
          )
      ).bind fun j6 =>
      (r_impl_abs vn2).bind fun y9 =>
      (r_impl_kronecker_L12 a1 FU y9 j6).bind fun qo13 =>
      match qo13 with
      | .inr r => some r
      | .inl o13 =>
        (r_impl_jacobi a1 o13.1).bind fun y19 =>
        sI (w64 (o13.2 * y19)) fun t20 =>
        some t20
    )

def r_impl_kindOfPrime (d1 : Int) (p2 : Int) : Option Int :=
  (r_impl_fundamental d1).bind fun y3 =>
  (nz p2).bind fun z4 =>
  bif (eqI (Int.tmod y3.2 p2) 0) then
    (
      some 4
    )
  else
    (
      (r_impl_kronecker d1 p2).bind fun y6 =>
      (getI [1, 3, 2] (w64 (y6 + 1))).bind fun e7 =>
      some e7
    )

def r_impl_KindOfPrime (d1 : Int) (p2 : Int) : Option (Int × Bool) :=
  (r_impl_isDiscriminant d1).bind fun y3 =>
  (bif (!y3) then some true else ((r_impl_IsPrime p2).bind fun y5 => some (!y5))).bind fun b6 =>
  bif b6 then
    (
      some ((0, false))
    )
  else
    (
      (r_impl_kindOfPrime d1 p2).bind fun y8 =>
      some ((y8, true))
    )

def r_impl_ReducedForms (d1 : Int) : Option ((List ((Int × Int × Int))) × Bool) :=
  (r_impl_isNegativeDisc d1).bind fun y2 =>
  bif (!y2) then
    (
      some ((([] : List ((Int × Int × Int))), false))
    )
  else
    (
      (r_impl_reducedForms d1).bind fun y4 =>
      some ((y4, true))
    )

def r_impl_KroneckerSymbol (a1 : Int) (vn2 : Int) : Option (Int × Bool) :=
  (r_impl_areNumbers ([a1, vn2])).bind fun y3 =>
  bif (!y3) then
    (
      some ((0, false))
    )
  else
    (
      (r_impl_kronecker a1 vn2).bind fun y5 =>
      some ((y5, true))
    )

def r_impl_isShownPrime (p1 : Int) : Option Bool :=
  (bif (leI p1 10000) then ((r_impl_isPrime p1).bind fun y3 => some y3) else some false).bind fun b4 =>
  some b4

def r_impl_primeForm_L4 (d1 : Int) (p2 : Int) : Nat → Int → Option (Unit ⊕ (((Int × Int × Int)) × Bool))
  | 0, _ => none
  | n + 1, b3 =>
    bif (leI b3 p2) then
      (
        (nz (w64 (4 * p2))).bind fun z7 =>
        bif (eqI (Int.tmod (w64 ((w64 (b3 * b3)) - d1)) (w64 (4 * p2))) 0) then
          (
            (nz (w64 (4 * p2))).bind fun z9 =>
            sI (w64 (Int.tdiv (w64 ((w64 (b3 * b3)) - d1)) (w64 (4 * p2)))) fun f10 =>
            (r_impl_Form_content ((p2, b3, f10))).bind fun y11 =>
            some (.inr ((((p2, b3, f10), eqI y11 1))))
          )
        else
          (
            sI (w64 (b3 + 1)) fun b12 =>
            r_impl_primeForm_L4 d1 p2 n b12
          )
      )
    else
      (
        some (.inl ())
      )
def r_impl_primeForm (d1 : Int) (p2 : Int) : Option (((Int × Int × Int)) × Bool) :=
  (r_impl_primeForm_L4 d1 p2 FU 0).bind fun qo5 =>
  match qo5 with
  | .inr r => some r
  | .inl o5 =>
    some (((0, 0, 0), false))

def r_impl_PrimeForm (d1 : Int) (p2 : Int) : Option (((Int × Int × Int)) × Bool) :=
  (r_impl_isNegativeDisc d1).bind fun y3 =>
  (bif (!y3) then some true else ((r_impl_isShownPrime p2).bind fun y5 => some (!y5))).bind fun b6 =>
  bif b6 then
    (
      some (((0, 0, 0), false))
    )
  else
    (
      (r_impl_primeForm d1 p2).bind fun y8 =>
      bif (!y8.2) then
        (
          some (((0, 0, 0), false))
        )
      else
        (
          some ((y8.1, true))
        )
    )

def r_impl_PrimeClass (d1 : Int) (p2 : Int) : Option (((Int × Int × Int)) × Bool) :=
  (r_impl_PrimeForm d1 p2).bind fun y3 =>
  bif (!y3.2) then
    (
      some (((0, 0, 0), false))
    )
  else
    (
      (r_impl_reduced y3.1).bind fun y5 =>
      some ((y5, true))
    )

def r_laws_qSum_L4 (l1 : List Int) : Nat → Int → Int → Option Int
  | 0, _, _ => none
  | n + 1, sum2, t3 =>
    bif (ltI t3 ((l1.length : Int))) then
      (
        (getI l1 t3).bind fun e7 =>
        sI (w64 (sum2 + e7)) fun sum8 =>
        sI (w64 (t3 + 1)) fun t9 =>
        r_laws_qSum_L4 l1 n sum8 t9
      )
    else
      (
        some sum2
      )
def r_laws_qSum (l1 : List Int) : Option Int :=
  (r_laws_qSum_L4 l1 FU 0 0).bind fun o5 =>
  some o5

def r_laws_numberOf_L4 (b1 : List Int) : Nat → Int → Int → Option Int
  | 0, _, _ => none
  | n + 1, vn2, t3 =>
    bif (ltI t3 ((b1.length : Int))) then
      (
        (getI b1 t3).bind fun e7 =>
        sI (Int.tmod (w64 ((w64 (31 * vn2)) + (IntKind.i64.wrap e7))) 1000003) fun vn8 =>
        sI (w64 (t3 + 1)) fun t9 =>
        r_laws_numberOf_L4 b1 n vn8 t9
      )
    else
      (
        some vn2
      )
def r_laws_numberOf (b1 : List Int) : Option Int :=
  (r_laws_numberOf_L4 b1 FU 0 0).bind fun o5 =>
  some o5

def r_impl_IsForm (f1 : (Int × Int × Int)) : Option Bool :=
  (r_impl_areNumbers ([f1.1, f1.2.1, f1.2.2])).bind fun y2 =>
  some y2

def r_impl_Form_disc (f1 : (Int × Int × Int)) : Option Int :=
  sI (w64 ((w64 (f1.2.1 * f1.2.1)) - (w64 ((w64 (4 * f1.1)) * f1.2.2)))) fun t2 =>
  some t2

def r_impl_isDefinite (f1 : (Int × Int × Int)) : Option Bool :=
  (r_impl_IsForm f1).bind fun y2 =>
  (bif y2 then ((r_impl_Form_disc f1).bind fun y4 => some (ltI y4 0)) else some false).bind fun b5 =>
  some (bif b5 then (ltI 0 f1.1) else false)

def r_impl_isShownForm (f1 : (Int × Int × Int)) : Option Bool :=
  (r_impl_isDefinite f1).bind fun y2 =>
  (bif y2 then ((r_impl_Form_disc f1).bind fun y4 => some (leI (-2000) y4)) else some false).bind fun b5 =>
  some b5

def r_impl_isClassForm (f1 : (Int × Int × Int)) : Option Bool :=
  (r_impl_isShownForm f1).bind fun y2 =>
  (bif y2 then ((r_impl_Form_content f1).bind fun y4 => some (eqI y4 1)) else some false).bind fun b5 =>
  some b5

def r_impl_NeighbourClasses (f1 : (Int × Int × Int)) (p2 : Int) : Option ((List ((Int × Int × Int))) × Bool) :=
  (r_impl_isClassForm f1).bind fun y3 =>
  (bif (!y3) then some true else ((r_impl_isIndex p2).bind fun y5 => some (!y5))).bind fun b6 =>
  bif b6 then
    (
      some ((([] : List ((Int × Int × Int))), false))
    )
  else
    (
      (r_impl_reduced f1).bind fun y8 =>
      (r_impl_neighbours y8 p2).bind fun y9 =>
      some ((y9, true))
    )

def r_impl_arePair (f1 : (Int × Int × Int)) (g2 : (Int × Int × Int)) : Option Bool :=
  (r_impl_isClassForm f1).bind fun y3 =>
  (bif y3 then ((r_impl_isClassForm g2).bind fun y5 => some y5) else some false).bind fun b6 =>
  (bif b6 then ((r_impl_Form_disc f1).bind fun y8 => (r_impl_Form_disc g2).bind fun y9 => some (eqI y8 y9)) else some false).bind fun b10 =>
  some b10

def r_impl_firstPoint_L11 (a2 : Int) (g1 : (Int × Int × Int)) (size3 : Int) (x6 : Int) : Nat → Int → Option (Unit ⊕ (Int × Int))
  | 0, _ => none
  | n + 1, y10 =>
    bif (leI y10 size3) then
      (
        (bif (eqI (mxI x6 y10) size3) then ((r_impl_gcd x6 y10).bind fun y15 => some (eqI y15 1)) else some false).bind fun b16 =>
        (bif b16 then ((r_impl_Form_at g1 x6 y10).bind fun y18 => (r_impl_gcd y18 a2).bind fun y19 => some (eqI y19 1)) else some false).bind fun b20 =>
        bif b20 then
          (
            some (.inr (((x6, y10))))
          )
        else
          (
            sI (w64 (y10 + 1)) fun y22 =>
            r_impl_firstPoint_L11 a2 g1 size3 x6 n y22
          )
      )
    else
      (
        some (.inl ())
      )
def r_impl_firstPoint_L7 (a2 : Int) (g1 : (Int × Int × Int)) (size3 : Int) : Nat → Int → Option (Unit ⊕ (Int × Int))
  | 0, _ => none
  | n + 1, x6 =>
    bif (leI x6 size3) then
      (
        (r_impl_firstPoint_L11 a2 g1 size3 x6 FU 0).bind fun qo12 =>
        match qo12 with
        | .inr r => some (.inr r)
        | .inl o12 =>
          sI (w64 (x6 + 1)) fun x23 =>
          r_impl_firstPoint_L7 a2 g1 size3 n x23
      )
    else
      (
        some (.inl ())
      )
def r_impl_firstPoint_L4 (a2 : Int) (g1 : (Int × Int × Int)) : Nat → Int → Option (Unit ⊕ (Int × Int))
  | 0, _ => none
  | n + 1, size3 =>
    (r_impl_firstPoint_L7 a2 g1 size3 FU 0).bind fun qo8 =>
    match qo8 with
    | .inr r => some (.inr r)
    | .inl o8 =>
      sI (w64 (size3 + 1)) fun size24 =>
      r_impl_firstPoint_L4 a2 g1 n size24
def r_impl_firstPoint (g1 : (Int × Int × Int)) (a2 : Int) : Option (Int × Int) :=
  (r_impl_firstPoint_L4 a2 g1 FU 0).bind fun qo5 =>
  match qo5 with
  | .inr r => some r
  | .inl _ => none

def r_impl_inverse_L8 (vm2 : Int) : Nat → Int → Int → Int → Int → Option Int
  | 0, _, _, _, _ => none
  | n + 1, x4, y5, vr6, vs7 =>
    bif (!eqI vs7 0) then
      (
        (nz vs7).bind fun z11 =>
        sI (w64 (Int.tdiv vr6 vs7)) fun q12 =>
        sI (w64 (vr6 - (w64 (q12 * vs7)))) fun vs13 =>
        sI (w64 (x4 - (w64 (q12 * y5)))) fun y14 =>
        r_impl_inverse_L8 vm2 n y5 y14 vs7 vs13
      )
    else
      (
        some x4
      )
def r_impl_inverse (a1 : Int) (vm2 : Int) : Option Int :=
  (r_impl_mod a1 vm2).bind fun y3 =>
  (r_impl_inverse_L8 vm2 FU 1 0 y3 vm2).bind fun o9 =>
  (r_impl_mod o9 vm2).bind fun y15 =>
  some y15

def r_impl_Form_complete (f1 : (Int × Int × Int)) (x2 : Int) (y3 : Int) : Option (((Int × Int × Int)) × ((Int × Int × Int × Int))) :=
  (
    bif (eqI y3 0) then
      (
        some (0, x2)
      )
    else
      (
        (r_impl_abs y3).bind fun y6 =>
        (r_impl_inverse x2 y6).bind fun y7 =>
        (nz y3).bind fun z8 =>
        sI (w64 (Int.tdiv (w64 ((w64 (x2 * y7)) - 1)) y3)) fun f9 =>
        some (f9, y7)
      )
  ).bind fun j4 =>
  (r_impl_Form_substitute f1 ((x2, j4.1, y3, j4.2))).bind fun y10 =>
  (r_impl_floorDiv y10.2.1 (w64 (2 * y10.1))).bind fun y11 =>
  sI (w64 (0 - y11)) fun t12 =>
  sI (w64 (j4.1 + (w64 (t12 * x2)))) fun f13 =>
  sI (w64 (j4.2 + (w64 (t12 * y3)))) fun f14 =>
  (r_impl_Form_substitute f1 ((x2, f13, y3, f14))).bind fun y15 =>
  some ((y15, (x2, f13, y3, f14)))

def r_impl_unite_L7 (f1 : (Int × Int × Int)) (y4 : (((Int × Int × Int)) × ((Int × Int × Int × Int)))) : Nat → Int → Option Int
  | 0, _ => none
  | n + 1, f6 =>
    (r_impl_mod (w64 (f6 - y4.1.2.1)) (w64 (2 * y4.1.1))).bind fun y9 =>
    bif (!eqI y9 0) then
      (
        sI (w64 (f6 + (w64 (2 * f1.1)))) fun f11 =>
        r_impl_unite_L7 f1 y4 n f11
      )
    else
      (
        some f6
      )
def r_impl_unite (f1 : (Int × Int × Int)) (g2 : (Int × Int × Int)) : Option (Int × Int × Int × Int × ((Int × Int × Int × Int)) × ((Int × Int × Int × Int))) :=
  (r_impl_firstPoint g2 f1.1).bind fun y3 =>
  (r_impl_Form_complete g2 y3.1 y3.2).bind fun y4 =>
  (r_impl_mod f1.2.1 (w64 (2 * f1.1))).bind fun y5 =>
  (r_impl_unite_L7 f1 y4 FU y5).bind fun o8 =>
  (r_impl_mod o8 (w64 ((w64 (2 * f1.1)) * y4.1.1))).bind fun y12 =>
  (r_impl_Form_disc f1).bind fun y13 =>
  (nz (w64 ((w64 (4 * f1.1)) * y4.1.1))).bind fun z14 =>
  sI (w64 (Int.tdiv (w64 ((w64 (y12 * y12)) - y13)) (w64 ((w64 (4 * f1.1)) * y4.1.1)))) fun f15 =>
  (nz (w64 (2 * f1.1))).bind fun z16 =>
  sI (w64 (Int.tdiv (w64 (y12 - f1.2.1)) (w64 (2 * f1.1)))) fun f17 =>
  (nz (w64 (2 * y4.1.1))).bind fun z18 =>
  (r_impl_Matrix_times y4.2 ((1, w64 (Int.tdiv (w64 (y12 - y4.1.2.1)) (w64 (2 * y4.1.1))), 0, 1))).bind fun y19 =>
  some ((f1.1, y4.1.1, y12, f15, (1, f17, 0, 1), y19))

def r_impl_united_composite (u1 : (Int × Int × Int × Int × ((Int × Int × Int × Int)) × ((Int × Int × Int × Int)))) : Option (Int × Int × Int) :=
  sI (w64 (u1.1 * u1.2.1)) fun f2 =>
  some ((f2, u1.2.2.1, u1.2.2.2.1))

def r_impl_compose (f1 : (Int × Int × Int)) (g2 : (Int × Int × Int)) : Option (Int × Int × Int) :=
  (r_impl_reduced f1).bind fun y3 =>
  (r_impl_reduced g2).bind fun y4 =>
  (r_impl_unite y3 y4).bind fun y5 =>
  (r_impl_united_composite y5).bind fun y6 =>
  (r_impl_reduced y6).bind fun y7 =>
  some y7

def r_impl_ComposeForms (f1 : (Int × Int × Int)) (g2 : (Int × Int × Int)) : Option (((Int × Int × Int)) × Bool) :=
  (r_impl_arePair f1 g2).bind fun y3 =>
  bif (!y3) then
    (
      some (((0, 0, 0), false))
    )
  else
    (
      (r_impl_compose f1 g2).bind fun y5 =>
      some ((y5, true))
    )

def r_impl_Form_opposite (f1 : (Int × Int × Int)) : Option (Int × Int × Int) :=
  sI (w64 (0 - f1.2.1)) fun f2 =>
  some ((f1.1, f2, f1.2.2))

def r_impl_DivideForms (f1 : (Int × Int × Int)) (g2 : (Int × Int × Int)) : Option (((Int × Int × Int)) × Bool) :=
  (r_impl_arePair f1 g2).bind fun y3 =>
  bif (!y3) then
    (
      some (((0, 0, 0), false))
    )
  else
    (
      (r_impl_Form_opposite g2).bind fun y5 =>
      (r_impl_compose f1 y5).bind fun y6 =>
      some ((y6, true))
    )

def r_laws_qHas_L4 (f2 : (Int × Int × Int)) (l1 : List ((Int × Int × Int))) : Nat → Int → Option (Unit ⊕ Bool)
  | 0, _ => none
  | n + 1, t3 =>
    bif (ltI t3 ((l1.length : Int))) then
      (
        (getI l1 t3).bind fun e7 =>
        (some (((e7.1 == f2.1) && ((e7.2.1 == f2.2.1) && (e7.2.2 == f2.2.2))))).bind fun t8 =>
        bif t8 then
          (
            some (.inr true)
          )
        else
          (
            sI (w64 (t3 + 1)) fun t10 =>
            r_laws_qHas_L4 f2 l1 n t10
          )
      )
    else
      (
        some (.inl ())
      )
def r_laws_qHas (l1 : List ((Int × Int × Int))) (f2 : (Int × Int × Int)) : Option Bool :=
  (r_laws_qHas_L4 f2 l1 FU 0).bind fun qo5 =>
  match qo5 with
  | .inr r => some r
  | .inl o5 =>
    some false

def r_laws_FnNeighbours_L30 (e28 : List Int) (more2 : List Int) (t23 : Int) (y14 : ((List ((Int × Int × Int))) × Bool)) (y15 : (Int × Bool)) (y21 : (((Int × Int × Int)) × Bool)) (y5 : (Int × Int)) (y6 : ((List (List Int)) × Bool)) : Nat → Int → Option (Unit ⊕ Bool)
  | 0, _ => none
  | n + 1, t29 =>
    bif (ltI t29 ((e28.length : Int))) then
      (
        (getI e28 t29).bind fun e33 =>
        (getI y6.1 t29).bind fun e34 =>
        (getI y6.1 t29).bind fun e35 =>
        (getI e35 t23).bind fun e36 =>
        bif (!eqI e33 e36) then
          (
            some (.inr false)
          )
        else
          (
            sI (w64 (t29 + 1)) fun t38 =>
            r_laws_FnNeighbours_L30 e28 more2 t23 y14 y15 y21 y5 y6 n t38
          )
      )
    else
      (
        some (.inl ())
      )
def r_laws_FnNeighbours_L24 (more2 : List Int) (y14 : ((List ((Int × Int × Int))) × Bool)) (y15 : (Int × Bool)) (y21 : (((Int × Int × Int)) × Bool)) (y5 : (Int × Int)) (y6 : ((List (List Int)) × Bool)) : Nat → Int → Option (Unit ⊕ Bool)
  | 0, _ => none
  | n + 1, t23 =>
    bif (ltI t23 ((y6.1.length : Int))) then
      (
        (getI y6.1 t23).bind fun e27 =>
        (getI y6.1 t23).bind fun e28 =>
        (r_laws_FnNeighbours_L30 e28 more2 t23 y14 y15 y21 y5 y6 FU 0).bind fun qo31 =>
        match qo31 with
        | .inr r => some (.inr r)
        | .inl o31 =>
          (r_laws_qSum e28).bind fun y39 =>
          bif (!eqI y39 (w64 (1 + y15.1))) then
            (
              some (.inr false)
            )
          else
            (
              sI (w64 (t23 + 1)) fun t41 =>
              r_laws_FnNeighbours_L24 more2 y14 y15 y21 y5 y6 n t41
            )
      )
    else
      (
        some (.inl ())
      )
def r_laws_FnNeighbours_L66 (y48 : ((List ((Int × Int × Int))) × Bool)) (y51 : (((Int × Int × Int)) × Bool)) (y54 : (((Int × Int × Int)) × Bool)) : Nat → Int → Option (Unit ⊕ Bool)
  | 0, _ => none
  | n + 1, t65 =>
    bif (ltI t65 ((y48.1.length : Int))) then
      (
        (getI y48.1 t65).bind fun e69 =>
        (getI y48.1 t65).bind fun e70 =>
        (some (bif (!((e70.1 == y51.1.1) && ((e70.2.1 == y51.1.2.1) && (e70.2.2 == y51.1.2.2)))) then (!((e70.1 == y54.1.1) && ((e70.2.1 == y54.1.2.1) && (e70.2.2 == y54.1.2.2)))) else false)).bind fun t72 =>
        bif t72 then
          (
            some (.inr false)
          )
        else
          (
            sI (w64 (t65 + 1)) fun t74 =>
            r_laws_FnNeighbours_L66 y48 y51 y54 n t74
          )
      )
    else
      (
        some (.inl ())
      )
def r_laws_FnNeighbours (code1 : List Int) (more2 : List Int) : Option Bool :=
  (r_laws_big code1 more2).bind fun y3 =>
  bif y3 then
    (
      some true
    )
  else
    (
      (r_spec_DrawNeighbourMatrix code1).bind fun y5 =>
      (r_impl_NeighbourMatrix y5.1 y5.2).bind fun y6 =>
      (r_spec_NeighbourMatrix y5.1 y5.2).bind fun y7 =>
      (bif (y6.2 != y7.2) then some true else ((r_laws_sameLists y6.1 y7.1).bind fun y9 => some (!y9))).bind fun b10 =>
      bif b10 then
        (
          some false
        )
      else
        (
          bif (!y6.2) then
            (
              some true
            )
          else
            (
              (r_impl_KindOfPrime y5.1 y5.2).bind fun y13 =>
              (r_impl_ReducedForms y5.1).bind fun y14 =>
              (r_impl_KroneckerSymbol y5.1 y5.2).bind fun y15 =>
              (some (bif (bif (!y13.2) then true else (!y14.2)) then true else (!y15.2))).bind fun t18 =>
              bif t18 then
                (
                  some false
                )
              else
                (
                  bif (eqI y13.1 4) then
                    (
                      some true
                    )
                  else
                    (
                      (r_impl_PrimeClass y5.1 y5.2).bind fun y21 =>
                      bif (y21.2 != (!eqI y15.1 (-1))) then
                        (
                          some false
                        )
                      else
                        (
                          (r_laws_FnNeighbours_L24 more2 y14 y15 y21 y5 y6 FU 0).bind fun qo25 =>
                          match qo25 with
                          | .inr r => some r
                          | .inl o25 =>
                            bif (!y21.2) then
                              (
                                some true
                              )
                            else
                              (
                                (r_laws_numberOf more2).bind fun y43 =>
                                (nz ((y14.1.length : Int))).bind fun z44 =>
                                sI (Int.tmod y43 ((y14.1.length : Int))) fun i45 =>
                                (getI y14.1 i45).bind fun e46 =>
                                (getI y14.1 i45).bind fun e47 =>
                                (r_impl_NeighbourClasses e47 y5.2).bind fun y48 =>
                                (getI y14.1 i45).bind fun e49 =>
                                (getI y14.1 i45).bind fun e50 =>
                                (r_impl_ComposeForms e50 y21.1).bind fun y51 =>
                                (getI y14.1 i45).bind fun e52 =>
                                (getI y14.1 i45).bind fun e53 =>
                                (r_impl_DivideForms e53 y21.1).bind fun y54 =>
                                (bif (bif (bif (bif (!y48.2) then true else (!eqI ((y48.1.length : Int)) (w64 (1 + y15.1)))) then true else (!y51.2)) then true else (!y54.2)) then some true else ((r_laws_qHas y48.1 y51.1).bind fun y59 => some (!y59))).bind fun b60 =>
                                (bif b60 then some true else ((r_laws_qHas y48.1 y54.1).bind fun y62 => some (!y62))).bind fun b63 =>
                                bif b63 then
                                  (
                                    some false
                                  )
                                else
                                  (
                                    (r_laws_FnNeighbours_L66 y48 y51 y54 FU 0).bind fun qo67 =>
                                    match qo67 with
                                    | .inr r => some r
                                    | .inl o67 =>
                                      some true
                                  )
                              )
                        )
                    )
                )
            )
        )
    )

def r_spec_coPoint_L12 (a2 : Int) (g1 : (Int × Int × Int)) (k3 : Int) (x7 : Int) : Nat → Int → Option (Unit ⊕ (Int × Int))
  | 0, _ => none
  | n + 1, y11 =>
    bif (leI y11 k3) then
      (
        (r_spec_l1Most x7 y11).bind fun y15 =>
        (bif (eqI y15 k3) then ((r_spec_nuGcd x7 y11).bind fun y17 => some (eqI y17 1)) else some false).bind fun b18 =>
        (bif b18 then ((r_spec_foValue g1 x7 y11).bind fun y20 => (r_spec_nuGcd y20 a2).bind fun y21 => some (eqI y21 1)) else some false).bind fun b22 =>
        bif b22 then
          (
            some (.inr (((x7, y11))))
          )
        else
          (
            sI (w64 (y11 + 1)) fun y24 =>
            r_spec_coPoint_L12 a2 g1 k3 x7 n y24
          )
      )
    else
      (
        some (.inl ())
      )

def r_spec_coPoint_L8 (a2 : Int) (g1 : (Int × Int × Int)) (k3 : Int) : Nat → Int → Option (Unit ⊕ (Int × Int))
  | 0, _ => none
  | n + 1, x7 =>
    bif (leI x7 k3) then
      (
        (r_spec_coPoint_L12 a2 g1 k3 x7 FU 0).bind fun qo13 =>
        match qo13 with
        | .inr r => some (.inr r)
        | .inl o13 =>
          sI (w64 (x7 + 1)) fun x25 =>
          r_spec_coPoint_L8 a2 g1 k3 n x25
      )
    else
      (
        some (.inl ())
      )

def r_spec_coPoint_L4 (a2 : Int) (g1 : (Int × Int × Int)) : Nat → Int → Option (Unit ⊕ (Int × Int))
  | 0, _ => none
  | n + 1, k3 =>
    bif (leI k3 100) then
      (
        (r_spec_coPoint_L8 a2 g1 k3 FU 0).bind fun qo9 =>
        match qo9 with
        | .inr r => some (.inr r)
        | .inl o9 =>
          sI (w64 (k3 + 1)) fun k26 =>
          r_spec_coPoint_L4 a2 g1 n k26
      )
    else
      (
        some (.inl ())
      )

def r_spec_coPoint (g1 : (Int × Int × Int)) (a2 : Int) : Option (Int × Int) :=
  (r_spec_coPoint_L4 a2 g1 FU 1).bind fun qo5 =>
  match qo5 with
  | .inr r => some r
  | .inl o5 =>
    some ((1, 0))

def r_spec_l1Sign (vn1 : Int) : Option Int :=
  bif (ltI 0 vn1) then
    (
      some 1
    )
  else
    (
      bif (ltI vn1 0) then
        (
          some (-1)
        )
      else
        (
          some 0
        )
    )

def r_spec_nuInverse_L8 (vm2 : Int) : Nat → Int → Int → Int → Int → Option (Int × Int)
  | 0, _, _, _, _ => none
  | n + 1, vr4, next5, x6, y7 =>
    bif (!eqI next5 0) then
      (
        (nz next5).bind fun z11 =>
        sI (w64 (Int.tdiv vr4 next5)) fun q12 =>
        sI (w64 (vr4 - (w64 (q12 * next5)))) fun next13 =>
        sI (w64 (x6 - (w64 (q12 * y7)))) fun y14 =>
        r_spec_nuInverse_L8 vm2 n next5 next13 y7 y14
      )
    else
      (
        some (vr4, x6)
      )

def r_spec_nuInverse (a1 : Int) (vm2 : Int) : Option Int :=
  (r_spec_nuMod a1 vm2).bind fun y3 =>
  (r_spec_nuInverse_L8 vm2 FU vm2 y3 0 1).bind fun o9 =>
  bif (!eqI o9.1 1) then
    (
      some (-1)
    )
  else
    (
      (r_spec_nuMod o9.2 vm2).bind fun y16 =>
      some y16
    )

def r_spec_nuBezout (a1 : Int) (b2 : Int) : Option (Int × Int × Int) :=
  (r_spec_nuGcd a1 b2).bind fun y3 =>
  bif (eqI b2 0) then
    (
      (r_spec_l1Sign a1).bind fun y5 =>
      some ((y3, y5, 0))
    )
  else
    (
      (nz y3).bind fun z6 =>
      (r_spec_l1Abs b2).bind fun y7 =>
      (nz y3).bind fun z8 =>
      (r_spec_nuInverse (w64 (Int.tdiv a1 y3)) (w64 (Int.tdiv y7 y3))).bind fun y9 =>
      (nz b2).bind fun z10 =>
      sI (w64 (Int.tdiv (w64 (y3 - (w64 (a1 * y9)))) b2)) fun t11 =>
      some ((y3, y9, t11))
    )

def r_spec_vaComplete (f1 : (Int × Int × Int)) (x2 : Int) (y3 : Int) : Option (((Int × Int × Int)) × ((Int × Int × Int × Int))) :=
  (r_spec_nuBezout x2 y3).bind fun y4 =>
  (r_spec_foValue f1 x2 y3).bind fun y5 =>
  sI (w64 (0 - y4.2.2)) fun q6 =>
  (r_spec_foPolar f1 x2 y3 q6 y4.2.1).bind fun y7 =>
  (r_spec_nuMod y7 (w64 (2 * y5))).bind fun y8 =>
  (nz (w64 (2 * y5))).bind fun z9 =>
  sI (w64 (Int.tdiv (w64 (y8 - y7)) (w64 (2 * y5)))) fun t10 =>
  sI (w64 (q6 + (w64 (x2 * t10)))) fun f11 =>
  sI (w64 (y4.2.1 + (w64 (y3 * t10)))) fun f12 =>
  sI (w64 (y7 + (w64 ((w64 (2 * y5)) * t10)))) fun b13 =>
  (r_spec_foDisc f1).bind fun y14 =>
  (nz (w64 (4 * y5))).bind fun z15 =>
  sI (w64 (Int.tdiv (w64 ((w64 (b13 * b13)) - y14)) (w64 (4 * y5)))) fun f16 =>
  some (((y5, b13, f16), (x2, f11, y3, f12)))

def r_spec_nuCommon (a1 : Int) (vm2 : Int) (b3 : Int) (vn4 : Int) : Option (Int × Int × Bool) :=
  (r_spec_nuGcd vm2 vn4).bind fun y5 =>
  (nz y5).bind fun z6 =>
  bif (!eqI (Int.tmod (w64 (b3 - a1)) y5) 0) then
    (
      some ((0, 0, false))
    )
  else
    (
      (nz y5).bind fun z8 =>
      (nz y5).bind fun z9 =>
      (nz y5).bind fun z10 =>
      (r_spec_nuInverse (w64 (Int.tdiv vm2 y5)) (w64 (Int.tdiv vn4 y5))).bind fun y11 =>
      (nz y5).bind fun z12 =>
      (r_spec_nuMod (w64 ((w64 (Int.tdiv (w64 (b3 - a1)) y5)) * y11)) (w64 (Int.tdiv vn4 y5))).bind fun y13 =>
      (nz y5).bind fun z14 =>
      sI (w64 ((w64 (Int.tdiv vm2 y5)) * vn4)) fun all15 =>
      (r_spec_nuMod (w64 (a1 + (w64 (vm2 * y13)))) all15).bind fun y16 =>
      some ((y16, all15, true))
    )

def r_spec_coShift (t1 : Int) : Option (Int × Int × Int × Int) :=
  some ((1, t1, 0, 1))

def r_spec_coUnite (f1 : (Int × Int × Int)) (g2 : (Int × Int × Int)) : Option (((Int × Int × Int)) × ((Int × Int × Int)) × ((Int × Int × Int × Int)) × ((Int × Int × Int × Int))) :=
  (r_spec_reReduce f1).bind fun y3 =>
  (r_spec_reReduce g2).bind fun y4 =>
  (r_spec_coPoint y4.1 y3.1.1).bind fun y5 =>
  (r_spec_vaComplete y4.1 y5.1 y5.2).bind fun y6 =>
  (r_spec_foMul y4.2 y6.2).bind fun y7 =>
  (r_spec_nuMod y3.1.2.1 (w64 (2 * y3.1.1))).bind fun y8 =>
  (r_spec_nuCommon y8 (w64 (2 * y3.1.1)) y6.1.2.1 (w64 (2 * y6.1.1))).bind fun y9 =>
  (nz (w64 (2 * y3.1.1))).bind fun z10 =>
  (r_spec_coShift (w64 (Int.tdiv (w64 (y9.1 - y3.1.2.1)) (w64 (2 * y3.1.1))))).bind fun y11 =>
  (r_spec_foMul y3.2 y11).bind fun y12 =>
  (nz (w64 (2 * y6.1.1))).bind fun z13 =>
  (r_spec_coShift (w64 (Int.tdiv (w64 (y9.1 - y6.1.2.1)) (w64 (2 * y6.1.1))))).bind fun y14 =>
  (r_spec_foMul y7 y14).bind fun y15 =>
  (r_spec_foDisc y3.1).bind fun y16 =>
  (nz (w64 ((w64 (4 * y3.1.1)) * y6.1.1))).bind fun z17 =>
  sI (w64 (Int.tdiv (w64 ((w64 (y9.1 * y9.1)) - y16)) (w64 ((w64 (4 * y3.1.1)) * y6.1.1)))) fun c18 =>
  sI (w64 (y3.1.1 * c18)) fun f19 =>
  sI (w64 (y6.1.1 * c18)) fun f20 =>
  some (((y3.1.1, y9.1, f20), (y6.1.1, y9.1, f19), y12, y15))

def r_spec_coJoined (a1 : (Int × Int × Int)) (e2 : (Int × Int × Int)) : Option (Int × Int × Int) :=
  (nz e2.1).bind fun z3 =>
  sI (w64 (a1.1 * e2.1)) fun f4 =>
  sI (w64 (Int.tdiv a1.2.2 e2.1)) fun f5 =>
  some ((f4, a1.2.1, f5))

def r_spec_coMul (f1 : (Int × Int × Int)) (g2 : (Int × Int × Int)) : Option (Int × Int × Int) :=
  (r_spec_coUnite f1 g2).bind fun y3 =>
  (r_spec_coJoined y3.1 y3.2.1).bind fun y4 =>
  (r_spec_reClass y4).bind fun y5 =>
  some y5

end Go.Proofs.YtafomkclmkfjeaaGreat
