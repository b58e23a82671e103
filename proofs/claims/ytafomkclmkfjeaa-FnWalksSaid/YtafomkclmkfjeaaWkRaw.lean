/-
  What the functions of the program compute, as plain functions.
  Conditions: none.
-/
import Derived.Test.YtafomkclmkfjeaaShRs

namespace Go.Proofs.Ytafomkclmkfjeaa

set_option linter.unusedVariables false

def r_laws_big (code1 : List Int) (more2 : List Int) : Option Bool :=
  (some (bif (ltI 1048576 ((code1.length : Int))) then true else (ltI (w64 (1048576 - ((code1.length : Int)))) ((more2.length : Int))))).bind fun t4 =>
  some t4

def r_spec_l1Cur_next (c1 : ((List Int) × Int × Int)) : Option (Int × (((List Int) × Int × Int))) :=
  (
    bif (ltI c1.2.1 ((c1.1.length : Int))) then
      (
        (getI c1.1 c1.2.1).bind fun e4 =>
        sI (IntKind.i64.wrap e4) fun b5 =>
        some b5
      )
    else
      (
        some 0
      )
  ).bind fun j2 =>
  sI (w64 (c1.2.1 + 1)) fun f6 =>
  sI (IntKind.u64.wrap ((IntKind.u64.wrap ((IntKind.u64.wrap (c1.2.2 * 6364136223846793005)) + (IntKind.u64.wrap j2))) + 1442695040888963407)) fun f7 =>
  bif (leI f6 ((c1.1.length : Int))) then
    (
      some ((j2, (c1.1, f6, f7)))
    )
  else
    (
      sI (IntKind.i64.wrap (andI .u64 (shrI .u64 f7 40) 255)) fun t9 =>
      some ((t9, (c1.1, f6, f7)))
    )

def r_spec_l1Cur_pick (c1 : ((List Int) × Int × Int)) (vn2 : Int) : Option (Int × (((List Int) × Int × Int))) :=
  bif (leI vn2 1) then
    (
      some ((0, c1))
    )
  else
    (
      (r_spec_l1Cur_next c1).bind fun y4 =>
      bif (ltI 200 vn2) then
        (
          (r_spec_l1Cur_next y4.2).bind fun y6 =>
          sI (w64 ((w64 (y4.1 * 256)) + y6.1)) fun x7 =>
          (nz vn2).bind fun z8 =>
          sI (Int.tmod x7 vn2) fun t9 =>
          some ((t9, y6.2))
        )
      else
        (
          (nz vn2).bind fun z10 =>
          sI (Int.tmod y4.1 vn2) fun t11 =>
          some ((t11, y4.2))
        )
    )

def r_spec_l1Cur_among (c1 : ((List Int) × Int × Int)) (list2 : List Int) : Option (Int × (((List Int) × Int × Int))) :=
  (r_spec_l1Cur_pick c1 ((list2.length : Int))).bind fun y3 =>
  (getI list2 y3.1).bind fun e4 =>
  some ((e4, y3.2))

def r_spec_nuMod (a1 : Int) (vm2 : Int) : Option Int :=
  (nz vm2).bind fun z3 =>
  sI (Int.tmod a1 vm2) fun vr4 =>
  bif (ltI vr4 0) then
    (
      sI (w64 (vr4 + vm2)) fun vr6 =>
      some vr6
    )
  else
    (
      some vr4
    )

def r_spec_l1Most (a1 : Int) (b2 : Int) : Option Int :=
  bif (ltI b2 a1) then
    (
      some a1
    )
  else
    (
      some b2
    )

def r_spec_l1Cur_disc (c1 : ((List Int) × Int × Int)) : Option (Int × (((List Int) × Int × Int))) :=
  (r_spec_l1Cur_pick c1 16).bind fun y2 =>
  bif (eqI y2.1 0) then
    (
      (r_spec_l1Cur_among y2.2 ([-3, -4, -2000, -1999, -1996, -1995, -163, -2001, -2003, -2004, 0, 1, 5, -1, -2, -5, -9223372036854775808])).bind fun y4 =>
      some ((y4.1, y4.2))
    )
  else
    (
      (
        bif (eqI y2.1 1) then
          (
            some (eqI y2.1 1)
          )
        else
          (
            some (eqI y2.1 2)
          )
      ).bind fun j5 =>
      bif j5 then
        (
          (r_spec_l1Cur_pick y2.2 1998).bind fun y8 =>
          sI (w64 ((-3) - y8.1)) fun d9 =>
          (r_spec_nuMod d9 4).bind fun y10 =>
          bif (ltI 1 y10) then
            (
              (r_spec_l1Most (-2000) (w64 (d9 - 2))).bind fun y12 =>
              some ((y12, y8.2))
            )
          else
            (
              some ((d9, y8.2))
            )
        )
      else
        (
          (
            bif (eqI y2.1 3) then
              (
                some (eqI y2.1 3)
              )
            else
              (
                bif (eqI y2.1 4) then
                  (
                    some (eqI y2.1 4)
                  )
                else
                  (
                    some (eqI y2.1 5)
                  )
              )
          ).bind fun j13 =>
          bif j13 then
            (
              (r_spec_l1Cur_among y2.2 ([-84, -420, -231, -260, -455, -520, -660, -1155, -1320, -1380, -1428, -1540, -399, -1092, -1560, -1785])).bind fun y17 =>
              some ((y17.1, y17.2))
            )
          else
            (
              (
                bif (eqI y2.1 6) then
                  (
                    some (eqI y2.1 6)
                  )
                else
                  (
                    some (eqI y2.1 7)
                  )
              ).bind fun j18 =>
              bif j18 then
                (
                  (r_spec_l1Cur_pick y2.2 60).bind fun y21 =>
                  sI (w64 ((-4) * (w64 (1 + y21.1)))) fun t22 =>
                  some ((t22, y21.2))
                )
              else
                (
                  (r_spec_l1Cur_pick y2.2 50).bind fun y23 =>
                  sI (w64 ((-3) - (w64 (4 * y23.1)))) fun t24 =>
                  some ((t24, y23.2))
                )
            )
        )
    )

def r_spec_l1Cur_index (c1 : ((List Int) × Int × Int)) : Option (Int × (((List Int) × Int × Int))) :=
  (r_spec_l1Cur_among c1 ([2, 2, 3, 3, 5, 5, 7, 11, 13, 17, 23, 41, 43, 47, 4, 1, 0, -2])).bind fun y2 =>
  some ((y2.1, y2.2))

def r_spec_DrawWalkMatrix (code1 : List Int) : Option (Int × Int × Int) :=
  (r_spec_l1Cur_disc ((code1, 0, 0))).bind fun y2 =>
  (r_spec_l1Cur_index y2.2).bind fun y3 =>
  (r_spec_l1Cur_pick y3.2 8).bind fun y4 =>
  (r_spec_l1Cur_among y4.2 ([0, 1, 2, 3, 10, 11, -1, y4.1])).bind fun y5 =>
  some ((y2.1, y3.1, y5.1))

def r_impl_mod (a1 : Int) (vm2 : Int) : Option Int :=
  (nz vm2).bind fun z3 =>
  sI (Int.tmod a1 vm2) fun vr4 =>
  bif (ltI vr4 0) then
    (
      sI (w64 (vr4 + vm2)) fun vr6 =>
      some vr6
    )
  else
    (
      some vr4
    )

def r_impl_isNegativeDisc (d1 : Int) : Option Bool :=
  (bif (bif (leI (-2000) d1) then (leI d1 (-3)) else false) then ((r_impl_mod d1 4).bind fun y4 => some (leI y4 1)) else some false).bind fun b5 =>
  some b5

def r_impl_isPrime_L4 (vn1 : Int) : Nat → Int → Option (Unit ⊕ Bool)
  | 0, _ => none
  | n + 1, p3 =>
    bif (leI (w64 (p3 * p3)) vn1) then
      (
        (nz p3).bind fun z7 =>
        bif (eqI (Int.tmod vn1 p3) 0) then
          (
            some (.inr false)
          )
        else
          (
            sI (w64 (p3 + 1)) fun p9 =>
            r_impl_isPrime_L4 vn1 n p9
          )
      )
    else
      (
        some (.inl ())
      )
def r_impl_isPrime (vn1 : Int) : Option Bool :=
  bif (ltI vn1 2) then
    (
      some false
    )
  else
    (
      (r_impl_isPrime_L4 vn1 FU 2).bind fun qo5 =>
      match qo5 with
      | .inr r => some r
      | .inl o5 =>
        some true
    )

def r_impl_isIndex (p1 : Int) : Option Bool :=
  (bif (leI p1 43) then ((r_impl_isPrime p1).bind fun y3 => some y3) else some false).bind fun b4 =>
  some b4

def r_impl_Form_isNormal (f1 : (Int × Int × Int)) : Option Bool :=
  (some (bif (ltI (w64 (0 - f1.1)) f1.2.1) then (leI f1.2.1 f1.1) else false)).bind fun t3 =>
  some t3

def r_impl_Form_isReduced (f1 : (Int × Int × Int)) : Option Bool :=
  (r_impl_Form_isNormal f1).bind fun y2 =>
  (some (bif y2 then (bif (ltI f1.1 f1.2.2) then true else (bif (eqI f1.1 f1.2.2) then (leI 0 f1.2.1) else false)) else false)).bind fun t6 =>
  some t6

def r_impl_allReduced_L10 (a2 : Int) (d1 : Int) : Nat → Int → List ((Int × Int × Int)) → Option (List ((Int × Int × Int)))
  | 0, _, _ => none
  | n + 1, b8, l9 =>
    bif (leI b8 a2) then
      (
        (nz (w64 (4 * a2))).bind fun z13 =>
        (some (!eqI (Int.tmod (w64 ((w64 (b8 * b8)) - d1)) (w64 (4 * a2))) 0)).bind fun t14 =>
        bif t14 then
          (
            sI (w64 (b8 + 1)) fun b16 =>
            r_impl_allReduced_L10 a2 d1 n b16 l9
          )
        else
          (
            (nz (w64 (4 * a2))).bind fun z17 =>
            sI (w64 (Int.tdiv (w64 ((w64 (b8 * b8)) - d1)) (w64 (4 * a2)))) fun f18 =>
            (r_impl_Form_isReduced ((a2, b8, f18))).bind fun y19 =>
            bif y19 then
              (
                (room (l9.length + ([(a2, b8, f18)]).length)).bind fun u21 =>
                sI (w64 (b8 + 1)) fun b22 =>
                r_impl_allReduced_L10 a2 d1 n b22 (l9 ++ ([(a2, b8, f18)]))
              )
            else
              (
                sI (w64 (b8 + 1)) fun b23 =>
                r_impl_allReduced_L10 a2 d1 n b23 l9
              )
          )
      )
    else
      (
        some l9
      )
def r_impl_allReduced_L4 (d1 : Int) : Nat → Int → List ((Int × Int × Int)) → Option (List ((Int × Int × Int)))
  | 0, _, _ => none
  | n + 1, a2, l3 =>
    bif (leI (w64 ((w64 (3 * a2)) * a2)) (w64 (0 - d1))) then
      (
        sI (w64 (1 - a2)) fun b7 =>
        (r_impl_allReduced_L10 a2 d1 FU b7 l3).bind fun o11 =>
        sI (w64 (a2 + 1)) fun a24 =>
        r_impl_allReduced_L4 d1 n a24 o11
      )
    else
      (
        some l3
      )
def r_impl_allReduced (d1 : Int) : Option (List ((Int × Int × Int))) :=
  (r_impl_allReduced_L4 d1 FU 1 (([] : List ((Int × Int × Int))))).bind fun o5 =>
  some o5

def r_impl_abs (vn1 : Int) : Option Int :=
  sI (mxI vn1 (w64 (0 - (mxI vn1 (-9223372036854775807))))) fun t2 =>
  some t2

def r_impl_gcd_L5 : Nat → Int → Int → Option Int
  | 0, _, _ => none
  | n + 1, a3, b4 =>
    bif (!eqI b4 0) then
      (
        (nz b4).bind fun z8 =>
        sI (Int.tmod a3 b4) fun b9 =>
        r_impl_gcd_L5 n b4 b9
      )
    else
      (
        some a3
      )
def r_impl_gcd (a1 : Int) (b2 : Int) : Option Int :=
  (r_impl_gcd_L5 FU a1 b2).bind fun o6 =>
  (r_impl_abs o6).bind fun y10 =>
  some y10

def r_impl_Form_content (f1 : (Int × Int × Int)) : Option Int :=
  (r_impl_gcd f1.2.1 f1.2.2).bind fun y2 =>
  (r_impl_gcd f1.1 y2).bind fun y3 =>
  some y3

def r_impl_primitiveOf_L4 (forms1 : List ((Int × Int × Int))) : Nat → Int → List ((Int × Int × Int)) → Option (List ((Int × Int × Int)))
  | 0, _, _ => none
  | n + 1, t2, l3 =>
    bif (ltI t2 ((forms1.length : Int))) then
      (
        (getI forms1 t2).bind fun e7 =>
        (r_impl_Form_content e7).bind fun y8 =>
        bif (eqI y8 1) then
          (
            (room (l3.length + ([e7]).length)).bind fun u10 =>
            sI (w64 (t2 + 1)) fun t11 =>
            r_impl_primitiveOf_L4 forms1 n t11 (l3 ++ ([e7]))
          )
        else
          (
            sI (w64 (t2 + 1)) fun t12 =>
            r_impl_primitiveOf_L4 forms1 n t12 l3
          )
      )
    else
      (
        some l3
      )
def r_impl_primitiveOf (forms1 : List ((Int × Int × Int))) : Option (List ((Int × Int × Int))) :=
  (r_impl_primitiveOf_L4 forms1 FU 0 (([] : List ((Int × Int × Int))))).bind fun o5 =>
  some o5

def r_impl_reducedForms (d1 : Int) : Option (List ((Int × Int × Int))) :=
  (r_impl_allReduced d1).bind fun y2 =>
  (r_impl_primitiveOf y2).bind fun y3 =>
  some y3

def r_impl_groupOf_L5 (y2 : List ((Int × Int × Int))) : Nat → Int → List ((((Int × Int × Int)) × Int)) → Option (List ((((Int × Int × Int)) × Int)))
  | 0, _, _ => none
  | n + 1, t3, l4 =>
    bif (ltI t3 ((y2.length : Int))) then
      (
        (getI y2 t3).bind fun e8 =>
        sI (w64 (t3 + 1)) fun t9 =>
        r_impl_groupOf_L5 y2 n t9 (mPut e8 t3 l4)
      )
    else
      (
        some l4
      )
def r_impl_groupOf (d1 : Int) : Option ((List ((Int × Int × Int))) × (List ((((Int × Int × Int)) × Int)))) :=
  (r_impl_reducedForms d1).bind fun y2 =>
  (r_impl_groupOf_L5 y2 FU 0 (([] : List ((((Int × Int × Int)) × Int))))).bind fun o6 =>
  some ((y2, o6))

def r_impl_indexMatrices_L4 (p1 : Int) : Nat → Int → List ((Int × Int × Int × Int)) → Option (List ((Int × Int × Int × Int)))
  | 0, _, _ => none
  | n + 1, k2, l3 =>
    bif (ltI k2 p1) then
      (
        (room (l3.length + ([(1, 0, k2, p1)]).length)).bind fun u7 =>
        sI (w64 (k2 + 1)) fun k8 =>
        r_impl_indexMatrices_L4 p1 n k8 (l3 ++ ([(1, 0, k2, p1)]))
      )
    else
      (
        some l3
      )
def r_impl_indexMatrices (p1 : Int) : Option (List ((Int × Int × Int × Int))) :=
  (r_impl_indexMatrices_L4 p1 FU 0 (([] : List ((Int × Int × Int × Int))))).bind fun o5 =>
  (room (o5.length + ([(p1, 0, 0, 1)]).length)).bind fun u9 =>
  some (o5 ++ ([(p1, 0, 0, 1)]))

def r_impl_Form_at (f1 : (Int × Int × Int)) (x2 : Int) (y3 : Int) : Option Int :=
  sI (w64 ((w64 ((w64 ((w64 (f1.1 * x2)) * x2)) + (w64 ((w64 (f1.2.1 * x2)) * y3)))) + (w64 ((w64 (f1.2.2 * y3)) * y3)))) fun t4 =>
  some t4

def r_impl_Form_polar (f1 : (Int × Int × Int)) (x2 : Int) (y3 : Int) (u4 : Int) (v5 : Int) : Option Int :=
  sI (w64 ((w64 ((w64 ((w64 ((w64 (2 * f1.1)) * x2)) * u4)) + (w64 (f1.2.1 * (w64 ((w64 (x2 * v5)) + (w64 (y3 * u4)))))))) + (w64 ((w64 ((w64 (2 * f1.2.2)) * y3)) * v5)))) fun t6 =>
  some t6

def r_impl_Form_substitute (f1 : (Int × Int × Int)) (vm2 : (Int × Int × Int × Int)) : Option (Int × Int × Int) :=
  (r_impl_Form_at f1 vm2.1 vm2.2.2.1).bind fun y3 =>
  (r_impl_Form_polar f1 vm2.1 vm2.2.2.1 vm2.2.1 vm2.2.2.2).bind fun y4 =>
  (r_impl_Form_at f1 vm2.2.1 vm2.2.2.2).bind fun y5 =>
  some ((y3, y4, y5))

def r_impl_sublatticeForms_L6 (f1 : (Int × Int × Int)) (y3 : List ((Int × Int × Int × Int))) : Nat → Int → List ((Int × Int × Int)) → Option (List ((Int × Int × Int)))
  | 0, _, _ => none
  | n + 1, t4, l5 =>
    bif (ltI t4 ((y3.length : Int))) then
      (
        (getI y3 t4).bind fun e9 =>
        (getI y3 t4).bind fun e10 =>
        (r_impl_Form_substitute f1 e10).bind fun y11 =>
        (room (l5.length + ([y11]).length)).bind fun u12 =>
        sI (w64 (t4 + 1)) fun t13 =>
        r_impl_sublatticeForms_L6 f1 y3 n t13 (l5 ++ ([y11]))
      )
    else
      (
        some l5
      )
def r_impl_sublatticeForms (f1 : (Int × Int × Int)) (p2 : Int) : Option (List ((Int × Int × Int))) :=
  (r_impl_indexMatrices p2).bind fun y3 =>
  (r_impl_sublatticeForms_L6 f1 y3 FU 0 (([] : List ((Int × Int × Int))))).bind fun o7 =>
  some o7

def r_impl_one : Option (Int × Int × Int × Int) :=
  some ((1, 0, 0, 1))

def r_impl_floorDiv (a1 : Int) (vm2 : Int) : Option Int :=
  (r_impl_mod a1 vm2).bind fun y3 =>
  (nz vm2).bind fun z4 =>
  sI (w64 (Int.tdiv (w64 (a1 - y3)) vm2)) fun t5 =>
  some t5

def r_impl_Form_step (f1 : (Int × Int × Int)) : Option (Int × Int × Int × Int) :=
  (r_impl_Form_isReduced f1).bind fun y2 =>
  bif y2 then
    (
      (r_impl_one).bind fun y4 =>
      some y4
    )
  else
    (
      (r_impl_Form_isNormal f1).bind fun y5 =>
      bif (!y5) then
        (
          (r_impl_floorDiv (w64 (f1.1 - f1.2.1)) (w64 (2 * f1.1))).bind fun y7 =>
          some ((1, y7, 0, 1))
        )
      else
        (
          some ((0, -1, 1, 0))
        )
    )

def r_impl_Matrix_times (vm1 : (Int × Int × Int × Int)) (vn2 : (Int × Int × Int × Int)) : Option (Int × Int × Int × Int) :=
  sI (w64 ((w64 (vm1.1 * vn2.1)) + (w64 (vm1.2.1 * vn2.2.2.1)))) fun f3 =>
  sI (w64 ((w64 (vm1.1 * vn2.2.1)) + (w64 (vm1.2.1 * vn2.2.2.2)))) fun f4 =>
  sI (w64 ((w64 (vm1.2.2.1 * vn2.1)) + (w64 (vm1.2.2.2 * vn2.2.2.1)))) fun f5 =>
  sI (w64 ((w64 (vm1.2.2.1 * vn2.2.1)) + (w64 (vm1.2.2.2 * vn2.2.2.2)))) fun f6 =>
  some ((f3, f4, f5, f6))

def r_impl_reduce_L10 : Nat → Int → Int → Int → Int → Int → Int → Int → Option (Int × Int × Int × Int × Int × Int × Int)
  | 0, _, _, _, _, _, _, _ => none
  | n + 1, f3, f4, f5, f6, f7, f8, f9 =>
    (r_impl_Form_isReduced ((f7, f8, f9))).bind fun y12 =>
    bif (!y12) then
      (
        (r_impl_Form_step ((f7, f8, f9))).bind fun y14 =>
        (r_impl_Form_substitute ((f7, f8, f9)) y14).bind fun y15 =>
        (r_impl_Matrix_times ((f3, f4, f5, f6)) y14).bind fun y16 =>
        r_impl_reduce_L10 n y16.1 y16.2.1 y16.2.2.1 y16.2.2.2 y15.1 y15.2.1 y15.2.2
      )
    else
      (
        some (f3, f4, f5, f6, f7, f8, f9)
      )
def r_impl_reduce (f1 : (Int × Int × Int)) : Option (((Int × Int × Int)) × ((Int × Int × Int × Int))) :=
  (r_impl_one).bind fun y2 =>
  (r_impl_reduce_L10 FU y2.1 y2.2.1 y2.2.2.1 y2.2.2.2 f1.1 f1.2.1 f1.2.2).bind fun o11 =>
  some ((o11.2.2.2.2, (o11.1, o11.2.1, o11.2.2.1, o11.2.2.2.1)))

def r_impl_reduced (f1 : (Int × Int × Int)) : Option (Int × Int × Int) :=
  (r_impl_reduce f1).bind fun y2 =>
  some y2.1

def r_impl_neighbours_L6 (p2 : Int) (y3 : List ((Int × Int × Int))) : Nat → Int → List ((Int × Int × Int)) → Option (List ((Int × Int × Int)))
  | 0, _, _ => none
  | n + 1, t4, l5 =>
    bif (ltI t4 ((y3.length : Int))) then
      (
        (getI y3 t4).bind fun e9 =>
        (getI y3 t4).bind fun e10 =>
        (r_impl_Form_content e10).bind fun y11 =>
        bif (eqI y11 p2) then
          (
            (nz p2).bind fun z13 =>
            (nz p2).bind fun z14 =>
            (nz p2).bind fun z15 =>
            (r_impl_reduced ((w64 (Int.tdiv e10.1 p2), w64 (Int.tdiv e10.2.1 p2), w64 (Int.tdiv e10.2.2 p2)))).bind fun y16 =>
            (room (l5.length + ([y16]).length)).bind fun u17 =>
            sI (w64 (t4 + 1)) fun t18 =>
            r_impl_neighbours_L6 p2 y3 n t18 (l5 ++ ([y16]))
          )
        else
          (
            sI (w64 (t4 + 1)) fun t19 =>
            r_impl_neighbours_L6 p2 y3 n t19 l5
          )
      )
    else
      (
        some l5
      )
def r_impl_neighbours (f1 : (Int × Int × Int)) (p2 : Int) : Option (List ((Int × Int × Int))) :=
  (r_impl_sublatticeForms f1 p2).bind fun y3 =>
  (r_impl_neighbours_L6 p2 y3 FU 0 (([] : List ((Int × Int × Int))))).bind fun o7 =>
  some o7

def r_impl_neighbourMatrix_L14 (l5 : List (List Int)) (p2 : Int) (t4 : Int) (y11 : List ((Int × Int × Int))) (y3 : ((List ((Int × Int × Int))) × (List ((((Int × Int × Int)) × Int))))) : Nat → Int → List Int → Option (List Int)
  | 0, _, _ => none
  | n + 1, t12, l13 =>
    bif (ltI t12 ((y11.length : Int))) then
      (
        (getI y11 t12).bind fun e17 =>
        (getI y11 t12).bind fun e18 =>
        (getI l13 (mAt e18 y3.2 0)).bind fun e19 =>
        (getI l13 (mAt e18 y3.2 0)).bind fun e20 =>
        (getI l13 (mAt e18 y3.2 0)).bind fun e21 =>
        (getI l13 (mAt e18 y3.2 0)).bind fun e22 =>
        sI (w64 (t12 + 1)) fun t23 =>
        r_impl_neighbourMatrix_L14 l5 p2 t4 y11 y3 n t23 (l13.set (Int.toNat (mAt e18 y3.2 0)) (w64 (e20 + 1)))
      )
    else
      (
        some l13
      )
def r_impl_neighbourMatrix_L6 (p2 : Int) (y3 : ((List ((Int × Int × Int))) × (List ((((Int × Int × Int)) × Int))))) : Nat → Int → List (List Int) → Option (List (List Int))
  | 0, _, _ => none
  | n + 1, t4, l5 =>
    bif (ltI t4 ((y3.1.length : Int))) then
      (
        (getI y3.1 t4).bind fun e9 =>
        (mk ((y3.1.length : Int)) ((y3.1.length : Int))).bind fun u10 =>
        (r_impl_neighbours e9 p2).bind fun y11 =>
        (r_impl_neighbourMatrix_L14 l5 p2 t4 y11 y3 FU 0 (List.replicate (Int.toNat ((y3.1.length : Int))) ((0 : Int)))).bind fun o15 =>
        (room (l5.length + ([o15]).length)).bind fun u24 =>
        sI (w64 (t4 + 1)) fun t25 =>
        r_impl_neighbourMatrix_L6 p2 y3 n t25 (l5 ++ ([o15]))
      )
    else
      (
        some l5
      )
def r_impl_neighbourMatrix (d1 : Int) (p2 : Int) : Option (List (List Int)) :=
  (r_impl_groupOf d1).bind fun y3 =>
  (r_impl_neighbourMatrix_L6 p2 y3 FU 0 (([] : List (List Int)))).bind fun o7 =>
  some o7

def r_impl_WalkMatrix_L38 (e33 : Int) (e35 : List Int) (k3 : Int) (l14 : List (List Int)) (row22 : List Int) (t13 : Int) (t28 : Int) (vn23 : Int) (y12 : List (List Int)) : Nat → Int → List Int → Option (List Int)
  | 0, _, _ => none
  | n + 1, t36, l37 =>
    bif (ltI t36 ((e35.length : Int))) then
      (
        (getI e35 t36).bind fun e41 =>
        (getI l37 t36).bind fun e42 =>
        (getI l37 t36).bind fun e43 =>
        (getI l37 t36).bind fun e44 =>
        (getI l37 t36).bind fun e45 =>
        sI (w64 (t36 + 1)) fun t46 =>
        r_impl_WalkMatrix_L38 e33 e35 k3 l14 row22 t13 t28 vn23 y12 n t46 (l37.set (Int.toNat (t36)) (w64 (e43 + (w64 (e33 * e41)))))
      )
    else
      (
        some l37
      )
def r_impl_WalkMatrix_L30 (k3 : Int) (l14 : List (List Int)) (row22 : List Int) (t13 : Int) (vn23 : Int) (y12 : List (List Int)) : Nat → Int → List Int → Option (List Int)
  | 0, _, _ => none
  | n + 1, t28, l29 =>
    bif (ltI t28 ((row22.length : Int))) then
      (
        (getI row22 t28).bind fun e33 =>
        (getI y12 t28).bind fun e34 =>
        (getI y12 t28).bind fun e35 =>
        (r_impl_WalkMatrix_L38 e33 e35 k3 l14 row22 t13 t28 vn23 y12 FU 0 l29).bind fun o39 =>
        sI (w64 (t28 + 1)) fun t47 =>
        r_impl_WalkMatrix_L30 k3 l14 row22 t13 vn23 y12 n t47 o39
      )
    else
      (
        some l29
      )
def r_impl_WalkMatrix_L24 (k3 : Int) (l14 : List (List Int)) (t13 : Int) (y12 : List (List Int)) : Nat → List Int → Int → Option (List Int)
  | 0, _, _ => none
  | n + 1, row22, vn23 =>
    bif (ltI vn23 k3) then
      (
        (mk ((y12.length : Int)) ((y12.length : Int))).bind fun u27 =>
        (r_impl_WalkMatrix_L30 k3 l14 row22 t13 vn23 y12 FU 0 (List.replicate (Int.toNat ((y12.length : Int))) ((0 : Int)))).bind fun o31 =>
        sI (w64 (vn23 + 1)) fun vn48 =>
        r_impl_WalkMatrix_L24 k3 l14 t13 y12 n o31 vn48
      )
    else
      (
        some row22
      )
def r_impl_WalkMatrix_L15 (k3 : Int) (y12 : List (List Int)) : Nat → Int → List (List Int) → Option (List (List Int))
  | 0, _, _ => none
  | n + 1, t13, l14 =>
    bif (ltI t13 ((y12.length : Int))) then
      (
        (mk ((y12.length : Int)) ((y12.length : Int))).bind fun u18 =>
        (getI (List.replicate (Int.toNat ((y12.length : Int))) ((0 : Int))) t13).bind fun e19 =>
        (getI (List.replicate (Int.toNat ((y12.length : Int))) ((0 : Int))) t13).bind fun e20 =>
        (some ((List.replicate (Int.toNat ((y12.length : Int))) ((0 : Int))).set (Int.toNat (t13)) 1)).bind fun l21 =>
        (r_impl_WalkMatrix_L24 k3 l14 t13 y12 FU l21 0).bind fun o25 =>
        (room (l14.length + ([o25]).length)).bind fun u49 =>
        sI (w64 (t13 + 1)) fun t50 =>
        r_impl_WalkMatrix_L15 k3 y12 n t50 (l14 ++ ([o25]))
      )
    else
      (
        some l14
      )
def r_impl_WalkMatrix (d1 : Int) (p2 : Int) (k3 : Int) : Option ((List (List Int)) × Bool) :=
  (r_impl_isNegativeDisc d1).bind fun y4 =>
  (bif (!y4) then some true else ((r_impl_isIndex p2).bind fun y6 => some (!y6))).bind fun b7 =>
  (some (bif (bif b7 then true else (ltI k3 0)) then true else (ltI 10 k3))).bind fun t10 =>
  bif t10 then
    (
      some ((([] : List (List Int)), false))
    )
  else
    (
      (r_impl_neighbourMatrix d1 p2).bind fun y12 =>
      (r_impl_WalkMatrix_L15 k3 y12 FU 0 (([] : List (List Int)))).bind fun o16 =>
      some ((o16, true))
    )

def r_spec_l1In (vn1 : Int) (lo2 : Int) (hi3 : Int) : Option Bool :=
  some (bif (leI lo2 vn1) then (leI vn1 hi3) else false)

def r_spec_reDisc (d1 : Int) : Option Bool :=
  (r_spec_l1In d1 (-2000) (-3)).bind fun y2 =>
  (bif y2 then ((r_spec_nuMod d1 4).bind fun y4 => some (ltI y4 2)) else some false).bind fun b5 =>
  some b5

def r_spec_nuPrime_L4 (vn1 : Int) : Nat → Int → Option (Unit ⊕ Bool)
  | 0, _ => none
  | n + 1, d3 =>
    bif (leI (w64 (d3 * d3)) vn1) then
      (
        (nz d3).bind fun z7 =>
        bif (eqI (Int.tmod vn1 d3) 0) then
          (
            some (.inr false)
          )
        else
          (
            sI (w64 (d3 + 1)) fun d9 =>
            r_spec_nuPrime_L4 vn1 n d9
          )
      )
    else
      (
        some (.inl ())
      )
def r_spec_nuPrime (vn1 : Int) : Option Bool :=
  bif (ltI vn1 2) then
    (
      some false
    )
  else
    (
      (r_spec_nuPrime_L4 vn1 FU 2).bind fun qo5 =>
      match qo5 with
      | .inr r => some r
      | .inl o5 =>
        some true
    )

def r_spec_hkPrime (p1 : Int) : Option Bool :=
  (r_spec_l1In p1 2 43).bind fun y2 =>
  (bif y2 then ((r_spec_nuPrime p1).bind fun y4 => some y4) else some false).bind fun b5 =>
  some b5

def r_spec_foDisc (f1 : (Int × Int × Int)) : Option Int :=
  sI (w64 ((w64 (f1.2.1 * f1.2.1)) - (w64 ((w64 (4 * f1.1)) * f1.2.2)))) fun t2 =>
  some t2

def r_spec_reIs (f1 : (Int × Int × Int)) : Option Bool :=
  (some (bif (bif (ltI (w64 (0 - f1.1)) f1.2.1) then (leI f1.2.1 f1.1) else false) then (bif (ltI f1.1 f1.2.2) then true else (bif (eqI f1.1 f1.2.2) then (leI 0 f1.2.1) else false)) else false)).bind fun t6 =>
  some t6

def r_spec_reAll_L10 (a2 : Int) (d1 : Int) : Nat → Int → List ((Int × Int × Int)) → Option (List ((Int × Int × Int)))
  | 0, _, _ => none
  | n + 1, b8, l9 =>
    bif (leI b8 a2) then
      (
        (nz (w64 (4 * a2))).bind fun z13 =>
        sI (w64 (Int.tdiv (w64 ((w64 (b8 * b8)) - d1)) (w64 (4 * a2)))) fun f14 =>
        (r_spec_foDisc ((a2, b8, f14))).bind fun y15 =>
        (bif (eqI y15 d1) then ((r_spec_reIs ((a2, b8, f14))).bind fun y17 => some y17) else some false).bind fun b18 =>
        bif b18 then
          (
            (room (l9.length + ([(a2, b8, f14)]).length)).bind fun u20 =>
            sI (w64 (b8 + 1)) fun b21 =>
            r_spec_reAll_L10 a2 d1 n b21 (l9 ++ ([(a2, b8, f14)]))
          )
        else
          (
            sI (w64 (b8 + 1)) fun b22 =>
            r_spec_reAll_L10 a2 d1 n b22 l9
          )
      )
    else
      (
        some l9
      )
def r_spec_reAll_L4 (d1 : Int) : Nat → Int → List ((Int × Int × Int)) → Option (List ((Int × Int × Int)))
  | 0, _, _ => none
  | n + 1, a2, l3 =>
    bif (leI (w64 ((w64 (3 * a2)) * a2)) (w64 (0 - d1))) then
      (
        sI (w64 (1 - a2)) fun b7 =>
        (r_spec_reAll_L10 a2 d1 FU b7 l3).bind fun o11 =>
        sI (w64 (a2 + 1)) fun a23 =>
        r_spec_reAll_L4 d1 n a23 o11
      )
    else
      (
        some l3
      )
def r_spec_reAll (d1 : Int) : Option (List ((Int × Int × Int))) :=
  (r_spec_reAll_L4 d1 FU 1 (([] : List ((Int × Int × Int))))).bind fun o5 =>
  some o5

def r_spec_l1Abs (vn1 : Int) : Option Int :=
  (r_spec_l1Most vn1 (w64 (0 - vn1))).bind fun y2 =>
  some y2

def r_spec_nuGcd_L7 : Nat → Int → Int → Option Int
  | 0, _, _ => none
  | n + 1, a5, b6 =>
    bif (!eqI b6 0) then
      (
        (nz b6).bind fun z10 =>
        sI (Int.tmod a5 b6) fun b11 =>
        r_spec_nuGcd_L7 n b6 b11
      )
    else
      (
        some a5
      )
def r_spec_nuGcd (a1 : Int) (b2 : Int) : Option Int :=
  (r_spec_l1Abs a1).bind fun y3 =>
  (r_spec_l1Abs b2).bind fun y4 =>
  (r_spec_nuGcd_L7 FU y3 y4).bind fun o8 =>
  some o8

def r_spec_foContent (f1 : (Int × Int × Int)) : Option Int :=
  (r_spec_nuGcd f1.1 f1.2.1).bind fun y2 =>
  (r_spec_nuGcd y2 f1.2.2).bind fun y3 =>
  some y3

def r_spec_reList_L5 (y2 : List ((Int × Int × Int))) : Nat → Int → List ((Int × Int × Int)) → Option (List ((Int × Int × Int)))
  | 0, _, _ => none
  | n + 1, t3, l4 =>
    bif (ltI t3 ((y2.length : Int))) then
      (
        (getI y2 t3).bind fun e8 =>
        (getI y2 t3).bind fun e9 =>
        (r_spec_foContent e9).bind fun y10 =>
        bif (eqI y10 1) then
          (
            (room (l4.length + ([e9]).length)).bind fun u12 =>
            sI (w64 (t3 + 1)) fun t13 =>
            r_spec_reList_L5 y2 n t13 (l4 ++ ([e9]))
          )
        else
          (
            sI (w64 (t3 + 1)) fun t14 =>
            r_spec_reList_L5 y2 n t14 l4
          )
      )
    else
      (
        some l4
      )
def r_spec_reList (d1 : Int) : Option (List ((Int × Int × Int))) :=
  (r_spec_reAll d1).bind fun y2 =>
  (r_spec_reList_L5 y2 FU 0 (([] : List ((Int × Int × Int))))).bind fun o6 =>
  some o6

def r_spec_reNormal (f1 : (Int × Int × Int)) : Option Int :=
  (r_spec_nuMod (w64 (f1.1 - f1.2.1)) (w64 (2 * f1.1))).bind fun y2 =>
  (nz (w64 (2 * f1.1))).bind fun z3 =>
  sI (w64 (Int.tdiv (w64 ((w64 (f1.1 - f1.2.1)) - y2)) (w64 (2 * f1.1)))) fun t4 =>
  some t4

def r_spec_reMove (f1 : (Int × Int × Int)) : Option (Int × Int × Int × Int) :=
  (r_spec_reNormal f1).bind fun y2 =>
  bif (!eqI y2 0) then
    (
      some ((1, y2, 0, 1))
    )
  else
    (
      (r_spec_reIs f1).bind fun y4 =>
      bif y4 then
        (
          some ((1, 0, 0, 1))
        )
      else
        (
          some ((0, -1, 1, 0))
        )
    )

def r_spec_foValue (f1 : (Int × Int × Int)) (x2 : Int) (y3 : Int) : Option Int :=
  sI (w64 ((w64 ((w64 ((w64 (f1.1 * x2)) * x2)) + (w64 ((w64 (f1.2.1 * x2)) * y3)))) + (w64 ((w64 (f1.2.2 * y3)) * y3)))) fun t4 =>
  some t4

def r_spec_foPolar (f1 : (Int × Int × Int)) (x2 : Int) (y3 : Int) (u4 : Int) (v5 : Int) : Option Int :=
  sI (w64 ((w64 ((w64 ((w64 ((w64 (2 * f1.1)) * x2)) * u4)) + (w64 (f1.2.1 * (w64 ((w64 (x2 * v5)) + (w64 (y3 * u4)))))))) + (w64 ((w64 ((w64 (2 * f1.2.2)) * y3)) * v5)))) fun t6 =>
  some t6

def r_spec_foAct (f1 : (Int × Int × Int)) (vm2 : (Int × Int × Int × Int)) : Option (Int × Int × Int) :=
  (r_spec_foValue f1 vm2.1 vm2.2.2.1).bind fun y3 =>
  (r_spec_foPolar f1 vm2.1 vm2.2.2.1 vm2.2.1 vm2.2.2.2).bind fun y4 =>
  (r_spec_foValue f1 vm2.2.1 vm2.2.2.2).bind fun y5 =>
  some ((y3, y4, y5))

def r_spec_foMul (vm1 : (Int × Int × Int × Int)) (vn2 : (Int × Int × Int × Int)) : Option (Int × Int × Int × Int) :=
  sI (w64 ((w64 (vm1.1 * vn2.1)) + (w64 (vm1.2.1 * vn2.2.2.1)))) fun f3 =>
  sI (w64 ((w64 (vm1.1 * vn2.2.1)) + (w64 (vm1.2.1 * vn2.2.2.2)))) fun f4 =>
  sI (w64 ((w64 (vm1.2.2.1 * vn2.1)) + (w64 (vm1.2.2.2 * vn2.2.2.1)))) fun f5 =>
  sI (w64 ((w64 (vm1.2.2.1 * vn2.2.1)) + (w64 (vm1.2.2.2 * vn2.2.2.2)))) fun f6 =>
  some ((f3, f4, f5, f6))

def r_spec_reReduce_L9 : Nat → Int → Int → Int → Int → Int → Int → Int → Option (Int × Int × Int × Int × Int × Int × Int)
  | 0, _, _, _, _, _, _, _ => none
  | n + 1, f2, f3, f4, f5, f6, f7, f8 =>
    (r_spec_reIs ((f6, f7, f8))).bind fun y11 =>
    bif (!y11) then
      (
        (r_spec_reMove ((f6, f7, f8))).bind fun y13 =>
        (r_spec_foAct ((f6, f7, f8)) y13).bind fun y14 =>
        (r_spec_foMul ((f2, f3, f4, f5)) y13).bind fun y15 =>
        r_spec_reReduce_L9 n y15.1 y15.2.1 y15.2.2.1 y15.2.2.2 y14.1 y14.2.1 y14.2.2
      )
    else
      (
        some (f2, f3, f4, f5, f6, f7, f8)
      )
def r_spec_reReduce (f1 : (Int × Int × Int)) : Option (((Int × Int × Int)) × ((Int × Int × Int × Int))) :=
  (r_spec_reReduce_L9 FU 1 0 0 1 f1.1 f1.2.1 f1.2.2).bind fun o10 =>
  some ((o10.2.2.2.2, (o10.1, o10.2.1, o10.2.2.1, o10.2.2.2.1)))

def r_spec_reClass (f1 : (Int × Int × Int)) : Option (Int × Int × Int) :=
  (r_spec_reReduce f1).bind fun y2 =>
  some y2.1

def r_spec_hkMatrices_L4 (p1 : Int) : Nat → Int → List ((Int × Int × Int × Int)) → Option (List ((Int × Int × Int × Int)))
  | 0, _, _ => none
  | n + 1, k2, l3 =>
    bif (ltI k2 p1) then
      (
        (room (l3.length + ([(1, 0, k2, p1)]).length)).bind fun u7 =>
        sI (w64 (k2 + 1)) fun k8 =>
        r_spec_hkMatrices_L4 p1 n k8 (l3 ++ ([(1, 0, k2, p1)]))
      )
    else
      (
        some l3
      )
def r_spec_hkMatrices (p1 : Int) : Option (List ((Int × Int × Int × Int))) :=
  (r_spec_hkMatrices_L4 p1 FU 0 (([] : List ((Int × Int × Int × Int))))).bind fun o5 =>
  (room (o5.length + ([(p1, 0, 0, 1)]).length)).bind fun u9 =>
  some (o5 ++ ([(p1, 0, 0, 1)]))

def r_spec_hkForms_L7 (y3 : (Int × Int × Int)) (y4 : List ((Int × Int × Int × Int))) : Nat → Int → List ((Int × Int × Int)) → Option (List ((Int × Int × Int)))
  | 0, _, _ => none
  | n + 1, t5, l6 =>
    bif (ltI t5 ((y4.length : Int))) then
      (
        (getI y4 t5).bind fun e10 =>
        (getI y4 t5).bind fun e11 =>
        (r_spec_foAct y3 e11).bind fun y12 =>
        (room (l6.length + ([y12]).length)).bind fun u13 =>
        sI (w64 (t5 + 1)) fun t14 =>
        r_spec_hkForms_L7 y3 y4 n t14 (l6 ++ ([y12]))
      )
    else
      (
        some l6
      )
def r_spec_hkForms (f1 : (Int × Int × Int)) (p2 : Int) : Option (List ((Int × Int × Int))) :=
  (r_spec_reClass f1).bind fun y3 =>
  (r_spec_hkMatrices p2).bind fun y4 =>
  (r_spec_hkForms_L7 y3 y4 FU 0 (([] : List ((Int × Int × Int))))).bind fun o8 =>
  some o8

def r_spec_hkNeighbours_L6 (p2 : Int) (y3 : List ((Int × Int × Int))) : Nat → Int → List ((Int × Int × Int)) → Option (List ((Int × Int × Int)))
  | 0, _, _ => none
  | n + 1, t4, l5 =>
    bif (ltI t4 ((y3.length : Int))) then
      (
        (getI y3 t4).bind fun e9 =>
        (getI y3 t4).bind fun e10 =>
        (r_spec_foContent e10).bind fun y11 =>
        bif (eqI y11 p2) then
          (
            (nz p2).bind fun z13 =>
            (nz p2).bind fun z14 =>
            (nz p2).bind fun z15 =>
            (r_spec_reClass ((w64 (Int.tdiv e10.1 p2), w64 (Int.tdiv e10.2.1 p2), w64 (Int.tdiv e10.2.2 p2)))).bind fun y16 =>
            (room (l5.length + ([y16]).length)).bind fun u17 =>
            sI (w64 (t4 + 1)) fun t18 =>
            r_spec_hkNeighbours_L6 p2 y3 n t18 (l5 ++ ([y16]))
          )
        else
          (
            sI (w64 (t4 + 1)) fun t19 =>
            r_spec_hkNeighbours_L6 p2 y3 n t19 l5
          )
      )
    else
      (
        some l5
      )
def r_spec_hkNeighbours (f1 : (Int × Int × Int)) (p2 : Int) : Option (List ((Int × Int × Int))) :=
  (r_spec_hkForms f1 p2).bind fun y3 =>
  (r_spec_hkNeighbours_L6 p2 y3 FU 0 (([] : List ((Int × Int × Int))))).bind fun o7 =>
  some o7

def r_spec_grIndex_L4 (f2 : (Int × Int × Int)) (l1 : List ((Int × Int × Int))) : Nat → Int → Option (Unit ⊕ Int)
  | 0, _ => none
  | n + 1, t3 =>
    bif (ltI t3 ((l1.length : Int))) then
      (
        (getI l1 t3).bind fun e7 =>
        (some (((e7.1 == f2.1) && ((e7.2.1 == f2.2.1) && (e7.2.2 == f2.2.2))))).bind fun t8 =>
        bif t8 then
          (
            some (.inr t3)
          )
        else
          (
            sI (w64 (t3 + 1)) fun t10 =>
            r_spec_grIndex_L4 f2 l1 n t10
          )
      )
    else
      (
        some (.inl ())
      )
def r_spec_grIndex (l1 : List ((Int × Int × Int))) (f2 : (Int × Int × Int)) : Option Int :=
  (r_spec_grIndex_L4 f2 l1 FU 0).bind fun qo5 =>
  match qo5 with
  | .inr r => some r
  | .inl o5 =>
    some (-1)

def r_spec_hkMatrix_L15 (l5 : List (List Int)) (p2 : Int) (t4 : Int) (y12 : List ((Int × Int × Int))) (y3 : List ((Int × Int × Int))) : Nat → Int → List Int → Option (List Int)
  | 0, _, _ => none
  | n + 1, t13, l14 =>
    bif (ltI t13 ((y12.length : Int))) then
      (
        (getI y12 t13).bind fun e18 =>
        (getI y12 t13).bind fun e19 =>
        (r_spec_grIndex y3 e19).bind fun y20 =>
        (getI l14 y20).bind fun e21 =>
        (getI l14 y20).bind fun e22 =>
        (getI l14 y20).bind fun e23 =>
        (getI l14 y20).bind fun e24 =>
        sI (w64 (t13 + 1)) fun t25 =>
        r_spec_hkMatrix_L15 l5 p2 t4 y12 y3 n t25 (l14.set (Int.toNat (y20)) (w64 (e22 + 1)))
      )
    else
      (
        some l14
      )
def r_spec_hkMatrix_L6 (p2 : Int) (y3 : List ((Int × Int × Int))) : Nat → Int → List (List Int) → Option (List (List Int))
  | 0, _, _ => none
  | n + 1, t4, l5 =>
    bif (ltI t4 ((y3.length : Int))) then
      (
        (getI y3 t4).bind fun e9 =>
        (getI y3 t4).bind fun e10 =>
        (mk ((y3.length : Int)) ((y3.length : Int))).bind fun u11 =>
        (r_spec_hkNeighbours e10 p2).bind fun y12 =>
        (r_spec_hkMatrix_L15 l5 p2 t4 y12 y3 FU 0 (List.replicate (Int.toNat ((y3.length : Int))) ((0 : Int)))).bind fun o16 =>
        (room (l5.length + ([o16]).length)).bind fun u26 =>
        sI (w64 (t4 + 1)) fun t27 =>
        r_spec_hkMatrix_L6 p2 y3 n t27 (l5 ++ ([o16]))
      )
    else
      (
        some l5
      )
def r_spec_hkMatrix (d1 : Int) (p2 : Int) : Option (List (List Int)) :=
  (r_spec_reList d1).bind fun y3 =>
  (r_spec_hkMatrix_L6 p2 y3 FU 0 (([] : List (List Int)))).bind fun o7 =>
  some o7

def r_spec_WalkMatrix_L38 (e33 : Int) (e35 : List Int) (k3 : Int) (l14 : List (List Int)) (row22 : List Int) (t13 : Int) (t28 : Int) (vn23 : Int) (y12 : List (List Int)) : Nat → Int → List Int → Option (List Int)
  | 0, _, _ => none
  | n + 1, t36, l37 =>
    bif (ltI t36 ((e35.length : Int))) then
      (
        (getI e35 t36).bind fun e41 =>
        (getI l37 t36).bind fun e42 =>
        (getI l37 t36).bind fun e43 =>
        (getI l37 t36).bind fun e44 =>
        (getI l37 t36).bind fun e45 =>
        sI (w64 (t36 + 1)) fun t46 =>
        r_spec_WalkMatrix_L38 e33 e35 k3 l14 row22 t13 t28 vn23 y12 n t46 (l37.set (Int.toNat (t36)) (w64 (e43 + (w64 (e33 * e41)))))
      )
    else
      (
        some l37
      )
def r_spec_WalkMatrix_L30 (k3 : Int) (l14 : List (List Int)) (row22 : List Int) (t13 : Int) (vn23 : Int) (y12 : List (List Int)) : Nat → Int → List Int → Option (List Int)
  | 0, _, _ => none
  | n + 1, t28, l29 =>
    bif (ltI t28 ((row22.length : Int))) then
      (
        (getI row22 t28).bind fun e33 =>
        (getI y12 t28).bind fun e34 =>
        (getI y12 t28).bind fun e35 =>
        (r_spec_WalkMatrix_L38 e33 e35 k3 l14 row22 t13 t28 vn23 y12 FU 0 l29).bind fun o39 =>
        sI (w64 (t28 + 1)) fun t47 =>
        r_spec_WalkMatrix_L30 k3 l14 row22 t13 vn23 y12 n t47 o39
      )
    else
      (
        some l29
      )
def r_spec_WalkMatrix_L24 (k3 : Int) (l14 : List (List Int)) (t13 : Int) (y12 : List (List Int)) : Nat → List Int → Int → Option (List Int)
  | 0, _, _ => none
  | n + 1, row22, vn23 =>
    bif (ltI vn23 k3) then
      (
        (mk ((y12.length : Int)) ((y12.length : Int))).bind fun u27 =>
        (r_spec_WalkMatrix_L30 k3 l14 row22 t13 vn23 y12 FU 0 (List.replicate (Int.toNat ((y12.length : Int))) ((0 : Int)))).bind fun o31 =>
        sI (w64 (vn23 + 1)) fun vn48 =>
        r_spec_WalkMatrix_L24 k3 l14 t13 y12 n o31 vn48
      )
    else
      (
        some row22
      )
def r_spec_WalkMatrix_L15 (k3 : Int) (y12 : List (List Int)) : Nat → Int → List (List Int) → Option (List (List Int))
  | 0, _, _ => none
  | n + 1, t13, l14 =>
    bif (ltI t13 ((y12.length : Int))) then
      (
        (mk ((y12.length : Int)) ((y12.length : Int))).bind fun u18 =>
        (getI (List.replicate (Int.toNat ((y12.length : Int))) ((0 : Int))) t13).bind fun e19 =>
        (getI (List.replicate (Int.toNat ((y12.length : Int))) ((0 : Int))) t13).bind fun e20 =>
        (some ((List.replicate (Int.toNat ((y12.length : Int))) ((0 : Int))).set (Int.toNat (t13)) 1)).bind fun l21 =>
        (r_spec_WalkMatrix_L24 k3 l14 t13 y12 FU l21 0).bind fun o25 =>
        (room (l14.length + ([o25]).length)).bind fun u49 =>
        sI (w64 (t13 + 1)) fun t50 =>
        r_spec_WalkMatrix_L15 k3 y12 n t50 (l14 ++ ([o25]))
      )
    else
      (
        some l14
      )
def r_spec_WalkMatrix (d1 : Int) (p2 : Int) (k3 : Int) : Option ((List (List Int)) × Bool) :=
  (r_spec_reDisc d1).bind fun y4 =>
  (bif (!y4) then some true else ((r_spec_hkPrime p2).bind fun y6 => some (!y6))).bind fun b7 =>
  (bif b7 then some true else ((r_spec_l1In k3 0 10).bind fun y9 => some (!y9))).bind fun b10 =>
  bif b10 then
    (
      some ((([] : List (List Int)), false))
    )
  else
    (
      (r_spec_hkMatrix d1 p2).bind fun y12 =>
      (r_spec_WalkMatrix_L15 k3 y12 FU 0 (([] : List (List Int)))).bind fun o16 =>
      some ((o16, true))
    )

def r_laws_sameInts_L5 (a1 : List Int) (b2 : List Int) : Nat → Int → Option (Unit ⊕ Bool)
  | 0, _ => none
  | n + 1, t4 =>
    bif (ltI t4 ((a1.length : Int))) then
      (
        (getI a1 t4).bind fun e8 =>
        (getI b2 t4).bind fun e9 =>
        bif (!eqI e8 e9) then
          (
            some (.inr false)
          )
        else
          (
            sI (w64 (t4 + 1)) fun t11 =>
            r_laws_sameInts_L5 a1 b2 n t11
          )
      )
    else
      (
        some (.inl ())
      )
def r_laws_sameInts (a1 : List Int) (b2 : List Int) : Option Bool :=
  bif (!eqI ((a1.length : Int)) ((b2.length : Int))) then
    (
      some false
    )
  else
    (
      (r_laws_sameInts_L5 a1 b2 FU 0).bind fun qo6 =>
      match qo6 with
      | .inr r => some r
      | .inl o6 =>
        some true
    )

def r_laws_sameLists_L5 (a1 : List (List Int)) (b2 : List (List Int)) : Nat → Int → Option (Unit ⊕ Bool)
  | 0, _ => none
  | n + 1, t4 =>
    bif (ltI t4 ((a1.length : Int))) then
      (
        (getI a1 t4).bind fun e8 =>
        (getI b2 t4).bind fun e9 =>
        (r_laws_sameInts e8 e9).bind fun y10 =>
        bif (!y10) then
          (
            some (.inr false)
          )
        else
          (
            sI (w64 (t4 + 1)) fun t12 =>
            r_laws_sameLists_L5 a1 b2 n t12
          )
      )
    else
      (
        some (.inl ())
      )
def r_laws_sameLists (a1 : List (List Int)) (b2 : List (List Int)) : Option Bool :=
  bif (!eqI ((a1.length : Int)) ((b2.length : Int))) then
    (
      some false
    )
  else
    (
      (r_laws_sameLists_L5 a1 b2 FU 0).bind fun qo6 =>
      match qo6 with
      | .inr r => some r
      | .inl o6 =>
        some true
    )

def r_impl_NeighbourMatrix (d1 : Int) (p2 : Int) : Option ((List (List Int)) × Bool) :=
  (r_impl_isNegativeDisc d1).bind fun y3 =>
  (bif (!y3) then some true else ((r_impl_isIndex p2).bind fun y5 => some (!y5))).bind fun b6 =>
  bif b6 then
    (
      some ((([] : List (List Int)), false))
    )
  else
    (
      (r_impl_neighbourMatrix d1 p2).bind fun y8 =>
      some ((y8, true))
    )

def r_impl_ReducedForms (d1 : Int) : Option ((List ((Int × Int × Int))) × Bool) :=
  (r_impl_isNegativeDisc d1).bind fun y2 =>
  bif (!y2) then
    (
      some ((([] : List ((Int × Int × Int))), false))
    )
  else
    (
      (r_impl_reducedForms d1).bind fun y4 =>
      some ((y4, true))
    )

def r_laws_numberOf_L4 (b1 : List Int) : Nat → Int → Int → Option Int
  | 0, _, _ => none
  | n + 1, vn2, t3 =>
    bif (ltI t3 ((b1.length : Int))) then
      (
        (getI b1 t3).bind fun e7 =>
        sI (Int.tmod (w64 ((w64 (31 * vn2)) + (IntKind.i64.wrap e7))) 1000003) fun vn8 =>
        sI (w64 (t3 + 1)) fun t9 =>
        r_laws_numberOf_L4 b1 n vn8 t9
      )
    else
      (
        some vn2
      )
def r_laws_numberOf (b1 : List Int) : Option Int :=
  (r_laws_numberOf_L4 b1 FU 0 0).bind fun o5 =>
  some o5

def r_impl_areNumbers_L3 (list1 : List Int) : Nat → Int → Option (Unit ⊕ Bool)
  | 0, _ => none
  | n + 1, t2 =>
    bif (ltI t2 ((list1.length : Int))) then
      (
        (getI list1 t2).bind fun e6 =>
        bif (bif (ltI e6 (-1000000)) then true else (ltI 1000000 e6)) then
          (
            some (.inr false)
          )
        else
          (
            sI (w64 (t2 + 1)) fun t9 =>
            r_impl_areNumbers_L3 list1 n t9
          )
      )
    else
      (
        some (.inl ())
      )
def r_impl_areNumbers (list1 : List Int) : Option Bool :=
  (r_impl_areNumbers_L3 list1 FU 0).bind fun qo4 =>
  match qo4 with
  | .inr r => some r
  | .inl o4 =>
    some true

def r_impl_IsForm (f1 : (Int × Int × Int)) : Option Bool :=
  (r_impl_areNumbers ([f1.1, f1.2.1, f1.2.2])).bind fun y2 =>
  some y2

def r_impl_Form_disc (f1 : (Int × Int × Int)) : Option Int :=
  sI (w64 ((w64 (f1.2.1 * f1.2.1)) - (w64 ((w64 (4 * f1.1)) * f1.2.2)))) fun t2 =>
  some t2

def r_impl_isDefinite (f1 : (Int × Int × Int)) : Option Bool :=
  (r_impl_IsForm f1).bind fun y2 =>
  (bif y2 then ((r_impl_Form_disc f1).bind fun y4 => some (ltI y4 0)) else some false).bind fun b5 =>
  some (bif b5 then (ltI 0 f1.1) else false)

def r_impl_isShownForm (f1 : (Int × Int × Int)) : Option Bool :=
  (r_impl_isDefinite f1).bind fun y2 =>
  (bif y2 then ((r_impl_Form_disc f1).bind fun y4 => some (leI (-2000) y4)) else some false).bind fun b5 =>
  some b5

def r_impl_isClassForm (f1 : (Int × Int × Int)) : Option Bool :=
  (r_impl_isShownForm f1).bind fun y2 =>
  (bif y2 then ((r_impl_Form_content f1).bind fun y4 => some (eqI y4 1)) else some false).bind fun b5 =>
  some b5

def r_impl_arePair (f1 : (Int × Int × Int)) (g2 : (Int × Int × Int)) : Option Bool :=
  (r_impl_isClassForm f1).bind fun y3 =>
  (bif y3 then ((r_impl_isClassForm g2).bind fun y5 => some y5) else some false).bind fun b6 =>
  (bif b6 then ((r_impl_Form_disc f1).bind fun y8 => (r_impl_Form_disc g2).bind fun y9 => some (eqI y8 y9)) else some false).bind fun b10 =>
  some b10

def r_impl_areIndices_L3 (primes1 : List Int) : Nat → Int → Option (Unit ⊕ Bool)
  | 0, _ => none
  | n + 1, t2 =>
    bif (ltI t2 ((primes1.length : Int))) then
      (
        (getI primes1 t2).bind fun e6 =>
        (r_impl_isIndex e6).bind fun y7 =>
        bif (!y7) then
          (
            some (.inr false)
          )
        else
          (
            sI (w64 (t2 + 1)) fun t9 =>
            r_impl_areIndices_L3 primes1 n t9
          )
      )
    else
      (
        some (.inl ())
      )
def r_impl_areIndices (primes1 : List Int) : Option Bool :=
  (r_impl_areIndices_L3 primes1 FU 0).bind fun qo4 =>
  match qo4 with
  | .inr r => some r
  | .inl o4 =>
    (some (bif (leI 1 ((primes1.length : Int))) then (leI ((primes1.length : Int)) 6) else false)).bind fun t11 =>
    some t11

def r_impl_WalkDistance_L36 (i12 : Int) (primes3 : List Int) (t23 : Int) (y32 : List ((Int × Int × Int))) (y9 : (Int × Int × Int)) : Nat → Int → List ((Int × Int × Int)) → List ((((Int × Int × Int)) × Int)) → Option ((List ((Int × Int × Int))) × (List ((((Int × Int × Int)) × Int))))
  | 0, _, _, _ => none
  | n + 1, t33, l34, l35 =>
    bif (ltI t33 ((y32.length : Int))) then
      (
        (getI y32 t33).bind fun e39 =>
        (getI y32 t33).bind fun e40 =>
        bif (!(mHas e40 l35)) then
          (
            (getI l34 i12).bind fun e42 =>
            (getI l34 i12).bind fun e43 =>
            (room (l34.length + ([e40]).length)).bind fun u44 =>
            sI (w64 (t33 + 1)) fun t45 =>
            r_impl_WalkDistance_L36 i12 primes3 t23 y32 y9 n t45 (l34 ++ ([e40])) (mPut e40 (w64 ((mAt e43 l35 0) + 1)) l35)
          )
        else
          (
            sI (w64 (t33 + 1)) fun t46 =>
            r_impl_WalkDistance_L36 i12 primes3 t23 y32 y9 n t46 l34 l35
          )
      )
    else
      (
        some (l34, l35)
      )
def r_impl_WalkDistance_L26 (i12 : Int) (primes3 : List Int) (y9 : (Int × Int × Int)) : Nat → Int → List ((Int × Int × Int)) → List ((((Int × Int × Int)) × Int)) → Option ((List ((Int × Int × Int))) × (List ((((Int × Int × Int)) × Int))))
  | 0, _, _, _ => none
  | n + 1, t23, l24, l25 =>
    bif (ltI t23 ((primes3.length : Int))) then
      (
        (getI primes3 t23).bind fun e29 =>
        (getI l24 i12).bind fun e30 =>
        (getI l24 i12).bind fun e31 =>
        (r_impl_neighbours e31 e29).bind fun y32 =>
        (r_impl_WalkDistance_L36 i12 primes3 t23 y32 y9 FU 0 l24 l25).bind fun o37 =>
        sI (w64 (t23 + 1)) fun t47 =>
        r_impl_WalkDistance_L26 i12 primes3 y9 n t47 o37.1 o37.2
      )
    else
      (
        some (l24, l25)
      )
def r_impl_WalkDistance_L15 (primes3 : List Int) (y9 : (Int × Int × Int)) : Nat → Int → List ((Int × Int × Int)) → List ((((Int × Int × Int)) × Int)) → Option (Unit ⊕ (Int × Bool))
  | 0, _, _, _ => none
  | n + 1, i12, l13, l14 =>
    bif (ltI i12 ((l13.length : Int))) then
      (
        (getI l13 i12).bind fun e18 =>
        (getI l13 i12).bind fun e19 =>
        (some (((e19.1 == y9.1) && ((e19.2.1 == y9.2.1) && (e19.2.2 == y9.2.2))))).bind fun t20 =>
        bif t20 then
          (
            sI (mAt y9 l14 0) fun t22 =>
            some (.inr (((t22, true))))
          )
        else
          (
            (r_impl_WalkDistance_L26 i12 primes3 y9 FU 0 l13 l14).bind fun o27 =>
            sI (w64 (i12 + 1)) fun i48 =>
            r_impl_WalkDistance_L15 primes3 y9 n i48 o27.1 o27.2
          )
      )
    else
      (
        some (.inl ())
      )
def r_impl_WalkDistance (f1 : (Int × Int × Int)) (g2 : (Int × Int × Int)) (primes3 : List Int) : Option (Int × Bool) :=
  (r_impl_arePair f1 g2).bind fun y4 =>
  (bif (!y4) then some true else ((r_impl_areIndices primes3).bind fun y6 => some (!y6))).bind fun b7 =>
  bif b7 then
    (
      some ((0, false))
    )
  else
    (
      (r_impl_reduced g2).bind fun y9 =>
      (r_impl_reduced f1).bind fun y10 =>
      (r_impl_reduced f1).bind fun y11 =>
      (r_impl_WalkDistance_L15 primes3 y9 FU 0 ([y11]) (mPut y10 0 (([] : List ((((Int × Int × Int)) × Int)))))).bind fun qo16 =>
      match qo16 with
      | .inr r => some r
      | .inl o16 =>
        some ((0, false))
    )

def r_spec_nuGood (vn1 : Int) : Option Bool :=
  (r_spec_l1In vn1 (-1000000) 1000000).bind fun y2 =>
  some y2

def r_spec_foGood (f1 : (Int × Int × Int)) : Option Bool :=
  (r_spec_nuGood f1.1).bind fun y2 =>
  (bif y2 then ((r_spec_nuGood f1.2.1).bind fun y4 => some y4) else some false).bind fun b5 =>
  (bif b5 then ((r_spec_nuGood f1.2.2).bind fun y7 => some y7) else some false).bind fun b8 =>
  some b8

def r_spec_foDefinite (f1 : (Int × Int × Int)) : Option Bool :=
  (r_spec_foGood f1).bind fun y2 =>
  (bif y2 then ((r_spec_foDisc f1).bind fun y4 => some (ltI y4 0)) else some false).bind fun b5 =>
  some (bif b5 then (ltI 0 f1.1) else false)

def r_spec_vaForm (f1 : (Int × Int × Int)) : Option Bool :=
  (r_spec_foDefinite f1).bind fun y2 =>
  (bif y2 then ((r_spec_foDisc f1).bind fun y4 => some (leI (-2000) y4)) else some false).bind fun b5 =>
  some b5

def r_spec_coGood (f1 : (Int × Int × Int)) : Option Bool :=
  (r_spec_vaForm f1).bind fun y2 =>
  (bif y2 then ((r_spec_foContent f1).bind fun y4 => some (eqI y4 1)) else some false).bind fun b5 =>
  some b5

def r_spec_coTwo (f1 : (Int × Int × Int)) (g2 : (Int × Int × Int)) : Option Bool :=
  (r_spec_coGood f1).bind fun y3 =>
  (bif y3 then ((r_spec_coGood g2).bind fun y5 => some y5) else some false).bind fun b6 =>
  (bif b6 then ((r_spec_foDisc f1).bind fun y8 => (r_spec_foDisc g2).bind fun y9 => some (eqI y8 y9)) else some false).bind fun b10 =>
  some b10

def r_spec_hkPrimes_L3 (primes1 : List Int) : Nat → Int → Option (Unit ⊕ Bool)
  | 0, _ => none
  | n + 1, t2 =>
    bif (ltI t2 ((primes1.length : Int))) then
      (
        (getI primes1 t2).bind fun e6 =>
        (r_spec_hkPrime e6).bind fun y7 =>
        bif (!y7) then
          (
            some (.inr false)
          )
        else
          (
            sI (w64 (t2 + 1)) fun t9 =>
            r_spec_hkPrimes_L3 primes1 n t9
          )
      )
    else
      (
        some (.inl ())
      )
def r_spec_hkPrimes (primes1 : List Int) : Option Bool :=
  (r_spec_hkPrimes_L3 primes1 FU 0).bind fun qo4 =>
  match qo4 with
  | .inr r => some r
  | .inl o4 =>
    (r_spec_l1In ((primes1.length : Int)) 1 6).bind fun y10 =>
    some y10

def r_spec_cyHas_L4 (f2 : (Int × Int × Int)) (l1 : List ((Int × Int × Int))) : Nat → Int → Option (Unit ⊕ Bool)
  | 0, _ => none
  | n + 1, t3 =>
    bif (ltI t3 ((l1.length : Int))) then
      (
        (getI l1 t3).bind fun e7 =>
        (some (((e7.1 == f2.1) && ((e7.2.1 == f2.2.1) && (e7.2.2 == f2.2.2))))).bind fun t8 =>
        bif t8 then
          (
            some (.inr true)
          )
        else
          (
            sI (w64 (t3 + 1)) fun t10 =>
            r_spec_cyHas_L4 f2 l1 n t10
          )
      )
    else
      (
        some (.inl ())
      )
def r_spec_cyHas (l1 : List ((Int × Int × Int))) (f2 : (Int × Int × Int)) : Option Bool :=
  (r_spec_cyHas_L4 f2 l1 FU 0).bind fun qo5 =>
  match qo5 with
  | .inr r => some r
  | .inl o5 =>
    some false

def r_spec_WalkDistance_L20 (l13 : List ((Int × Int × Int))) (primes3 : List Int) (t18 : Int) (vfrom11 : Int) (vn12 : Int) (y9 : (Int × Int × Int)) : Nat → Int → Option (Unit ⊕ (Int × Bool))
  | 0, _ => none
  | n + 1, t19 =>
    bif (ltI t19 t18) then
      (
        (vwi l13 vfrom11 t19).bind fun e23 =>
        (some (((e23.1 == y9.1) && ((e23.2.1 == y9.2.1) && (e23.2.2 == y9.2.2))))).bind fun t24 =>
        bif t24 then
          (
            some (.inr (((vn12, true))))
          )
        else
          (
            sI (w64 (t19 + 1)) fun t26 =>
            r_spec_WalkDistance_L20 l13 primes3 t18 vfrom11 vn12 y9 n t26
          )
      )
    else
      (
        some (.inl ())
      )
def r_spec_WalkDistance_L44 (e34 : (Int × Int × Int)) (l13 : List ((Int × Int × Int))) (primes3 : List Int) (t28 : Int) (t29 : Int) (t35 : Int) (vfrom11 : Int) (vn12 : Int) (y41 : List ((Int × Int × Int))) (y9 : (Int × Int × Int)) : Nat → Int → List ((Int × Int × Int)) → Option (List ((Int × Int × Int)))
  | 0, _, _ => none
  | n + 1, t42, l43 =>
    bif (ltI t42 ((y41.length : Int))) then
      (
        (getI y41 t42).bind fun e47 =>
        (getI y41 t42).bind fun e48 =>
        (r_spec_cyHas (l13 ++ l43) e48).bind fun y49 =>
        bif (!y49) then
          (
            (room ((l13 ++ l43).length + ([e48]).length)).bind fun u51 =>
            sI (w64 (t42 + 1)) fun t52 =>
            r_spec_WalkDistance_L44 e34 l13 primes3 t28 t29 t35 vfrom11 vn12 y41 y9 n t52 (l43 ++ ([e48]))
          )
        else
          (
            sI (w64 (t42 + 1)) fun t53 =>
            r_spec_WalkDistance_L44 e34 l13 primes3 t28 t29 t35 vfrom11 vn12 y41 y9 n t53 l43
          )
      )
    else
      (
        some l43
      )
def r_spec_WalkDistance_L37 (e34 : (Int × Int × Int)) (l13 : List ((Int × Int × Int))) (primes3 : List Int) (t28 : Int) (t29 : Int) (vfrom11 : Int) (vn12 : Int) (y9 : (Int × Int × Int)) : Nat → Int → List ((Int × Int × Int)) → Option (List ((Int × Int × Int)))
  | 0, _, _ => none
  | n + 1, t35, l36 =>
    bif (ltI t35 ((primes3.length : Int))) then
      (
        (getI primes3 t35).bind fun e40 =>
        (r_spec_hkNeighbours e34 e40).bind fun y41 =>
        (r_spec_WalkDistance_L44 e34 l13 primes3 t28 t29 t35 vfrom11 vn12 y41 y9 FU 0 l36).bind fun o45 =>
        sI (w64 (t35 + 1)) fun t54 =>
        r_spec_WalkDistance_L37 e34 l13 primes3 t28 t29 vfrom11 vn12 y9 n t54 o45
      )
    else
      (
        some l36
      )
def r_spec_WalkDistance_L31 (l13 : List ((Int × Int × Int))) (primes3 : List Int) (t28 : Int) (vfrom11 : Int) (vn12 : Int) (y9 : (Int × Int × Int)) : Nat → Int → List ((Int × Int × Int)) → Option (List ((Int × Int × Int)))
  | 0, _, _ => none
  | n + 1, t29, l30 =>
    bif (ltI t29 t28) then
      (
        (vwi l13 vfrom11 t29).bind fun e34 =>
        (r_spec_WalkDistance_L37 e34 l13 primes3 t28 t29 vfrom11 vn12 y9 FU 0 l30).bind fun o38 =>
        sI (w64 (t29 + 1)) fun t55 =>
        r_spec_WalkDistance_L31 l13 primes3 t28 vfrom11 vn12 y9 n t55 o38
      )
    else
      (
        some (l13 ++ l30)
      )
def r_spec_WalkDistance_L14 (primes3 : List Int) (y9 : (Int × Int × Int)) : Nat → Int → Int → List ((Int × Int × Int)) → Option (Unit ⊕ (Int × Bool))
  | 0, _, _, _ => none
  | n + 1, vfrom11, vn12, l13 =>
    bif (ltI vfrom11 ((l13.length : Int))) then
      (
        (vwg l13.length vfrom11 ((l13.length : Int))).bind fun u17 =>
        sI (vwl l13.length vfrom11) fun t18 =>
        (r_spec_WalkDistance_L20 l13 primes3 t18 vfrom11 vn12 y9 FU 0).bind fun qo21 =>
        match qo21 with
        | .inr r => some (.inr r)
        | .inl o21 =>
          (vwg l13.length vfrom11 ((l13.length : Int))).bind fun u27 =>
          sI (vwl l13.length vfrom11) fun t28 =>
          (r_spec_WalkDistance_L31 l13 primes3 t28 vfrom11 vn12 y9 FU 0 (([] : List ((Int × Int × Int))))).bind fun o32 =>
          sI (w64 (vn12 + 1)) fun vn56 =>
          r_spec_WalkDistance_L14 primes3 y9 n ((l13.length : Int)) vn56 o32
      )
    else
      (
        some (.inl ())
      )
def r_spec_WalkDistance (f1 : (Int × Int × Int)) (g2 : (Int × Int × Int)) (primes3 : List Int) : Option (Int × Bool) :=
  (r_spec_coTwo f1 g2).bind fun y4 =>
  (bif (!y4) then some true else ((r_spec_hkPrimes primes3).bind fun y6 => some (!y6))).bind fun b7 =>
  bif b7 then
    (
      some ((0, false))
    )
  else
    (
      (r_spec_reClass g2).bind fun y9 =>
      (r_spec_reClass f1).bind fun y10 =>
      (r_spec_WalkDistance_L14 primes3 y9 FU 0 0 ([y10])).bind fun qo15 =>
      match qo15 with
      | .inr r => some r
      | .inl o15 =>
        some ((0, false))
    )

def r_impl_merge_L16 (high13 : Int) (low12 : Int) (part1 : List Int) : Nat → Int → List Int → Option (List Int)
  | 0, _, _ => none
  | n + 1, t14, l15 =>
    bif (ltI t14 ((part1.length : Int))) then
      (
        (getI l15 t14).bind fun e19 =>
        (getI l15 t14).bind fun e20 =>
        bif (eqI e20 high13) then
          (
            (getI l15 t14).bind fun e22 =>
            (getI l15 t14).bind fun e23 =>
            sI (w64 (t14 + 1)) fun t24 =>
            r_impl_merge_L16 high13 low12 part1 n t24 (l15.set (Int.toNat (t14)) low12)
          )
        else
          (
            sI (w64 (t14 + 1)) fun t25 =>
            r_impl_merge_L16 high13 low12 part1 n t25 l15
          )
      )
    else
      (
        some l15
      )
def r_impl_merge (part1 : List Int) (i2 : Int) (k3 : Int) : Option (List Int) :=
  (getI part1 i2).bind fun e4 =>
  (getI part1 i2).bind fun e5 =>
  (getI part1 k3).bind fun e6 =>
  (getI part1 k3).bind fun e7 =>
  (getI part1 i2).bind fun e8 =>
  (getI part1 i2).bind fun e9 =>
  (getI part1 k3).bind fun e10 =>
  (getI part1 k3).bind fun e11 =>
  sI (mnI e5 e7) fun low12 =>
  sI (mxI e9 e11) fun high13 =>
  (r_impl_merge_L16 high13 low12 part1 FU 0 part1).bind fun o17 =>
  some o17

def r_impl_WalkComponents_L13 (d1 : Int) (primes2 : List Int) (t10 : Int) (y8 : ((List ((Int × Int × Int))) × (List ((((Int × Int × Int)) × Int))))) : Nat → Int → List Int → Option (List Int)
  | 0, _, _ => none
  | n + 1, t11, l12 =>
    bif (ltI t11 t10) then
      (
        (getI l12 t11).bind fun e16 =>
        (getI l12 t11).bind fun e17 =>
        sI (w64 (t11 + 1)) fun t18 =>
        r_impl_WalkComponents_L13 d1 primes2 t10 y8 n t18 (l12.set (Int.toNat (t11)) t11)
      )
    else
      (
        some l12
      )
def r_impl_WalkComponents_L35 (d1 : Int) (e32 : List Int) (primes2 : List Int) (t19 : Int) (t26 : Int) (y25 : List (List Int)) (y8 : ((List ((Int × Int × Int))) × (List ((((Int × Int × Int)) × Int))))) : Nat → Int → List Int → Option (List Int)
  | 0, _, _ => none
  | n + 1, t33, l34 =>
    bif (ltI t33 ((e32.length : Int))) then
      (
        (getI e32 t33).bind fun e38 =>
        bif (ltI 0 e38) then
          (
            (r_impl_merge l34 t26 t33).bind fun y40 =>
            sI (w64 (t33 + 1)) fun t41 =>
            r_impl_WalkComponents_L35 d1 e32 primes2 t19 t26 y25 y8 n t41 y40
          )
        else
          (
            sI (w64 (t33 + 1)) fun t42 =>
            r_impl_WalkComponents_L35 d1 e32 primes2 t19 t26 y25 y8 n t42 l34
          )
      )
    else
      (
        some l34
      )
def r_impl_WalkComponents_L28 (d1 : Int) (primes2 : List Int) (t19 : Int) (y25 : List (List Int)) (y8 : ((List ((Int × Int × Int))) × (List ((((Int × Int × Int)) × Int))))) : Nat → Int → List Int → Option (List Int)
  | 0, _, _ => none
  | n + 1, t26, l27 =>
    bif (ltI t26 ((y25.length : Int))) then
      (
        (getI y25 t26).bind fun e31 =>
        (getI y25 t26).bind fun e32 =>
        (r_impl_WalkComponents_L35 d1 e32 primes2 t19 t26 y25 y8 FU 0 l27).bind fun o36 =>
        sI (w64 (t26 + 1)) fun t43 =>
        r_impl_WalkComponents_L28 d1 primes2 t19 y25 y8 n t43 o36
      )
    else
      (
        some l27
      )
def r_impl_WalkComponents_L21 (d1 : Int) (primes2 : List Int) (y8 : ((List ((Int × Int × Int))) × (List ((((Int × Int × Int)) × Int))))) : Nat → Int → List Int → Option (List Int)
  | 0, _, _ => none
  | n + 1, t19, l20 =>
    bif (ltI t19 ((primes2.length : Int))) then
      (
        (getI primes2 t19).bind fun e24 =>
        (r_impl_neighbourMatrix d1 e24).bind fun y25 =>
        (r_impl_WalkComponents_L28 d1 primes2 t19 y25 y8 FU 0 l20).bind fun o29 =>
        sI (w64 (t19 + 1)) fun t44 =>
        r_impl_WalkComponents_L21 d1 primes2 y8 n t44 o29
      )
    else
      (
        some l20
      )
def r_impl_WalkComponents_L56 (l46 : List (List ((Int × Int × Int)))) (o22 : List Int) (t45 : Int) (y8 : ((List ((Int × Int × Int))) × (List ((((Int × Int × Int)) × Int))))) : Nat → Int → List ((Int × Int × Int)) → Option (List ((Int × Int × Int)))
  | 0, _, _ => none
  | n + 1, t54, l55 =>
    bif (ltI t54 ((y8.1.length : Int))) then
      (
        (getI y8.1 t54).bind fun e59 =>
        (getI o22 t54).bind fun e60 =>
        (getI o22 t54).bind fun e61 =>
        bif (eqI e61 t45) then
          (
            (room (l55.length + ([e59]).length)).bind fun u63 =>
            sI (w64 (t54 + 1)) fun t64 =>
            r_impl_WalkComponents_L56 l46 o22 t45 y8 n t64 (l55 ++ ([e59]))
          )
        else
          (
            sI (w64 (t54 + 1)) fun t65 =>
            r_impl_WalkComponents_L56 l46 o22 t45 y8 n t65 l55
          )
      )
    else
      (
        some l55
      )
def r_impl_WalkComponents_L47 (o22 : List Int) (y8 : ((List ((Int × Int × Int))) × (List ((((Int × Int × Int)) × Int))))) : Nat → Int → List (List ((Int × Int × Int))) → Option (List (List ((Int × Int × Int))))
  | 0, _, _ => none
  | n + 1, t45, l46 =>
    bif (ltI t45 ((o22.length : Int))) then
      (
        (getI o22 t45).bind fun e50 =>
        (getI o22 t45).bind fun e51 =>
        bif (!eqI e51 t45) then
          (
            sI (w64 (t45 + 1)) fun t53 =>
            r_impl_WalkComponents_L47 o22 y8 n t53 l46
          )
        else
          (
            (r_impl_WalkComponents_L56 l46 o22 t45 y8 FU 0 (([] : List ((Int × Int × Int))))).bind fun o57 =>
            (room (l46.length + ([o57]).length)).bind fun u66 =>
            sI (w64 (t45 + 1)) fun t67 =>
            r_impl_WalkComponents_L47 o22 y8 n t67 (l46 ++ ([o57]))
          )
      )
    else
      (
        some l46
      )
def r_impl_WalkComponents (d1 : Int) (primes2 : List Int) : Option ((List (List ((Int × Int × Int)))) × Bool) :=
  (r_impl_isNegativeDisc d1).bind fun y3 =>
  (bif (!y3) then some true else ((r_impl_areIndices primes2).bind fun y5 => some (!y5))).bind fun b6 =>
  bif b6 then
    (
      some ((([] : List (List ((Int × Int × Int)))), false))
    )
  else
    (
      (r_impl_groupOf d1).bind fun y8 =>
      (mk ((y8.1.length : Int)) ((y8.1.length : Int))).bind fun u9 =>
      sI (((List.replicate (Int.toNat ((y8.1.length : Int))) ((0 : Int))).length : Int)) fun t10 =>
      (r_impl_WalkComponents_L13 d1 primes2 t10 y8 FU 0 (List.replicate (Int.toNat ((y8.1.length : Int))) ((0 : Int)))).bind fun o14 =>
      (r_impl_WalkComponents_L21 d1 primes2 y8 FU 0 o14).bind fun o22 =>
      (r_impl_WalkComponents_L47 o22 y8 FU 0 (([] : List (List ((Int × Int × Int)))))).bind fun o48 =>
      some ((o48, true))
    )

def r_laws_qHas_L4 (f2 : (Int × Int × Int)) (l1 : List ((Int × Int × Int))) : Nat → Int → Option (Unit ⊕ Bool)
  | 0, _ => none
  | n + 1, t3 =>
    bif (ltI t3 ((l1.length : Int))) then
      (
        (getI l1 t3).bind fun e7 =>
        (some (((e7.1 == f2.1) && ((e7.2.1 == f2.2.1) && (e7.2.2 == f2.2.2))))).bind fun t8 =>
        bif t8 then
          (
            some (.inr true)
          )
        else
          (
            sI (w64 (t3 + 1)) fun t10 =>
            r_laws_qHas_L4 f2 l1 n t10
          )
      )
    else
      (
        some (.inl ())
      )
def r_laws_qHas (l1 : List ((Int × Int × Int))) (f2 : (Int × Int × Int)) : Option Bool :=
  (r_laws_qHas_L4 f2 l1 FU 0).bind fun qo5 =>
  match qo5 with
  | .inr r => some r
  | .inl o5 =>
    some false

def r_laws_FnWalks_L34 (code1 : List Int) (i21 : Int) (t28 : Int) (y13 : ((List (List Int)) × Bool)) (y14 : ((List ((Int × Int × Int))) × Bool)) (y24 : ((List (List Int)) × Bool)) (y5 : (Int × Int × Int)) (y6 : ((List (List Int)) × Bool)) : Nat → Int → Int → Option Int
  | 0, _, _ => none
  | n + 1, sum32, t33 =>
    bif (ltI t33 ((y14.1.length : Int))) then
      (
        (getI y24.1 i21).bind fun e37 =>
        (getI y24.1 i21).bind fun e38 =>
        (getI e38 t33).bind fun e39 =>
        (getI y13.1 t33).bind fun e40 =>
        (getI y13.1 t33).bind fun e41 =>
        (getI e41 t28).bind fun e42 =>
        sI (w64 (sum32 + (w64 (e39 * e42)))) fun sum43 =>
        sI (w64 (t33 + 1)) fun t44 =>
        r_laws_FnWalks_L34 code1 i21 t28 y13 y14 y24 y5 y6 n sum43 t44
      )
    else
      (
        some sum32
      )
def r_laws_FnWalks_L29 (code1 : List Int) (i21 : Int) (y13 : ((List (List Int)) × Bool)) (y14 : ((List ((Int × Int × Int))) × Bool)) (y24 : ((List (List Int)) × Bool)) (y5 : (Int × Int × Int)) (y6 : ((List (List Int)) × Bool)) : Nat → Int → Option (Unit ⊕ Bool)
  | 0, _ => none
  | n + 1, t28 =>
    bif (ltI t28 ((y14.1.length : Int))) then
      (
        (r_laws_FnWalks_L34 code1 i21 t28 y13 y14 y24 y5 y6 FU 0 0).bind fun o35 =>
        (getI y6.1 i21).bind fun e45 =>
        (getI y6.1 i21).bind fun e46 =>
        (getI e46 t28).bind fun e47 =>
        bif (!eqI o35 e47) then
          (
            some (.inr false)
          )
        else
          (
            sI (w64 (t28 + 1)) fun t49 =>
            r_laws_FnWalks_L29 code1 i21 y13 y14 y24 y5 y6 n t49
          )
      )
    else
      (
        some (.inl ())
      )
def r_laws_FnWalks_L84 (i21 : Int) (j52 : Int) (y14 : ((List ((Int × Int × Int))) × Bool)) (y57 : (Int × Bool)) (y63 : ((List (List ((Int × Int × Int)))) × Bool)) : Nat → Int → Int → Option (Int ⊕ Bool)
  | 0, _, _ => none
  | n + 1, count82, t83 =>
    bif (ltI t83 ((y63.1.length : Int))) then
      (
        (getI y63.1 t83).bind fun e87 =>
        (getI y63.1 t83).bind fun e88 =>
        sI (w64 (count82 + ((e88.length : Int)))) fun count89 =>
        (bif y57.2 then ((getI y14.1 i21).bind fun e91 => (getI y14.1 i21).bind fun e92 => (r_laws_qHas e88 e92).bind fun y93 => (getI y14.1 j52).bind fun e94 => (getI y14.1 j52).bind fun e95 => (r_laws_qHas e88 e95).bind fun y96 => some (y93 != y96)) else some false).bind fun b97 =>
        bif b97 then
          (
            some (.inr false)
          )
        else
          (
            sI (w64 (t83 + 1)) fun t99 =>
            r_laws_FnWalks_L84 i21 j52 y14 y57 y63 n count89 t99
          )
      )
    else
      (
        some (.inl count82)
      )
def r_laws_FnWalks (code1 : List Int) (more2 : List Int) : Option Bool :=
  (r_laws_big code1 more2).bind fun y3 =>
  bif y3 then
    (
      some true
    )
  else
    (
      (r_spec_DrawWalkMatrix code1).bind fun y5 =>
      (r_impl_WalkMatrix y5.1 y5.2.1 y5.2.2).bind fun y6 =>
      (r_spec_WalkMatrix y5.1 y5.2.1 y5.2.2).bind fun y7 =>
      (bif (y6.2 != y7.2) then some true else ((r_laws_sameLists y6.1 y7.1).bind fun y9 => some (!y9))).bind fun b10 =>
      bif b10 then
        (
          some false
        )
      else
        (
          bif (!y6.2) then
            (
              some true
            )
          else
            (
              (r_impl_NeighbourMatrix y5.1 y5.2.1).bind fun y13 =>
              (r_impl_ReducedForms y5.1).bind fun y14 =>
              (some (bif (bif (!y13.2) then true else (!y14.2)) then true else (!eqI ((y13.1.length : Int)) ((y6.1.length : Int))))).bind fun t17 =>
              bif t17 then
                (
                  some false
                )
              else
                (
                  (r_laws_numberOf more2).bind fun y19 =>
                  (nz ((y14.1.length : Int))).bind fun z20 =>
                  sI (Int.tmod y19 ((y14.1.length : Int))) fun i21 =>
                  ((
                    bif (ltI 0 y5.2.2) then
                      (
                        (r_impl_WalkMatrix y5.1 y5.2.1 (w64 (y5.2.2 - 1))).bind fun y24 =>
                        (some (bif (!y24.2) then true else (!eqI ((y24.1.length : Int)) ((y6.1.length : Int))))).bind fun t26 =>
                        bif t26 then
                          (
                            some (.inr false)
                          )
                        else
                          (
                            (r_laws_FnWalks_L29 code1 i21 y13 y14 y24 y5 y6 FU 0).bind fun qo30 =>
                            match qo30 with
                            | .inr r => some (.inr r)
                            | .inl o30 =>
                              some (.inl ())
                          )
                      )
                    else
                      (
                        some (.inl ())
                      )
                  ) : Option (Unit ⊕ Bool)).bind fun qo22 =>
                  match qo22 with
                  | .inr r => some r
                  | .inl o22 =>
                    (r_laws_numberOf code1).bind fun y50 =>
                    (nz ((y14.1.length : Int))).bind fun z51 =>
                    sI (Int.tmod y50 ((y14.1.length : Int))) fun j52 =>
                    (getI y14.1 i21).bind fun e53 =>
                    (getI y14.1 i21).bind fun e54 =>
                    (getI y14.1 j52).bind fun e55 =>
                    (getI y14.1 j52).bind fun e56 =>
                    (r_impl_WalkDistance e54 e56 ([y5.2.1])).bind fun y57 =>
                    (getI y14.1 i21).bind fun e58 =>
                    (getI y14.1 i21).bind fun e59 =>
                    (getI y14.1 j52).bind fun e60 =>
                    (getI y14.1 j52).bind fun e61 =>
                    (r_spec_WalkDistance e59 e61 ([y5.2.1])).bind fun y62 =>
                    (r_impl_WalkComponents y5.1 ([y5.2.1])).bind fun y63 =>
                    (some (bif (bif (y57.2 != y62.2) then true else (!eqI y57.1 y62.1)) then true else (!y63.2))).bind fun t66 =>
                    bif t66 then
                      (
                        some false
                      )
                    else
                      (
                        (bif y57.2 then ((getI y6.1 i21).bind fun e69 => (getI y6.1 i21).bind fun e70 => (getI e70 j52).bind fun e71 => some (ltI 0 e71)) else some false).bind fun b72 =>
                        (bif (bif b72 then (ltI y5.2.2 y57.1) else false) then some true else ((bif (!y57.2) then ((getI y6.1 i21).bind fun e76 => (getI y6.1 i21).bind fun e77 => (getI e77 j52).bind fun e78 => some (ltI 0 e78)) else some false).bind fun b79 => some b79)).bind fun b80 =>
                        bif b80 then
                          (
                            some false
                          )
                        else
                          (
                            (r_laws_FnWalks_L84 i21 j52 y14 y57 y63 FU 0 0).bind fun qo85 =>
                            match qo85 with
                            | .inr r => some r
                            | .inl o85 =>
                              some (eqI o85 ((y14.1.length : Int)))
                          )
                      )
                )
            )
        )
    )

end Go.Proofs.Ytafomkclmkfjeaa
