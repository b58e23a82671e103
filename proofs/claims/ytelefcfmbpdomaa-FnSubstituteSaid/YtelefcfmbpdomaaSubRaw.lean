/-
  What the functions of the program compute, as plain functions.
  Conditions: none.
-/
import Derived.Test.YtelefcfmbpdomaaShR

namespace Go.Proofs.Ytelefcfmbpdomaa

set_option linter.unusedVariables false

def r_laws_big (code1 : List Int) (more2 : List Int) : Option Bool :=
  (some (bif (ltI 1048576 ((code1.length : Int))) then true else (ltI (w64 (1048576 - ((code1.length : Int)))) ((more2.length : Int))))).bind fun t4 =>
  some t4

def r_spec_l1Cur_next (c1 : ((List Int) × Int × Int)) : Option (Int × (((List Int) × Int × Int))) :=
  (
    bif (ltI c1.2.1 ((c1.1.length : Int))) then
      (
        (getI c1.1 c1.2.1).bind fun e4 =>
        sI (IntKind.i64.wrap e4) fun b5 =>
        some b5
      )
    else
      (
        some 0
      )
  ).bind fun j2 =>
  sI (w64 (c1.2.1 + 1)) fun f6 =>
  sI (IntKind.u64.wrap ((IntKind.u64.wrap ((IntKind.u64.wrap (c1.2.2 * 6364136223846793005)) + (IntKind.u64.wrap j2))) + 1442695040888963407)) fun f7 =>
  bif (leI f6 ((c1.1.length : Int))) then
    (
      some ((j2, (c1.1, f6, f7)))
    )
  else
    (
      sI (IntKind.i64.wrap (andI .u64 (shrI .u64 f7 40) 255)) fun t9 =>
      some ((t9, (c1.1, f6, f7)))
    )

def r_spec_l1Cur_pick (c1 : ((List Int) × Int × Int)) (vn2 : Int) : Option (Int × (((List Int) × Int × Int))) :=
  bif (leI vn2 1) then
    (
      some ((0, c1))
    )
  else
    (
      (r_spec_l1Cur_next c1).bind fun y4 =>
      bif (ltI 200 vn2) then
        (
          (r_spec_l1Cur_next y4.2).bind fun y6 =>
          sI (w64 ((w64 (y4.1 * 256)) + y6.1)) fun x7 =>
          (nz vn2).bind fun z8 =>
          sI (Int.tmod x7 vn2) fun t9 =>
          some ((t9, y6.2))
        )
      else
        (
          (nz vn2).bind fun z10 =>
          sI (Int.tmod y4.1 vn2) fun t11 =>
          some ((t11, y4.2))
        )
    )

def r_spec_l1Cur_among (c1 : ((List Int) × Int × Int)) (list2 : List Int) : Option (Int × (((List Int) × Int × Int))) :=
  (r_spec_l1Cur_pick c1 ((list2.length : Int))).bind fun y3 =>
  (getI list2 y3.1).bind fun e4 =>
  some ((e4, y3.2))

def r_spec_l1Cur_number (c1 : ((List Int) × Int × Int)) : Option (Int × (((List Int) × Int × Int))) :=
  (r_spec_l1Cur_pick c1 12).bind fun y2 =>
  bif (eqI y2.1 0) then
    (
      (r_spec_l1Cur_among y2.2 ([0, 1, -1, 1000000, -1000000, 1000001, -1000001, -9223372036854775808, 9223372036854775807, 999983, 999999, 1000])).bind fun y4 =>
      some ((y4.1, y4.2))
    )
  else
    (
      (
        bif (eqI y2.1 1) then
          (
            some (eqI y2.1 1)
          )
        else
          (
            some (eqI y2.1 2)
          )
      ).bind fun j5 =>
      bif j5 then
        (
          (r_spec_l1Cur_pick y2.2 50000).bind fun y8 =>
          (r_spec_l1Cur_pick y8.2 20).bind fun y9 =>
          (r_spec_l1Cur_pick y9.2 2).bind fun y10 =>
          sI (w64 ((w64 (y8.1 * (w64 (1 + y9.1)))) * (w64 (1 - (w64 (2 * y10.1)))))) fun t11 =>
          some ((t11, y10.2))
        )
      else
        (
          (
            bif (eqI y2.1 3) then
              (
                some (eqI y2.1 3)
              )
            else
              (
                some (eqI y2.1 4)
              )
          ).bind fun j12 =>
          bif j12 then
            (
              (r_spec_l1Cur_pick y2.2 2000).bind fun y15 =>
              some ((y15.1, y15.2))
            )
          else
            (
              (r_spec_l1Cur_pick y2.2 121).bind fun y16 =>
              sI (w64 (y16.1 - 40)) fun t17 =>
              some ((t17, y16.2))
            )
        )
    )

def r_spec_l1Cur_form (c1 : ((List Int) × Int × Int)) : Option (((Int × Int × Int)) × (((List Int) × Int × Int))) :=
  (r_spec_l1Cur_pick c1 14).bind fun y2 =>
  bif (eqI y2.1 0) then
    (
      (r_spec_l1Cur_number y2.2).bind fun y4 =>
      (r_spec_l1Cur_number y4.2).bind fun y5 =>
      (r_spec_l1Cur_number y5.2).bind fun y6 =>
      some (((y4.1, y5.1, y6.1), y6.2))
    )
  else
    (
      bif (eqI y2.1 1) then
        (
          (r_spec_l1Cur_among y2.2 ([2, 3, -1, 0, 1000])).bind fun y8 =>
          (r_spec_l1Cur_pick y8.2 20).bind fun y9 =>
          (r_spec_l1Cur_pick y9.2 21).bind fun y10 =>
          (r_spec_l1Cur_pick y10.2 20).bind fun y11 =>
          sI (w64 (y8.1 * y9.1)) fun f12 =>
          sI (w64 (y8.1 * (w64 (y10.1 - 10)))) fun f13 =>
          sI (w64 (y8.1 * y11.1)) fun f14 =>
          some (((f12, f13, f14), y11.2))
        )
      else
        (
          bif (eqI y2.1 2) then
            (
              (r_spec_l1Cur_pick y2.2 2000).bind fun y16 =>
              (r_spec_l1Cur_pick y16.2 3000).bind fun y17 =>
              (r_spec_l1Cur_pick y17.2 2000).bind fun y18 =>
              sI (w64 (y17.1 - 1500)) fun f19 =>
              some (((y16.1, f19, y18.1), y18.2))
            )
          else
            (
              bif (eqI y2.1 3) then
                (
                  (r_spec_l1Cur_pick y2.2 21).bind fun y21 =>
                  (r_spec_l1Cur_pick y21.2 21).bind fun y22 =>
                  (r_spec_l1Cur_pick y22.2 21).bind fun y23 =>
                  sI (w64 (y21.1 - 10)) fun f24 =>
                  sI (w64 (y22.1 - 10)) fun f25 =>
                  sI (w64 (y23.1 - 10)) fun f26 =>
                  some (((f24, f25, f26), y23.2))
                )
              else
                (
                  (r_spec_l1Cur_pick y2.2 25).bind fun y27 =>
                  (r_spec_l1Cur_pick y27.2 40).bind fun y28 =>
                  sI (w64 (1 + y27.1)) fun a29 =>
                  (r_spec_l1Cur_pick y28.2 (w64 (2 * a29))).bind fun y30 =>
                  sI (w64 ((w64 (y30.1 - a29)) + 1)) fun b31 =>
                  (nz (w64 (4 * a29))).bind fun z32 =>
                  sI (w64 ((w64 (Int.tdiv (w64 ((w64 (b31 * b31)) + (w64 (4 * a29)))) (w64 (4 * a29)))) + y28.1)) fun f33 =>
                  some (((a29, b31, f33), y30.2))
                )
            )
        )
    )

def r_spec_foMul (vm1 : (Int × Int × Int × Int)) (vn2 : (Int × Int × Int × Int)) : Option (Int × Int × Int × Int) :=
  sI (w64 ((w64 (vm1.1 * vn2.1)) + (w64 (vm1.2.1 * vn2.2.2.1)))) fun f3 =>
  sI (w64 ((w64 (vm1.1 * vn2.2.1)) + (w64 (vm1.2.1 * vn2.2.2.2)))) fun f4 =>
  sI (w64 ((w64 (vm1.2.2.1 * vn2.1)) + (w64 (vm1.2.2.2 * vn2.2.2.1)))) fun f5 =>
  sI (w64 ((w64 (vm1.2.2.1 * vn2.2.1)) + (w64 (vm1.2.2.2 * vn2.2.2.2)))) fun f6 =>
  some ((f3, f4, f5, f6))

def r_spec_l1Cur_proper_L11 : Nat → Int → Int → Int → Int → Int → List Int → Int → Int → Option (Int × Int × Int × Int × (List Int) × Int × Int)
  | 0, _, _, _, _, _, _, _, _ => none
  | n + 1, k3, f4, f5, f6, f7, f8, f9, f10 =>
    bif (ltI 0 k3) then
      (
        (r_spec_l1Cur_pick ((f8, f9, f10)) 9).bind fun y14 =>
        sI (w64 (y14.1 - 4)) fun t15 =>
        (r_spec_l1Cur_pick y14.2 3).bind fun y16 =>
        bif (eqI y16.1 0) then
          (
            (r_spec_foMul ((f4, f5, f6, f7)) ((1, t15, 0, 1))).bind fun y18 =>
            sI (w64 (k3 - 1)) fun k19 =>
            r_spec_l1Cur_proper_L11 n k19 y18.1 y18.2.1 y18.2.2.1 y18.2.2.2 y16.2.1 y16.2.2.1 y16.2.2.2
          )
        else
          (
            bif (eqI y16.1 1) then
              (
                (r_spec_foMul ((f4, f5, f6, f7)) ((1, 0, t15, 1))).bind fun y21 =>
                sI (w64 (k3 - 1)) fun k22 =>
                r_spec_l1Cur_proper_L11 n k22 y21.1 y21.2.1 y21.2.2.1 y21.2.2.2 y16.2.1 y16.2.2.1 y16.2.2.2
              )
            else
              (
                (r_spec_foMul ((f4, f5, f6, f7)) ((0, -1, 1, 0))).bind fun y23 =>
                sI (w64 (k3 - 1)) fun k24 =>
                r_spec_l1Cur_proper_L11 n k24 y23.1 y23.2.1 y23.2.2.1 y23.2.2.2 y16.2.1 y16.2.2.1 y16.2.2.2
              )
          )
      )
    else
      (
        some (f4, f5, f6, f7, f8, f9, f10)
      )
def r_spec_l1Cur_proper (c1 : ((List Int) × Int × Int)) : Option (((Int × Int × Int × Int)) × (((List Int) × Int × Int))) :=
  (r_spec_l1Cur_pick c1 6).bind fun y2 =>
  (r_spec_l1Cur_proper_L11 FU y2.1 1 0 0 1 y2.2.1 y2.2.2.1 y2.2.2.2).bind fun o12 =>
  some (((o12.1, o12.2.1, o12.2.2.1, o12.2.2.2.1), o12.2.2.2.2))

def r_spec_l1Cur_matrix (c1 : ((List Int) × Int × Int)) : Option (((Int × Int × Int × Int)) × (((List Int) × Int × Int))) :=
  (r_spec_l1Cur_proper c1).bind fun y2 =>
  (r_spec_l1Cur_pick y2.2 10).bind fun y3 =>
  bif (eqI y3.1 0) then
    (
      (r_spec_l1Cur_number y3.2).bind fun y5 =>
      (r_spec_l1Cur_number y5.2).bind fun y6 =>
      (r_spec_l1Cur_number y6.2).bind fun y7 =>
      (r_spec_l1Cur_number y7.2).bind fun y8 =>
      some (((y5.1, y6.1, y7.1, y8.1), y8.2))
    )
  else
    (
      bif (eqI y3.1 1) then
        (
          some (((y2.1.2.1, y2.1.1, y2.1.2.2.2, y2.1.2.2.1), y3.2))
        )
      else
        (
          bif (eqI y3.1 2) then
            (
              (r_spec_l1Cur_pick y3.2 3).bind fun y11 =>
              sI (w64 (y2.1.2.1 + (w64 (1 + y11.1)))) fun f12 =>
              some (((y2.1.1, f12, y2.1.2.2.1, y2.1.2.2.2), y11.2))
            )
          else
            (
              some ((y2.1, y3.2))
            )
        )
    )

def r_spec_DrawSubstitute (code1 : List Int) : Option (((Int × Int × Int)) × ((Int × Int × Int × Int))) :=
  (r_spec_l1Cur_form ((code1, 0, 0))).bind fun y2 =>
  (r_spec_l1Cur_matrix y2.2).bind fun y3 =>
  some ((y2.1, y3.1))

def r_impl_areNumbers_L3 (list1 : List Int) : Nat → Int → Option (Unit ⊕ Bool)
  | 0, _ => none
  | n + 1, t2 =>
    bif (ltI t2 ((list1.length : Int))) then
      (
        (getI list1 t2).bind fun e6 =>
        bif (bif (ltI e6 (-1000000)) then true else (ltI 1000000 e6)) then
          (
            some (.inr false)
          )
        else
          (
            sI (w64 (t2 + 1)) fun t9 =>
            r_impl_areNumbers_L3 list1 n t9
          )
      )
    else
      (
        some (.inl ())
      )
def r_impl_areNumbers (list1 : List Int) : Option Bool :=
  (r_impl_areNumbers_L3 list1 FU 0).bind fun qo4 =>
  match qo4 with
  | .inr r => some r
  | .inl o4 =>
    some true

def r_impl_IsForm (f1 : (Int × Int × Int)) : Option Bool :=
  (r_impl_areNumbers ([f1.1, f1.2.1, f1.2.2])).bind fun y2 =>
  some y2

def r_impl_IsMatrix (vm1 : (Int × Int × Int × Int)) : Option Bool :=
  (r_impl_areNumbers ([vm1.1, vm1.2.1, vm1.2.2.1, vm1.2.2.2])).bind fun y2 =>
  some y2

def r_impl_Form_at (f1 : (Int × Int × Int)) (x2 : Int) (y3 : Int) : Option Int :=
  sI (w64 ((w64 ((w64 ((w64 (f1.1 * x2)) * x2)) + (w64 ((w64 (f1.2.1 * x2)) * y3)))) + (w64 ((w64 (f1.2.2 * y3)) * y3)))) fun t4 =>
  some t4

def r_impl_Form_polar (f1 : (Int × Int × Int)) (x2 : Int) (y3 : Int) (u4 : Int) (v5 : Int) : Option Int :=
  sI (w64 ((w64 ((w64 ((w64 ((w64 (2 * f1.1)) * x2)) * u4)) + (w64 (f1.2.1 * (w64 ((w64 (x2 * v5)) + (w64 (y3 * u4)))))))) + (w64 ((w64 ((w64 (2 * f1.2.2)) * y3)) * v5)))) fun t6 =>
  some t6

def r_impl_Form_substitute (f1 : (Int × Int × Int)) (vm2 : (Int × Int × Int × Int)) : Option (Int × Int × Int) :=
  (r_impl_Form_at f1 vm2.1 vm2.2.2.1).bind fun y3 =>
  (r_impl_Form_polar f1 vm2.1 vm2.2.2.1 vm2.2.1 vm2.2.2.2).bind fun y4 =>
  (r_impl_Form_at f1 vm2.2.1 vm2.2.2.2).bind fun y5 =>
  some ((y3, y4, y5))

def r_impl_Substitute (f1 : (Int × Int × Int)) (vm2 : (Int × Int × Int × Int)) : Option (((Int × Int × Int)) × Bool) :=
  (r_impl_IsForm f1).bind fun y3 =>
  (bif (!y3) then some true else ((r_impl_IsMatrix vm2).bind fun y5 => some (!y5))).bind fun b6 =>
  bif b6 then
    (
      some (((0, 0, 0), false))
    )
  else
    (
      (r_impl_Form_substitute f1 vm2).bind fun y8 =>
      (r_impl_IsForm y8).bind fun y9 =>
      bif (!y9) then
        (
          some (((0, 0, 0), false))
        )
      else
        (
          some ((y8, true))
        )
    )

def r_spec_l1In (vn1 : Int) (lo2 : Int) (hi3 : Int) : Option Bool :=
  some (bif (leI lo2 vn1) then (leI vn1 hi3) else false)

def r_spec_nuGood (vn1 : Int) : Option Bool :=
  (r_spec_l1In vn1 (-1000000) 1000000).bind fun y2 =>
  some y2

def r_spec_foGood (f1 : (Int × Int × Int)) : Option Bool :=
  (r_spec_nuGood f1.1).bind fun y2 =>
  (bif y2 then ((r_spec_nuGood f1.2.1).bind fun y4 => some y4) else some false).bind fun b5 =>
  (bif b5 then ((r_spec_nuGood f1.2.2).bind fun y7 => some y7) else some false).bind fun b8 =>
  some b8

def r_spec_foMatrix (vm1 : (Int × Int × Int × Int)) : Option Bool :=
  (r_spec_nuGood vm1.1).bind fun y2 =>
  (bif y2 then ((r_spec_nuGood vm1.2.1).bind fun y4 => some y4) else some false).bind fun b5 =>
  (bif b5 then ((r_spec_nuGood vm1.2.2.1).bind fun y7 => some y7) else some false).bind fun b8 =>
  (bif b8 then ((r_spec_nuGood vm1.2.2.2).bind fun y10 => some y10) else some false).bind fun b11 =>
  some b11

def r_spec_foValue (f1 : (Int × Int × Int)) (x2 : Int) (y3 : Int) : Option Int :=
  sI (w64 ((w64 ((w64 ((w64 (f1.1 * x2)) * x2)) + (w64 ((w64 (f1.2.1 * x2)) * y3)))) + (w64 ((w64 (f1.2.2 * y3)) * y3)))) fun t4 =>
  some t4

def r_spec_foPolar (f1 : (Int × Int × Int)) (x2 : Int) (y3 : Int) (u4 : Int) (v5 : Int) : Option Int :=
  sI (w64 ((w64 ((w64 ((w64 ((w64 (2 * f1.1)) * x2)) * u4)) + (w64 (f1.2.1 * (w64 ((w64 (x2 * v5)) + (w64 (y3 * u4)))))))) + (w64 ((w64 ((w64 (2 * f1.2.2)) * y3)) * v5)))) fun t6 =>
  some t6

def r_spec_foAct (f1 : (Int × Int × Int)) (vm2 : (Int × Int × Int × Int)) : Option (Int × Int × Int) :=
  (r_spec_foValue f1 vm2.1 vm2.2.2.1).bind fun y3 =>
  (r_spec_foPolar f1 vm2.1 vm2.2.2.1 vm2.2.1 vm2.2.2.2).bind fun y4 =>
  (r_spec_foValue f1 vm2.2.1 vm2.2.2.2).bind fun y5 =>
  some ((y3, y4, y5))

def r_spec_Substitute (f1 : (Int × Int × Int)) (vm2 : (Int × Int × Int × Int)) : Option (((Int × Int × Int)) × Bool) :=
  (r_spec_foGood f1).bind fun y3 =>
  (bif (!y3) then some true else ((r_spec_foMatrix vm2).bind fun y5 => some (!y5))).bind fun b6 =>
  (bif b6 then some true else ((r_spec_foAct f1 vm2).bind fun y8 => (r_spec_foGood y8).bind fun y9 => some (!y9))).bind fun b10 =>
  bif b10 then
    (
      some (((0, 0, 0), false))
    )
  else
    (
      (r_spec_foAct f1 vm2).bind fun y12 =>
      some ((y12, true))
    )

def r_impl_Form_disc (f1 : (Int × Int × Int)) : Option Int :=
  sI (w64 ((w64 (f1.2.1 * f1.2.1)) - (w64 ((w64 (4 * f1.1)) * f1.2.2)))) fun t2 =>
  some t2

def r_impl_Discriminant (f1 : (Int × Int × Int)) : Option (Int × Bool) :=
  (r_impl_IsForm f1).bind fun y2 =>
  bif (!y2) then
    (
      some ((0, false))
    )
  else
    (
      (r_impl_Form_disc f1).bind fun y4 =>
      some ((y4, true))
    )

def r_impl_Matrix_det (vm1 : (Int × Int × Int × Int)) : Option Int :=
  sI (w64 ((w64 (vm1.1 * vm1.2.2.2)) - (w64 (vm1.2.1 * vm1.2.2.1)))) fun t2 =>
  some t2

def r_impl_Determinant (vm1 : (Int × Int × Int × Int)) : Option (Int × Bool) :=
  (r_impl_IsMatrix vm1).bind fun y2 =>
  bif (!y2) then
    (
      some ((0, false))
    )
  else
    (
      (r_impl_Matrix_det vm1).bind fun y4 =>
      some ((y4, true))
    )

def r_impl_Matrix_times (vm1 : (Int × Int × Int × Int)) (vn2 : (Int × Int × Int × Int)) : Option (Int × Int × Int × Int) :=
  sI (w64 ((w64 (vm1.1 * vn2.1)) + (w64 (vm1.2.1 * vn2.2.2.1)))) fun f3 =>
  sI (w64 ((w64 (vm1.1 * vn2.2.1)) + (w64 (vm1.2.1 * vn2.2.2.2)))) fun f4 =>
  sI (w64 ((w64 (vm1.2.2.1 * vn2.1)) + (w64 (vm1.2.2.2 * vn2.2.2.1)))) fun f5 =>
  sI (w64 ((w64 (vm1.2.2.1 * vn2.2.1)) + (w64 (vm1.2.2.2 * vn2.2.2.2)))) fun f6 =>
  some ((f3, f4, f5, f6))

def r_impl_checked (vm1 : (Int × Int × Int × Int)) : Option (((Int × Int × Int × Int)) × Bool) :=
  (r_impl_IsMatrix vm1).bind fun y2 =>
  bif (!y2) then
    (
      some (((0, 0, 0, 0), false))
    )
  else
    (
      some ((vm1, true))
    )

def r_impl_MatrixProduct (vm1 : (Int × Int × Int × Int)) (vn2 : (Int × Int × Int × Int)) : Option (((Int × Int × Int × Int)) × Bool) :=
  (r_impl_IsMatrix vm1).bind fun y3 =>
  (bif (!y3) then some true else ((r_impl_IsMatrix vn2).bind fun y5 => some (!y5))).bind fun b6 =>
  bif b6 then
    (
      some (((0, 0, 0, 0), false))
    )
  else
    (
      (r_impl_Matrix_times vm1 vn2).bind fun y8 =>
      (r_impl_checked y8).bind fun y9 =>
      some ((y9.1, y9.2))
    )

def r_laws_numberOf_L4 (b1 : List Int) : Nat → Int → Int → Option Int
  | 0, _, _ => none
  | n + 1, vn2, t3 =>
    bif (ltI t3 ((b1.length : Int))) then
      (
        (getI b1 t3).bind fun e7 =>
        sI (Int.tmod (w64 ((w64 (31 * vn2)) + (IntKind.i64.wrap e7))) 1000003) fun vn8 =>
        sI (w64 (t3 + 1)) fun t9 =>
        r_laws_numberOf_L4 b1 n vn8 t9
      )
    else
      (
        some vn2
      )
def r_laws_numberOf (b1 : List Int) : Option Int :=
  (r_laws_numberOf_L4 b1 FU 0 0).bind fun o5 =>
  some o5

def r_impl_ValueAt (f1 : (Int × Int × Int)) (x2 : Int) (y3 : Int) : Option (Int × Bool) :=
  (r_impl_IsForm f1).bind fun y4 =>
  (bif (!y4) then some true else ((r_impl_areNumbers ([x2, y3])).bind fun y6 => some (!y6))).bind fun b7 =>
  bif b7 then
    (
      some ((0, false))
    )
  else
    (
      (r_impl_Form_at f1 x2 y3).bind fun y9 =>
      some ((y9, true))
    )

def r_impl_IsNumber (vn1 : Int) : Option Bool :=
  (r_impl_areNumbers ([vn1])).bind fun y2 =>
  some y2

def r_laws_FnSubstitute (code1 : List Int) (more2 : List Int) : Option Bool :=
  (r_laws_big code1 more2).bind fun y3 =>
  bif y3 then
    (
      some true
    )
  else
    (
      (r_spec_DrawSubstitute code1).bind fun y5 =>
      (r_spec_DrawSubstitute more2).bind fun y6 =>
      (r_impl_Substitute y5.1 y5.2).bind fun y7 =>
      (r_spec_Substitute y5.1 y5.2).bind fun y8 =>
      (some (bif (y7.2 != y8.2) then true else (!((y7.1.1 == y8.1.1) && ((y7.1.2.1 == y8.1.2.1) && (y7.1.2.2 == y8.1.2.2)))))).bind fun t10 =>
      bif t10 then
        (
          some false
        )
      else
        (
          bif (!y7.2) then
            (
              some true
            )
          else
            (
              (r_impl_Discriminant y5.1).bind fun y13 =>
              (r_impl_Discriminant y7.1).bind fun y14 =>
              (r_impl_Determinant y5.2).bind fun y15 =>
              (some (bif (bif (bif (!y13.2) then true else (!y14.2)) then true else (!y15.2)) then true else (bif (bif (ltI y15.1 1000) then (ltI (-1000) y15.1) else false) then (!eqI y14.1 (w64 ((w64 (y13.1 * y15.1)) * y15.1))) else false))).bind fun t21 =>
              bif t21 then
                (
                  some false
                )
              else
                (
                  (r_impl_Substitute y7.1 y6.2).bind fun y23 =>
                  (r_impl_MatrixProduct y5.2 y6.2).bind fun y24 =>
                  bif (bif y23.2 then y24.2 else false) then
                    (
                      (r_impl_Substitute y5.1 y24.1).bind fun y27 =>
                      (some (bif (!y27.2) then true else (!((y27.1.1 == y23.1.1) && ((y27.1.2.1 == y23.1.2.1) && (y27.1.2.2 == y23.1.2.2)))))).bind fun t29 =>
                      bif t29 then
                        (
                          some false
                        )
                      else
                        (
                          (r_laws_numberOf more2).bind fun y31 =>
                          sI (w64 ((Int.tmod y31 7) - 3)) fun x32 =>
                          sI (w64 ((Int.tmod ((more2.length : Int)) 5) - 2)) fun y33 =>
                          (r_impl_ValueAt y7.1 x32 y33).bind fun y34 =>
                          sI (w64 ((w64 (y5.2.1 * x32)) + (w64 (y5.2.2.1 * y33)))) fun p35 =>
                          sI (w64 ((w64 (y5.2.2.2.1 * x32)) + (w64 (y5.2.2.2.2 * y33)))) fun q36 =>
                          (r_impl_IsNumber p35).bind fun y37 =>
                          (bif y37 then ((r_impl_IsNumber q36).bind fun y39 => some y39) else some false).bind fun b40 =>
                          bif b40 then
                            (
                              (r_impl_ValueAt y5.1 p35 q36).bind fun y42 =>
                              (some (bif (bif (!y34.2) then true else (!y42.2)) then true else (!eqI y34.1 y42.1))).bind fun t45 =>
                              bif t45 then
                                (
                                  some false
                                )
                              else
                                (
                                  some true
                                )
                            )
                          else
                            (
                              some true
                            )
                        )
                    )
                  else
                    (
                      (r_laws_numberOf more2).bind fun y47 =>
                      sI (w64 ((Int.tmod y47 7) - 3)) fun x48 =>
                      sI (w64 ((Int.tmod ((more2.length : Int)) 5) - 2)) fun y49 =>
                      (r_impl_ValueAt y7.1 x48 y49).bind fun y50 =>
                      sI (w64 ((w64 (y5.2.1 * x48)) + (w64 (y5.2.2.1 * y49)))) fun p51 =>
                      sI (w64 ((w64 (y5.2.2.2.1 * x48)) + (w64 (y5.2.2.2.2 * y49)))) fun q52 =>
                      (r_impl_IsNumber p51).bind fun y53 =>
                      (bif y53 then ((r_impl_IsNumber q52).bind fun y55 => some y55) else some false).bind fun b56 =>
                      bif b56 then
                        (
                          (r_impl_ValueAt y5.1 p51 q52).bind fun y58 =>
                          (some (bif (bif (!y50.2) then true else (!y58.2)) then true else (!eqI y50.1 y58.1))).bind fun t61 =>
                          bif t61 then
                            (
                              some false
                            )
                          else
                            (
                              some true
                            )
                        )
                      else
                        (
                          some true
                        )
                    )
                )
            )
        )
    )

end Go.Proofs.Ytelefcfmbpdomaa
