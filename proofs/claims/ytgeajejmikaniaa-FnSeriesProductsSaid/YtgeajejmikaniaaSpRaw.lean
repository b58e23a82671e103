/-
  What the functions of the program compute, as plain functions.
  Conditions: none.
-/
import Derived.Test.YtgeajejmikaniaaShRs

namespace Go.Proofs.Ytgeajejmikaniaa

set_option linter.unusedVariables false

def r_laws_big (code1 : List Int) (more2 : List Int) : Option Bool :=
  (some (bif (ltI 1048576 ((code1.length : Int))) then true else (ltI (w64 (1048576 - ((code1.length : Int)))) ((more2.length : Int))))).bind fun t4 =>
  some t4

def r_spec_l1Cur_next (c1 : ((List Int) × Int × Int)) : Option (Int × (((List Int) × Int × Int))) :=
  (
    bif (ltI c1.2.1 ((c1.1.length : Int))) then
      (
        (getI c1.1 c1.2.1).bind fun e4 =>
        sI (IntKind.i64.wrap e4) fun b5 =>
        some b5
      )
    else
      (
        some 0
      )
  ).bind fun j2 =>
  sI (w64 (c1.2.1 + 1)) fun f6 =>
  sI (IntKind.u64.wrap ((IntKind.u64.wrap ((IntKind.u64.wrap (c1.2.2 * 6364136223846793005)) + (IntKind.u64.wrap j2))) + 1442695040888963407)) fun f7 =>
  bif (leI f6 ((c1.1.length : Int))) then
    (
      some ((j2, (c1.1, f6, f7)))
    )
  else
    (
      sI (IntKind.i64.wrap (andI .u64 (shrI .u64 f7 40) 255)) fun t9 =>
      some ((t9, (c1.1, f6, f7)))
    )

def r_spec_l1Cur_pick (c1 : ((List Int) × Int × Int)) (vn2 : Int) : Option (Int × (((List Int) × Int × Int))) :=
  bif (leI vn2 1) then
    (
      some ((0, c1))
    )
  else
    (
      (r_spec_l1Cur_next c1).bind fun y4 =>
      bif (ltI 200 vn2) then
        (
          (r_spec_l1Cur_next y4.2).bind fun y6 =>
          sI (w64 ((w64 (y4.1 * 256)) + y6.1)) fun x7 =>
          (nz vn2).bind fun z8 =>
          sI (Int.tmod x7 vn2) fun t9 =>
          some ((t9, y6.2))
        )
      else
        (
          (nz vn2).bind fun z10 =>
          sI (Int.tmod y4.1 vn2) fun t11 =>
          some ((t11, y4.2))
        )
    )

def r_spec_l1Cur_one (c1 : ((List Int) × Int × Int)) (vn2 : Int) : Option (Bool × (((List Int) × Int × Int))) :=
  (r_spec_l1Cur_pick c1 vn2).bind fun y3 =>
  some ((eqI y3.1 0, y3.2))

def r_spec_l1Cur_among (c1 : ((List Int) × Int × Int)) (list2 : List Int) : Option (Int × (((List Int) × Int × Int))) :=
  (r_spec_l1Cur_pick c1 ((list2.length : Int))).bind fun y3 =>
  (getI list2 y3.1).bind fun e4 =>
  some ((e4, y3.2))

def r_spec_foDisc (f1 : (Int × Int × Int)) : Option Int :=
  sI (w64 ((w64 (f1.2.1 * f1.2.1)) - (w64 ((w64 (4 * f1.1)) * f1.2.2)))) fun t2 =>
  some t2

def r_spec_reIs (f1 : (Int × Int × Int)) : Option Bool :=
  (some (bif (bif (ltI (w64 (0 - f1.1)) f1.2.1) then (leI f1.2.1 f1.1) else false) then (bif (ltI f1.1 f1.2.2) then true else (bif (eqI f1.1 f1.2.2) then (leI 0 f1.2.1) else false)) else false)).bind fun t6 =>
  some t6

def r_spec_reAll_L10 (a2 : Int) (d1 : Int) : Nat → Int → List ((Int × Int × Int)) → Option (List ((Int × Int × Int)))
  | 0, _, _ => none
  | n + 1, b8, l9 =>
    bif (leI b8 a2) then
      (
        (nz (w64 (4 * a2))).bind fun z13 =>
        sI (w64 (Int.tdiv (w64 ((w64 (b8 * b8)) - d1)) (w64 (4 * a2)))) fun f14 =>
        (r_spec_foDisc ((a2, b8, f14))).bind fun y15 =>
        (bif (eqI y15 d1) then ((r_spec_reIs ((a2, b8, f14))).bind fun y17 => some y17) else some false).bind fun b18 =>
        bif b18 then
          (
            (room (l9.length + ([(a2, b8, f14)]).length)).bind fun u20 =>
            sI (w64 (b8 + 1)) fun b21 =>
            r_spec_reAll_L10 a2 d1 n b21 (l9 ++ ([(a2, b8, f14)]))
          )
        else
          (
            sI (w64 (b8 + 1)) fun b22 =>
            r_spec_reAll_L10 a2 d1 n b22 l9
          )
      )
    else
      (
        some l9
      )
def r_spec_reAll_L4 (d1 : Int) : Nat → Int → List ((Int × Int × Int)) → Option (List ((Int × Int × Int)))
  | 0, _, _ => none
  | n + 1, a2, l3 =>
    bif (leI (w64 ((w64 (3 * a2)) * a2)) (w64 (0 - d1))) then
      (
        sI (w64 (1 - a2)) fun b7 =>
        (r_spec_reAll_L10 a2 d1 FU b7 l3).bind fun o11 =>
        sI (w64 (a2 + 1)) fun a23 =>
        r_spec_reAll_L4 d1 n a23 o11
      )
    else
      (
        some l3
      )
def r_spec_reAll (d1 : Int) : Option (List ((Int × Int × Int))) :=
  (r_spec_reAll_L4 d1 FU 1 (([] : List ((Int × Int × Int))))).bind fun o5 =>
  some o5

def r_spec_l1Most (a1 : Int) (b2 : Int) : Option Int :=
  bif (ltI b2 a1) then
    (
      some a1
    )
  else
    (
      some b2
    )

def r_spec_l1Abs (vn1 : Int) : Option Int :=
  (r_spec_l1Most vn1 (w64 (0 - vn1))).bind fun y2 =>
  some y2

def r_spec_nuGcd_L7 : Nat → Int → Int → Option Int
  | 0, _, _ => none
  | n + 1, a5, b6 =>
    bif (!eqI b6 0) then
      (
        (nz b6).bind fun z10 =>
        sI (Int.tmod a5 b6) fun b11 =>
        r_spec_nuGcd_L7 n b6 b11
      )
    else
      (
        some a5
      )
def r_spec_nuGcd (a1 : Int) (b2 : Int) : Option Int :=
  (r_spec_l1Abs a1).bind fun y3 =>
  (r_spec_l1Abs b2).bind fun y4 =>
  (r_spec_nuGcd_L7 FU y3 y4).bind fun o8 =>
  some o8

def r_spec_foContent (f1 : (Int × Int × Int)) : Option Int :=
  (r_spec_nuGcd f1.1 f1.2.1).bind fun y2 =>
  (r_spec_nuGcd y2 f1.2.2).bind fun y3 =>
  some y3

def r_spec_reList_L5 (y2 : List ((Int × Int × Int))) : Nat → Int → List ((Int × Int × Int)) → Option (List ((Int × Int × Int)))
  | 0, _, _ => none
  | n + 1, t3, l4 =>
    bif (ltI t3 ((y2.length : Int))) then
      (
        (getI y2 t3).bind fun e8 =>
        (getI y2 t3).bind fun e9 =>
        (r_spec_foContent e9).bind fun y10 =>
        bif (eqI y10 1) then
          (
            (room (l4.length + ([e9]).length)).bind fun u12 =>
            sI (w64 (t3 + 1)) fun t13 =>
            r_spec_reList_L5 y2 n t13 (l4 ++ ([e9]))
          )
        else
          (
            sI (w64 (t3 + 1)) fun t14 =>
            r_spec_reList_L5 y2 n t14 l4
          )
      )
    else
      (
        some l4
      )
def r_spec_reList (d1 : Int) : Option (List ((Int × Int × Int))) :=
  (r_spec_reAll d1).bind fun y2 =>
  (r_spec_reList_L5 y2 FU 0 (([] : List ((Int × Int × Int))))).bind fun o6 =>
  some o6

def r_spec_l1Cur_reduced (c1 : ((List Int) × Int × Int)) (d2 : Int) : Option (((Int × Int × Int)) × (((List Int) × Int × Int))) :=
  (r_spec_reList d2).bind fun y3 =>
  (r_spec_l1Cur_pick c1 ((y3.length : Int))).bind fun y4 =>
  (getI y3 y4.1).bind fun e5 =>
  (getI y3 y4.1).bind fun e6 =>
  some ((e6, y4.2))

def r_spec_foMul (vm1 : (Int × Int × Int × Int)) (vn2 : (Int × Int × Int × Int)) : Option (Int × Int × Int × Int) :=
  sI (w64 ((w64 (vm1.1 * vn2.1)) + (w64 (vm1.2.1 * vn2.2.2.1)))) fun f3 =>
  sI (w64 ((w64 (vm1.1 * vn2.2.1)) + (w64 (vm1.2.1 * vn2.2.2.2)))) fun f4 =>
  sI (w64 ((w64 (vm1.2.2.1 * vn2.1)) + (w64 (vm1.2.2.2 * vn2.2.2.1)))) fun f5 =>
  sI (w64 ((w64 (vm1.2.2.1 * vn2.2.1)) + (w64 (vm1.2.2.2 * vn2.2.2.2)))) fun f6 =>
  some ((f3, f4, f5, f6))

def r_spec_l1Cur_proper_L11 : Nat → Int → Int → Int → Int → Int → List Int → Int → Int → Option (Int × Int × Int × Int × (List Int) × Int × Int)
  | 0, _, _, _, _, _, _, _, _ => none
  | n + 1, k3, f4, f5, f6, f7, f8, f9, f10 =>
    bif (ltI 0 k3) then
      (
        (r_spec_l1Cur_pick ((f8, f9, f10)) 9).bind fun y14 =>
        sI (w64 (y14.1 - 4)) fun t15 =>
        (r_spec_l1Cur_pick y14.2 3).bind fun y16 =>
        bif (eqI y16.1 0) then
          (
            (r_spec_foMul ((f4, f5, f6, f7)) ((1, t15, 0, 1))).bind fun y18 =>
            sI (w64 (k3 - 1)) fun k19 =>
            r_spec_l1Cur_proper_L11 n k19 y18.1 y18.2.1 y18.2.2.1 y18.2.2.2 y16.2.1 y16.2.2.1 y16.2.2.2
          )
        else
          (
            bif (eqI y16.1 1) then
              (
                (r_spec_foMul ((f4, f5, f6, f7)) ((1, 0, t15, 1))).bind fun y21 =>
                sI (w64 (k3 - 1)) fun k22 =>
                r_spec_l1Cur_proper_L11 n k22 y21.1 y21.2.1 y21.2.2.1 y21.2.2.2 y16.2.1 y16.2.2.1 y16.2.2.2
              )
            else
              (
                (r_spec_foMul ((f4, f5, f6, f7)) ((0, -1, 1, 0))).bind fun y23 =>
                sI (w64 (k3 - 1)) fun k24 =>
                r_spec_l1Cur_proper_L11 n k24 y23.1 y23.2.1 y23.2.2.1 y23.2.2.2 y16.2.1 y16.2.2.1 y16.2.2.2
              )
          )
      )
    else
      (
        some (f4, f5, f6, f7, f8, f9, f10)
      )
def r_spec_l1Cur_proper (c1 : ((List Int) × Int × Int)) : Option (((Int × Int × Int × Int)) × (((List Int) × Int × Int))) :=
  (r_spec_l1Cur_pick c1 6).bind fun y2 =>
  (r_spec_l1Cur_proper_L11 FU y2.1 1 0 0 1 y2.2.1 y2.2.2.1 y2.2.2.2).bind fun o12 =>
  some (((o12.1, o12.2.1, o12.2.2.1, o12.2.2.2.1), o12.2.2.2.2))

def r_spec_foValue (f1 : (Int × Int × Int)) (x2 : Int) (y3 : Int) : Option Int :=
  sI (w64 ((w64 ((w64 ((w64 (f1.1 * x2)) * x2)) + (w64 ((w64 (f1.2.1 * x2)) * y3)))) + (w64 ((w64 (f1.2.2 * y3)) * y3)))) fun t4 =>
  some t4

def r_spec_foPolar (f1 : (Int × Int × Int)) (x2 : Int) (y3 : Int) (u4 : Int) (v5 : Int) : Option Int :=
  sI (w64 ((w64 ((w64 ((w64 ((w64 (2 * f1.1)) * x2)) * u4)) + (w64 (f1.2.1 * (w64 ((w64 (x2 * v5)) + (w64 (y3 * u4)))))))) + (w64 ((w64 ((w64 (2 * f1.2.2)) * y3)) * v5)))) fun t6 =>
  some t6

def r_spec_foAct (f1 : (Int × Int × Int)) (vm2 : (Int × Int × Int × Int)) : Option (Int × Int × Int) :=
  (r_spec_foValue f1 vm2.1 vm2.2.2.1).bind fun y3 =>
  (r_spec_foPolar f1 vm2.1 vm2.2.2.1 vm2.2.1 vm2.2.2.2).bind fun y4 =>
  (r_spec_foValue f1 vm2.2.1 vm2.2.2.2).bind fun y5 =>
  some ((y3, y4, y5))

def r_spec_l1In (vn1 : Int) (lo2 : Int) (hi3 : Int) : Option Bool :=
  some (bif (leI lo2 vn1) then (leI vn1 hi3) else false)

def r_spec_nuGood (vn1 : Int) : Option Bool :=
  (r_spec_l1In vn1 (-1000000) 1000000).bind fun y2 =>
  some y2

def r_spec_foGood (f1 : (Int × Int × Int)) : Option Bool :=
  (r_spec_nuGood f1.1).bind fun y2 =>
  (bif y2 then ((r_spec_nuGood f1.2.1).bind fun y4 => some y4) else some false).bind fun b5 =>
  (bif b5 then ((r_spec_nuGood f1.2.2).bind fun y7 => some y7) else some false).bind fun b8 =>
  some b8

def r_spec_l1Cur_moved (c1 : ((List Int) × Int × Int)) (f2 : (Int × Int × Int)) : Option (((Int × Int × Int)) × (((List Int) × Int × Int))) :=
  (r_spec_l1Cur_proper c1).bind fun y3 =>
  (r_spec_foAct f2 y3.1).bind fun y4 =>
  (r_spec_foGood y4).bind fun y5 =>
  bif (!y5) then
    (
      some ((f2, y3.2))
    )
  else
    (
      some ((y4, y3.2))
    )

def r_spec_nuMod (a1 : Int) (vm2 : Int) : Option Int :=
  (nz vm2).bind fun z3 =>
  sI (Int.tmod a1 vm2) fun vr4 =>
  bif (ltI vr4 0) then
    (
      sI (w64 (vr4 + vm2)) fun vr6 =>
      some vr6
    )
  else
    (
      some vr4
    )

def r_spec_l1Cur_disc (c1 : ((List Int) × Int × Int)) : Option (Int × (((List Int) × Int × Int))) :=
  (r_spec_l1Cur_pick c1 16).bind fun y2 =>
  bif (eqI y2.1 0) then
    (
      (r_spec_l1Cur_among y2.2 ([-3, -4, -2000, -1999, -1996, -1995, -163, -2001, -2003, -2004, 0, 1, 5, -1, -2, -5, -9223372036854775808])).bind fun y4 =>
      some ((y4.1, y4.2))
    )
  else
    (
      (
        bif (eqI y2.1 1) then
          (
            some (eqI y2.1 1)
          )
        else
          (
            some (eqI y2.1 2)
          )
      ).bind fun j5 =>
      bif j5 then
        (
          (r_spec_l1Cur_pick y2.2 1998).bind fun y8 =>
          sI (w64 ((-3) - y8.1)) fun d9 =>
          (r_spec_nuMod d9 4).bind fun y10 =>
          bif (ltI 1 y10) then
            (
              (r_spec_l1Most (-2000) (w64 (d9 - 2))).bind fun y12 =>
              some ((y12, y8.2))
            )
          else
            (
              some ((d9, y8.2))
            )
        )
      else
        (
          (
            bif (eqI y2.1 3) then
              (
                some (eqI y2.1 3)
              )
            else
              (
                bif (eqI y2.1 4) then
                  (
                    some (eqI y2.1 4)
                  )
                else
                  (
                    some (eqI y2.1 5)
                  )
              )
          ).bind fun j13 =>
          bif j13 then
            (
              (r_spec_l1Cur_among y2.2 ([-84, -420, -231, -260, -455, -520, -660, -1155, -1320, -1380, -1428, -1540, -399, -1092, -1560, -1785])).bind fun y17 =>
              some ((y17.1, y17.2))
            )
          else
            (
              (
                bif (eqI y2.1 6) then
                  (
                    some (eqI y2.1 6)
                  )
                else
                  (
                    some (eqI y2.1 7)
                  )
              ).bind fun j18 =>
              bif j18 then
                (
                  (r_spec_l1Cur_pick y2.2 60).bind fun y21 =>
                  sI (w64 ((-4) * (w64 (1 + y21.1)))) fun t22 =>
                  some ((t22, y21.2))
                )
              else
                (
                  (r_spec_l1Cur_pick y2.2 50).bind fun y23 =>
                  sI (w64 ((-3) - (w64 (4 * y23.1)))) fun t24 =>
                  some ((t24, y23.2))
                )
            )
        )
    )

def r_spec_reDisc (d1 : Int) : Option Bool :=
  (r_spec_l1In d1 (-2000) (-3)).bind fun y2 =>
  (bif y2 then ((r_spec_nuMod d1 4).bind fun y4 => some (ltI y4 2)) else some false).bind fun b5 =>
  some b5

def r_spec_l1Cur_goodDisc (c1 : ((List Int) × Int × Int)) : Option (Int × (((List Int) × Int × Int))) :=
  (r_spec_l1Cur_disc c1).bind fun y2 =>
  (r_spec_reDisc y2.1).bind fun y3 =>
  bif (!y3) then
    (
      some ((-23, y2.2))
    )
  else
    (
      some ((y2.1, y2.2))
    )

def r_spec_l1Cur_number (c1 : ((List Int) × Int × Int)) : Option (Int × (((List Int) × Int × Int))) :=
  (r_spec_l1Cur_pick c1 12).bind fun y2 =>
  bif (eqI y2.1 0) then
    (
      (r_spec_l1Cur_among y2.2 ([0, 1, -1, 1000000, -1000000, 1000001, -1000001, -9223372036854775808, 9223372036854775807, 999983, 999999, 1000])).bind fun y4 =>
      some ((y4.1, y4.2))
    )
  else
    (
      (
        bif (eqI y2.1 1) then
          (
            some (eqI y2.1 1)
          )
        else
          (
            some (eqI y2.1 2)
          )
      ).bind fun j5 =>
      bif j5 then
        (
          (r_spec_l1Cur_pick y2.2 50000).bind fun y8 =>
          (r_spec_l1Cur_pick y8.2 20).bind fun y9 =>
          (r_spec_l1Cur_pick y9.2 2).bind fun y10 =>
          sI (w64 ((w64 (y8.1 * (w64 (1 + y9.1)))) * (w64 (1 - (w64 (2 * y10.1)))))) fun t11 =>
          some ((t11, y10.2))
        )
      else
        (
          (
            bif (eqI y2.1 3) then
              (
                some (eqI y2.1 3)
              )
            else
              (
                some (eqI y2.1 4)
              )
          ).bind fun j12 =>
          bif j12 then
            (
              (r_spec_l1Cur_pick y2.2 2000).bind fun y15 =>
              some ((y15.1, y15.2))
            )
          else
            (
              (r_spec_l1Cur_pick y2.2 121).bind fun y16 =>
              sI (w64 (y16.1 - 40)) fun t17 =>
              some ((t17, y16.2))
            )
        )
    )

def r_spec_l1Cur_form (c1 : ((List Int) × Int × Int)) : Option (((Int × Int × Int)) × (((List Int) × Int × Int))) :=
  (r_spec_l1Cur_pick c1 14).bind fun y2 =>
  bif (eqI y2.1 0) then
    (
      (r_spec_l1Cur_number y2.2).bind fun y4 =>
      (r_spec_l1Cur_number y4.2).bind fun y5 =>
      (r_spec_l1Cur_number y5.2).bind fun y6 =>
      some (((y4.1, y5.1, y6.1), y6.2))
    )
  else
    (
      bif (eqI y2.1 1) then
        (
          (r_spec_l1Cur_among y2.2 ([2, 3, -1, 0, 1000])).bind fun y8 =>
          (r_spec_l1Cur_pick y8.2 20).bind fun y9 =>
          (r_spec_l1Cur_pick y9.2 21).bind fun y10 =>
          (r_spec_l1Cur_pick y10.2 20).bind fun y11 =>
          sI (w64 (y8.1 * y9.1)) fun f12 =>
          sI (w64 (y8.1 * (w64 (y10.1 - 10)))) fun f13 =>
          sI (w64 (y8.1 * y11.1)) fun f14 =>
          some (((f12, f13, f14), y11.2))
        )
      else
        (
          bif (eqI y2.1 2) then
            (
              (r_spec_l1Cur_pick y2.2 2000).bind fun y16 =>
              (r_spec_l1Cur_pick y16.2 3000).bind fun y17 =>
              (r_spec_l1Cur_pick y17.2 2000).bind fun y18 =>
              sI (w64 (y17.1 - 1500)) fun f19 =>
              some (((y16.1, f19, y18.1), y18.2))
            )
          else
            (
              bif (eqI y2.1 3) then
                (
                  (r_spec_l1Cur_pick y2.2 21).bind fun y21 =>
                  (r_spec_l1Cur_pick y21.2 21).bind fun y22 =>
                  (r_spec_l1Cur_pick y22.2 21).bind fun y23 =>
                  sI (w64 (y21.1 - 10)) fun f24 =>
                  sI (w64 (y22.1 - 10)) fun f25 =>
                  sI (w64 (y23.1 - 10)) fun f26 =>
                  some (((f24, f25, f26), y23.2))
                )
              else
                (
                  (r_spec_l1Cur_pick y2.2 25).bind fun y27 =>
                  (r_spec_l1Cur_pick y27.2 40).bind fun y28 =>
                  sI (w64 (1 + y27.1)) fun a29 =>
                  (r_spec_l1Cur_pick y28.2 (w64 (2 * a29))).bind fun y30 =>
                  sI (w64 ((w64 (y30.1 - a29)) + 1)) fun b31 =>
                  (nz (w64 (4 * a29))).bind fun z32 =>
                  sI (w64 ((w64 (Int.tdiv (w64 ((w64 (b31 * b31)) + (w64 (4 * a29)))) (w64 (4 * a29)))) + y28.1)) fun f33 =>
                  some (((a29, b31, f33), y30.2))
                )
            )
        )
    )

def r_spec_l1Cur_definite (c1 : ((List Int) × Int × Int)) : Option (((Int × Int × Int)) × (((List Int) × Int × Int))) :=
  (r_spec_l1Cur_pick c1 12).bind fun y2 =>
  bif (eqI y2.1 0) then
    (
      (r_spec_l1Cur_form y2.2).bind fun y4 =>
      some ((y4.1, y4.2))
    )
  else
    (
      bif (eqI y2.1 1) then
        (
          (r_spec_l1Cur_goodDisc y2.2).bind fun y6 =>
          (r_spec_l1Cur_reduced y6.2 y6.1).bind fun y7 =>
          (r_spec_l1Cur_pick y7.2 5).bind fun y8 =>
          sI (w64 (1 + y8.1)) fun k9 =>
          (r_spec_l1Cur_moved y8.2 ((w64 (k9 * y7.1.1), w64 (k9 * y7.1.2.1), w64 (k9 * y7.1.2.2)))).bind fun y10 =>
          some ((y10.1, y10.2))
        )
      else
        (
          bif (eqI y2.1 2) then
            (
              (r_spec_l1Cur_pick y2.2 1000000).bind fun y12 =>
              (r_spec_l1Cur_pick y12.2 1000001).bind fun y13 =>
              (r_spec_l1Cur_pick y13.2 750001).bind fun y14 =>
              sI (w64 (1 + y12.1)) fun f15 =>
              sI (w64 (250000 + y14.1)) fun f16 =>
              some (((f15, y13.1, f16), y14.2))
            )
          else
            (
              (r_spec_l1Cur_goodDisc y2.2).bind fun y17 =>
              (r_spec_l1Cur_reduced y17.2 y17.1).bind fun y18 =>
              (r_spec_l1Cur_moved y18.2 y18.1).bind fun y19 =>
              some ((y19.1, y19.2))
            )
        )
    )

def r_spec_foDefinite (f1 : (Int × Int × Int)) : Option Bool :=
  (r_spec_foGood f1).bind fun y2 =>
  (bif y2 then ((r_spec_foDisc f1).bind fun y4 => some (ltI y4 0)) else some false).bind fun b5 =>
  some (bif b5 then (ltI 0 f1.1) else false)

def r_spec_vaForm (f1 : (Int × Int × Int)) : Option Bool :=
  (r_spec_foDefinite f1).bind fun y2 =>
  (bif y2 then ((r_spec_foDisc f1).bind fun y4 => some (leI (-2000) y4)) else some false).bind fun b5 =>
  some b5

def r_spec_reNormal (f1 : (Int × Int × Int)) : Option Int :=
  (r_spec_nuMod (w64 (f1.1 - f1.2.1)) (w64 (2 * f1.1))).bind fun y2 =>
  (nz (w64 (2 * f1.1))).bind fun z3 =>
  sI (w64 (Int.tdiv (w64 ((w64 (f1.1 - f1.2.1)) - y2)) (w64 (2 * f1.1)))) fun t4 =>
  some t4

def r_spec_reMove (f1 : (Int × Int × Int)) : Option (Int × Int × Int × Int) :=
  (r_spec_reNormal f1).bind fun y2 =>
  bif (!eqI y2 0) then
    (
      some ((1, y2, 0, 1))
    )
  else
    (
      (r_spec_reIs f1).bind fun y4 =>
      bif y4 then
        (
          some ((1, 0, 0, 1))
        )
      else
        (
          some ((0, -1, 1, 0))
        )
    )

def r_spec_reReduce_L9 : Nat → Int → Int → Int → Int → Int → Int → Int → Option (Int × Int × Int × Int × Int × Int × Int)
  | 0, _, _, _, _, _, _, _ => none
  | n + 1, f2, f3, f4, f5, f6, f7, f8 =>
    (r_spec_reIs ((f6, f7, f8))).bind fun y11 =>
    bif (!y11) then
      (
        (r_spec_reMove ((f6, f7, f8))).bind fun y13 =>
        (r_spec_foAct ((f6, f7, f8)) y13).bind fun y14 =>
        (r_spec_foMul ((f2, f3, f4, f5)) y13).bind fun y15 =>
        r_spec_reReduce_L9 n y15.1 y15.2.1 y15.2.2.1 y15.2.2.2 y14.1 y14.2.1 y14.2.2
      )
    else
      (
        some (f2, f3, f4, f5, f6, f7, f8)
      )
def r_spec_reReduce (f1 : (Int × Int × Int)) : Option (((Int × Int × Int)) × ((Int × Int × Int × Int))) :=
  (r_spec_reReduce_L9 FU 1 0 0 1 f1.1 f1.2.1 f1.2.2).bind fun o10 =>
  some ((o10.2.2.2.2, (o10.1, o10.2.1, o10.2.2.1, o10.2.2.2.1)))

def r_spec_reClass (f1 : (Int × Int × Int)) : Option (Int × Int × Int) :=
  (r_spec_reReduce f1).bind fun y2 =>
  some y2.1

def r_spec_l1Cur_shown (c1 : ((List Int) × Int × Int)) (f2 : (Int × Int × Int)) : Option (Int × (((List Int) × Int × Int))) :=
  (r_spec_l1Cur_pick c1 8).bind fun y3 =>
  bif (eqI y3.1 0) then
    (
      (r_spec_l1Cur_among y3.2 ([0, 1, -1, 10000, 10001, 4611686018427387904])).bind fun y5 =>
      some ((y5.1, y5.2))
    )
  else
    (
      (
        bif (eqI y3.1 1) then
          (
            some (eqI y3.1 1)
          )
        else
          (
            some (eqI y3.1 2)
          )
      ).bind fun j6 =>
      bif j6 then
        (
          (r_spec_l1Cur_pick y3.2 200).bind fun y9 =>
          sI (w64 (1 + y9.1)) fun t10 =>
          some ((t10, y9.2))
        )
      else
        (
          bif (eqI y3.1 3) then
            (
              (r_spec_l1Cur_pick y3.2 10000).bind fun y12 =>
              sI (w64 (1 + y12.1)) fun t13 =>
              some ((t13, y12.2))
            )
          else
            (
              (r_spec_vaForm f2).bind fun y14 =>
              bif (!y14) then
                (
                  (r_spec_l1Cur_pick y3.2 50).bind fun y16 =>
                  sI (w64 (1 + y16.1)) fun t17 =>
                  some ((t17, y16.2))
                )
              else
                (
                  (r_spec_reClass f2).bind fun y18 =>
                  (r_spec_l1Cur_pick y3.2 13).bind fun y19 =>
                  (r_spec_l1Cur_pick y19.2 13).bind fun y20 =>
                  (r_spec_foValue y18 (w64 (y19.1 - 6)) (w64 (y20.1 - 6))).bind fun y21 =>
                  (r_spec_l1Cur_one y20.2 4).bind fun y22 =>
                  bif y22.1 then
                    (
                      (r_spec_l1Cur_among y22.2 ([4, 9, 25, 2, 3])).bind fun y24 =>
                      sI (w64 (y21 * y24.1)) fun vn25 =>
                      some ((vn25, y24.2))
                    )
                  else
                    (
                      some ((y21, y22.2))
                    )
                )
            )
        )
    )

def r_spec_l1Cur_valued (c1 : ((List Int) × Int × Int)) : Option (((Int × Int × Int)) × Int × (((List Int) × Int × Int))) :=
  (r_spec_l1Cur_goodDisc c1).bind fun y2 =>
  (r_spec_l1Cur_reduced y2.2 y2.1).bind fun y3 =>
  (r_spec_l1Cur_moved y3.2 y3.1).bind fun y4 =>
  (
    (r_spec_l1Cur_pick y4.2 12).bind fun y6 =>
    bif (eqI y6.1 0) then
      (
        (r_spec_l1Cur_definite y6.2).bind fun y8 =>
        some (y8.1.1, y8.1.2.1, y8.1.2.2, y8.2.1, y8.2.2.1, y8.2.2.2)
      )
    else
      (
        bif (eqI y6.1 1) then
          (
            (r_spec_l1Cur_pick y6.2 4).bind fun y10 =>
            some (3, y10.1, 3, y10.2.1, y10.2.2.1, y10.2.2.2)
          )
        else
          (
            bif (eqI y6.1 2) then
              (
                (r_spec_l1Cur_pick y6.2 2).bind fun y12 =>
                (r_spec_l1Cur_pick y12.2 2).bind fun y13 =>
                sI (w64 (1 + y12.1)) fun f14 =>
                sI (w64 (1 + y13.1)) fun f15 =>
                some (f14, 0, f15, y13.2.1, y13.2.2.1, y13.2.2.2)
              )
            else
              (
                some (y4.1.1, y4.1.2.1, y4.1.2.2, y6.2.1, y6.2.2.1, y6.2.2.2)
              )
          )
      )
  ).bind fun j5 =>
  (r_spec_l1Cur_shown j5.2.2.2 ((j5.1, j5.2.1, j5.2.2.1))).bind fun y16 =>
  some (((j5.1, j5.2.1, j5.2.2.1), y16.1, y16.2))

def r_spec_l1Cur_shownForm (c1 : ((List Int) × Int × Int)) : Option (((Int × Int × Int)) × (((List Int) × Int × Int))) :=
  (r_spec_l1Cur_one c1 3).bind fun y2 =>
  bif y2.1 then
    (
      (r_spec_l1Cur_among y2.2 ([-3, -4, -7, -8, -23, -15, -20, -12, -16, -84])).bind fun y4 =>
      (r_spec_l1Cur_reduced y4.2 y4.1).bind fun y5 =>
      (r_spec_l1Cur_moved y5.2 y5.1).bind fun y6 =>
      some ((y6.1, y6.2))
    )
  else
    (
      (r_spec_l1Cur_valued y2.2).bind fun y7 =>
      some ((y7.1, y7.2.2))
    )

def r_spec_l1Cur_terms (c1 : ((List Int) × Int × Int)) : Option (Int × (((List Int) × Int × Int))) :=
  (r_spec_l1Cur_pick c1 60).bind fun y2 =>
  (r_spec_l1Cur_among y2.2 ([0, 1, 2, 5, 10, 20, 40, 100, 101, -1, y2.1])).bind fun y3 =>
  some ((y3.1, y3.2))

def r_spec_DrawPairSeries (code1 : List Int) : Option (((Int × Int × Int)) × ((Int × Int × Int)) × Int) :=
  (r_spec_l1Cur_shownForm ((code1, 0, 0))).bind fun y2 =>
  (r_spec_l1Cur_shownForm y2.2).bind fun y3 =>
  (r_spec_l1Cur_terms y3.2).bind fun y4 =>
  some ((y2.1, y3.1, y4.1))

def r_impl_areNumbers_L3 (list1 : List Int) : Nat → Int → Option (Unit ⊕ Bool)
  | 0, _ => none
  | n + 1, t2 =>
    bif (ltI t2 ((list1.length : Int))) then
      (
        (getI list1 t2).bind fun e6 =>
        bif (bif (ltI e6 (-1000000)) then true else (ltI 1000000 e6)) then
          (
            some (.inr false)
          )
        else
          (
            sI (w64 (t2 + 1)) fun t9 =>
            r_impl_areNumbers_L3 list1 n t9
          )
      )
    else
      (
        some (.inl ())
      )
def r_impl_areNumbers (list1 : List Int) : Option Bool :=
  (r_impl_areNumbers_L3 list1 FU 0).bind fun qo4 =>
  match qo4 with
  | .inr r => some r
  | .inl o4 =>
    some true

def r_impl_IsForm (f1 : (Int × Int × Int)) : Option Bool :=
  (r_impl_areNumbers ([f1.1, f1.2.1, f1.2.2])).bind fun y2 =>
  some y2

def r_impl_Form_disc (f1 : (Int × Int × Int)) : Option Int :=
  sI (w64 ((w64 (f1.2.1 * f1.2.1)) - (w64 ((w64 (4 * f1.1)) * f1.2.2)))) fun t2 =>
  some t2

def r_impl_isDefinite (f1 : (Int × Int × Int)) : Option Bool :=
  (r_impl_IsForm f1).bind fun y2 =>
  (bif y2 then ((r_impl_Form_disc f1).bind fun y4 => some (ltI y4 0)) else some false).bind fun b5 =>
  some (bif b5 then (ltI 0 f1.1) else false)

def r_impl_isShownForm (f1 : (Int × Int × Int)) : Option Bool :=
  (r_impl_isDefinite f1).bind fun y2 =>
  (bif y2 then ((r_impl_Form_disc f1).bind fun y4 => some (leI (-2000) y4)) else some false).bind fun b5 =>
  some b5

def r_impl_isTerms (vn1 : Int) : Option Bool :=
  some (bif (leI 0 vn1) then (leI vn1 100) else false)

def r_impl_one : Option (Int × Int × Int × Int) :=
  some ((1, 0, 0, 1))

def r_impl_Form_isNormal (f1 : (Int × Int × Int)) : Option Bool :=
  (some (bif (ltI (w64 (0 - f1.1)) f1.2.1) then (leI f1.2.1 f1.1) else false)).bind fun t3 =>
  some t3

def r_impl_Form_isReduced (f1 : (Int × Int × Int)) : Option Bool :=
  (r_impl_Form_isNormal f1).bind fun y2 =>
  (some (bif y2 then (bif (ltI f1.1 f1.2.2) then true else (bif (eqI f1.1 f1.2.2) then (leI 0 f1.2.1) else false)) else false)).bind fun t6 =>
  some t6

def r_impl_mod (a1 : Int) (vm2 : Int) : Option Int :=
  (nz vm2).bind fun z3 =>
  sI (Int.tmod a1 vm2) fun vr4 =>
  bif (ltI vr4 0) then
    (
      sI (w64 (vr4 + vm2)) fun vr6 =>
      some vr6
    )
  else
    (
      some vr4
    )

def r_impl_floorDiv (a1 : Int) (vm2 : Int) : Option Int :=
  (r_impl_mod a1 vm2).bind fun y3 =>
  (nz vm2).bind fun z4 =>
  sI (w64 (Int.tdiv (w64 (a1 - y3)) vm2)) fun t5 =>
  some t5

def r_impl_Form_step (f1 : (Int × Int × Int)) : Option (Int × Int × Int × Int) :=
  (r_impl_Form_isReduced f1).bind fun y2 =>
  bif y2 then
    (
      (r_impl_one).bind fun y4 =>
      some y4
    )
  else
    (
      (r_impl_Form_isNormal f1).bind fun y5 =>
      bif (!y5) then
        (
          (r_impl_floorDiv (w64 (f1.1 - f1.2.1)) (w64 (2 * f1.1))).bind fun y7 =>
          some ((1, y7, 0, 1))
        )
      else
        (
          some ((0, -1, 1, 0))
        )
    )

def r_impl_Form_at (f1 : (Int × Int × Int)) (x2 : Int) (y3 : Int) : Option Int :=
  sI (w64 ((w64 ((w64 ((w64 (f1.1 * x2)) * x2)) + (w64 ((w64 (f1.2.1 * x2)) * y3)))) + (w64 ((w64 (f1.2.2 * y3)) * y3)))) fun t4 =>
  some t4

def r_impl_Form_polar (f1 : (Int × Int × Int)) (x2 : Int) (y3 : Int) (u4 : Int) (v5 : Int) : Option Int :=
  sI (w64 ((w64 ((w64 ((w64 ((w64 (2 * f1.1)) * x2)) * u4)) + (w64 (f1.2.1 * (w64 ((w64 (x2 * v5)) + (w64 (y3 * u4)))))))) + (w64 ((w64 ((w64 (2 * f1.2.2)) * y3)) * v5)))) fun t6 =>
  some t6

def r_impl_Form_substitute (f1 : (Int × Int × Int)) (vm2 : (Int × Int × Int × Int)) : Option (Int × Int × Int) :=
  (r_impl_Form_at f1 vm2.1 vm2.2.2.1).bind fun y3 =>
  (r_impl_Form_polar f1 vm2.1 vm2.2.2.1 vm2.2.1 vm2.2.2.2).bind fun y4 =>
  (r_impl_Form_at f1 vm2.2.1 vm2.2.2.2).bind fun y5 =>
  some ((y3, y4, y5))

def r_impl_Matrix_times (vm1 : (Int × Int × Int × Int)) (vn2 : (Int × Int × Int × Int)) : Option (Int × Int × Int × Int) :=
  sI (w64 ((w64 (vm1.1 * vn2.1)) + (w64 (vm1.2.1 * vn2.2.2.1)))) fun f3 =>
  sI (w64 ((w64 (vm1.1 * vn2.2.1)) + (w64 (vm1.2.1 * vn2.2.2.2)))) fun f4 =>
  sI (w64 ((w64 (vm1.2.2.1 * vn2.1)) + (w64 (vm1.2.2.2 * vn2.2.2.1)))) fun f5 =>
  sI (w64 ((w64 (vm1.2.2.1 * vn2.2.1)) + (w64 (vm1.2.2.2 * vn2.2.2.2)))) fun f6 =>
  some ((f3, f4, f5, f6))

def r_impl_reduce_L10 : Nat → Int → Int → Int → Int → Int → Int → Int → Option (Int × Int × Int × Int × Int × Int × Int)
  | 0, _, _, _, _, _, _, _ => none
  | n + 1, f3, f4, f5, f6, f7, f8, f9 =>
    (r_impl_Form_isReduced ((f7, f8, f9))).bind fun y12 =>
    bif (!y12) then
      (
        (r_impl_Form_step ((f7, f8, f9))).bind fun y14 =>
        (r_impl_Form_substitute ((f7, f8, f9)) y14).bind fun y15 =>
        (r_impl_Matrix_times ((f3, f4, f5, f6)) y14).bind fun y16 =>
        r_impl_reduce_L10 n y16.1 y16.2.1 y16.2.2.1 y16.2.2.2 y15.1 y15.2.1 y15.2.2
      )
    else
      (
        some (f3, f4, f5, f6, f7, f8, f9)
      )
def r_impl_reduce (f1 : (Int × Int × Int)) : Option (((Int × Int × Int)) × ((Int × Int × Int × Int))) :=
  (r_impl_one).bind fun y2 =>
  (r_impl_reduce_L10 FU y2.1 y2.2.1 y2.2.2.1 y2.2.2.2 f1.1 f1.2.1 f1.2.2).bind fun o11 =>
  some ((o11.2.2.2.2, (o11.1, o11.2.1, o11.2.2.1, o11.2.2.2.1)))

def r_impl_reduced (f1 : (Int × Int × Int)) : Option (Int × Int × Int) :=
  (r_impl_reduce f1).bind fun y2 =>
  some y2.1

def r_impl_root_L4 (vn1 : Int) : Nat → Int → Int → Option Int
  | 0, _, _ => none
  | n + 1, low2, high3 =>
    bif (ltI low2 high3) then
      (
        sI (w64 (Int.tdiv (w64 ((w64 (low2 + high3)) + 1)) 2)) fun vm7 =>
        bif (leI (w64 (vm7 * vm7)) vn1) then
          (
            r_impl_root_L4 vn1 n vm7 high3
          )
        else
          (
            sI (w64 (vm7 - 1)) fun high9 =>
            r_impl_root_L4 vn1 n low2 high9
          )
      )
    else
      (
        some low2
      )
def r_impl_root (vn1 : Int) : Option Int :=
  (r_impl_root_L4 vn1 FU 0 3000000000).bind fun o5 =>
  some o5

def r_impl_isSquare (vn1 : Int) : Option Bool :=
  (bif (leI 0 vn1) then ((r_impl_root vn1).bind fun y3 => (r_impl_root vn1).bind fun y4 => some (eqI (w64 (y3 * y4)) vn1)) else some false).bind fun b5 =>
  some b5

def r_impl_Form_points_L9 (f1 : (Int × Int × Int)) (vn2 : Int) (y3 : Int) (y5 : Int) : Nat → Int → List ((Int × Int)) → Option (List ((Int × Int)))
  | 0, _, _ => none
  | n + 1, x7, l8 =>
    bif (leI x7 y5) then
      (
        sI (w64 ((w64 ((w64 (y3 * x7)) * x7)) + (w64 ((w64 (4 * f1.2.2)) * vn2)))) fun square12 =>
        (r_impl_isSquare square12).bind fun y13 =>
        bif (!y13) then
          (
            sI (w64 (x7 + 1)) fun x15 =>
            r_impl_Form_points_L9 f1 vn2 y3 y5 n x15 l8
          )
        else
          (
            (r_impl_root square12).bind fun y16 =>
            (
              (nz (w64 (2 * f1.2.2))).bind fun z18 =>
              (some (eqI (Int.tmod (w64 ((w64 ((w64 (0 - f1.2.1)) * x7)) - y16)) (w64 (2 * f1.2.2))) 0)).bind fun t19 =>
              bif t19 then
                (
                  (nz (w64 (2 * f1.2.2))).bind fun z21 =>
                  (room (l8.length + ([(x7, w64 (Int.tdiv (w64 ((w64 ((w64 (0 - f1.2.1)) * x7)) - y16)) (w64 (2 * f1.2.2))))]).length)).bind fun u22 =>
                  (some (l8 ++ ([(x7, w64 (Int.tdiv (w64 ((w64 ((w64 (0 - f1.2.1)) * x7)) - y16)) (w64 (2 * f1.2.2))))]))).bind fun l23 =>
                  some l23
                )
              else
                (
                  some l8
                )
            ).bind fun j17 =>
            (bif (ltI 0 y16) then ((nz (w64 (2 * f1.2.2))).bind fun z25 => some (eqI (Int.tmod (w64 ((w64 ((w64 (0 - f1.2.1)) * x7)) + y16)) (w64 (2 * f1.2.2))) 0)) else some false).bind fun b26 =>
            bif b26 then
              (
                (nz (w64 (2 * f1.2.2))).bind fun z28 =>
                (room (j17.length + ([(x7, w64 (Int.tdiv (w64 ((w64 ((w64 (0 - f1.2.1)) * x7)) + y16)) (w64 (2 * f1.2.2))))]).length)).bind fun u29 =>
                (some (j17 ++ ([(x7, w64 (Int.tdiv (w64 ((w64 ((w64 (0 - f1.2.1)) * x7)) + y16)) (w64 (2 * f1.2.2))))]))).bind fun l30 =>
                sI (w64 (x7 + 1)) fun x31 =>
                r_impl_Form_points_L9 f1 vn2 y3 y5 n x31 l30
              )
            else
              (
                sI (w64 (x7 + 1)) fun x32 =>
                r_impl_Form_points_L9 f1 vn2 y3 y5 n x32 j17
              )
          )
      )
    else
      (
        some l8
      )
def r_impl_Form_points (f1 : (Int × Int × Int)) (vn2 : Int) : Option (List ((Int × Int))) :=
  (r_impl_Form_disc f1).bind fun y3 =>
  (nz (w64 (0 - y3))).bind fun z4 =>
  (r_impl_root (w64 (Int.tdiv (w64 ((w64 (4 * f1.2.2)) * vn2)) (w64 (0 - y3))))).bind fun y5 =>
  sI (w64 (0 - y5)) fun x6 =>
  (r_impl_Form_points_L9 f1 vn2 y3 y5 FU x6 (([] : List ((Int × Int))))).bind fun o10 =>
  some o10

def r_impl_Form_theta_L6 (vn2 : Int) (y3 : (Int × Int × Int)) : Nat → Int → List Int → Option (List Int)
  | 0, _, _ => none
  | n + 1, vm4, l5 =>
    bif (leI vm4 vn2) then
      (
        (r_impl_Form_points y3 vm4).bind fun y9 =>
        (room (l5.length + ([(y9.length : Int)]).length)).bind fun u10 =>
        sI (w64 (vm4 + 1)) fun vm11 =>
        r_impl_Form_theta_L6 vn2 y3 n vm11 (l5 ++ ([(y9.length : Int)]))
      )
    else
      (
        some l5
      )
def r_impl_Form_theta (f1 : (Int × Int × Int)) (vn2 : Int) : Option (List Int) :=
  (r_impl_reduced f1).bind fun y3 =>
  (r_impl_Form_theta_L6 vn2 y3 FU 1 ([1])).bind fun o7 =>
  some o7

def r_impl_product_L12 (a1 : List Int) (b2 : List Int) (l4 : List Int) (t5 : Int) : Nat → Int → List Int → Option (List Int)
  | 0, _, _ => none
  | n + 1, i10, l11 =>
    bif (leI i10 t5) then
      (
        (getI l11 t5).bind fun e15 =>
        (getI l11 t5).bind fun e16 =>
        (getI a1 i10).bind fun e17 =>
        (getI b2 (w64 (t5 - i10))).bind fun e18 =>
        (getI l11 t5).bind fun e19 =>
        (getI l11 t5).bind fun e20 =>
        sI (w64 (i10 + 1)) fun i21 =>
        r_impl_product_L12 a1 b2 l4 t5 n i21 (l11.set (Int.toNat (t5)) (w64 (e16 + (w64 (e17 * e18)))))
      )
    else
      (
        some l11
      )
def r_impl_product_L7 (a1 : List Int) (b2 : List Int) (l4 : List Int) : Nat → Int → List Int → Option (List Int)
  | 0, _, _ => none
  | n + 1, t5, l6 =>
    bif (ltI t5 ((l4.length : Int))) then
      (
        (r_impl_product_L12 a1 b2 l4 t5 FU 0 l6).bind fun o13 =>
        sI (w64 (t5 + 1)) fun t22 =>
        r_impl_product_L7 a1 b2 l4 n t22 o13
      )
    else
      (
        some l6
      )
def r_impl_product (a1 : List Int) (b2 : List Int) : Option (List Int) :=
  (mk (mnI ((a1.length : Int)) ((b2.length : Int))) (mnI ((a1.length : Int)) ((b2.length : Int)))).bind fun u3 =>
  (some (List.replicate (Int.toNat (mnI ((a1.length : Int)) ((b2.length : Int)))) ((0 : Int)))).bind fun l4 =>
  (r_impl_product_L7 a1 b2 l4 FU 0 l4).bind fun o8 =>
  some o8

def r_impl_checkedSeries (l1 : List Int) : Option ((List Int) × Bool) :=
  (r_impl_areNumbers l1).bind fun y2 =>
  bif (!y2) then
    (
      some ((([] : List Int), false))
    )
  else
    (
      some ((l1, true))
    )

def r_impl_PairSeries (f1 : (Int × Int × Int)) (g2 : (Int × Int × Int)) (vn3 : Int) : Option ((List Int) × Bool) :=
  (r_impl_isShownForm f1).bind fun y4 =>
  (bif (!y4) then some true else ((r_impl_isShownForm g2).bind fun y6 => some (!y6))).bind fun b7 =>
  (bif b7 then some true else ((r_impl_isTerms vn3).bind fun y9 => some (!y9))).bind fun b10 =>
  bif b10 then
    (
      some ((([] : List Int), false))
    )
  else
    (
      (r_impl_Form_theta f1 vn3).bind fun y12 =>
      (r_impl_Form_theta g2 vn3).bind fun y13 =>
      (r_impl_product y12 y13).bind fun y14 =>
      (r_impl_checkedSeries y14).bind fun y15 =>
      some ((y15.1, y15.2))
    )

def r_spec_thTerms (vn1 : Int) : Option Bool :=
  (r_spec_l1In vn1 0 100).bind fun y2 =>
  some y2

def r_spec_thSeries_L17 (vn2 : Int) (x5 : Int) (y10 : Int) (y4 : (Int × Int × Int)) : Nat → Int → List Int → Option (List Int)
  | 0, _, _ => none
  | n + 1, vs15, l16 =>
    bif (ltI vs15 4) then
      (
        (
          bif (eqI (Int.tmod vs15 2) 1) then
            (
              sI (w64 (0 - x5)) fun u22 =>
              some u22
            )
          else
            (
              some x5
            )
        ).bind fun j20 =>
        (
          bif (ltI 1 vs15) then
            (
              sI (w64 (0 - y10)) fun v25 =>
              some v25
            )
          else
            (
              some y10
            )
        ).bind fun j23 =>
        (some (bif (bif (eqI (Int.tmod vs15 2) 1) then (eqI x5 0) else false) then true else (bif (ltI 1 vs15) then (eqI y10 0) else false))).bind fun t29 =>
        bif t29 then
          (
            sI (w64 (vs15 + 1)) fun vs31 =>
            r_spec_thSeries_L17 vn2 x5 y10 y4 n vs31 l16
          )
        else
          (
            (r_spec_foValue y4 j20 j23).bind fun y32 =>
            bif (leI y32 vn2) then
              (
                (getI l16 y32).bind fun e34 =>
                (getI l16 y32).bind fun e35 =>
                (getI l16 y32).bind fun e36 =>
                (getI l16 y32).bind fun e37 =>
                sI (w64 (vs15 + 1)) fun vs38 =>
                r_spec_thSeries_L17 vn2 x5 y10 y4 n vs38 (l16.set (Int.toNat (y32)) (w64 (e35 + 1)))
              )
            else
              (
                sI (w64 (vs15 + 1)) fun vs39 =>
                r_spec_thSeries_L17 vn2 x5 y10 y4 n vs39 l16
              )
          )
      )
    else
      (
        some l16
      )
def r_spec_thSeries_L12 (vn2 : Int) (x5 : Int) (y4 : (Int × Int × Int)) : Nat → Int → List Int → Option (List Int)
  | 0, _, _ => none
  | n + 1, y10, l11 =>
    bif (leI (w64 ((w64 (y4.2.2 * y10)) * y10)) (w64 (2 * vn2))) then
      (
        (r_spec_thSeries_L17 vn2 x5 y10 y4 FU 0 l11).bind fun o18 =>
        sI (w64 (y10 + 1)) fun y40 =>
        r_spec_thSeries_L12 vn2 x5 y4 n y40 o18
      )
    else
      (
        some l11
      )
def r_spec_thSeries_L7 (vn2 : Int) (y4 : (Int × Int × Int)) : Nat → Int → List Int → Option (List Int)
  | 0, _, _ => none
  | n + 1, x5, l6 =>
    bif (leI (w64 ((w64 (y4.1 * x5)) * x5)) (w64 (2 * vn2))) then
      (
        (r_spec_thSeries_L12 vn2 x5 y4 FU 0 l6).bind fun o13 =>
        sI (w64 (x5 + 1)) fun x41 =>
        r_spec_thSeries_L7 vn2 y4 n x41 o13
      )
    else
      (
        some l6
      )
def r_spec_thSeries (f1 : (Int × Int × Int)) (vn2 : Int) : Option (List Int) :=
  (mk (w64 (vn2 + 1)) (w64 (vn2 + 1))).bind fun u3 =>
  (r_spec_reClass f1).bind fun y4 =>
  (r_spec_thSeries_L7 vn2 y4 FU 0 (List.replicate (Int.toNat (w64 (vn2 + 1))) ((0 : Int)))).bind fun o8 =>
  some o8

def r_spec_l1Least (a1 : Int) (b2 : Int) : Option Int :=
  bif (ltI a1 b2) then
    (
      some a1
    )
  else
    (
      some b2
    )

def r_spec_thProduct_L13 (a1 : List Int) (b2 : List Int) (t5 : Int) (t6 : Int) : Nat → Int → List Int → Option (List Int)
  | 0, _, _ => none
  | n + 1, i11, l12 =>
    bif (leI i11 t6) then
      (
        (getI l12 t6).bind fun e16 =>
        (getI l12 t6).bind fun e17 =>
        (getI a1 i11).bind fun e18 =>
        (getI b2 (w64 (t6 - i11))).bind fun e19 =>
        (getI l12 t6).bind fun e20 =>
        (getI l12 t6).bind fun e21 =>
        sI (w64 (i11 + 1)) fun i22 =>
        r_spec_thProduct_L13 a1 b2 t5 t6 n i22 (l12.set (Int.toNat (t6)) (w64 (e17 + (w64 (e18 * e19)))))
      )
    else
      (
        some l12
      )
def r_spec_thProduct_L8 (a1 : List Int) (b2 : List Int) (t5 : Int) : Nat → Int → List Int → Option (List Int)
  | 0, _, _ => none
  | n + 1, t6, l7 =>
    bif (ltI t6 t5) then
      (
        (r_spec_thProduct_L13 a1 b2 t5 t6 FU 0 l7).bind fun o14 =>
        sI (w64 (t6 + 1)) fun t23 =>
        r_spec_thProduct_L8 a1 b2 t5 n t23 o14
      )
    else
      (
        some l7
      )
def r_spec_thProduct (a1 : List Int) (b2 : List Int) : Option (List Int) :=
  (r_spec_l1Least ((a1.length : Int)) ((b2.length : Int))).bind fun y3 =>
  (mk y3 y3).bind fun u4 =>
  sI (((List.replicate (Int.toNat (y3)) ((0 : Int))).length : Int)) fun t5 =>
  (r_spec_thProduct_L8 a1 b2 t5 FU 0 (List.replicate (Int.toNat (y3)) ((0 : Int)))).bind fun o9 =>
  some o9

def r_spec_PairSeries (f1 : (Int × Int × Int)) (g2 : (Int × Int × Int)) (vn3 : Int) : Option ((List Int) × Bool) :=
  (r_spec_vaForm f1).bind fun y4 =>
  (bif (!y4) then some true else ((r_spec_vaForm g2).bind fun y6 => some (!y6))).bind fun b7 =>
  (bif b7 then some true else ((r_spec_thTerms vn3).bind fun y9 => some (!y9))).bind fun b10 =>
  bif b10 then
    (
      some ((([] : List Int), false))
    )
  else
    (
      (r_spec_thSeries f1 vn3).bind fun y12 =>
      (r_spec_thSeries g2 vn3).bind fun y13 =>
      (r_spec_thProduct y12 y13).bind fun y14 =>
      some ((y14, true))
    )

def r_laws_sameInts_L5 (a1 : List Int) (b2 : List Int) : Nat → Int → Option (Unit ⊕ Bool)
  | 0, _ => none
  | n + 1, t4 =>
    bif (ltI t4 ((a1.length : Int))) then
      (
        (getI a1 t4).bind fun e8 =>
        (getI b2 t4).bind fun e9 =>
        bif (!eqI e8 e9) then
          (
            some (.inr false)
          )
        else
          (
            sI (w64 (t4 + 1)) fun t11 =>
            r_laws_sameInts_L5 a1 b2 n t11
          )
      )
    else
      (
        some (.inl ())
      )
def r_laws_sameInts (a1 : List Int) (b2 : List Int) : Option Bool :=
  bif (!eqI ((a1.length : Int)) ((b2.length : Int))) then
    (
      some false
    )
  else
    (
      (r_laws_sameInts_L5 a1 b2 FU 0).bind fun qo6 =>
      match qo6 with
      | .inr r => some r
      | .inl o6 =>
        some true
    )

def r_impl_ThetaSeries (f1 : (Int × Int × Int)) (vn2 : Int) : Option ((List Int) × Bool) :=
  (r_impl_isShownForm f1).bind fun y3 =>
  (bif (!y3) then some true else ((r_impl_isTerms vn2).bind fun y5 => some (!y5))).bind fun b6 =>
  bif b6 then
    (
      some ((([] : List Int), false))
    )
  else
    (
      (r_impl_Form_theta f1 vn2).bind fun y8 =>
      some ((y8, true))
    )

def r_impl_isSeries (l1 : List Int) : Option Bool :=
  (bif (bif (leI 1 ((l1.length : Int))) then (leI ((l1.length : Int)) 101) else false) then ((r_impl_areNumbers l1).bind fun y4 => some y4) else some false).bind fun b5 =>
  some b5

def r_impl_SeriesProduct (a1 : List Int) (b2 : List Int) : Option ((List Int) × Bool) :=
  (r_impl_isSeries a1).bind fun y3 =>
  (bif (!y3) then some true else ((r_impl_isSeries b2).bind fun y5 => some (!y5))).bind fun b6 =>
  bif b6 then
    (
      some ((([] : List Int), false))
    )
  else
    (
      (r_impl_product a1 b2).bind fun y8 =>
      (r_impl_checkedSeries y8).bind fun y9 =>
      some ((y9.1, y9.2))
    )

def r_impl_FirstDifference_L11 (y8 : List Int) (y9 : List Int) : Nat → Int → Option (Unit ⊕ (Int × Bool))
  | 0, _ => none
  | n + 1, t10 =>
    bif (ltI t10 ((y8.length : Int))) then
      (
        (getI y8 t10).bind fun e14 =>
        (getI y8 t10).bind fun e15 =>
        (getI y9 t10).bind fun e16 =>
        (getI y9 t10).bind fun e17 =>
        bif (!eqI e15 e17) then
          (
            some (.inr (((t10, true))))
          )
        else
          (
            sI (w64 (t10 + 1)) fun t19 =>
            r_impl_FirstDifference_L11 y8 y9 n t19
          )
      )
    else
      (
        some (.inl ())
      )
def r_impl_FirstDifference (f1 : (Int × Int × Int)) (g2 : (Int × Int × Int)) : Option (Int × Bool) :=
  (r_impl_isShownForm f1).bind fun y3 =>
  (bif (!y3) then some true else ((r_impl_isShownForm g2).bind fun y5 => some (!y5))).bind fun b6 =>
  bif b6 then
    (
      some ((0, false))
    )
  else
    (
      (r_impl_Form_theta f1 100).bind fun y8 =>
      (r_impl_Form_theta g2 100).bind fun y9 =>
      (r_impl_FirstDifference_L11 y8 y9 FU 0).bind fun qo12 =>
      match qo12 with
      | .inr r => some r
      | .inl o12 =>
        some ((0, false))
    )

def r_spec_FirstDifference_L11 (y8 : List Int) (y9 : List Int) : Nat → Int → Option (Unit ⊕ (Int × Bool))
  | 0, _ => none
  | n + 1, t10 =>
    bif (ltI t10 ((y8.length : Int))) then
      (
        (getI y8 t10).bind fun e14 =>
        (getI y8 t10).bind fun e15 =>
        (getI y9 t10).bind fun e16 =>
        (getI y9 t10).bind fun e17 =>
        bif (!eqI e15 e17) then
          (
            some (.inr (((t10, true))))
          )
        else
          (
            sI (w64 (t10 + 1)) fun t19 =>
            r_spec_FirstDifference_L11 y8 y9 n t19
          )
      )
    else
      (
        some (.inl ())
      )
def r_spec_FirstDifference (f1 : (Int × Int × Int)) (g2 : (Int × Int × Int)) : Option (Int × Bool) :=
  (r_spec_vaForm f1).bind fun y3 =>
  (bif (!y3) then some true else ((r_spec_vaForm g2).bind fun y5 => some (!y5))).bind fun b6 =>
  bif b6 then
    (
      some ((0, false))
    )
  else
    (
      (r_spec_thSeries f1 100).bind fun y8 =>
      (r_spec_thSeries g2 100).bind fun y9 =>
      (r_spec_FirstDifference_L11 y8 y9 FU 0).bind fun qo12 =>
      match qo12 with
      | .inr r => some r
      | .inl o12 =>
        some ((0, false))
    )

def r_laws_numberOf_L4 (b1 : List Int) : Nat → Int → Int → Option Int
  | 0, _, _ => none
  | n + 1, vn2, t3 =>
    bif (ltI t3 ((b1.length : Int))) then
      (
        (getI b1 t3).bind fun e7 =>
        sI (Int.tmod (w64 ((w64 (31 * vn2)) + (IntKind.i64.wrap e7))) 1000003) fun vn8 =>
        sI (w64 (t3 + 1)) fun t9 =>
        r_laws_numberOf_L4 b1 n vn8 t9
      )
    else
      (
        some vn2
      )
def r_laws_numberOf (b1 : List Int) : Option Int :=
  (r_laws_numberOf_L4 b1 FU 0 0).bind fun o5 =>
  some o5

def r_impl_isSum (vn1 : Int) : Option Bool :=
  some (bif (leI 0 vn1) then (leI vn1 10000) else false)

def r_impl_squareCounts_L21 (counts8 : List Int) (e18 : Int) (k7 : Int) (most2 : Int) (t13 : Int) : Nat → Int → List Int → Option (List Int)
  | 0, _, _ => none
  | n + 1, x19, l20 =>
    bif (leI (w64 (t13 + (w64 (x19 * x19)))) most2) then
      (
        (getI l20 (w64 (t13 + (w64 (x19 * x19))))).bind fun e24 =>
        (getI l20 (w64 (t13 + (w64 (x19 * x19))))).bind fun e25 =>
        (getI l20 (w64 (t13 + (w64 (x19 * x19))))).bind fun e26 =>
        (getI l20 (w64 (t13 + (w64 (x19 * x19))))).bind fun e27 =>
        (some (l20.set (Int.toNat (w64 (t13 + (w64 (x19 * x19))))) (w64 (e25 + (w64 (e18 * (mnI (w64 (x19 + 1)) 2))))))).bind fun l28 =>
        sI (w64 (x19 + 1)) fun x29 =>
        r_impl_squareCounts_L21 counts8 e18 k7 most2 t13 n x29 l28
      )
    else
      (
        some l20
      )
def r_impl_squareCounts_L15 (counts8 : List Int) (k7 : Int) (most2 : Int) : Nat → Int → List Int → Option (List Int)
  | 0, _, _ => none
  | n + 1, t13, l14 =>
    bif (ltI t13 ((counts8.length : Int))) then
      (
        (getI counts8 t13).bind fun e18 =>
        (r_impl_squareCounts_L21 counts8 e18 k7 most2 t13 FU 0 l14).bind fun o22 =>
        sI (w64 (t13 + 1)) fun t30 =>
        r_impl_squareCounts_L15 counts8 k7 most2 n t30 o22
      )
    else
      (
        some l14
      )
def r_impl_squareCounts_L9 (most2 : Int) : Nat → Int → List Int → Option (List Int)
  | 0, _, _ => none
  | n + 1, k7, counts8 =>
    bif (ltI 0 k7) then
      (
        (mk (w64 (most2 + 1)) (w64 (most2 + 1))).bind fun u12 =>
        (r_impl_squareCounts_L15 counts8 k7 most2 FU 0 (List.replicate (Int.toNat (w64 (most2 + 1))) ((0 : Int)))).bind fun o16 =>
        sI (w64 (k7 - 1)) fun k31 =>
        r_impl_squareCounts_L9 most2 n k31 o16
      )
    else
      (
        some counts8
      )
def r_impl_squareCounts (k1 : Int) (most2 : Int) : Option (List Int) :=
  (mk (w64 (most2 + 1)) (w64 (most2 + 1))).bind fun u3 =>
  (getI (List.replicate (Int.toNat (w64 (most2 + 1))) ((0 : Int))) 0).bind fun e4 =>
  (getI (List.replicate (Int.toNat (w64 (most2 + 1))) ((0 : Int))) 0).bind fun e5 =>
  (some ((List.replicate (Int.toNat (w64 (most2 + 1))) ((0 : Int))).set (Int.toNat (0)) 1)).bind fun l6 =>
  (r_impl_squareCounts_L9 most2 FU k1 l6).bind fun o10 =>
  some o10

def r_impl_countSquares (k1 : Int) (vn2 : Int) : Option (Int × Bool) :=
  (r_impl_isSum vn2).bind fun y3 =>
  bif (!y3) then
    (
      some ((0, false))
    )
  else
    (
      (r_impl_squareCounts k1 vn2).bind fun y5 =>
      (getI y5 vn2).bind fun e6 =>
      some ((e6, true))
    )

def r_impl_CountFour (vn1 : Int) : Option (Int × Bool) :=
  (r_impl_countSquares 4 vn1).bind fun y2 =>
  some ((y2.1, y2.2))

def r_spec_sqGood (vn1 : Int) : Option Bool :=
  (r_spec_l1In vn1 0 10000).bind fun y2 =>
  some y2

def r_spec_sqTwos_L10 (most1 : Int) (x3 : Int) : Nat → Int → List Int → Option (List Int)
  | 0, _, _ => none
  | n + 1, y8, l9 =>
    bif (leI (w64 ((w64 (x3 * x3)) + (w64 (y8 * y8)))) most1) then
      (
        (
          bif (eqI x3 0) then
            (
              sI (w64 (Int.tdiv 4 2)) fun times15 =>
              some times15
            )
          else
            (
              some 4
            )
        ).bind fun j13 =>
        (
          bif (eqI y8 0) then
            (
              sI (w64 (Int.tdiv j13 2)) fun times18 =>
              some times18
            )
          else
            (
              some j13
            )
        ).bind fun j16 =>
        (getI l9 (w64 ((w64 (x3 * x3)) + (w64 (y8 * y8))))).bind fun e19 =>
        (getI l9 (w64 ((w64 (x3 * x3)) + (w64 (y8 * y8))))).bind fun e20 =>
        (getI l9 (w64 ((w64 (x3 * x3)) + (w64 (y8 * y8))))).bind fun e21 =>
        (getI l9 (w64 ((w64 (x3 * x3)) + (w64 (y8 * y8))))).bind fun e22 =>
        (some (l9.set (Int.toNat (w64 ((w64 (x3 * x3)) + (w64 (y8 * y8))))) (w64 (e20 + j16)))).bind fun l23 =>
        sI (w64 (y8 + 1)) fun y24 =>
        r_spec_sqTwos_L10 most1 x3 n y24 l23
      )
    else
      (
        some l9
      )
def r_spec_sqTwos_L5 (most1 : Int) : Nat → Int → List Int → Option (List Int)
  | 0, _, _ => none
  | n + 1, x3, l4 =>
    bif (leI (w64 (x3 * x3)) most1) then
      (
        (r_spec_sqTwos_L10 most1 x3 FU 0 l4).bind fun o11 =>
        sI (w64 (x3 + 1)) fun x25 =>
        r_spec_sqTwos_L5 most1 n x25 o11
      )
    else
      (
        some l4
      )
def r_spec_sqTwos (most1 : Int) : Option (List Int) :=
  (mk (w64 (most1 + 1)) (w64 (most1 + 1))).bind fun u2 =>
  (r_spec_sqTwos_L5 most1 FU 0 (List.replicate (Int.toNat (w64 (most1 + 1))) ((0 : Int)))).bind fun o6 =>
  some o6

def r_spec_CountFour_L7 (vn1 : Int) (y4 : List Int) : Nat → Int → Int → Option Int
  | 0, _, _ => none
  | n + 1, count5, t6 =>
    bif (ltI t6 ((y4.length : Int))) then
      (
        (getI y4 t6).bind fun e10 =>
        (getI y4 t6).bind fun e11 =>
        (getI y4 (w64 (vn1 - t6))).bind fun e12 =>
        (getI y4 (w64 (vn1 - t6))).bind fun e13 =>
        sI (w64 (count5 + (w64 (e11 * e13)))) fun count14 =>
        sI (w64 (t6 + 1)) fun t15 =>
        r_spec_CountFour_L7 vn1 y4 n count14 t15
      )
    else
      (
        some count5
      )
def r_spec_CountFour (vn1 : Int) : Option (Int × Bool) :=
  (r_spec_sqGood vn1).bind fun y2 =>
  bif (!y2) then
    (
      some ((0, false))
    )
  else
    (
      (r_spec_sqTwos vn1).bind fun y4 =>
      (r_spec_CountFour_L7 vn1 y4 FU 0 0).bind fun o8 =>
      some ((o8, true))
    )

def r_laws_FnSeriesProducts_L28 (more2 : List Int) (y14 : ((List Int) × Bool)) (y15 : ((List Int) × Bool)) (y23 : (Int × Bool)) : Nat → Int → Option (Unit ⊕ Bool)
  | 0, _ => none
  | n + 1, t27 =>
    bif (ltI t27 ((y14.1.length : Int))) then
      (
        (getI y14.1 t27).bind fun e31 =>
        (getI y15.1 t27).bind fun e32 =>
        (bif (bif (!eqI e31 e32) then (bif (!y23.2) then true else (ltI t27 y23.1)) else false) then some true else ((bif (bif y23.2 then (eqI t27 y23.1) else false) then ((getI y14.1 t27).bind fun e38 => (getI y15.1 t27).bind fun e39 => some (eqI e38 e39)) else some false).bind fun b40 => some b40)).bind fun b41 =>
        bif b41 then
          (
            some (.inr false)
          )
        else
          (
            sI (w64 (t27 + 1)) fun t43 =>
            r_laws_FnSeriesProducts_L28 more2 y14 y15 y23 n t43
          )
      )
    else
      (
        some (.inl ())
      )
def r_laws_FnSeriesProducts (code1 : List Int) (more2 : List Int) : Option Bool :=
  (r_laws_big code1 more2).bind fun y3 =>
  bif y3 then
    (
      some true
    )
  else
    (
      (r_spec_DrawPairSeries code1).bind fun y5 =>
      (r_impl_PairSeries y5.1 y5.2.1 y5.2.2).bind fun y6 =>
      (r_spec_PairSeries y5.1 y5.2.1 y5.2.2).bind fun y7 =>
      (bif (y6.2 != y7.2) then some true else ((r_laws_sameInts y6.1 y7.1).bind fun y9 => some (!y9))).bind fun b10 =>
      bif b10 then
        (
          some false
        )
      else
        (
          ((
            bif y6.2 then
              (
                (r_impl_ThetaSeries y5.1 y5.2.2).bind fun y14 =>
                (r_impl_ThetaSeries y5.2.1 y5.2.2).bind fun y15 =>
                (r_impl_SeriesProduct y14.1 y15.1).bind fun y16 =>
                (bif (bif (bif (!y14.2) then true else (!y15.2)) then true else (!y16.2)) then some true else ((r_laws_sameInts y16.1 y6.1).bind fun y20 => some (!y20))).bind fun b21 =>
                bif b21 then
                  (
                    some (.inr false)
                  )
                else
                  (
                    (r_impl_FirstDifference y5.1 y5.2.1).bind fun y23 =>
                    (r_spec_FirstDifference y5.1 y5.2.1).bind fun y24 =>
                    bif (bif (y23.2 != y24.2) then true else (!eqI y23.1 y24.1)) then
                      (
                        some (.inr false)
                      )
                    else
                      (
                        (r_laws_FnSeriesProducts_L28 more2 y14 y15 y23 FU 0).bind fun qo29 =>
                        match qo29 with
                        | .inr r => some (.inr r)
                        | .inl o29 =>
                          some (.inl ())
                      )
                  )
              )
            else
              (
                some (.inl ())
              )
          ) : Option (Unit ⊕ Bool)).bind fun qo12 =>
          match qo12 with
          | .inr r => some r
          | .inl o12 =>
            (r_laws_numberOf more2).bind fun y44 =>
            sI (Int.tmod y44 101) fun k45 =>
            (r_impl_PairSeries ((1, 0, 1)) ((1, 0, 1)) k45).bind fun y46 =>
            (r_impl_CountFour k45).bind fun y47 =>
            (r_spec_CountFour k45).bind fun y48 =>
            (bif (bif (bif (bif (bif y46.2 then (eqI ((y46.1.length : Int)) (w64 (k45 + 1))) else false) then y47.2 else false) then y48.2 else false) then (eqI y47.1 y48.1) else false) then ((getI y46.1 k45).bind fun e54 => some (eqI e54 y47.1)) else some false).bind fun b55 =>
            some b55
        )
    )

end Go.Proofs.Ytgeajejmikaniaa
