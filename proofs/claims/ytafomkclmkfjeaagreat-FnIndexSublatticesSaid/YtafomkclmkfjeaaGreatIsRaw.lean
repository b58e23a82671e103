/-
  What the functions of the program compute, as plain functions.
  Conditions: none.
-/
import Derived.Test.YtafomkclmkfjeaaGreatShRs

namespace Go.Proofs.YtafomkclmkfjeaaGreat

set_option linter.unusedVariables false

def r_laws_big (code1 : List Int) (more2 : List Int) : Option Bool :=
  (some (bif (ltI 1048576 ((code1.length : Int))) then true else (ltI (w64 (1048576 - ((code1.length : Int)))) ((more2.length : Int))))).bind fun t4 =>
  some t4

def r_spec_l1Cur_next (c1 : ((List Int) × Int × Int)) : Option (Int × (((List Int) × Int × Int))) :=
  (
    bif (ltI c1.2.1 ((c1.1.length : Int))) then
      (
        (getI c1.1 c1.2.1).bind fun e4 =>
        sI (IntKind.i64.wrap e4) fun b5 =>
        some b5
      )
    else
      (
        some 0
      )
  ).bind fun j2 =>
  sI (w64 (c1.2.1 + 1)) fun f6 =>
  sI (IntKind.u64.wrap ((IntKind.u64.wrap ((IntKind.u64.wrap (c1.2.2 * 6364136223846793005)) + (IntKind.u64.wrap j2))) + 1442695040888963407)) fun f7 =>
  bif (leI f6 ((c1.1.length : Int))) then
    (
      some ((j2, (c1.1, f6, f7)))
    )
  else
    (
      sI (IntKind.i64.wrap (andI .u64 (shrI .u64 f7 40) 255)) fun t9 =>
      some ((t9, (c1.1, f6, f7)))
    )

def r_spec_l1Cur_pick (c1 : ((List Int) × Int × Int)) (vn2 : Int) : Option (Int × (((List Int) × Int × Int))) :=
  bif (leI vn2 1) then
    (
      some ((0, c1))
    )
  else
    (
      (r_spec_l1Cur_next c1).bind fun y4 =>
      bif (ltI 200 vn2) then
        (
          (r_spec_l1Cur_next y4.2).bind fun y6 =>
          sI (w64 ((w64 (y4.1 * 256)) + y6.1)) fun x7 =>
          (nz vn2).bind fun z8 =>
          sI (Int.tmod x7 vn2) fun t9 =>
          some ((t9, y6.2))
        )
      else
        (
          (nz vn2).bind fun z10 =>
          sI (Int.tmod y4.1 vn2) fun t11 =>
          some ((t11, y4.2))
        )
    )

def r_spec_l1Cur_one (c1 : ((List Int) × Int × Int)) (vn2 : Int) : Option (Bool × (((List Int) × Int × Int))) :=
  (r_spec_l1Cur_pick c1 vn2).bind fun y3 =>
  some ((eqI y3.1 0, y3.2))

def r_spec_l1Cur_among (c1 : ((List Int) × Int × Int)) (list2 : List Int) : Option (Int × (((List Int) × Int × Int))) :=
  (r_spec_l1Cur_pick c1 ((list2.length : Int))).bind fun y3 =>
  (getI list2 y3.1).bind fun e4 =>
  some ((e4, y3.2))

def r_spec_l1Cur_number (c1 : ((List Int) × Int × Int)) : Option (Int × (((List Int) × Int × Int))) :=
  (r_spec_l1Cur_pick c1 12).bind fun y2 =>
  bif (eqI y2.1 0) then
    (
      (r_spec_l1Cur_among y2.2 ([0, 1, -1, 1000000, -1000000, 1000001, -1000001, -9223372036854775808, 9223372036854775807, 999983, 999999, 1000])).bind fun y4 =>
      some ((y4.1, y4.2))
    )
  else
    (
      (
        bif (eqI y2.1 1) then
          (
            some (eqI y2.1 1)
          )
        else
          (
            some (eqI y2.1 2)
          )
      ).bind fun j5 =>
      bif j5 then
        (
          (r_spec_l1Cur_pick y2.2 50000).bind fun y8 =>
          (r_spec_l1Cur_pick y8.2 20).bind fun y9 =>
          (r_spec_l1Cur_pick y9.2 2).bind fun y10 =>
          sI (w64 ((w64 (y8.1 * (w64 (1 + y9.1)))) * (w64 (1 - (w64 (2 * y10.1)))))) fun t11 =>
          some ((t11, y10.2))
        )
      else
        (
          (
            bif (eqI y2.1 3) then
              (
                some (eqI y2.1 3)
              )
            else
              (
                some (eqI y2.1 4)
              )
          ).bind fun j12 =>
          bif j12 then
            (
              (r_spec_l1Cur_pick y2.2 2000).bind fun y15 =>
              some ((y15.1, y15.2))
            )
          else
            (
              (r_spec_l1Cur_pick y2.2 121).bind fun y16 =>
              sI (w64 (y16.1 - 40)) fun t17 =>
              some ((t17, y16.2))
            )
        )
    )

def r_spec_l1Cur_form (c1 : ((List Int) × Int × Int)) : Option (((Int × Int × Int)) × (((List Int) × Int × Int))) :=
  (r_spec_l1Cur_pick c1 14).bind fun y2 =>
  bif (eqI y2.1 0) then
    (
      (r_spec_l1Cur_number y2.2).bind fun y4 =>
      (r_spec_l1Cur_number y4.2).bind fun y5 =>
      (r_spec_l1Cur_number y5.2).bind fun y6 =>
      some (((y4.1, y5.1, y6.1), y6.2))
    )
  else
    (
      bif (eqI y2.1 1) then
        (
          (r_spec_l1Cur_among y2.2 ([2, 3, -1, 0, 1000])).bind fun y8 =>
          (r_spec_l1Cur_pick y8.2 20).bind fun y9 =>
          (r_spec_l1Cur_pick y9.2 21).bind fun y10 =>
          (r_spec_l1Cur_pick y10.2 20).bind fun y11 =>
          sI (w64 (y8.1 * y9.1)) fun f12 =>
          sI (w64 (y8.1 * (w64 (y10.1 - 10)))) fun f13 =>
          sI (w64 (y8.1 * y11.1)) fun f14 =>
          some (((f12, f13, f14), y11.2))
        )
      else
        (
          bif (eqI y2.1 2) then
            (
              (r_spec_l1Cur_pick y2.2 2000).bind fun y16 =>
              (r_spec_l1Cur_pick y16.2 3000).bind fun y17 =>
              (r_spec_l1Cur_pick y17.2 2000).bind fun y18 =>
              sI (w64 (y17.1 - 1500)) fun f19 =>
              some (((y16.1, f19, y18.1), y18.2))
            )
          else
            (
              bif (eqI y2.1 3) then
                (
                  (r_spec_l1Cur_pick y2.2 21).bind fun y21 =>
                  (r_spec_l1Cur_pick y21.2 21).bind fun y22 =>
                  (r_spec_l1Cur_pick y22.2 21).bind fun y23 =>
                  sI (w64 (y21.1 - 10)) fun f24 =>
                  sI (w64 (y22.1 - 10)) fun f25 =>
                  sI (w64 (y23.1 - 10)) fun f26 =>
                  some (((f24, f25, f26), y23.2))
                )
              else
                (
                  (r_spec_l1Cur_pick y2.2 25).bind fun y27 =>
                  (r_spec_l1Cur_pick y27.2 40).bind fun y28 =>
                  sI (w64 (1 + y27.1)) fun a29 =>
                  (r_spec_l1Cur_pick y28.2 (w64 (2 * a29))).bind fun y30 =>
                  sI (w64 ((w64 (y30.1 - a29)) + 1)) fun b31 =>
                  (nz (w64 (4 * a29))).bind fun z32 =>
                  sI (w64 ((w64 (Int.tdiv (w64 ((w64 (b31 * b31)) + (w64 (4 * a29)))) (w64 (4 * a29)))) + y28.1)) fun f33 =>
                  some (((a29, b31, f33), y30.2))
                )
            )
        )
    )

def r_spec_nuMod (a1 : Int) (vm2 : Int) : Option Int :=
  (nz vm2).bind fun z3 =>
  sI (Int.tmod a1 vm2) fun vr4 =>
  bif (ltI vr4 0) then
    (
      sI (w64 (vr4 + vm2)) fun vr6 =>
      some vr6
    )
  else
    (
      some vr4
    )

def r_spec_l1Most (a1 : Int) (b2 : Int) : Option Int :=
  bif (ltI b2 a1) then
    (
      some a1
    )
  else
    (
      some b2
    )

def r_spec_l1Cur_disc (c1 : ((List Int) × Int × Int)) : Option (Int × (((List Int) × Int × Int))) :=
  (r_spec_l1Cur_pick c1 16).bind fun y2 =>
  bif (eqI y2.1 0) then
    (
      (r_spec_l1Cur_among y2.2 ([-3, -4, -2000, -1999, -1996, -1995, -163, -2001, -2003, -2004, 0, 1, 5, -1, -2, -5, -9223372036854775808])).bind fun y4 =>
      some ((y4.1, y4.2))
    )
  else
    (
      (
        bif (eqI y2.1 1) then
          (
            some (eqI y2.1 1)
          )
        else
          (
            some (eqI y2.1 2)
          )
      ).bind fun j5 =>
      bif j5 then
        (
          (r_spec_l1Cur_pick y2.2 1998).bind fun y8 =>
          sI (w64 ((-3) - y8.1)) fun d9 =>
          (r_spec_nuMod d9 4).bind fun y10 =>
          bif (ltI 1 y10) then
            (
              (r_spec_l1Most (-2000) (w64 (d9 - 2))).bind fun y12 =>
              some ((y12, y8.2))
            )
          else
            (
              some ((d9, y8.2))
            )
        )
      else
        (
          (
            bif (eqI y2.1 3) then
              (
                some (eqI y2.1 3)
              )
            else
              (
                bif (eqI y2.1 4) then
                  (
                    some (eqI y2.1 4)
                  )
                else
                  (
                    some (eqI y2.1 5)
                  )
              )
          ).bind fun j13 =>
          bif j13 then
            (
              (r_spec_l1Cur_among y2.2 ([-84, -420, -231, -260, -455, -520, -660, -1155, -1320, -1380, -1428, -1540, -399, -1092, -1560, -1785])).bind fun y17 =>
              some ((y17.1, y17.2))
            )
          else
            (
              (
                bif (eqI y2.1 6) then
                  (
                    some (eqI y2.1 6)
                  )
                else
                  (
                    some (eqI y2.1 7)
                  )
              ).bind fun j18 =>
              bif j18 then
                (
                  (r_spec_l1Cur_pick y2.2 60).bind fun y21 =>
                  sI (w64 ((-4) * (w64 (1 + y21.1)))) fun t22 =>
                  some ((t22, y21.2))
                )
              else
                (
                  (r_spec_l1Cur_pick y2.2 50).bind fun y23 =>
                  sI (w64 ((-3) - (w64 (4 * y23.1)))) fun t24 =>
                  some ((t24, y23.2))
                )
            )
        )
    )

def r_spec_l1In (vn1 : Int) (lo2 : Int) (hi3 : Int) : Option Bool :=
  some (bif (leI lo2 vn1) then (leI vn1 hi3) else false)

def r_spec_reDisc (d1 : Int) : Option Bool :=
  (r_spec_l1In d1 (-2000) (-3)).bind fun y2 =>
  (bif y2 then ((r_spec_nuMod d1 4).bind fun y4 => some (ltI y4 2)) else some false).bind fun b5 =>
  some b5

def r_spec_l1Cur_goodDisc (c1 : ((List Int) × Int × Int)) : Option (Int × (((List Int) × Int × Int))) :=
  (r_spec_l1Cur_disc c1).bind fun y2 =>
  (r_spec_reDisc y2.1).bind fun y3 =>
  bif (!y3) then
    (
      some ((-23, y2.2))
    )
  else
    (
      some ((y2.1, y2.2))
    )

def r_spec_foDisc (f1 : (Int × Int × Int)) : Option Int :=
  sI (w64 ((w64 (f1.2.1 * f1.2.1)) - (w64 ((w64 (4 * f1.1)) * f1.2.2)))) fun t2 =>
  some t2

def r_spec_reIs (f1 : (Int × Int × Int)) : Option Bool :=
  (some (bif (bif (ltI (w64 (0 - f1.1)) f1.2.1) then (leI f1.2.1 f1.1) else false) then (bif (ltI f1.1 f1.2.2) then true else (bif (eqI f1.1 f1.2.2) then (leI 0 f1.2.1) else false)) else false)).bind fun t6 =>
  some t6

def r_spec_reAll_L10 (a2 : Int) (d1 : Int) : Nat → Int → List ((Int × Int × Int)) → Option (List ((Int × Int × Int)))
  | 0, _, _ => none
  | n + 1, b8, l9 =>
    bif (leI b8 a2) then
      (
        (nz (w64 (4 * a2))).bind fun z13 =>
        sI (w64 (Int.tdiv (w64 ((w64 (b8 * b8)) - d1)) (w64 (4 * a2)))) fun f14 =>
        (r_spec_foDisc ((a2, b8, f14))).bind fun y15 =>
        (bif (eqI y15 d1) then ((r_spec_reIs ((a2, b8, f14))).bind fun y17 => some y17) else some false).bind fun b18 =>
        bif b18 then
          (
            (room (l9.length + ([(a2, b8, f14)]).length)).bind fun u20 =>
            sI (w64 (b8 + 1)) fun b21 =>
            r_spec_reAll_L10 a2 d1 n b21 (l9 ++ ([(a2, b8, f14)]))
          )
        else
          (
            sI (w64 (b8 + 1)) fun b22 =>
            r_spec_reAll_L10 a2 d1 n b22 l9
          )
      )
    else
      (
        some l9
      )
def r_spec_reAll_L4 (d1 : Int) : Nat → Int → List ((Int × Int × Int)) → Option (List ((Int × Int × Int)))
  | 0, _, _ => none
  | n + 1, a2, l3 =>
    bif (leI (w64 ((w64 (3 * a2)) * a2)) (w64 (0 - d1))) then
      (
        sI (w64 (1 - a2)) fun b7 =>
        (r_spec_reAll_L10 a2 d1 FU b7 l3).bind fun o11 =>
        sI (w64 (a2 + 1)) fun a23 =>
        r_spec_reAll_L4 d1 n a23 o11
      )
    else
      (
        some l3
      )
def r_spec_reAll (d1 : Int) : Option (List ((Int × Int × Int))) :=
  (r_spec_reAll_L4 d1 FU 1 (([] : List ((Int × Int × Int))))).bind fun o5 =>
  some o5

def r_spec_l1Abs (vn1 : Int) : Option Int :=
  (r_spec_l1Most vn1 (w64 (0 - vn1))).bind fun y2 =>
  some y2

def r_spec_nuGcd_L7 : Nat → Int → Int → Option Int
  | 0, _, _ => none
  | n + 1, a5, b6 =>
    bif (!eqI b6 0) then
      (
        (nz b6).bind fun z10 =>
        sI (Int.tmod a5 b6) fun b11 =>
        r_spec_nuGcd_L7 n b6 b11
      )
    else
      (
        some a5
      )
def r_spec_nuGcd (a1 : Int) (b2 : Int) : Option Int :=
  (r_spec_l1Abs a1).bind fun y3 =>
  (r_spec_l1Abs b2).bind fun y4 =>
  (r_spec_nuGcd_L7 FU y3 y4).bind fun o8 =>
  some o8

def r_spec_foContent (f1 : (Int × Int × Int)) : Option Int :=
  (r_spec_nuGcd f1.1 f1.2.1).bind fun y2 =>
  (r_spec_nuGcd y2 f1.2.2).bind fun y3 =>
  some y3

def r_spec_reList_L5 (y2 : List ((Int × Int × Int))) : Nat → Int → List ((Int × Int × Int)) → Option (List ((Int × Int × Int)))
  | 0, _, _ => none
  | n + 1, t3, l4 =>
    bif (ltI t3 ((y2.length : Int))) then
      (
        (getI y2 t3).bind fun e8 =>
        (getI y2 t3).bind fun e9 =>
        (r_spec_foContent e9).bind fun y10 =>
        bif (eqI y10 1) then
          (
            (room (l4.length + ([e9]).length)).bind fun u12 =>
            sI (w64 (t3 + 1)) fun t13 =>
            r_spec_reList_L5 y2 n t13 (l4 ++ ([e9]))
          )
        else
          (
            sI (w64 (t3 + 1)) fun t14 =>
            r_spec_reList_L5 y2 n t14 l4
          )
      )
    else
      (
        some l4
      )
def r_spec_reList (d1 : Int) : Option (List ((Int × Int × Int))) :=
  (r_spec_reAll d1).bind fun y2 =>
  (r_spec_reList_L5 y2 FU 0 (([] : List ((Int × Int × Int))))).bind fun o6 =>
  some o6

def r_spec_l1Cur_reduced (c1 : ((List Int) × Int × Int)) (d2 : Int) : Option (((Int × Int × Int)) × (((List Int) × Int × Int))) :=
  (r_spec_reList d2).bind fun y3 =>
  (r_spec_l1Cur_pick c1 ((y3.length : Int))).bind fun y4 =>
  (getI y3 y4.1).bind fun e5 =>
  (getI y3 y4.1).bind fun e6 =>
  some ((e6, y4.2))

def r_spec_foMul (vm1 : (Int × Int × Int × Int)) (vn2 : (Int × Int × Int × Int)) : Option (Int × Int × Int × Int) :=
  sI (w64 ((w64 (vm1.1 * vn2.1)) + (w64 (vm1.2.1 * vn2.2.2.1)))) fun f3 =>
  sI (w64 ((w64 (vm1.1 * vn2.2.1)) + (w64 (vm1.2.1 * vn2.2.2.2)))) fun f4 =>
  sI (w64 ((w64 (vm1.2.2.1 * vn2.1)) + (w64 (vm1.2.2.2 * vn2.2.2.1)))) fun f5 =>
  sI (w64 ((w64 (vm1.2.2.1 * vn2.2.1)) + (w64 (vm1.2.2.2 * vn2.2.2.2)))) fun f6 =>
  some ((f3, f4, f5, f6))

def r_spec_l1Cur_proper_L11 : Nat → Int → Int → Int → Int → Int → List Int → Int → Int → Option (Int × Int × Int × Int × (List Int) × Int × Int)
  | 0, _, _, _, _, _, _, _, _ => none
  | n + 1, k3, f4, f5, f6, f7, f8, f9, f10 =>
    bif (ltI 0 k3) then
      (
        (r_spec_l1Cur_pick ((f8, f9, f10)) 9).bind fun y14 =>
        sI (w64 (y14.1 - 4)) fun t15 =>
        (r_spec_l1Cur_pick y14.2 3).bind fun y16 =>
        bif (eqI y16.1 0) then
          (
            (r_spec_foMul ((f4, f5, f6, f7)) ((1, t15, 0, 1))).bind fun y18 =>
            sI (w64 (k3 - 1)) fun k19 =>
            r_spec_l1Cur_proper_L11 n k19 y18.1 y18.2.1 y18.2.2.1 y18.2.2.2 y16.2.1 y16.2.2.1 y16.2.2.2
          )
        else
          (
            bif (eqI y16.1 1) then
              (
                (r_spec_foMul ((f4, f5, f6, f7)) ((1, 0, t15, 1))).bind fun y21 =>
                sI (w64 (k3 - 1)) fun k22 =>
                r_spec_l1Cur_proper_L11 n k22 y21.1 y21.2.1 y21.2.2.1 y21.2.2.2 y16.2.1 y16.2.2.1 y16.2.2.2
              )
            else
              (
                (r_spec_foMul ((f4, f5, f6, f7)) ((0, -1, 1, 0))).bind fun y23 =>
                sI (w64 (k3 - 1)) fun k24 =>
                r_spec_l1Cur_proper_L11 n k24 y23.1 y23.2.1 y23.2.2.1 y23.2.2.2 y16.2.1 y16.2.2.1 y16.2.2.2
              )
          )
      )
    else
      (
        some (f4, f5, f6, f7, f8, f9, f10)
      )
def r_spec_l1Cur_proper (c1 : ((List Int) × Int × Int)) : Option (((Int × Int × Int × Int)) × (((List Int) × Int × Int))) :=
  (r_spec_l1Cur_pick c1 6).bind fun y2 =>
  (r_spec_l1Cur_proper_L11 FU y2.1 1 0 0 1 y2.2.1 y2.2.2.1 y2.2.2.2).bind fun o12 =>
  some (((o12.1, o12.2.1, o12.2.2.1, o12.2.2.2.1), o12.2.2.2.2))

def r_spec_foValue (f1 : (Int × Int × Int)) (x2 : Int) (y3 : Int) : Option Int :=
  sI (w64 ((w64 ((w64 ((w64 (f1.1 * x2)) * x2)) + (w64 ((w64 (f1.2.1 * x2)) * y3)))) + (w64 ((w64 (f1.2.2 * y3)) * y3)))) fun t4 =>
  some t4

def r_spec_foPolar (f1 : (Int × Int × Int)) (x2 : Int) (y3 : Int) (u4 : Int) (v5 : Int) : Option Int :=
  sI (w64 ((w64 ((w64 ((w64 ((w64 (2 * f1.1)) * x2)) * u4)) + (w64 (f1.2.1 * (w64 ((w64 (x2 * v5)) + (w64 (y3 * u4)))))))) + (w64 ((w64 ((w64 (2 * f1.2.2)) * y3)) * v5)))) fun t6 =>
  some t6

def r_spec_foAct (f1 : (Int × Int × Int)) (vm2 : (Int × Int × Int × Int)) : Option (Int × Int × Int) :=
  (r_spec_foValue f1 vm2.1 vm2.2.2.1).bind fun y3 =>
  (r_spec_foPolar f1 vm2.1 vm2.2.2.1 vm2.2.1 vm2.2.2.2).bind fun y4 =>
  (r_spec_foValue f1 vm2.2.1 vm2.2.2.2).bind fun y5 =>
  some ((y3, y4, y5))

def r_spec_nuGood (vn1 : Int) : Option Bool :=
  (r_spec_l1In vn1 (-1000000) 1000000).bind fun y2 =>
  some y2

def r_spec_foGood (f1 : (Int × Int × Int)) : Option Bool :=
  (r_spec_nuGood f1.1).bind fun y2 =>
  (bif y2 then ((r_spec_nuGood f1.2.1).bind fun y4 => some y4) else some false).bind fun b5 =>
  (bif b5 then ((r_spec_nuGood f1.2.2).bind fun y7 => some y7) else some false).bind fun b8 =>
  some b8

def r_spec_l1Cur_moved (c1 : ((List Int) × Int × Int)) (f2 : (Int × Int × Int)) : Option (((Int × Int × Int)) × (((List Int) × Int × Int))) :=
  (r_spec_l1Cur_proper c1).bind fun y3 =>
  (r_spec_foAct f2 y3.1).bind fun y4 =>
  (r_spec_foGood y4).bind fun y5 =>
  bif (!y5) then
    (
      some ((f2, y3.2))
    )
  else
    (
      some ((y4, y3.2))
    )

def r_spec_l1Cur_definite (c1 : ((List Int) × Int × Int)) : Option (((Int × Int × Int)) × (((List Int) × Int × Int))) :=
  (r_spec_l1Cur_pick c1 12).bind fun y2 =>
  bif (eqI y2.1 0) then
    (
      (r_spec_l1Cur_form y2.2).bind fun y4 =>
      some ((y4.1, y4.2))
    )
  else
    (
      bif (eqI y2.1 1) then
        (
          (r_spec_l1Cur_goodDisc y2.2).bind fun y6 =>
          (r_spec_l1Cur_reduced y6.2 y6.1).bind fun y7 =>
          (r_spec_l1Cur_pick y7.2 5).bind fun y8 =>
          sI (w64 (1 + y8.1)) fun k9 =>
          (r_spec_l1Cur_moved y8.2 ((w64 (k9 * y7.1.1), w64 (k9 * y7.1.2.1), w64 (k9 * y7.1.2.2)))).bind fun y10 =>
          some ((y10.1, y10.2))
        )
      else
        (
          bif (eqI y2.1 2) then
            (
              (r_spec_l1Cur_pick y2.2 1000000).bind fun y12 =>
              (r_spec_l1Cur_pick y12.2 1000001).bind fun y13 =>
              (r_spec_l1Cur_pick y13.2 750001).bind fun y14 =>
              sI (w64 (1 + y12.1)) fun f15 =>
              sI (w64 (250000 + y14.1)) fun f16 =>
              some (((f15, y13.1, f16), y14.2))
            )
          else
            (
              (r_spec_l1Cur_goodDisc y2.2).bind fun y17 =>
              (r_spec_l1Cur_reduced y17.2 y17.1).bind fun y18 =>
              (r_spec_l1Cur_moved y18.2 y18.1).bind fun y19 =>
              some ((y19.1, y19.2))
            )
        )
    )

def r_spec_l1Cur_classForm (c1 : ((List Int) × Int × Int)) : Option (((Int × Int × Int)) × (((List Int) × Int × Int))) :=
  (r_spec_l1Cur_one c1 12).bind fun y2 =>
  bif y2.1 then
    (
      (r_spec_l1Cur_definite y2.2).bind fun y4 =>
      some ((y4.1, y4.2))
    )
  else
    (
      (r_spec_l1Cur_goodDisc y2.2).bind fun y5 =>
      (r_spec_l1Cur_reduced y5.2 y5.1).bind fun y6 =>
      (r_spec_l1Cur_one y6.2 2).bind fun y7 =>
      bif y7.1 then
        (
          (r_spec_l1Cur_moved y7.2 y6.1).bind fun y9 =>
          some ((y9.1, y9.2))
        )
      else
        (
          some ((y6.1, y7.2))
        )
    )

def r_spec_l1Cur_index (c1 : ((List Int) × Int × Int)) : Option (Int × (((List Int) × Int × Int))) :=
  (r_spec_l1Cur_among c1 ([2, 2, 3, 3, 5, 5, 7, 11, 13, 17, 23, 41, 43, 47, 4, 1, 0, -2])).bind fun y2 =>
  some ((y2.1, y2.2))

def r_spec_DrawSublatticeForms (code1 : List Int) : Option (((Int × Int × Int)) × Int) :=
  (r_spec_l1Cur_classForm ((code1, 0, 0))).bind fun y2 =>
  (r_spec_l1Cur_index y2.2).bind fun y3 =>
  some ((y2.1, y3.1))

def r_spec_DrawSublatticeClasses (code1 : List Int) : Option (((Int × Int × Int)) × Int) :=
  (r_spec_DrawSublatticeForms code1).bind fun y2 =>
  some ((y2.1, y2.2))

def r_impl_areNumbers_L3 (list1 : List Int) : Nat → Int → Option (Unit ⊕ Bool)
  | 0, _ => none
  | n + 1, t2 =>
    bif (ltI t2 ((list1.length : Int))) then
      (
        (getI list1 t2).bind fun e6 =>
        bif (bif (ltI e6 (-1000000)) then true else (ltI 1000000 e6)) then
          (
            some (.inr false)
          )
        else
          (
            sI (w64 (t2 + 1)) fun t9 =>
            r_impl_areNumbers_L3 list1 n t9
          )
      )
    else
      (
        some (.inl ())
      )
def r_impl_areNumbers (list1 : List Int) : Option Bool :=
  (r_impl_areNumbers_L3 list1 FU 0).bind fun qo4 =>
  match qo4 with
  | .inr r => some r
  | .inl o4 =>
    some true

def r_impl_IsForm (f1 : (Int × Int × Int)) : Option Bool :=
  (r_impl_areNumbers ([f1.1, f1.2.1, f1.2.2])).bind fun y2 =>
  some y2

def r_impl_Form_disc (f1 : (Int × Int × Int)) : Option Int :=
  sI (w64 ((w64 (f1.2.1 * f1.2.1)) - (w64 ((w64 (4 * f1.1)) * f1.2.2)))) fun t2 =>
  some t2

def r_impl_isDefinite (f1 : (Int × Int × Int)) : Option Bool :=
  (r_impl_IsForm f1).bind fun y2 =>
  (bif y2 then ((r_impl_Form_disc f1).bind fun y4 => some (ltI y4 0)) else some false).bind fun b5 =>
  some (bif b5 then (ltI 0 f1.1) else false)

def r_impl_isShownForm (f1 : (Int × Int × Int)) : Option Bool :=
  (r_impl_isDefinite f1).bind fun y2 =>
  (bif y2 then ((r_impl_Form_disc f1).bind fun y4 => some (leI (-2000) y4)) else some false).bind fun b5 =>
  some b5

def r_impl_abs (vn1 : Int) : Option Int :=
  sI (mxI vn1 (w64 (0 - (mxI vn1 (-9223372036854775807))))) fun t2 =>
  some t2

def r_impl_gcd_L5 : Nat → Int → Int → Option Int
  | 0, _, _ => none
  | n + 1, a3, b4 =>
    bif (!eqI b4 0) then
      (
        (nz b4).bind fun z8 =>
        sI (Int.tmod a3 b4) fun b9 =>
        r_impl_gcd_L5 n b4 b9
      )
    else
      (
        some a3
      )
def r_impl_gcd (a1 : Int) (b2 : Int) : Option Int :=
  (r_impl_gcd_L5 FU a1 b2).bind fun o6 =>
  (r_impl_abs o6).bind fun y10 =>
  some y10

def r_impl_Form_content (f1 : (Int × Int × Int)) : Option Int :=
  (r_impl_gcd f1.2.1 f1.2.2).bind fun y2 =>
  (r_impl_gcd f1.1 y2).bind fun y3 =>
  some y3

def r_impl_isClassForm (f1 : (Int × Int × Int)) : Option Bool :=
  (r_impl_isShownForm f1).bind fun y2 =>
  (bif y2 then ((r_impl_Form_content f1).bind fun y4 => some (eqI y4 1)) else some false).bind fun b5 =>
  some b5

def r_impl_isPrime_L4 (vn1 : Int) : Nat → Int → Option (Unit ⊕ Bool)
  | 0, _ => none
  | n + 1, p3 =>
    bif (leI (w64 (p3 * p3)) vn1) then
      (
        (nz p3).bind fun z7 =>
        bif (eqI (Int.tmod vn1 p3) 0) then
          (
            some (.inr false)
          )
        else
          (
            sI (w64 (p3 + 1)) fun p9 =>
            r_impl_isPrime_L4 vn1 n p9
          )
      )
    else
      (
        some (.inl ())
      )
def r_impl_isPrime (vn1 : Int) : Option Bool :=
  bif (ltI vn1 2) then
    (
      some false
    )
  else
    (
      (r_impl_isPrime_L4 vn1 FU 2).bind fun qo5 =>
      match qo5 with
      | .inr r => some r
      | .inl o5 =>
        some true
    )

def r_impl_isIndex (p1 : Int) : Option Bool :=
  (bif (leI p1 43) then ((r_impl_isPrime p1).bind fun y3 => some y3) else some false).bind fun b4 =>
  some b4

def r_impl_one : Option (Int × Int × Int × Int) :=
  some ((1, 0, 0, 1))

def r_impl_Form_isNormal (f1 : (Int × Int × Int)) : Option Bool :=
  (some (bif (ltI (w64 (0 - f1.1)) f1.2.1) then (leI f1.2.1 f1.1) else false)).bind fun t3 =>
  some t3

def r_impl_Form_isReduced (f1 : (Int × Int × Int)) : Option Bool :=
  (r_impl_Form_isNormal f1).bind fun y2 =>
  (some (bif y2 then (bif (ltI f1.1 f1.2.2) then true else (bif (eqI f1.1 f1.2.2) then (leI 0 f1.2.1) else false)) else false)).bind fun t6 =>
  some t6

def r_impl_mod (a1 : Int) (vm2 : Int) : Option Int :=
  (nz vm2).bind fun z3 =>
  sI (Int.tmod a1 vm2) fun vr4 =>
  bif (ltI vr4 0) then
    (
      sI (w64 (vr4 + vm2)) fun vr6 =>
      some vr6
    )
  else
    (
      some vr4
    )

def r_impl_floorDiv (a1 : Int) (vm2 : Int) : Option Int :=
  (r_impl_mod a1 vm2).bind fun y3 =>
  (nz vm2).bind fun z4 =>
  sI (w64 (Int.tdiv (w64 (a1 - y3)) vm2)) fun t5 =>
  some t5

def r_impl_Form_step (f1 : (Int × Int × Int)) : Option (Int × Int × Int × Int) :=
  (r_impl_Form_isReduced f1).bind fun y2 =>
  bif y2 then
    (
      (r_impl_one).bind fun y4 =>
      some y4
    )
  else
    (
      (r_impl_Form_isNormal f1).bind fun y5 =>
      bif (!y5) then
        (
          (r_impl_floorDiv (w64 (f1.1 - f1.2.1)) (w64 (2 * f1.1))).bind fun y7 =>
          some ((1, y7, 0, 1))
        )
      else
        (
          some ((0, -1, 1, 0))
        )
    )

def r_impl_Form_at (f1 : (Int × Int × Int)) (x2 : Int) (y3 : Int) : Option Int :=
  sI (w64 ((w64 ((w64 ((w64 (f1.1 * x2)) * x2)) + (w64 ((w64 (f1.2.1 * x2)) * y3)))) + (w64 ((w64 (f1.2.2 * y3)) * y3)))) fun t4 =>
  some t4

def r_impl_Form_polar (f1 : (Int × Int × Int)) (x2 : Int) (y3 : Int) (u4 : Int) (v5 : Int) : Option Int :=
  sI (w64 ((w64 ((w64 ((w64 ((w64 (2 * f1.1)) * x2)) * u4)) + (w64 (f1.2.1 * (w64 ((w64 (x2 * v5)) + (w64 (y3 * u4)))))))) + (w64 ((w64 ((w64 (2 * f1.2.2)) * y3)) * v5)))) fun t6 =>
  some t6

def r_impl_Form_substitute (f1 : (Int × Int × Int)) (vm2 : (Int × Int × Int × Int)) : Option (Int × Int × Int) :=
  (r_impl_Form_at f1 vm2.1 vm2.2.2.1).bind fun y3 =>
  (r_impl_Form_polar f1 vm2.1 vm2.2.2.1 vm2.2.1 vm2.2.2.2).bind fun y4 =>
  (r_impl_Form_at f1 vm2.2.1 vm2.2.2.2).bind fun y5 =>
  some ((y3, y4, y5))

def r_impl_Matrix_times (vm1 : (Int × Int × Int × Int)) (vn2 : (Int × Int × Int × Int)) : Option (Int × Int × Int × Int) :=
  sI (w64 ((w64 (vm1.1 * vn2.1)) + (w64 (vm1.2.1 * vn2.2.2.1)))) fun f3 =>
  sI (w64 ((w64 (vm1.1 * vn2.2.1)) + (w64 (vm1.2.1 * vn2.2.2.2)))) fun f4 =>
  sI (w64 ((w64 (vm1.2.2.1 * vn2.1)) + (w64 (vm1.2.2.2 * vn2.2.2.1)))) fun f5 =>
  sI (w64 ((w64 (vm1.2.2.1 * vn2.2.1)) + (w64 (vm1.2.2.2 * vn2.2.2.2)))) fun f6 =>
  some ((f3, f4, f5, f6))

def r_impl_reduce_L10 : Nat → Int → Int → Int → Int → Int → Int → Int → Option (Int × Int × Int × Int × Int × Int × Int)
  | 0, _, _, _, _, _, _, _ => none
  | n + 1, f3, f4, f5, f6, f7, f8, f9 =>
    (r_impl_Form_isReduced ((f7, f8, f9))).bind fun y12 =>
    bif (!y12) then
      (
        (r_impl_Form_step ((f7, f8, f9))).bind fun y14 =>
        (r_impl_Form_substitute ((f7, f8, f9)) y14).bind fun y15 =>
        (r_impl_Matrix_times ((f3, f4, f5, f6)) y14).bind fun y16 =>
        r_impl_reduce_L10 n y16.1 y16.2.1 y16.2.2.1 y16.2.2.2 y15.1 y15.2.1 y15.2.2
      )
    else
      (
        some (f3, f4, f5, f6, f7, f8, f9)
      )
def r_impl_reduce (f1 : (Int × Int × Int)) : Option (((Int × Int × Int)) × ((Int × Int × Int × Int))) :=
  (r_impl_one).bind fun y2 =>
  (r_impl_reduce_L10 FU y2.1 y2.2.1 y2.2.2.1 y2.2.2.2 f1.1 f1.2.1 f1.2.2).bind fun o11 =>
  some ((o11.2.2.2.2, (o11.1, o11.2.1, o11.2.2.1, o11.2.2.2.1)))

def r_impl_reduced (f1 : (Int × Int × Int)) : Option (Int × Int × Int) :=
  (r_impl_reduce f1).bind fun y2 =>
  some y2.1

def r_impl_indexMatrices_L4 (p1 : Int) : Nat → Int → List ((Int × Int × Int × Int)) → Option (List ((Int × Int × Int × Int)))
  | 0, _, _ => none
  | n + 1, k2, l3 =>
    bif (ltI k2 p1) then
      (
        (room (l3.length + ([(1, 0, k2, p1)]).length)).bind fun u7 =>
        sI (w64 (k2 + 1)) fun k8 =>
        r_impl_indexMatrices_L4 p1 n k8 (l3 ++ ([(1, 0, k2, p1)]))
      )
    else
      (
        some l3
      )
def r_impl_indexMatrices (p1 : Int) : Option (List ((Int × Int × Int × Int))) :=
  (r_impl_indexMatrices_L4 p1 FU 0 (([] : List ((Int × Int × Int × Int))))).bind fun o5 =>
  (room (o5.length + ([(p1, 0, 0, 1)]).length)).bind fun u9 =>
  some (o5 ++ ([(p1, 0, 0, 1)]))

def r_impl_sublatticeForms_L6 (f1 : (Int × Int × Int)) (y3 : List ((Int × Int × Int × Int))) : Nat → Int → List ((Int × Int × Int)) → Option (List ((Int × Int × Int)))
  | 0, _, _ => none
  | n + 1, t4, l5 =>
    bif (ltI t4 ((y3.length : Int))) then
      (
        (getI y3 t4).bind fun e9 =>
        (getI y3 t4).bind fun e10 =>
        (r_impl_Form_substitute f1 e10).bind fun y11 =>
        (room (l5.length + ([y11]).length)).bind fun u12 =>
        sI (w64 (t4 + 1)) fun t13 =>
        r_impl_sublatticeForms_L6 f1 y3 n t13 (l5 ++ ([y11]))
      )
    else
      (
        some l5
      )
def r_impl_sublatticeForms (f1 : (Int × Int × Int)) (p2 : Int) : Option (List ((Int × Int × Int))) :=
  (r_impl_indexMatrices p2).bind fun y3 =>
  (r_impl_sublatticeForms_L6 f1 y3 FU 0 (([] : List ((Int × Int × Int))))).bind fun o7 =>
  some o7

def r_impl_sublatticeClasses_L6 (y3 : List ((Int × Int × Int))) : Nat → Int → List ((Int × Int × Int)) → Option (List ((Int × Int × Int)))
  | 0, _, _ => none
  | n + 1, t4, l5 =>
    bif (ltI t4 ((y3.length : Int))) then
      (
        (getI y3 t4).bind fun e9 =>
        (getI y3 t4).bind fun e10 =>
        (r_impl_reduced e10).bind fun y11 =>
        (room (l5.length + ([y11]).length)).bind fun u12 =>
        sI (w64 (t4 + 1)) fun t13 =>
        r_impl_sublatticeClasses_L6 y3 n t13 (l5 ++ ([y11]))
      )
    else
      (
        some l5
      )
def r_impl_sublatticeClasses (f1 : (Int × Int × Int)) (p2 : Int) : Option (List ((Int × Int × Int))) :=
  (r_impl_sublatticeForms f1 p2).bind fun y3 =>
  (r_impl_sublatticeClasses_L6 y3 FU 0 (([] : List ((Int × Int × Int))))).bind fun o7 =>
  some o7

def r_impl_SublatticeClasses (f1 : (Int × Int × Int)) (p2 : Int) : Option ((List ((Int × Int × Int))) × Bool) :=
  (r_impl_isClassForm f1).bind fun y3 =>
  (bif (!y3) then some true else ((r_impl_isIndex p2).bind fun y5 => some (!y5))).bind fun b6 =>
  bif b6 then
    (
      some ((([] : List ((Int × Int × Int))), false))
    )
  else
    (
      (r_impl_reduced f1).bind fun y8 =>
      (r_impl_sublatticeClasses y8 p2).bind fun y9 =>
      some ((y9, true))
    )

def r_spec_foDefinite (f1 : (Int × Int × Int)) : Option Bool :=
  (r_spec_foGood f1).bind fun y2 =>
  (bif y2 then ((r_spec_foDisc f1).bind fun y4 => some (ltI y4 0)) else some false).bind fun b5 =>
  some (bif b5 then (ltI 0 f1.1) else false)

def r_spec_vaForm (f1 : (Int × Int × Int)) : Option Bool :=
  (r_spec_foDefinite f1).bind fun y2 =>
  (bif y2 then ((r_spec_foDisc f1).bind fun y4 => some (leI (-2000) y4)) else some false).bind fun b5 =>
  some b5

def r_spec_coGood (f1 : (Int × Int × Int)) : Option Bool :=
  (r_spec_vaForm f1).bind fun y2 =>
  (bif y2 then ((r_spec_foContent f1).bind fun y4 => some (eqI y4 1)) else some false).bind fun b5 =>
  some b5

def r_spec_nuPrime_L4 (vn1 : Int) : Nat → Int → Option (Unit ⊕ Bool)
  | 0, _ => none
  | n + 1, d3 =>
    bif (leI (w64 (d3 * d3)) vn1) then
      (
        (nz d3).bind fun z7 =>
        bif (eqI (Int.tmod vn1 d3) 0) then
          (
            some (.inr false)
          )
        else
          (
            sI (w64 (d3 + 1)) fun d9 =>
            r_spec_nuPrime_L4 vn1 n d9
          )
      )
    else
      (
        some (.inl ())
      )
def r_spec_nuPrime (vn1 : Int) : Option Bool :=
  bif (ltI vn1 2) then
    (
      some false
    )
  else
    (
      (r_spec_nuPrime_L4 vn1 FU 2).bind fun qo5 =>
      match qo5 with
      | .inr r => some r
      | .inl o5 =>
        some true
    )

def r_spec_hkPrime (p1 : Int) : Option Bool :=
  (r_spec_l1In p1 2 43).bind fun y2 =>
  (bif y2 then ((r_spec_nuPrime p1).bind fun y4 => some y4) else some false).bind fun b5 =>
  some b5

def r_spec_reNormal (f1 : (Int × Int × Int)) : Option Int :=
  (r_spec_nuMod (w64 (f1.1 - f1.2.1)) (w64 (2 * f1.1))).bind fun y2 =>
  (nz (w64 (2 * f1.1))).bind fun z3 =>
  sI (w64 (Int.tdiv (w64 ((w64 (f1.1 - f1.2.1)) - y2)) (w64 (2 * f1.1)))) fun t4 =>
  some t4

def r_spec_reMove (f1 : (Int × Int × Int)) : Option (Int × Int × Int × Int) :=
  (r_spec_reNormal f1).bind fun y2 =>
  bif (!eqI y2 0) then
    (
      some ((1, y2, 0, 1))
    )
  else
    (
      (r_spec_reIs f1).bind fun y4 =>
      bif y4 then
        (
          some ((1, 0, 0, 1))
        )
      else
        (
          some ((0, -1, 1, 0))
        )
    )

def r_spec_reReduce_L9 : Nat → Int → Int → Int → Int → Int → Int → Int → Option (Int × Int × Int × Int × Int × Int × Int)
  | 0, _, _, _, _, _, _, _ => none
  | n + 1, f2, f3, f4, f5, f6, f7, f8 =>
    (r_spec_reIs ((f6, f7, f8))).bind fun y11 =>
    bif (!y11) then
      (
        (r_spec_reMove ((f6, f7, f8))).bind fun y13 =>
        (r_spec_foAct ((f6, f7, f8)) y13).bind fun y14 =>
        (r_spec_foMul ((f2, f3, f4, f5)) y13).bind fun y15 =>
        r_spec_reReduce_L9 n y15.1 y15.2.1 y15.2.2.1 y15.2.2.2 y14.1 y14.2.1 y14.2.2
      )
    else
      (
        some (f2, f3, f4, f5, f6, f7, f8)
      )
def r_spec_reReduce (f1 : (Int × Int × Int)) : Option (((Int × Int × Int)) × ((Int × Int × Int × Int))) :=
  (r_spec_reReduce_L9 FU 1 0 0 1 f1.1 f1.2.1 f1.2.2).bind fun o10 =>
  some ((o10.2.2.2.2, (o10.1, o10.2.1, o10.2.2.1, o10.2.2.2.1)))

def r_spec_reClass (f1 : (Int × Int × Int)) : Option (Int × Int × Int) :=
  (r_spec_reReduce f1).bind fun y2 =>
  some y2.1

def r_spec_hkMatrices_L4 (p1 : Int) : Nat → Int → List ((Int × Int × Int × Int)) → Option (List ((Int × Int × Int × Int)))
  | 0, _, _ => none
  | n + 1, k2, l3 =>
    bif (ltI k2 p1) then
      (
        (room (l3.length + ([(1, 0, k2, p1)]).length)).bind fun u7 =>
        sI (w64 (k2 + 1)) fun k8 =>
        r_spec_hkMatrices_L4 p1 n k8 (l3 ++ ([(1, 0, k2, p1)]))
      )
    else
      (
        some l3
      )
def r_spec_hkMatrices (p1 : Int) : Option (List ((Int × Int × Int × Int))) :=
  (r_spec_hkMatrices_L4 p1 FU 0 (([] : List ((Int × Int × Int × Int))))).bind fun o5 =>
  (room (o5.length + ([(p1, 0, 0, 1)]).length)).bind fun u9 =>
  some (o5 ++ ([(p1, 0, 0, 1)]))

def r_spec_hkForms_L7 (y3 : (Int × Int × Int)) (y4 : List ((Int × Int × Int × Int))) : Nat → Int → List ((Int × Int × Int)) → Option (List ((Int × Int × Int)))
  | 0, _, _ => none
  | n + 1, t5, l6 =>
    bif (ltI t5 ((y4.length : Int))) then
      (
        (getI y4 t5).bind fun e10 =>
        (getI y4 t5).bind fun e11 =>
        (r_spec_foAct y3 e11).bind fun y12 =>
        (room (l6.length + ([y12]).length)).bind fun u13 =>
        sI (w64 (t5 + 1)) fun t14 =>
        r_spec_hkForms_L7 y3 y4 n t14 (l6 ++ ([y12]))
      )
    else
      (
        some l6
      )
def r_spec_hkForms (f1 : (Int × Int × Int)) (p2 : Int) : Option (List ((Int × Int × Int))) :=
  (r_spec_reClass f1).bind fun y3 =>
  (r_spec_hkMatrices p2).bind fun y4 =>
  (r_spec_hkForms_L7 y3 y4 FU 0 (([] : List ((Int × Int × Int))))).bind fun o8 =>
  some o8

def r_spec_hkClasses_L6 (y3 : List ((Int × Int × Int))) : Nat → Int → List ((Int × Int × Int)) → Option (List ((Int × Int × Int)))
  | 0, _, _ => none
  | n + 1, t4, l5 =>
    bif (ltI t4 ((y3.length : Int))) then
      (
        (getI y3 t4).bind fun e9 =>
        (getI y3 t4).bind fun e10 =>
        (r_spec_reClass e10).bind fun y11 =>
        (room (l5.length + ([y11]).length)).bind fun u12 =>
        sI (w64 (t4 + 1)) fun t13 =>
        r_spec_hkClasses_L6 y3 n t13 (l5 ++ ([y11]))
      )
    else
      (
        some l5
      )
def r_spec_hkClasses (f1 : (Int × Int × Int)) (p2 : Int) : Option (List ((Int × Int × Int))) :=
  (r_spec_hkForms f1 p2).bind fun y3 =>
  (r_spec_hkClasses_L6 y3 FU 0 (([] : List ((Int × Int × Int))))).bind fun o7 =>
  some o7

def r_spec_SublatticeClasses (f1 : (Int × Int × Int)) (p2 : Int) : Option ((List ((Int × Int × Int))) × Bool) :=
  (r_spec_coGood f1).bind fun y3 =>
  (bif (!y3) then some true else ((r_spec_hkPrime p2).bind fun y5 => some (!y5))).bind fun b6 =>
  bif b6 then
    (
      some ((([] : List ((Int × Int × Int))), false))
    )
  else
    (
      (r_spec_hkClasses f1 p2).bind fun y8 =>
      some ((y8, true))
    )

def r_laws_qForms_L5 (a1 : List ((Int × Int × Int))) (b2 : List ((Int × Int × Int))) : Nat → Int → Option (Unit ⊕ Bool)
  | 0, _ => none
  | n + 1, t4 =>
    bif (ltI t4 ((a1.length : Int))) then
      (
        (getI a1 t4).bind fun e8 =>
        (getI b2 t4).bind fun e9 =>
        (some (!((e8.1 == e9.1) && ((e8.2.1 == e9.2.1) && (e8.2.2 == e9.2.2))))).bind fun t10 =>
        bif t10 then
          (
            some (.inr false)
          )
        else
          (
            sI (w64 (t4 + 1)) fun t12 =>
            r_laws_qForms_L5 a1 b2 n t12
          )
      )
    else
      (
        some (.inl ())
      )
def r_laws_qForms (a1 : List ((Int × Int × Int))) (b2 : List ((Int × Int × Int))) : Option Bool :=
  bif (!eqI ((a1.length : Int)) ((b2.length : Int))) then
    (
      some false
    )
  else
    (
      (r_laws_qForms_L5 a1 b2 FU 0).bind fun qo6 =>
      match qo6 with
      | .inr r => some r
      | .inl o6 =>
        some true
    )

def r_impl_IsMatrix (vm1 : (Int × Int × Int × Int)) : Option Bool :=
  (r_impl_areNumbers ([vm1.1, vm1.2.1, vm1.2.2.1, vm1.2.2.2])).bind fun y2 =>
  some y2

def r_impl_ReduceForm (f1 : (Int × Int × Int)) : Option (((Int × Int × Int)) × ((Int × Int × Int × Int)) × Bool) :=
  (r_impl_isDefinite f1).bind fun y2 =>
  bif (!y2) then
    (
      some (((0, 0, 0), (0, 0, 0, 0), false))
    )
  else
    (
      (r_impl_reduce f1).bind fun y4 =>
      (r_impl_IsMatrix y4.2).bind fun y5 =>
      bif (!y5) then
        (
          some (((0, 0, 0), (0, 0, 0, 0), false))
        )
      else
        (
          some ((y4.1, y4.2, true))
        )
    )

def r_impl_divisors_L5 (vn1 : Int) : Nat → Int → List Int → List Int → Option ((List Int) × (List Int))
  | 0, _, _, _ => none
  | n + 1, k2, l3, l4 =>
    bif (leI (w64 (k2 * k2)) vn1) then
      (
        (nz k2).bind fun z8 =>
        bif (!eqI (Int.tmod vn1 k2) 0) then
          (
            sI (w64 (k2 + 1)) fun k10 =>
            r_impl_divisors_L5 vn1 n k10 l3 l4
          )
        else
          (
            (room (l4.length + ([k2]).length)).bind fun u11 =>
            bif (!eqI (w64 (k2 * k2)) vn1) then
              (
                (nz k2).bind fun z13 =>
                (room (l3.length + ([w64 (Int.tdiv vn1 k2)]).length)).bind fun u14 =>
                sI (w64 (k2 + 1)) fun k15 =>
                r_impl_divisors_L5 vn1 n k15 (l3 ++ ([w64 (Int.tdiv vn1 k2)])) (l4 ++ ([k2]))
              )
            else
              (
                sI (w64 (k2 + 1)) fun k16 =>
                r_impl_divisors_L5 vn1 n k16 l3 (l4 ++ ([k2]))
              )
          )
      )
    else
      (
        some (l3, l4)
      )
def r_impl_divisors_L20 (o6 : ((List Int) × (List Int))) : Nat → Int → List Int → Option (List Int)
  | 0, _, _ => none
  | n + 1, i18, l19 =>
    bif (leI 0 i18) then
      (
        (getI o6.1 i18).bind fun e23 =>
        (getI o6.1 i18).bind fun e24 =>
        (room (l19.length + ([e24]).length)).bind fun u25 =>
        sI (w64 (i18 - 1)) fun i26 =>
        r_impl_divisors_L20 o6 n i26 (l19 ++ ([e24]))
      )
    else
      (
        some l19
      )
def r_impl_divisors (vn1 : Int) : Option (List Int) :=
  (r_impl_divisors_L5 vn1 FU 1 (([] : List Int)) (([] : List Int))).bind fun o6 =>
  sI (w64 (((o6.1.length : Int)) - 1)) fun i17 =>
  (r_impl_divisors_L20 o6 FU i17 o6.2).bind fun o21 =>
  some o21

def r_impl_SublatticesOf_L14 (e11 : Int) (t5 : Int) (vn1 : Int) (y4 : List Int) : Nat → Int → List ((Int × Int × Int)) → Option (List ((Int × Int × Int)))
  | 0, _, _ => none
  | n + 1, b12, l13 =>
    bif (ltI b12 e11) then
      (
        (nz e11).bind fun z17 =>
        (room (l13.length + ([(e11, b12, w64 (Int.tdiv vn1 e11))]).length)).bind fun u18 =>
        sI (w64 (b12 + 1)) fun b19 =>
        r_impl_SublatticesOf_L14 e11 t5 vn1 y4 n b19 (l13 ++ ([(e11, b12, w64 (Int.tdiv vn1 e11))]))
      )
    else
      (
        some l13
      )
def r_impl_SublatticesOf_L7 (vn1 : Int) (y4 : List Int) : Nat → Int → List ((Int × Int × Int)) → Option (List ((Int × Int × Int)))
  | 0, _, _ => none
  | n + 1, t5, l6 =>
    bif (ltI t5 ((y4.length : Int))) then
      (
        (getI y4 t5).bind fun e10 =>
        (getI y4 t5).bind fun e11 =>
        (r_impl_SublatticesOf_L14 e11 t5 vn1 y4 FU 0 l6).bind fun o15 =>
        sI (w64 (t5 + 1)) fun t20 =>
        r_impl_SublatticesOf_L7 vn1 y4 n t20 o15
      )
    else
      (
        some l6
      )
def r_impl_SublatticesOf (vn1 : Int) : Option ((List ((Int × Int × Int))) × Bool) :=
  bif (bif (ltI vn1 1) then true else (ltI 100 vn1)) then
    (
      some ((([] : List ((Int × Int × Int))), false))
    )
  else
    (
      (r_impl_divisors vn1).bind fun y4 =>
      (r_impl_SublatticesOf_L7 vn1 y4 FU 0 (([] : List ((Int × Int × Int))))).bind fun o8 =>
      some ((o8, true))
    )

def r_impl_primitiveOf_L4 (forms1 : List ((Int × Int × Int))) : Nat → Int → List ((Int × Int × Int)) → Option (List ((Int × Int × Int)))
  | 0, _, _ => none
  | n + 1, t2, l3 =>
    bif (ltI t2 ((forms1.length : Int))) then
      (
        (getI forms1 t2).bind fun e7 =>
        (r_impl_Form_content e7).bind fun y8 =>
        bif (eqI y8 1) then
          (
            (room (l3.length + ([e7]).length)).bind fun u10 =>
            sI (w64 (t2 + 1)) fun t11 =>
            r_impl_primitiveOf_L4 forms1 n t11 (l3 ++ ([e7]))
          )
        else
          (
            sI (w64 (t2 + 1)) fun t12 =>
            r_impl_primitiveOf_L4 forms1 n t12 l3
          )
      )
    else
      (
        some l3
      )
def r_impl_primitiveOf (forms1 : List ((Int × Int × Int))) : Option (List ((Int × Int × Int))) :=
  (r_impl_primitiveOf_L4 forms1 FU 0 (([] : List ((Int × Int × Int))))).bind fun o5 =>
  some o5

def r_impl_LowerClasses (f1 : (Int × Int × Int)) (p2 : Int) : Option ((List ((Int × Int × Int))) × Bool) :=
  (r_impl_SublatticeClasses f1 p2).bind fun y3 =>
  (r_impl_primitiveOf y3.1).bind fun y4 =>
  some ((y4, y3.2))

def r_impl_isLattice (l1 : (Int × Int × Int)) : Option Bool :=
  (some (bif (bif (bif (bif (bif (leI 1 l1.1) then (leI l1.1 1000) else false) then (leI 1 l1.2.2) else false) then (leI l1.2.2 1000) else false) then (leI 0 l1.2.1) else false) then (ltI l1.2.1 l1.1) else false)).bind fun t7 =>
  some t7

def r_impl_FormOnLattice (f1 : (Int × Int × Int)) (l2 : (Int × Int × Int)) : Option (((Int × Int × Int)) × Bool) :=
  (r_impl_isDefinite f1).bind fun y3 =>
  (bif (!y3) then some true else ((r_impl_isLattice l2).bind fun y5 => some (!y5))).bind fun b6 =>
  bif b6 then
    (
      some (((0, 0, 0), false))
    )
  else
    (
      (r_impl_Form_substitute f1 ((l2.1, l2.2.1, 0, l2.2.2))).bind fun y8 =>
      (r_impl_IsForm y8).bind fun y9 =>
      bif (!y9) then
        (
          some (((0, 0, 0), false))
        )
      else
        (
          some ((y8, true))
        )
    )

def r_impl_isNegativeDisc (d1 : Int) : Option Bool :=
  (bif (bif (leI (-2000) d1) then (leI d1 (-3)) else false) then ((r_impl_mod d1 4).bind fun y4 => some (leI y4 1)) else some false).bind fun b5 =>
  some b5

def r_impl_allReduced_L10 (a2 : Int) (d1 : Int) : Nat → Int → List ((Int × Int × Int)) → Option (List ((Int × Int × Int)))
  | 0, _, _ => none
  | n + 1, b8, l9 =>
    bif (leI b8 a2) then
      (
        (nz (w64 (4 * a2))).bind fun z13 =>
        (some (!eqI (Int.tmod (w64 ((w64 (b8 * b8)) - d1)) (w64 (4 * a2))) 0)).bind fun t14 =>
        bif t14 then
          (
            sI (w64 (b8 + 1)) fun b16 =>
            r_impl_allReduced_L10 a2 d1 n b16 l9
          )
        else
          (
            (nz (w64 (4 * a2))).bind fun z17 =>
            sI (w64 (Int.tdiv (w64 ((w64 (b8 * b8)) - d1)) (w64 (4 * a2)))) fun f18 =>
            (r_impl_Form_isReduced ((a2, b8, f18))).bind fun y19 =>
            bif y19 then
              (
                (room (l9.length + ([(a2, b8, f18)]).length)).bind fun u21 =>
                sI (w64 (b8 + 1)) fun b22 =>
                r_impl_allReduced_L10 a2 d1 n b22 (l9 ++ ([(a2, b8, f18)]))
              )
            else
              (
                sI (w64 (b8 + 1)) fun b23 =>
                r_impl_allReduced_L10 a2 d1 n b23 l9
              )
          )
      )
    else
      (
        some l9
      )
def r_impl_allReduced_L4 (d1 : Int) : Nat → Int → List ((Int × Int × Int)) → Option (List ((Int × Int × Int)))
  | 0, _, _ => none
  | n + 1, a2, l3 =>
    bif (leI (w64 ((w64 (3 * a2)) * a2)) (w64 (0 - d1))) then
      (
        sI (w64 (1 - a2)) fun b7 =>
        (r_impl_allReduced_L10 a2 d1 FU b7 l3).bind fun o11 =>
        sI (w64 (a2 + 1)) fun a24 =>
        r_impl_allReduced_L4 d1 n a24 o11
      )
    else
      (
        some l3
      )
def r_impl_allReduced (d1 : Int) : Option (List ((Int × Int × Int))) :=
  (r_impl_allReduced_L4 d1 FU 1 (([] : List ((Int × Int × Int))))).bind fun o5 =>
  some o5

def r_impl_reducedForms (d1 : Int) : Option (List ((Int × Int × Int))) :=
  (r_impl_allReduced d1).bind fun y2 =>
  (r_impl_primitiveOf y2).bind fun y3 =>
  some y3

def r_impl_hasForm_L4 (f2 : (Int × Int × Int)) (list1 : List ((Int × Int × Int))) : Nat → Int → Option (Unit ⊕ Bool)
  | 0, _ => none
  | n + 1, t3 =>
    bif (ltI t3 ((list1.length : Int))) then
      (
        (getI list1 t3).bind fun e7 =>
        (some (((f2.1 == e7.1) && ((f2.2.1 == e7.2.1) && (f2.2.2 == e7.2.2))))).bind fun t8 =>
        bif t8 then
          (
            some (.inr true)
          )
        else
          (
            sI (w64 (t3 + 1)) fun t10 =>
            r_impl_hasForm_L4 f2 list1 n t10
          )
      )
    else
      (
        some (.inl ())
      )
def r_impl_hasForm (list1 : List ((Int × Int × Int))) (f2 : (Int × Int × Int)) : Option Bool :=
  (r_impl_hasForm_L4 f2 list1 FU 0).bind fun qo5 =>
  match qo5 with
  | .inr r => some r
  | .inl o5 =>
    some false

def r_impl_UpperClass_L22 (p2 : Int) (y18 : (Int × Int × Int)) (y20 : List ((Int × Int × Int))) : Nat → Int → Option (Unit ⊕ (((Int × Int × Int)) × Bool))
  | 0, _ => none
  | n + 1, t21 =>
    bif (ltI t21 ((y20.length : Int))) then
      (
        (getI y20 t21).bind fun e25 =>
        (getI y20 t21).bind fun e26 =>
        (r_impl_sublatticeClasses e26 p2).bind fun y27 =>
        (r_impl_hasForm y27 y18).bind fun y28 =>
        bif y28 then
          (
            some (.inr (((e26, true))))
          )
        else
          (
            sI (w64 (t21 + 1)) fun t30 =>
            r_impl_UpperClass_L22 p2 y18 y20 n t30
          )
      )
    else
      (
        some (.inl ())
      )
def r_impl_UpperClass (f1 : (Int × Int × Int)) (p2 : Int) : Option (((Int × Int × Int)) × Bool) :=
  (r_impl_isDefinite f1).bind fun y3 =>
  (bif (!y3) then some true else ((r_impl_Form_content f1).bind fun y5 => some (!eqI y5 1))).bind fun b6 =>
  (bif b6 then some true else ((r_impl_isIndex p2).bind fun y8 => some (!y8))).bind fun b9 =>
  bif b9 then
    (
      some (((0, 0, 0), false))
    )
  else
    (
      (r_impl_Form_disc f1).bind fun y11 =>
      (nz (w64 (p2 * p2))).bind fun z12 =>
      (bif (!eqI (Int.tmod y11 (w64 (p2 * p2))) 0) then some true else ((nz (w64 (p2 * p2))).bind fun z14 => (r_impl_isNegativeDisc (w64 (Int.tdiv y11 (w64 (p2 * p2))))).bind fun y15 => some (!y15))).bind fun b16 =>
      bif b16 then
        (
          some (((0, 0, 0), false))
        )
      else
        (
          (r_impl_reduced f1).bind fun y18 =>
          (nz (w64 (p2 * p2))).bind fun z19 =>
          (r_impl_reducedForms (w64 (Int.tdiv y11 (w64 (p2 * p2))))).bind fun y20 =>
          (r_impl_UpperClass_L22 p2 y18 y20 FU 0).bind fun qo23 =>
          match qo23 with
          | .inr r => some r
          | .inl o23 =>
            some (((0, 0, 0), false))
        )
    )

def r_impl_IsPrime (vn1 : Int) : Option Bool :=
  (r_impl_areNumbers ([vn1])).bind fun y2 =>
  (bif y2 then ((r_impl_isPrime vn1).bind fun y4 => some y4) else some false).bind fun b5 =>
  some b5

def r_impl_canDescend (f1 : (Int × Int × Int)) (p2 : Int) : Option Bool :=
  (r_impl_isClassForm f1).bind fun y3 =>
  (bif (!y3) then some true else ((r_impl_IsPrime p2).bind fun y5 => some (!y5))).bind fun b6 =>
  bif (bif b6 then true else (ltI 2000 p2)) then
    (
      some false
    )
  else
    (
      (r_impl_Form_disc f1).bind fun y9 =>
      (nz (w64 (p2 * p2))).bind fun z10 =>
      (bif (eqI (Int.tmod y9 (w64 (p2 * p2))) 0) then ((r_impl_Form_disc f1).bind fun y12 => (nz (w64 (p2 * p2))).bind fun z13 => (r_impl_isNegativeDisc (w64 (Int.tdiv y12 (w64 (p2 * p2))))).bind fun y14 => some y14) else some false).bind fun b15 =>
      some b15
    )

def r_impl_firstPoint_L11 (a2 : Int) (g1 : (Int × Int × Int)) (size3 : Int) (x6 : Int) : Nat → Int → Option (Unit ⊕ (Int × Int))
  | 0, _ => none
  | n + 1, y10 =>
    bif (leI y10 size3) then
      (
        (bif (eqI (mxI x6 y10) size3) then ((r_impl_gcd x6 y10).bind fun y15 => some (eqI y15 1)) else some false).bind fun b16 =>
        (bif b16 then ((r_impl_Form_at g1 x6 y10).bind fun y18 => (r_impl_gcd y18 a2).bind fun y19 => some (eqI y19 1)) else some false).bind fun b20 =>
        bif b20 then
          (
            some (.inr (((x6, y10))))
          )
        else
          (
            sI (w64 (y10 + 1)) fun y22 =>
            r_impl_firstPoint_L11 a2 g1 size3 x6 n y22
          )
      )
    else
      (
        some (.inl ())
      )
def r_impl_firstPoint_L7 (a2 : Int) (g1 : (Int × Int × Int)) (size3 : Int) : Nat → Int → Option (Unit ⊕ (Int × Int))
  | 0, _ => none
  | n + 1, x6 =>
    bif (leI x6 size3) then
      (
        (r_impl_firstPoint_L11 a2 g1 size3 x6 FU 0).bind fun qo12 =>
        match qo12 with
        | .inr r => some (.inr r)
        | .inl o12 =>
          sI (w64 (x6 + 1)) fun x23 =>
          r_impl_firstPoint_L7 a2 g1 size3 n x23
      )
    else
      (
        some (.inl ())
      )
def r_impl_firstPoint_L4 (a2 : Int) (g1 : (Int × Int × Int)) : Nat → Int → Option (Unit ⊕ (Int × Int))
  | 0, _ => none
  | n + 1, size3 =>
    (r_impl_firstPoint_L7 a2 g1 size3 FU 0).bind fun qo8 =>
    match qo8 with
    | .inr r => some (.inr r)
    | .inl o8 =>
      sI (w64 (size3 + 1)) fun size24 =>
      r_impl_firstPoint_L4 a2 g1 n size24
def r_impl_firstPoint (g1 : (Int × Int × Int)) (a2 : Int) : Option (Int × Int) :=
  (r_impl_firstPoint_L4 a2 g1 FU 0).bind fun qo5 =>
  match qo5 with
  | .inr r => some r
  | .inl _ => none

def r_impl_inverse_L8 (vm2 : Int) : Nat → Int → Int → Int → Int → Option Int
  | 0, _, _, _, _ => none
  | n + 1, x4, y5, vr6, vs7 =>
    bif (!eqI vs7 0) then
      (
        (nz vs7).bind fun z11 =>
        sI (w64 (Int.tdiv vr6 vs7)) fun q12 =>
        sI (w64 (vr6 - (w64 (q12 * vs7)))) fun vs13 =>
        sI (w64 (x4 - (w64 (q12 * y5)))) fun y14 =>
        r_impl_inverse_L8 vm2 n y5 y14 vs7 vs13
      )
    else
      (
        some x4
      )
def r_impl_inverse (a1 : Int) (vm2 : Int) : Option Int :=
  (r_impl_mod a1 vm2).bind fun y3 =>
  (r_impl_inverse_L8 vm2 FU 1 0 y3 vm2).bind fun o9 =>
  (r_impl_mod o9 vm2).bind fun y15 =>
  some y15

def r_impl_Form_complete (f1 : (Int × Int × Int)) (x2 : Int) (y3 : Int) : Option (((Int × Int × Int)) × ((Int × Int × Int × Int))) :=
  (
    bif (eqI y3 0) then
      (
        some (0, x2)
      )
    else
      (
        (r_impl_abs y3).bind fun y6 =>
        (r_impl_inverse x2 y6).bind fun y7 =>
        (nz y3).bind fun z8 =>
        sI (w64 (Int.tdiv (w64 ((w64 (x2 * y7)) - 1)) y3)) fun f9 =>
        some (f9, y7)
      )
  ).bind fun j4 =>
  (r_impl_Form_substitute f1 ((x2, j4.1, y3, j4.2))).bind fun y10 =>
  (r_impl_floorDiv y10.2.1 (w64 (2 * y10.1))).bind fun y11 =>
  sI (w64 (0 - y11)) fun t12 =>
  sI (w64 (j4.1 + (w64 (t12 * x2)))) fun f13 =>
  sI (w64 (j4.2 + (w64 (t12 * y3)))) fun f14 =>
  (r_impl_Form_substitute f1 ((x2, f13, y3, f14))).bind fun y15 =>
  some ((y15, (x2, f13, y3, f14)))

def r_impl_Matrix_det (vm1 : (Int × Int × Int × Int)) : Option Int :=
  sI (w64 ((w64 (vm1.1 * vm1.2.2.2)) - (w64 (vm1.2.1 * vm1.2.2.1)))) fun t2 =>
  some t2

def r_impl_Matrix_inverse (vm1 : (Int × Int × Int × Int)) : Option (Int × Int × Int × Int) :=
  (r_impl_Matrix_det vm1).bind fun y2 =>
  sI (w64 (y2 * vm1.2.2.2)) fun f3 =>
  sI (w64 ((w64 (0 - y2)) * vm1.2.1)) fun f4 =>
  sI (w64 ((w64 (0 - y2)) * vm1.2.2.1)) fun f5 =>
  sI (w64 (y2 * vm1.1)) fun f6 =>
  some ((f3, f4, f5, f6))

def r_impl_descend_L11 (p2 : Int) (y3 : (((Int × Int × Int)) × ((Int × Int × Int × Int)))) (y5 : (((Int × Int × Int)) × ((Int × Int × Int × Int)))) (y6 : (Int × Int × Int × Int)) : Nat → Int → Int → Int → Int → Option (Int × Int × Int × Int)
  | 0, _, _, _, _ => none
  | n + 1, f7, f8, f9, f10 =>
    (nz p2).bind fun z13 =>
    (bif (!eqI (Int.tmod f9 p2) 0) then some true else ((nz (w64 (p2 * p2))).bind fun z15 => some (!eqI (Int.tmod f10 (w64 (p2 * p2))) 0))).bind fun b16 =>
    bif b16 then
      (
        sI (w64 (f7 + 1)) fun f18 =>
        (r_impl_Form_substitute y5.1 ((y6.1, f18, y6.2.2.1, y6.2.2.2))).bind fun y19 =>
        r_impl_descend_L11 p2 y3 y5 y6 n f18 y19.1 y19.2.1 y19.2.2
      )
    else
      (
        some (f7, f8, f9, f10)
      )
def r_impl_descend (f1 : (Int × Int × Int)) (p2 : Int) : Option (((Int × Int × Int)) × ((Int × Int × Int × Int))) :=
  (r_impl_reduce f1).bind fun y3 =>
  (r_impl_firstPoint y3.1 p2).bind fun y4 =>
  (r_impl_Form_complete y3.1 y4.1 y4.2).bind fun y5 =>
  (r_impl_one).bind fun y6 =>
  (r_impl_descend_L11 p2 y3 y5 y6 FU y6.2.1 y5.1.1 y5.1.2.1 y5.1.2.2).bind fun o12 =>
  (nz p2).bind fun z20 =>
  (nz (w64 (p2 * p2))).bind fun z21 =>
  (r_impl_reduce ((o12.2.1, w64 (Int.tdiv o12.2.2.1 p2), w64 (Int.tdiv o12.2.2.2 (w64 (p2 * p2)))))).bind fun y22 =>
  (r_impl_Matrix_times y3.2 y5.2).bind fun y23 =>
  (r_impl_Matrix_times y23 ((y6.1, o12.1, y6.2.2.1, y6.2.2.2))).bind fun y24 =>
  (r_impl_Matrix_inverse y22.2).bind fun y25 =>
  (r_impl_Matrix_times y25 ((1, 0, 0, p2))).bind fun y26 =>
  (r_impl_Matrix_inverse y24).bind fun y27 =>
  (r_impl_Matrix_times y26 y27).bind fun y28 =>
  some ((y22.1, y28))

def r_impl_DescendForm (f1 : (Int × Int × Int)) (p2 : Int) : Option (((Int × Int × Int)) × Bool) :=
  (r_impl_canDescend f1 p2).bind fun y3 =>
  bif (!y3) then
    (
      some (((0, 0, 0), false))
    )
  else
    (
      (r_impl_descend f1 p2).bind fun y5 =>
      some ((y5.1, true))
    )

def r_spec_odPrime (p1 : Int) : Option Bool :=
  (r_spec_l1In p1 2 1000).bind fun y2 =>
  (bif y2 then ((r_spec_nuPrime p1).bind fun y4 => some y4) else some false).bind fun b5 =>
  some b5

def r_spec_odDown (f1 : (Int × Int × Int)) (p2 : Int) : Option Bool :=
  (r_spec_coGood f1).bind fun y3 =>
  (bif y3 then ((r_spec_odPrime p2).bind fun y5 => some y5) else some false).bind fun b6 =>
  (bif b6 then ((r_spec_foDisc f1).bind fun y8 => (nz (w64 (p2 * p2))).bind fun z9 => some (eqI (Int.tmod y8 (w64 (p2 * p2))) 0)) else some false).bind fun b10 =>
  (bif b10 then ((r_spec_foDisc f1).bind fun y12 => (nz (w64 (p2 * p2))).bind fun z13 => (r_spec_reDisc (w64 (Int.tdiv y12 (w64 (p2 * p2))))).bind fun y14 => some y14) else some false).bind fun b15 =>
  some b15

def r_spec_coPoint_L12 (a2 : Int) (g1 : (Int × Int × Int)) (k3 : Int) (x7 : Int) : Nat → Int → Option (Unit ⊕ (Int × Int))
  | 0, _ => none
  | n + 1, y11 =>
    bif (leI y11 k3) then
      (
        (r_spec_l1Most x7 y11).bind fun y15 =>
        (bif (eqI y15 k3) then ((r_spec_nuGcd x7 y11).bind fun y17 => some (eqI y17 1)) else some false).bind fun b18 =>
        (bif b18 then ((r_spec_foValue g1 x7 y11).bind fun y20 => (r_spec_nuGcd y20 a2).bind fun y21 => some (eqI y21 1)) else some false).bind fun b22 =>
        bif b22 then
          (
            some (.inr (((x7, y11))))
          )
        else
          (
            sI (w64 (y11 + 1)) fun y24 =>
            r_spec_coPoint_L12 a2 g1 k3 x7 n y24
          )
      )
    else
      (
        some (.inl ())
      )
def r_spec_coPoint_L8 (a2 : Int) (g1 : (Int × Int × Int)) (k3 : Int) : Nat → Int → Option (Unit ⊕ (Int × Int))
  | 0, _ => none
  | n + 1, x7 =>
    bif (leI x7 k3) then
      (
        (r_spec_coPoint_L12 a2 g1 k3 x7 FU 0).bind fun qo13 =>
        match qo13 with
        | .inr r => some (.inr r)
        | .inl o13 =>
          sI (w64 (x7 + 1)) fun x25 =>
          r_spec_coPoint_L8 a2 g1 k3 n x25
      )
    else
      (
        some (.inl ())
      )
def r_spec_coPoint_L4 (a2 : Int) (g1 : (Int × Int × Int)) : Nat → Int → Option (Unit ⊕ (Int × Int))
  | 0, _ => none
  | n + 1, k3 =>
    bif (leI k3 100) then
      (
        (r_spec_coPoint_L8 a2 g1 k3 FU 0).bind fun qo9 =>
        match qo9 with
        | .inr r => some (.inr r)
        | .inl o9 =>
          sI (w64 (k3 + 1)) fun k26 =>
          r_spec_coPoint_L4 a2 g1 n k26
      )
    else
      (
        some (.inl ())
      )
def r_spec_coPoint (g1 : (Int × Int × Int)) (a2 : Int) : Option (Int × Int) :=
  (r_spec_coPoint_L4 a2 g1 FU 1).bind fun qo5 =>
  match qo5 with
  | .inr r => some r
  | .inl o5 =>
    some ((1, 0))

def r_spec_l1Sign (vn1 : Int) : Option Int :=
  bif (ltI 0 vn1) then
    (
      some 1
    )
  else
    (
      bif (ltI vn1 0) then
        (
          some (-1)
        )
      else
        (
          some 0
        )
    )

def r_spec_nuInverse_L8 (vm2 : Int) : Nat → Int → Int → Int → Int → Option (Int × Int)
  | 0, _, _, _, _ => none
  | n + 1, vr4, next5, x6, y7 =>
    bif (!eqI next5 0) then
      (
        (nz next5).bind fun z11 =>
        sI (w64 (Int.tdiv vr4 next5)) fun q12 =>
        sI (w64 (vr4 - (w64 (q12 * next5)))) fun next13 =>
        sI (w64 (x6 - (w64 (q12 * y7)))) fun y14 =>
        r_spec_nuInverse_L8 vm2 n next5 next13 y7 y14
      )
    else
      (
        some (vr4, x6)
      )
def r_spec_nuInverse (a1 : Int) (vm2 : Int) : Option Int :=
  (r_spec_nuMod a1 vm2).bind fun y3 =>
  (r_spec_nuInverse_L8 vm2 FU vm2 y3 0 1).bind fun o9 =>
  bif (!eqI o9.1 1) then
    (
      some (-1)
    )
  else
    (
      (r_spec_nuMod o9.2 vm2).bind fun y16 =>
      some y16
    )

def r_spec_nuBezout (a1 : Int) (b2 : Int) : Option (Int × Int × Int) :=
  (r_spec_nuGcd a1 b2).bind fun y3 =>
  bif (eqI b2 0) then
    (
      (r_spec_l1Sign a1).bind fun y5 =>
      some ((y3, y5, 0))
    )
  else
    (
      (nz y3).bind fun z6 =>
      (r_spec_l1Abs b2).bind fun y7 =>
      (nz y3).bind fun z8 =>
      (r_spec_nuInverse (w64 (Int.tdiv a1 y3)) (w64 (Int.tdiv y7 y3))).bind fun y9 =>
      (nz b2).bind fun z10 =>
      sI (w64 (Int.tdiv (w64 (y3 - (w64 (a1 * y9)))) b2)) fun t11 =>
      some ((y3, y9, t11))
    )

def r_spec_vaComplete (f1 : (Int × Int × Int)) (x2 : Int) (y3 : Int) : Option (((Int × Int × Int)) × ((Int × Int × Int × Int))) :=
  (r_spec_nuBezout x2 y3).bind fun y4 =>
  (r_spec_foValue f1 x2 y3).bind fun y5 =>
  sI (w64 (0 - y4.2.2)) fun q6 =>
  (r_spec_foPolar f1 x2 y3 q6 y4.2.1).bind fun y7 =>
  (r_spec_nuMod y7 (w64 (2 * y5))).bind fun y8 =>
  (nz (w64 (2 * y5))).bind fun z9 =>
  sI (w64 (Int.tdiv (w64 (y8 - y7)) (w64 (2 * y5)))) fun t10 =>
  sI (w64 (q6 + (w64 (x2 * t10)))) fun f11 =>
  sI (w64 (y4.2.1 + (w64 (y3 * t10)))) fun f12 =>
  sI (w64 (y7 + (w64 ((w64 (2 * y5)) * t10)))) fun b13 =>
  (r_spec_foDisc f1).bind fun y14 =>
  (nz (w64 (4 * y5))).bind fun z15 =>
  sI (w64 (Int.tdiv (w64 ((w64 (b13 * b13)) - y14)) (w64 (4 * y5)))) fun f16 =>
  some (((y5, b13, f16), (x2, f11, y3, f12)))

def r_spec_coShift (t1 : Int) : Option (Int × Int × Int × Int) :=
  some ((1, t1, 0, 1))

def r_spec_foDet (vm1 : (Int × Int × Int × Int)) : Option Int :=
  sI (w64 ((w64 (vm1.1 * vm1.2.2.2)) - (w64 (vm1.2.1 * vm1.2.2.1)))) fun t2 =>
  some t2

def r_spec_foInverse (vm1 : (Int × Int × Int × Int)) : Option (Int × Int × Int × Int) :=
  (r_spec_foDet vm1).bind fun y2 =>
  sI (w64 (y2 * vm1.2.2.2)) fun f3 =>
  sI (w64 ((w64 (0 - y2)) * vm1.2.1)) fun f4 =>
  sI (w64 ((w64 (0 - y2)) * vm1.2.2.1)) fun f5 =>
  sI (w64 (y2 * vm1.1)) fun f6 =>
  some ((f3, f4, f5, f6))

def r_spec_odDescend_L8 (p2 : Int) (y5 : (((Int × Int × Int)) × ((Int × Int × Int × Int)))) (y6 : (Int × Int × Int × Int)) : Nat → Int → Option (Unit ⊕ (((Int × Int × Int)) × ((Int × Int × Int × Int))))
  | 0, _ => none
  | n + 1, t7 =>
    bif (ltI t7 p2) then
      (
        (r_spec_coShift t7).bind fun y11 =>
        (r_spec_foAct y5.1 y11).bind fun y12 =>
        (nz p2).bind fun z13 =>
        (bif (!eqI (Int.tmod y12.2.1 p2) 0) then some true else ((nz (w64 (p2 * p2))).bind fun z15 => some (!eqI (Int.tmod y12.2.2 (w64 (p2 * p2))) 0))).bind fun b16 =>
        bif b16 then
          (
            sI (w64 (t7 + 1)) fun t18 =>
            r_spec_odDescend_L8 p2 y5 y6 n t18
          )
        else
          (
            (nz p2).bind fun z19 =>
            (nz (w64 (p2 * p2))).bind fun z20 =>
            (r_spec_reReduce ((y12.1, w64 (Int.tdiv y12.2.1 p2), w64 (Int.tdiv y12.2.2 (w64 (p2 * p2)))))).bind fun y21 =>
            (r_spec_coShift t7).bind fun y22 =>
            (r_spec_foMul y6 y22).bind fun y23 =>
            (r_spec_foInverse y21.2).bind fun y24 =>
            (r_spec_foMul y24 ((1, 0, 0, p2))).bind fun y25 =>
            (r_spec_foInverse y23).bind fun y26 =>
            (r_spec_foMul y25 y26).bind fun y27 =>
            some (.inr (((y21.1, y27))))
          )
      )
    else
      (
        some (.inl ())
      )
def r_spec_odDescend (f1 : (Int × Int × Int)) (p2 : Int) : Option (((Int × Int × Int)) × ((Int × Int × Int × Int))) :=
  (r_spec_reReduce f1).bind fun y3 =>
  (r_spec_coPoint y3.1 p2).bind fun y4 =>
  (r_spec_vaComplete y3.1 y4.1 y4.2).bind fun y5 =>
  (r_spec_foMul y3.2 y5.2).bind fun y6 =>
  (r_spec_odDescend_L8 p2 y5 y6 FU 0).bind fun qo9 =>
  match qo9 with
  | .inr r => some r
  | .inl o9 =>
    some (((0, 0, 0), (0, 0, 0, 0)))

def r_spec_DescendForm (f1 : (Int × Int × Int)) (p2 : Int) : Option (((Int × Int × Int)) × Bool) :=
  (r_spec_odDown f1 p2).bind fun y3 =>
  bif (!y3) then
    (
      some (((0, 0, 0), false))
    )
  else
    (
      (r_spec_odDescend f1 p2).bind fun y5 =>
      some ((y5.1, true))
    )

def r_laws_FnIndexSublattices_L24 (y13 : (((Int × Int × Int)) × ((Int × Int × Int × Int)) × Bool)) (y14 : ((List ((Int × Int × Int))) × Bool)) (y15 : ((List ((Int × Int × Int))) × Bool)) (y5 : (((Int × Int × Int)) × Int)) (y6 : ((List ((Int × Int × Int))) × Bool)) : Nat → Int → List ((Int × Int × Int)) → Option (List ((Int × Int × Int)) ⊕ Bool)
  | 0, _, _ => none
  | n + 1, t22, l23 =>
    bif (ltI t22 ((y14.1.length : Int))) then
      (
        (getI y14.1 t22).bind fun e27 =>
        (getI y14.1 t22).bind fun e28 =>
        (r_impl_FormOnLattice y13.1 e28).bind fun y29 =>
        (r_impl_ReduceForm y29.1).bind fun y30 =>
        bif (bif (!y29.2) then true else (!y30.2.2)) then
          (
            some (.inr false)
          )
        else
          (
            (room (l23.length + ([y30.1]).length)).bind fun u33 =>
            sI (w64 (t22 + 1)) fun t34 =>
            r_laws_FnIndexSublattices_L24 y13 y14 y15 y5 y6 n t34 (l23 ++ ([y30.1]))
          )
      )
    else
      (
        some (.inl l23)
      )
def r_laws_FnIndexSublattices_L44 (e40 : (Int × Int × Int)) (o25 : List ((Int × Int × Int))) (t35 : Int) (y13 : (((Int × Int × Int)) × ((Int × Int × Int × Int)) × Bool)) (y15 : ((List ((Int × Int × Int))) × Bool)) (y5 : (((Int × Int × Int)) × Int)) (y6 : ((List ((Int × Int × Int))) × Bool)) : Nat → Int → Int → Int → Option (Int × Int)
  | 0, _, _, _ => none
  | n + 1, first41, second42, t43 =>
    bif (ltI t43 ((y6.1.length : Int))) then
      (
        (
          (getI y6.1 t43).bind fun e48 =>
          (getI y6.1 t43).bind fun e49 =>
          (some (((e49.1 == e40.1) && ((e49.2.1 == e40.2.1) && (e49.2.2 == e40.2.2))))).bind fun t50 =>
          bif t50 then
            (
              sI (w64 (first41 + 1)) fun first52 =>
              some first52
            )
          else
            (
              some first41
            )
        ).bind fun j47 =>
        (getI o25 t43).bind fun e53 =>
        (getI o25 t43).bind fun e54 =>
        (some (((e54.1 == e40.1) && ((e54.2.1 == e40.2.1) && (e54.2.2 == e40.2.2))))).bind fun t55 =>
        bif t55 then
          (
            sI (w64 (second42 + 1)) fun second57 =>
            sI (w64 (t43 + 1)) fun t58 =>
            r_laws_FnIndexSublattices_L44 e40 o25 t35 y13 y15 y5 y6 n j47 second57 t58
          )
        else
          (
            sI (w64 (t43 + 1)) fun t59 =>
            r_laws_FnIndexSublattices_L44 e40 o25 t35 y13 y15 y5 y6 n j47 second42 t59
          )
      )
    else
      (
        some (first41, second42)
      )
def r_laws_FnIndexSublattices_L36 (o25 : List ((Int × Int × Int))) (y13 : (((Int × Int × Int)) × ((Int × Int × Int × Int)) × Bool)) (y15 : ((List ((Int × Int × Int))) × Bool)) (y5 : (((Int × Int × Int)) × Int)) (y6 : ((List ((Int × Int × Int))) × Bool)) : Nat → Int → Option (Unit ⊕ Bool)
  | 0, _ => none
  | n + 1, t35 =>
    bif (ltI t35 ((y6.1.length : Int))) then
      (
        (getI y6.1 t35).bind fun e39 =>
        (getI y6.1 t35).bind fun e40 =>
        (r_laws_FnIndexSublattices_L44 e40 o25 t35 y13 y15 y5 y6 FU 0 0 0).bind fun o45 =>
        bif (!eqI o45.1 o45.2) then
          (
            some (.inr false)
          )
        else
          (
            sI (w64 (t35 + 1)) fun t61 =>
            r_laws_FnIndexSublattices_L36 o25 y13 y15 y5 y6 n t61
          )
      )
    else
      (
        some (.inl ())
      )
def r_laws_FnIndexSublattices_L63 (y13 : (((Int × Int × Int)) × ((Int × Int × Int × Int)) × Bool)) (y15 : ((List ((Int × Int × Int))) × Bool)) (y5 : (((Int × Int × Int)) × Int)) : Nat → Int → Option (Unit ⊕ Bool)
  | 0, _ => none
  | n + 1, t62 =>
    bif (ltI t62 ((y15.1.length : Int))) then
      (
        (getI y15.1 t62).bind fun e66 =>
        (getI y15.1 t62).bind fun e67 =>
        (r_impl_UpperClass e67 y5.2).bind fun y68 =>
        (some (bif (!y68.2) then true else (!((y68.1.1 == y13.1.1) && ((y68.1.2.1 == y13.1.2.1) && (y68.1.2.2 == y13.1.2.2)))))).bind fun t70 =>
        bif t70 then
          (
            some (.inr false)
          )
        else
          (
            (r_impl_DescendForm e67 y5.2).bind fun y72 =>
            (r_spec_DescendForm e67 y5.2).bind fun y73 =>
            (some (bif (bif (y72.2 != y73.2) then true else (!((y72.1.1 == y73.1.1) && ((y72.1.2.1 == y73.1.2.1) && (y72.1.2.2 == y73.1.2.2))))) then true else (bif y73.2 then (!((y73.1.1 == y13.1.1) && ((y73.1.2.1 == y13.1.2.1) && (y73.1.2.2 == y13.1.2.2)))) else false))).bind fun t77 =>
            bif t77 then
              (
                some (.inr false)
              )
            else
              (
                sI (w64 (t62 + 1)) fun t79 =>
                r_laws_FnIndexSublattices_L63 y13 y15 y5 n t79
              )
          )
      )
    else
      (
        some (.inl ())
      )
def r_laws_FnIndexSublattices (code1 : List Int) (more2 : List Int) : Option Bool :=
  (r_laws_big code1 more2).bind fun y3 =>
  bif y3 then
    (
      some true
    )
  else
    (
      (r_spec_DrawSublatticeClasses code1).bind fun y5 =>
      (r_impl_SublatticeClasses y5.1 y5.2).bind fun y6 =>
      (r_spec_SublatticeClasses y5.1 y5.2).bind fun y7 =>
      (bif (y6.2 != y7.2) then some true else ((r_laws_qForms y6.1 y7.1).bind fun y9 => some (!y9))).bind fun b10 =>
      bif b10 then
        (
          some false
        )
      else
        (
          bif (!y6.2) then
            (
              some true
            )
          else
            (
              (r_impl_ReduceForm y5.1).bind fun y13 =>
              (r_impl_SublatticesOf y5.2).bind fun y14 =>
              (r_impl_LowerClasses y5.1 y5.2).bind fun y15 =>
              (some (bif (bif (bif (bif (!y13.2.2) then true else (!y14.2)) then true else (!y15.2)) then true else (!eqI ((y6.1.length : Int)) (w64 (y5.2 + 1)))) then true else (!eqI ((y14.1.length : Int)) (w64 (y5.2 + 1))))).bind fun t20 =>
              bif t20 then
                (
                  some false
                )
              else
                (
                  (r_laws_FnIndexSublattices_L24 y13 y14 y15 y5 y6 FU 0 (([] : List ((Int × Int × Int))))).bind fun qo25 =>
                  match qo25 with
                  | .inr r => some r
                  | .inl o25 =>
                    (r_laws_FnIndexSublattices_L36 o25 y13 y15 y5 y6 FU 0).bind fun qo37 =>
                    match qo37 with
                    | .inr r => some r
                    | .inl o37 =>
                      (r_laws_FnIndexSublattices_L63 y13 y15 y5 FU 0).bind fun qo64 =>
                      match qo64 with
                      | .inr r => some r
                      | .inl o64 =>
                        some true
                )
            )
        )
    )

end Go.Proofs.YtafomkclmkfjeaaGreat
