/-
  What the functions of the program compute, as plain functions.
  Conditions: none.
-/
import Derived.Test.YtgeajejmikaniaaShRs

namespace Go.Proofs.Ytgeajejmikaniaa

set_option linter.unusedVariables false

def r_laws_big (code1 : List Int) (more2 : List Int) : Option Bool :=
  (some (bif (ltI 1048576 ((code1.length : Int))) then true else (ltI (w64 (1048576 - ((code1.length : Int)))) ((more2.length : Int))))).bind fun t4 =>
  some t4

def r_spec_l1Cur_next (c1 : ((List Int) × Int × Int)) : Option (Int × (((List Int) × Int × Int))) :=
  (
    bif (ltI c1.2.1 ((c1.1.length : Int))) then
      (
        (getI c1.1 c1.2.1).bind fun e4 =>
        sI (IntKind.i64.wrap e4) fun b5 =>
        some b5
      )
    else
      (
        some 0
      )
  ).bind fun j2 =>
  sI (w64 (c1.2.1 + 1)) fun f6 =>
  sI (IntKind.u64.wrap ((IntKind.u64.wrap ((IntKind.u64.wrap (c1.2.2 * 6364136223846793005)) + (IntKind.u64.wrap j2))) + 1442695040888963407)) fun f7 =>
  bif (leI f6 ((c1.1.length : Int))) then
    (
      some ((j2, (c1.1, f6, f7)))
    )
  else
    (
      sI (IntKind.i64.wrap (andI .u64 (shrI .u64 f7 40) 255)) fun t9 =>
      some ((t9, (c1.1, f6, f7)))
    )

def r_spec_l1Cur_pick (c1 : ((List Int) × Int × Int)) (vn2 : Int) : Option (Int × (((List Int) × Int × Int))) :=
  bif (leI vn2 1) then
    (
      some ((0, c1))
    )
  else
    (
      (r_spec_l1Cur_next c1).bind fun y4 =>
      bif (ltI 200 vn2) then
        (
          (r_spec_l1Cur_next y4.2).bind fun y6 =>
          sI (w64 ((w64 (y4.1 * 256)) + y6.1)) fun x7 =>
          (nz vn2).bind fun z8 =>
          sI (Int.tmod x7 vn2) fun t9 =>
          some ((t9, y6.2))
        )
      else
        (
          (nz vn2).bind fun z10 =>
          sI (Int.tmod y4.1 vn2) fun t11 =>
          some ((t11, y4.2))
        )
    )

def r_spec_l1Cur_one (c1 : ((List Int) × Int × Int)) (vn2 : Int) : Option (Bool × (((List Int) × Int × Int))) :=
  (r_spec_l1Cur_pick c1 vn2).bind fun y3 =>
  some ((eqI y3.1 0, y3.2))

def r_spec_l1Cur_among (c1 : ((List Int) × Int × Int)) (list2 : List Int) : Option (Int × (((List Int) × Int × Int))) :=
  (r_spec_l1Cur_pick c1 ((list2.length : Int))).bind fun y3 =>
  (getI list2 y3.1).bind fun e4 =>
  some ((e4, y3.2))

def r_spec_l1Cur_number (c1 : ((List Int) × Int × Int)) : Option (Int × (((List Int) × Int × Int))) :=
  (r_spec_l1Cur_pick c1 12).bind fun y2 =>
  bif (eqI y2.1 0) then
    (
      (r_spec_l1Cur_among y2.2 ([0, 1, -1, 1000000, -1000000, 1000001, -1000001, -9223372036854775808, 9223372036854775807, 999983, 999999, 1000])).bind fun y4 =>
      some ((y4.1, y4.2))
    )
  else
    (
      (
        bif (eqI y2.1 1) then
          (
            some (eqI y2.1 1)
          )
        else
          (
            some (eqI y2.1 2)
          )
      ).bind fun j5 =>
      bif j5 then
        (
          (r_spec_l1Cur_pick y2.2 50000).bind fun y8 =>
          (r_spec_l1Cur_pick y8.2 20).bind fun y9 =>
          (r_spec_l1Cur_pick y9.2 2).bind fun y10 =>
          sI (w64 ((w64 (y8.1 * (w64 (1 + y9.1)))) * (w64 (1 - (w64 (2 * y10.1)))))) fun t11 =>
          some ((t11, y10.2))
        )
      else
        (
          (
            bif (eqI y2.1 3) then
              (
                some (eqI y2.1 3)
              )
            else
              (
                some (eqI y2.1 4)
              )
          ).bind fun j12 =>
          bif j12 then
            (
              (r_spec_l1Cur_pick y2.2 2000).bind fun y15 =>
              some ((y15.1, y15.2))
            )
          else
            (
              (r_spec_l1Cur_pick y2.2 121).bind fun y16 =>
              sI (w64 (y16.1 - 40)) fun t17 =>
              some ((t17, y16.2))
            )
        )
    )

def r_spec_l1Cur_form (c1 : ((List Int) × Int × Int)) : Option (((Int × Int × Int)) × (((List Int) × Int × Int))) :=
  (r_spec_l1Cur_pick c1 14).bind fun y2 =>
  bif (eqI y2.1 0) then
    (
      (r_spec_l1Cur_number y2.2).bind fun y4 =>
      (r_spec_l1Cur_number y4.2).bind fun y5 =>
      (r_spec_l1Cur_number y5.2).bind fun y6 =>
      some (((y4.1, y5.1, y6.1), y6.2))
    )
  else
    (
      bif (eqI y2.1 1) then
        (
          (r_spec_l1Cur_among y2.2 ([2, 3, -1, 0, 1000])).bind fun y8 =>
          (r_spec_l1Cur_pick y8.2 20).bind fun y9 =>
          (r_spec_l1Cur_pick y9.2 21).bind fun y10 =>
          (r_spec_l1Cur_pick y10.2 20).bind fun y11 =>
          sI (w64 (y8.1 * y9.1)) fun f12 =>
          sI (w64 (y8.1 * (w64 (y10.1 - 10)))) fun f13 =>
          sI (w64 (y8.1 * y11.1)) fun f14 =>
          some (((f12, f13, f14), y11.2))
        )
      else
        (
          bif (eqI y2.1 2) then
            (
              (r_spec_l1Cur_pick y2.2 2000).bind fun y16 =>
              (r_spec_l1Cur_pick y16.2 3000).bind fun y17 =>
              (r_spec_l1Cur_pick y17.2 2000).bind fun y18 =>
              sI (w64 (y17.1 - 1500)) fun f19 =>
              some (((y16.1, f19, y18.1), y18.2))
            )
          else
            (
              bif (eqI y2.1 3) then
                (
                  (r_spec_l1Cur_pick y2.2 21).bind fun y21 =>
                  (r_spec_l1Cur_pick y21.2 21).bind fun y22 =>
                  (r_spec_l1Cur_pick y22.2 21).bind fun y23 =>
                  sI (w64 (y21.1 - 10)) fun f24 =>
                  sI (w64 (y22.1 - 10)) fun f25 =>
                  sI (w64 (y23.1 - 10)) fun f26 =>
                  some (((f24, f25, f26), y23.2))
                )
              else
                (
                  (r_spec_l1Cur_pick y2.2 25).bind fun y27 =>
                  (r_spec_l1Cur_pick y27.2 40).bind fun y28 =>
                  sI (w64 (1 + y27.1)) fun a29 =>
                  (r_spec_l1Cur_pick y28.2 (w64 (2 * a29))).bind fun y30 =>
                  sI (w64 ((w64 (y30.1 - a29)) + 1)) fun b31 =>
                  (nz (w64 (4 * a29))).bind fun z32 =>
                  sI (w64 ((w64 (Int.tdiv (w64 ((w64 (b31 * b31)) + (w64 (4 * a29)))) (w64 (4 * a29)))) + y28.1)) fun f33 =>
                  some (((a29, b31, f33), y30.2))
                )
            )
        )
    )

def r_spec_l1Cur_positive (c1 : ((List Int) × Int × Int)) : Option (Int × (((List Int) × Int × Int))) :=
  (r_spec_l1Cur_pick c1 10).bind fun y2 =>
  bif (eqI y2.1 0) then
    (
      (r_spec_l1Cur_among y2.2 ([4, 9, 1000, 1001, 0, -3, 5, 997, 1004, 996, 2, 1099511627776])).bind fun y4 =>
      some ((y4.1, y4.2))
    )
  else
    (
      (
        bif (eqI y2.1 1) then
          (
            some (eqI y2.1 1)
          )
        else
          (
            some (eqI y2.1 2)
          )
      ).bind fun j5 =>
      bif j5 then
        (
          (r_spec_l1Cur_among y2.2 ([5, 8, 12, 13, 60, 136, 221, 229, 257, 316, 401, 520, 780, 840, 924])).bind fun y8 =>
          some ((y8.1, y8.2))
        )
      else
        (
          (r_spec_l1Cur_pick y2.2 240).bind fun y9 =>
          sI (w64 (5 + (w64 (4 * y9.1)))) fun d10 =>
          (r_spec_l1Cur_one y9.2 2).bind fun y11 =>
          bif y11.1 then
            (
              sI (w64 (d10 - 1)) fun d13 =>
              some ((d13, y11.2))
            )
          else
            (
              some ((d10, y11.2))
            )
        )
    )

def r_spec_l1In (vn1 : Int) (lo2 : Int) (hi3 : Int) : Option Bool :=
  some (bif (leI lo2 vn1) then (leI vn1 hi3) else false)

def r_spec_nuMod (a1 : Int) (vm2 : Int) : Option Int :=
  (nz vm2).bind fun z3 =>
  sI (Int.tmod a1 vm2) fun vr4 =>
  bif (ltI vr4 0) then
    (
      sI (w64 (vr4 + vm2)) fun vr6 =>
      some vr6
    )
  else
    (
      some vr4
    )

def r_spec_nuRoot_L4 (vn1 : Int) : Nat → Int → Int → Option Int
  | 0, _, _ => none
  | n + 1, lo2, hi3 =>
    bif (ltI lo2 hi3) then
      (
        sI (w64 (Int.tdiv (w64 ((w64 (lo2 + hi3)) + 1)) 2)) fun mid7 =>
        bif (leI (w64 (mid7 * mid7)) vn1) then
          (
            r_spec_nuRoot_L4 vn1 n mid7 hi3
          )
        else
          (
            sI (w64 (mid7 - 1)) fun hi9 =>
            r_spec_nuRoot_L4 vn1 n lo2 hi9
          )
      )
    else
      (
        some lo2
      )
def r_spec_nuRoot (vn1 : Int) : Option Int :=
  (r_spec_nuRoot_L4 vn1 FU 0 1000000000).bind fun o5 =>
  some o5

def r_spec_nuSquare (vn1 : Int) : Option Bool :=
  bif (ltI vn1 0) then
    (
      some false
    )
  else
    (
      (r_spec_nuRoot vn1).bind fun y3 =>
      some (eqI (w64 (y3 * y3)) vn1)
    )

def r_spec_cyDisc (d1 : Int) : Option Bool :=
  (r_spec_l1In d1 5 1000).bind fun y2 =>
  (bif y2 then ((r_spec_nuMod d1 4).bind fun y4 => some (ltI y4 2)) else some false).bind fun b5 =>
  (bif b5 then ((r_spec_nuSquare d1).bind fun y7 => some (!y7)) else some false).bind fun b8 =>
  some b8

def r_spec_l1Cur_goodPositive (c1 : ((List Int) × Int × Int)) : Option (Int × (((List Int) × Int × Int))) :=
  (r_spec_l1Cur_positive c1).bind fun y2 =>
  (r_spec_cyDisc y2.1).bind fun y3 =>
  bif (!y3) then
    (
      some ((136, y2.2))
    )
  else
    (
      some ((y2.1, y2.2))
    )

def r_spec_foDisc (f1 : (Int × Int × Int)) : Option Int :=
  sI (w64 ((w64 (f1.2.1 * f1.2.1)) - (w64 ((w64 (4 * f1.1)) * f1.2.2)))) fun t2 =>
  some t2

def r_spec_l1Most (a1 : Int) (b2 : Int) : Option Int :=
  bif (ltI b2 a1) then
    (
      some a1
    )
  else
    (
      some b2
    )

def r_spec_l1Abs (vn1 : Int) : Option Int :=
  (r_spec_l1Most vn1 (w64 (0 - vn1))).bind fun y2 =>
  some y2

def r_spec_cyIs (f1 : (Int × Int × Int)) : Option Bool :=
  (r_spec_foDisc f1).bind fun y2 =>
  (r_spec_nuRoot y2).bind fun y3 =>
  (r_spec_l1Abs f1.1).bind fun y4 =>
  sI (w64 (2 * y4)) fun a5 =>
  (some (bif (bif (bif (ltI 0 f1.2.1) then (leI f1.2.1 y3) else false) then (ltI (w64 (y3 - f1.2.1)) a5) else false) then (leI a5 (w64 (y3 + f1.2.1))) else false)).bind fun t9 =>
  some t9

def r_spec_nuGcd_L7 : Nat → Int → Int → Option Int
  | 0, _, _ => none
  | n + 1, a5, b6 =>
    bif (!eqI b6 0) then
      (
        (nz b6).bind fun z10 =>
        sI (Int.tmod a5 b6) fun b11 =>
        r_spec_nuGcd_L7 n b6 b11
      )
    else
      (
        some a5
      )
def r_spec_nuGcd (a1 : Int) (b2 : Int) : Option Int :=
  (r_spec_l1Abs a1).bind fun y3 =>
  (r_spec_l1Abs b2).bind fun y4 =>
  (r_spec_nuGcd_L7 FU y3 y4).bind fun o8 =>
  some o8

def r_spec_foContent (f1 : (Int × Int × Int)) : Option Int :=
  (r_spec_nuGcd f1.1 f1.2.1).bind fun y2 =>
  (r_spec_nuGcd y2 f1.2.2).bind fun y3 =>
  some y3

def r_spec_cyAll_L11 (a4 : Int) (d1 : Int) (y2 : Int) : Nat → Int → List ((Int × Int × Int)) → Option (List ((Int × Int × Int)))
  | 0, _, _ => none
  | n + 1, b9, l10 =>
    bif (leI b9 y2) then
      (
        (bif (eqI a4 0) then some true else ((nz (w64 (4 * a4))).bind fun z15 => some (!eqI (Int.tmod (w64 ((w64 (b9 * b9)) - d1)) (w64 (4 * a4))) 0))).bind fun b16 =>
        bif b16 then
          (
            sI (w64 (b9 + 1)) fun b18 =>
            r_spec_cyAll_L11 a4 d1 y2 n b18 l10
          )
        else
          (
            (nz (w64 (4 * a4))).bind fun z19 =>
            sI (w64 (Int.tdiv (w64 ((w64 (b9 * b9)) - d1)) (w64 (4 * a4)))) fun f20 =>
            (r_spec_cyIs ((a4, b9, f20))).bind fun y21 =>
            (bif y21 then ((r_spec_foContent ((a4, b9, f20))).bind fun y23 => some (eqI y23 1)) else some false).bind fun b24 =>
            bif b24 then
              (
                (room (l10.length + ([(a4, b9, f20)]).length)).bind fun u26 =>
                sI (w64 (b9 + 1)) fun b27 =>
                r_spec_cyAll_L11 a4 d1 y2 n b27 (l10 ++ ([(a4, b9, f20)]))
              )
            else
              (
                sI (w64 (b9 + 1)) fun b28 =>
                r_spec_cyAll_L11 a4 d1 y2 n b28 l10
              )
          )
      )
    else
      (
        some l10
      )
def r_spec_cyAll_L6 (d1 : Int) (y2 : Int) : Nat → Int → List ((Int × Int × Int)) → Option (List ((Int × Int × Int)))
  | 0, _, _ => none
  | n + 1, a4, l5 =>
    bif (leI a4 y2) then
      (
        (r_spec_cyAll_L11 a4 d1 y2 FU 1 l5).bind fun o12 =>
        sI (w64 (a4 + 1)) fun a29 =>
        r_spec_cyAll_L6 d1 y2 n a29 o12
      )
    else
      (
        some l5
      )
def r_spec_cyAll (d1 : Int) : Option (List ((Int × Int × Int))) :=
  (r_spec_nuRoot d1).bind fun y2 =>
  sI (w64 (0 - y2)) fun a3 =>
  (r_spec_cyAll_L6 d1 y2 FU a3 (([] : List ((Int × Int × Int))))).bind fun o7 =>
  some o7

def r_spec_l1Cur_cyclic (c1 : ((List Int) × Int × Int)) (d2 : Int) : Option (((Int × Int × Int)) × (((List Int) × Int × Int))) :=
  (r_spec_cyAll d2).bind fun y3 =>
  (r_spec_l1Cur_pick c1 ((y3.length : Int))).bind fun y4 =>
  (getI y3 y4.1).bind fun e5 =>
  (getI y3 y4.1).bind fun e6 =>
  some ((e6, y4.2))

def r_spec_foMul (vm1 : (Int × Int × Int × Int)) (vn2 : (Int × Int × Int × Int)) : Option (Int × Int × Int × Int) :=
  sI (w64 ((w64 (vm1.1 * vn2.1)) + (w64 (vm1.2.1 * vn2.2.2.1)))) fun f3 =>
  sI (w64 ((w64 (vm1.1 * vn2.2.1)) + (w64 (vm1.2.1 * vn2.2.2.2)))) fun f4 =>
  sI (w64 ((w64 (vm1.2.2.1 * vn2.1)) + (w64 (vm1.2.2.2 * vn2.2.2.1)))) fun f5 =>
  sI (w64 ((w64 (vm1.2.2.1 * vn2.2.1)) + (w64 (vm1.2.2.2 * vn2.2.2.2)))) fun f6 =>
  some ((f3, f4, f5, f6))

def r_spec_l1Cur_proper_L11 : Nat → Int → Int → Int → Int → Int → List Int → Int → Int → Option (Int × Int × Int × Int × (List Int) × Int × Int)
  | 0, _, _, _, _, _, _, _, _ => none
  | n + 1, k3, f4, f5, f6, f7, f8, f9, f10 =>
    bif (ltI 0 k3) then
      (
        (r_spec_l1Cur_pick ((f8, f9, f10)) 9).bind fun y14 =>
        sI (w64 (y14.1 - 4)) fun t15 =>
        (r_spec_l1Cur_pick y14.2 3).bind fun y16 =>
        bif (eqI y16.1 0) then
          (
            (r_spec_foMul ((f4, f5, f6, f7)) ((1, t15, 0, 1))).bind fun y18 =>
            sI (w64 (k3 - 1)) fun k19 =>
            r_spec_l1Cur_proper_L11 n k19 y18.1 y18.2.1 y18.2.2.1 y18.2.2.2 y16.2.1 y16.2.2.1 y16.2.2.2
          )
        else
          (
            bif (eqI y16.1 1) then
              (
                (r_spec_foMul ((f4, f5, f6, f7)) ((1, 0, t15, 1))).bind fun y21 =>
                sI (w64 (k3 - 1)) fun k22 =>
                r_spec_l1Cur_proper_L11 n k22 y21.1 y21.2.1 y21.2.2.1 y21.2.2.2 y16.2.1 y16.2.2.1 y16.2.2.2
              )
            else
              (
                (r_spec_foMul ((f4, f5, f6, f7)) ((0, -1, 1, 0))).bind fun y23 =>
                sI (w64 (k3 - 1)) fun k24 =>
                r_spec_l1Cur_proper_L11 n k24 y23.1 y23.2.1 y23.2.2.1 y23.2.2.2 y16.2.1 y16.2.2.1 y16.2.2.2
              )
          )
      )
    else
      (
        some (f4, f5, f6, f7, f8, f9, f10)
      )
def r_spec_l1Cur_proper (c1 : ((List Int) × Int × Int)) : Option (((Int × Int × Int × Int)) × (((List Int) × Int × Int))) :=
  (r_spec_l1Cur_pick c1 6).bind fun y2 =>
  (r_spec_l1Cur_proper_L11 FU y2.1 1 0 0 1 y2.2.1 y2.2.2.1 y2.2.2.2).bind fun o12 =>
  some (((o12.1, o12.2.1, o12.2.2.1, o12.2.2.2.1), o12.2.2.2.2))

def r_spec_foValue (f1 : (Int × Int × Int)) (x2 : Int) (y3 : Int) : Option Int :=
  sI (w64 ((w64 ((w64 ((w64 (f1.1 * x2)) * x2)) + (w64 ((w64 (f1.2.1 * x2)) * y3)))) + (w64 ((w64 (f1.2.2 * y3)) * y3)))) fun t4 =>
  some t4

def r_spec_foPolar (f1 : (Int × Int × Int)) (x2 : Int) (y3 : Int) (u4 : Int) (v5 : Int) : Option Int :=
  sI (w64 ((w64 ((w64 ((w64 ((w64 (2 * f1.1)) * x2)) * u4)) + (w64 (f1.2.1 * (w64 ((w64 (x2 * v5)) + (w64 (y3 * u4)))))))) + (w64 ((w64 ((w64 (2 * f1.2.2)) * y3)) * v5)))) fun t6 =>
  some t6

def r_spec_foAct (f1 : (Int × Int × Int)) (vm2 : (Int × Int × Int × Int)) : Option (Int × Int × Int) :=
  (r_spec_foValue f1 vm2.1 vm2.2.2.1).bind fun y3 =>
  (r_spec_foPolar f1 vm2.1 vm2.2.2.1 vm2.2.1 vm2.2.2.2).bind fun y4 =>
  (r_spec_foValue f1 vm2.2.1 vm2.2.2.2).bind fun y5 =>
  some ((y3, y4, y5))

def r_spec_nuGood (vn1 : Int) : Option Bool :=
  (r_spec_l1In vn1 (-1000000) 1000000).bind fun y2 =>
  some y2

def r_spec_foGood (f1 : (Int × Int × Int)) : Option Bool :=
  (r_spec_nuGood f1.1).bind fun y2 =>
  (bif y2 then ((r_spec_nuGood f1.2.1).bind fun y4 => some y4) else some false).bind fun b5 =>
  (bif b5 then ((r_spec_nuGood f1.2.2).bind fun y7 => some y7) else some false).bind fun b8 =>
  some b8

def r_spec_l1Cur_moved (c1 : ((List Int) × Int × Int)) (f2 : (Int × Int × Int)) : Option (((Int × Int × Int)) × (((List Int) × Int × Int))) :=
  (r_spec_l1Cur_proper c1).bind fun y3 =>
  (r_spec_foAct f2 y3.1).bind fun y4 =>
  (r_spec_foGood y4).bind fun y5 =>
  bif (!y5) then
    (
      some ((f2, y3.2))
    )
  else
    (
      some ((y4, y3.2))
    )

def r_spec_l1Cur_indefinite (c1 : ((List Int) × Int × Int)) : Option (((Int × Int × Int)) × (((List Int) × Int × Int))) :=
  (r_spec_l1Cur_one c1 10).bind fun y2 =>
  bif y2.1 then
    (
      (r_spec_l1Cur_form y2.2).bind fun y4 =>
      some ((y4.1, y4.2))
    )
  else
    (
      (r_spec_l1Cur_goodPositive y2.2).bind fun y5 =>
      (r_spec_l1Cur_cyclic y5.2 y5.1).bind fun y6 =>
      (
        (r_spec_l1Cur_one y6.2 8).bind fun y8 =>
        (bif y8.1 then ((r_spec_foDisc y6.1).bind fun y10 => some (ltI y10 100)) else some false).bind fun b11 =>
        bif b11 then
          (
            sI (w64 (3 * y6.1.1)) fun f13 =>
            sI (w64 (3 * y6.1.2.1)) fun f14 =>
            sI (w64 (3 * y6.1.2.2)) fun f15 =>
            some (f13, f14, f15, y8.2.1, y8.2.2.1, y8.2.2.2)
          )
        else
          (
            some (y6.1.1, y6.1.2.1, y6.1.2.2, y8.2.1, y8.2.2.1, y8.2.2.2)
          )
      ).bind fun j7 =>
      (r_spec_l1Cur_one j7.2.2.2 5).bind fun y16 =>
      bif y16.1 then
        (
          some (((j7.1, j7.2.1, j7.2.2.1), y16.2))
        )
      else
        (
          (r_spec_l1Cur_moved y16.2 ((j7.1, j7.2.1, j7.2.2.1))).bind fun y18 =>
          some ((y18.1, y18.2))
        )
    )

def r_spec_cyGood (f1 : (Int × Int × Int)) : Option Bool :=
  (r_spec_foGood f1).bind fun y2 =>
  (bif y2 then ((r_spec_foDisc f1).bind fun y4 => (r_spec_cyDisc y4).bind fun y5 => some y5) else some false).bind fun b6 =>
  some b6

def r_spec_DrawIndefinitePoints (code1 : List Int) : Option (((Int × Int × Int)) × Int) :=
  (r_spec_l1Cur_indefinite ((code1, 0, 0))).bind fun y2 =>
  (r_spec_l1Cur_pick y2.2 100).bind fun y3 =>
  (r_spec_l1Cur_among y3.2 ([1, -1, 2, -2, 200, -200, 201, 0, w64 (y3.1 - 50)])).bind fun y4 =>
  (r_spec_cyGood y2.1).bind fun y5 =>
  (bif y5 then ((r_spec_l1Cur_one y4.2 2).bind fun y7 => some (y7.1, y7.2)) else some (false, y4.2)).bind fun b8 =>
  bif b8.1 then
    (
      (r_spec_l1Cur_pick b8.2 7).bind fun y10 =>
      (r_spec_l1Cur_pick y10.2 7).bind fun y11 =>
      (r_spec_foValue y2.1 (w64 (y10.1 - 3)) (w64 (y11.1 - 3))).bind fun y12 =>
      some ((y2.1, y12))
    )
  else
    (
      some ((y2.1, y4.1))
    )

def r_impl_areNumbers_L3 (list1 : List Int) : Nat → Int → Option (Unit ⊕ Bool)
  | 0, _ => none
  | n + 1, t2 =>
    bif (ltI t2 ((list1.length : Int))) then
      (
        (getI list1 t2).bind fun e6 =>
        bif (bif (ltI e6 (-1000000)) then true else (ltI 1000000 e6)) then
          (
            some (.inr false)
          )
        else
          (
            sI (w64 (t2 + 1)) fun t9 =>
            r_impl_areNumbers_L3 list1 n t9
          )
      )
    else
      (
        some (.inl ())
      )
def r_impl_areNumbers (list1 : List Int) : Option Bool :=
  (r_impl_areNumbers_L3 list1 FU 0).bind fun qo4 =>
  match qo4 with
  | .inr r => some r
  | .inl o4 =>
    some true

def r_impl_IsForm (f1 : (Int × Int × Int)) : Option Bool :=
  (r_impl_areNumbers ([f1.1, f1.2.1, f1.2.2])).bind fun y2 =>
  some y2

def r_impl_Form_disc (f1 : (Int × Int × Int)) : Option Int :=
  sI (w64 ((w64 (f1.2.1 * f1.2.1)) - (w64 ((w64 (4 * f1.1)) * f1.2.2)))) fun t2 =>
  some t2

def r_impl_mod (a1 : Int) (vm2 : Int) : Option Int :=
  (nz vm2).bind fun z3 =>
  sI (Int.tmod a1 vm2) fun vr4 =>
  bif (ltI vr4 0) then
    (
      sI (w64 (vr4 + vm2)) fun vr6 =>
      some vr6
    )
  else
    (
      some vr4
    )

def r_impl_root_L4 (vn1 : Int) : Nat → Int → Int → Option Int
  | 0, _, _ => none
  | n + 1, low2, high3 =>
    bif (ltI low2 high3) then
      (
        sI (w64 (Int.tdiv (w64 ((w64 (low2 + high3)) + 1)) 2)) fun vm7 =>
        bif (leI (w64 (vm7 * vm7)) vn1) then
          (
            r_impl_root_L4 vn1 n vm7 high3
          )
        else
          (
            sI (w64 (vm7 - 1)) fun high9 =>
            r_impl_root_L4 vn1 n low2 high9
          )
      )
    else
      (
        some low2
      )
def r_impl_root (vn1 : Int) : Option Int :=
  (r_impl_root_L4 vn1 FU 0 3000000000).bind fun o5 =>
  some o5

def r_impl_isSquare (vn1 : Int) : Option Bool :=
  (bif (leI 0 vn1) then ((r_impl_root vn1).bind fun y3 => (r_impl_root vn1).bind fun y4 => some (eqI (w64 (y3 * y4)) vn1)) else some false).bind fun b5 =>
  some b5

def r_impl_isPositiveDisc (d1 : Int) : Option Bool :=
  (bif (bif (leI 5 d1) then (leI d1 1000) else false) then ((r_impl_mod d1 4).bind fun y4 => some (leI y4 1)) else some false).bind fun b5 =>
  (bif b5 then ((r_impl_isSquare d1).bind fun y7 => some (!y7)) else some false).bind fun b8 =>
  some b8

def r_impl_isIndefinite (f1 : (Int × Int × Int)) : Option Bool :=
  (r_impl_IsForm f1).bind fun y2 =>
  (bif y2 then ((r_impl_Form_disc f1).bind fun y4 => (r_impl_isPositiveDisc y4).bind fun y5 => some y5) else some false).bind fun b6 =>
  some b6

def r_impl_abs (vn1 : Int) : Option Int :=
  sI (mxI vn1 (w64 (0 - (mxI vn1 (-9223372036854775807))))) fun t2 =>
  some t2

def r_impl_gcd_L5 : Nat → Int → Int → Option Int
  | 0, _, _ => none
  | n + 1, a3, b4 =>
    bif (!eqI b4 0) then
      (
        (nz b4).bind fun z8 =>
        sI (Int.tmod a3 b4) fun b9 =>
        r_impl_gcd_L5 n b4 b9
      )
    else
      (
        some a3
      )
def r_impl_gcd (a1 : Int) (b2 : Int) : Option Int :=
  (r_impl_gcd_L5 FU a1 b2).bind fun o6 =>
  (r_impl_abs o6).bind fun y10 =>
  some y10

def r_impl_Form_content (f1 : (Int × Int × Int)) : Option Int :=
  (r_impl_gcd f1.2.1 f1.2.2).bind fun y2 =>
  (r_impl_gcd f1.1 y2).bind fun y3 =>
  some y3

def r_impl_isPrimitiveIndefinite (f1 : (Int × Int × Int)) : Option Bool :=
  (r_impl_isIndefinite f1).bind fun y2 =>
  (bif y2 then ((r_impl_Form_content f1).bind fun y4 => some (eqI y4 1)) else some false).bind fun b5 =>
  some b5

def r_impl_rootsOfDiscriminant_L5 (d1 : Int) (vn2 : Int) : Nat → Int → List Int → Option (List Int)
  | 0, _, _ => none
  | n + 1, b3, l4 =>
    bif (ltI b3 (w64 (2 * vn2))) then
      (
        (nz (w64 (4 * vn2))).bind fun z8 =>
        (some (eqI (Int.tmod (w64 ((w64 (b3 * b3)) - d1)) (w64 (4 * vn2))) 0)).bind fun t9 =>
        bif t9 then
          (
            (room (l4.length + ([b3]).length)).bind fun u11 =>
            sI (w64 (b3 + 1)) fun b12 =>
            r_impl_rootsOfDiscriminant_L5 d1 vn2 n b12 (l4 ++ ([b3]))
          )
        else
          (
            sI (w64 (b3 + 1)) fun b13 =>
            r_impl_rootsOfDiscriminant_L5 d1 vn2 n b13 l4
          )
      )
    else
      (
        some l4
      )
def r_impl_rootsOfDiscriminant (d1 : Int) (vn2 : Int) : Option (List Int) :=
  (r_impl_rootsOfDiscriminant_L5 d1 vn2 FU 0 (([] : List Int))).bind fun o6 =>
  some o6

def r_impl_one : Option (Int × Int × Int × Int) :=
  some ((1, 0, 0, 1))

def r_impl_Form_isCyclic (f1 : (Int × Int × Int)) : Option Bool :=
  (r_impl_Form_disc f1).bind fun y2 =>
  (r_impl_root y2).bind fun y3 =>
  (bif (bif (ltI 0 f1.2.1) then (leI f1.2.1 y3) else false) then ((r_impl_abs f1.1).bind fun y6 => some (ltI (w64 (y3 - f1.2.1)) (w64 (2 * y6)))) else some false).bind fun b7 =>
  (bif b7 then ((r_impl_abs f1.1).bind fun y9 => some (leI (w64 (2 * y9)) (w64 (y3 + f1.2.1)))) else some false).bind fun b10 =>
  some b10

def r_impl_Form_neighbour (f1 : (Int × Int × Int)) : Option (((Int × Int × Int)) × ((Int × Int × Int × Int))) :=
  (r_impl_Form_disc f1).bind fun y2 =>
  (r_impl_abs f1.2.2).bind fun y3 =>
  (
    (r_impl_root y2).bind fun y5 =>
    bif (leI y3 y5) then
      (
        some y5
      )
    else
      (
        some y3
      )
  ).bind fun j4 =>
  (r_impl_mod (w64 (j4 + f1.2.1)) (w64 (2 * y3))).bind fun y7 =>
  sI (w64 (j4 - y7)) fun b8 =>
  (nz (w64 (4 * f1.2.2))).bind fun z9 =>
  (nz (w64 (2 * f1.2.2))).bind fun z10 =>
  sI (w64 (Int.tdiv (w64 (f1.2.1 + b8)) (w64 (2 * f1.2.2)))) fun f11 =>
  sI (w64 (Int.tdiv (w64 ((w64 (b8 * b8)) - y2)) (w64 (4 * f1.2.2)))) fun f12 =>
  some (((f1.2.2, b8, f12), (0, -1, 1, f11)))

def r_impl_IsMatrix (vm1 : (Int × Int × Int × Int)) : Option Bool :=
  (r_impl_areNumbers ([vm1.1, vm1.2.1, vm1.2.2.1, vm1.2.2.2])).bind fun y2 =>
  some y2

def r_impl_NextForm (f1 : (Int × Int × Int)) : Option (((Int × Int × Int)) × ((Int × Int × Int × Int)) × Bool) :=
  (r_impl_isIndefinite f1).bind fun y2 =>
  bif (!y2) then
    (
      some (((0, 0, 0), (0, 0, 0, 0), false))
    )
  else
    (
      (r_impl_Form_neighbour f1).bind fun y4 =>
      (r_impl_IsForm y4.1).bind fun y5 =>
      (bif (!y5) then some true else ((r_impl_IsMatrix y4.2).bind fun y7 => some (!y7))).bind fun b8 =>
      bif b8 then
        (
          some (((0, 0, 0), (0, 0, 0, 0), false))
        )
      else
        (
          some ((y4.1, y4.2, true))
        )
    )

def r_impl_Matrix_times (vm1 : (Int × Int × Int × Int)) (vn2 : (Int × Int × Int × Int)) : Option (Int × Int × Int × Int) :=
  sI (w64 ((w64 (vm1.1 * vn2.1)) + (w64 (vm1.2.1 * vn2.2.2.1)))) fun f3 =>
  sI (w64 ((w64 (vm1.1 * vn2.2.1)) + (w64 (vm1.2.1 * vn2.2.2.2)))) fun f4 =>
  sI (w64 ((w64 (vm1.2.2.1 * vn2.1)) + (w64 (vm1.2.2.2 * vn2.2.2.1)))) fun f5 =>
  sI (w64 ((w64 (vm1.2.2.1 * vn2.2.1)) + (w64 (vm1.2.2.2 * vn2.2.2.2)))) fun f6 =>
  some ((f3, f4, f5, f6))

def r_impl_checked (vm1 : (Int × Int × Int × Int)) : Option (((Int × Int × Int × Int)) × Bool) :=
  (r_impl_IsMatrix vm1).bind fun y2 =>
  bif (!y2) then
    (
      some (((0, 0, 0, 0), false))
    )
  else
    (
      some ((vm1, true))
    )

def r_impl_Form_toCycle_L10 : Nat → Int → Int → Int → Int → Int → Int → Int → Option ((Int × Int × Int × Int × Int × Int × Int) ⊕ (((Int × Int × Int)) × ((Int × Int × Int × Int)) × Bool))
  | 0, _, _, _, _, _, _, _ => none
  | n + 1, f3, f4, f5, f6, f7, f8, f9 =>
    (r_impl_Form_isCyclic ((f7, f8, f9))).bind fun y12 =>
    bif (!y12) then
      (
        (r_impl_NextForm ((f7, f8, f9))).bind fun y14 =>
        bif (!y14.2.2) then
          (
            some (.inr ((((0, 0, 0), (0, 0, 0, 0), false))))
          )
        else
          (
            (r_impl_Matrix_times ((f3, f4, f5, f6)) y14.2.1).bind fun y16 =>
            (r_impl_checked y16).bind fun y17 =>
            bif (!y17.2) then
              (
                some (.inr ((((0, 0, 0), (0, 0, 0, 0), false))))
              )
            else
              (
                r_impl_Form_toCycle_L10 n y17.1.1 y17.1.2.1 y17.1.2.2.1 y17.1.2.2.2 y14.1.1 y14.1.2.1 y14.1.2.2
              )
          )
      )
    else
      (
        some (.inl (f3, f4, f5, f6, f7, f8, f9))
      )
def r_impl_Form_toCycle (f1 : (Int × Int × Int)) : Option (((Int × Int × Int)) × ((Int × Int × Int × Int)) × Bool) :=
  (r_impl_one).bind fun y2 =>
  (r_impl_Form_toCycle_L10 FU y2.1 y2.2.1 y2.2.2.1 y2.2.2.2 f1.1 f1.2.1 f1.2.2).bind fun qo11 =>
  match qo11 with
  | .inr r => some r
  | .inl o11 =>
    some ((o11.2.2.2.2, (o11.1, o11.2.1, o11.2.2.1, o11.2.2.2.1), true))

def r_impl_ReduceIndefinite (f1 : (Int × Int × Int)) : Option (((Int × Int × Int)) × ((Int × Int × Int × Int)) × Bool) :=
  (r_impl_isIndefinite f1).bind fun y2 =>
  bif (!y2) then
    (
      some (((0, 0, 0), (0, 0, 0, 0), false))
    )
  else
    (
      (r_impl_Form_toCycle f1).bind fun y4 =>
      some ((y4.1, y4.2.1, y4.2.2))
    )

def r_impl_Form_cycle_L7 (f1 : (Int × Int × Int)) (y2 : (((Int × Int × Int)) × ((Int × Int × Int × Int)))) : Nat → Int → Int → Int → List ((Int × Int × Int)) → Option (List ((Int × Int × Int)))
  | 0, _, _, _, _ => none
  | n + 1, f3, f4, f5, l6 =>
    bif (!((f3 == f1.1) && ((f4 == f1.2.1) && (f5 == f1.2.2)))) then
      (
        (room (l6.length + ([(f3, f4, f5)]).length)).bind fun u10 =>
        (r_impl_Form_neighbour ((f3, f4, f5))).bind fun y11 =>
        r_impl_Form_cycle_L7 f1 y2 n y11.1.1 y11.1.2.1 y11.1.2.2 (l6 ++ ([(f3, f4, f5)]))
      )
    else
      (
        some l6
      )
def r_impl_Form_cycle (f1 : (Int × Int × Int)) : Option (List ((Int × Int × Int))) :=
  (r_impl_Form_neighbour f1).bind fun y2 =>
  (r_impl_Form_cycle_L7 f1 y2 FU y2.1.1 y2.1.2.1 y2.1.2.2 ([f1])).bind fun o8 =>
  some o8

def r_impl_hasForm_L4 (f2 : (Int × Int × Int)) (list1 : List ((Int × Int × Int))) : Nat → Int → Option (Unit ⊕ Bool)
  | 0, _ => none
  | n + 1, t3 =>
    bif (ltI t3 ((list1.length : Int))) then
      (
        (getI list1 t3).bind fun e7 =>
        (some (((f2.1 == e7.1) && ((f2.2.1 == e7.2.1) && (f2.2.2 == e7.2.2))))).bind fun t8 =>
        bif t8 then
          (
            some (.inr true)
          )
        else
          (
            sI (w64 (t3 + 1)) fun t10 =>
            r_impl_hasForm_L4 f2 list1 n t10
          )
      )
    else
      (
        some (.inl ())
      )
def r_impl_hasForm (list1 : List ((Int × Int × Int))) (f2 : (Int × Int × Int)) : Option Bool :=
  (r_impl_hasForm_L4 f2 list1 FU 0).bind fun qo5 =>
  match qo5 with
  | .inr r => some r
  | .inl o5 =>
    some false

def r_impl_SameCycle (f1 : (Int × Int × Int)) (g2 : (Int × Int × Int)) : Option (Bool × Bool) :=
  (r_impl_ReduceIndefinite f1).bind fun y3 =>
  (r_impl_ReduceIndefinite g2).bind fun y4 =>
  bif (bif (!y3.2.2) then true else (!y4.2.2)) then
    (
      some ((false, false))
    )
  else
    (
      (r_impl_Form_cycle y3.1).bind fun y7 =>
      (r_impl_hasForm y7 y4.1).bind fun y8 =>
      some ((y8, true))
    )

def r_impl_Matrix_det (vm1 : (Int × Int × Int × Int)) : Option Int :=
  sI (w64 ((w64 (vm1.1 * vm1.2.2.2)) - (w64 (vm1.2.1 * vm1.2.2.1)))) fun t2 =>
  some t2

def r_impl_Matrix_inverse (vm1 : (Int × Int × Int × Int)) : Option (Int × Int × Int × Int) :=
  (r_impl_Matrix_det vm1).bind fun y2 =>
  sI (w64 (y2 * vm1.2.2.2)) fun f3 =>
  sI (w64 ((w64 (0 - y2)) * vm1.2.1)) fun f4 =>
  sI (w64 ((w64 (0 - y2)) * vm1.2.2.1)) fun f5 =>
  sI (w64 (y2 * vm1.1)) fun f6 =>
  some ((f3, f4, f5, f6))

def r_impl_CycleMatrix_L18 (y4 : (((Int × Int × Int)) × ((Int × Int × Int × Int)) × Bool)) : Nat → Int → Int → Int → Int → Int → Int → Int → Option ((Int × Int × Int × Int) ⊕ (((Int × Int × Int × Int)) × Bool))
  | 0, _, _, _, _, _, _, _ => none
  | n + 1, f11, f12, f13, f14, f15, f16, f17 =>
    (some (!((f15 == y4.1.1) && ((f16 == y4.1.2.1) && (f17 == y4.1.2.2))))).bind fun t20 =>
    bif t20 then
      (
        (r_impl_Form_neighbour ((f15, f16, f17))).bind fun y22 =>
        (r_impl_Matrix_times ((f11, f12, f13, f14)) y22.2).bind fun y23 =>
        (r_impl_IsMatrix y23).bind fun y24 =>
        bif (!y24) then
          (
            some (.inr ((((0, 0, 0, 0), false))))
          )
        else
          (
            r_impl_CycleMatrix_L18 y4 n y23.1 y23.2.1 y23.2.2.1 y23.2.2.2 y22.1.1 y22.1.2.1 y22.1.2.2
          )
      )
    else
      (
        some (.inl (f11, f12, f13, f14))
      )
def r_impl_CycleMatrix (f1 : (Int × Int × Int)) (g2 : (Int × Int × Int)) : Option (((Int × Int × Int × Int)) × Bool) :=
  (r_impl_ReduceIndefinite f1).bind fun y3 =>
  (r_impl_ReduceIndefinite g2).bind fun y4 =>
  (bif (bif (!y3.2.2) then true else (!y4.2.2)) then some true else ((r_impl_Form_cycle y3.1).bind fun y7 => (r_impl_hasForm y7 y4.1).bind fun y8 => some (!y8))).bind fun b9 =>
  bif b9 then
    (
      some (((0, 0, 0, 0), false))
    )
  else
    (
      (r_impl_CycleMatrix_L18 y4 FU y3.2.1.1 y3.2.1.2.1 y3.2.1.2.2.1 y3.2.1.2.2.2 y3.1.1 y3.1.2.1 y3.1.2.2).bind fun qo19 =>
      match qo19 with
      | .inr r => some r
      | .inl o19 =>
        (r_impl_Matrix_inverse y4.2.1).bind fun y26 =>
        (r_impl_Matrix_times o19 y26).bind fun y27 =>
        (r_impl_checked y27).bind fun y28 =>
        some ((y28.1, y28.2))
    )

def r_impl_IndefinitePoints_L14 (f1 : (Int × Int × Int)) (vn2 : Int) (y11 : List Int) (y9 : Int) : Nat → Int → List ((Int × Int)) → Option (List ((Int × Int)) ⊕ ((List ((Int × Int))) × Bool))
  | 0, _, _ => none
  | n + 1, t12, l13 =>
    bif (ltI t12 ((y11.length : Int))) then
      (
        (getI y11 t12).bind fun e17 =>
        (getI y11 t12).bind fun e18 =>
        (nz (w64 (4 * vn2))).bind fun z19 =>
        sI (w64 (Int.tdiv (w64 ((w64 (e18 * e18)) - y9)) (w64 (4 * vn2)))) fun f20 =>
        (r_impl_SameCycle f1 ((vn2, e18, f20))).bind fun y21 =>
        bif (!y21.2) then
          (
            some (.inr (((([] : List ((Int × Int))), false))))
          )
        else
          (
            bif (!y21.1) then
              (
                sI (w64 (t12 + 1)) fun t24 =>
                r_impl_IndefinitePoints_L14 f1 vn2 y11 y9 n t24 l13
              )
            else
              (
                (r_impl_CycleMatrix f1 ((vn2, e18, f20))).bind fun y25 =>
                bif (!y25.2) then
                  (
                    some (.inr (((([] : List ((Int × Int))), false))))
                  )
                else
                  (
                    (room (l13.length + ([(y25.1.1, y25.1.2.2.1)]).length)).bind fun u27 =>
                    sI (w64 (t12 + 1)) fun t28 =>
                    r_impl_IndefinitePoints_L14 f1 vn2 y11 y9 n t28 (l13 ++ ([(y25.1.1, y25.1.2.2.1)]))
                  )
              )
          )
      )
    else
      (
        some (.inl l13)
      )
def r_impl_IndefinitePoints (f1 : (Int × Int × Int)) (vn2 : Int) : Option ((List ((Int × Int))) × Bool) :=
  (r_impl_isPrimitiveIndefinite f1).bind fun y3 =>
  (bif (bif (!y3) then true else (eqI vn2 0)) then some true else ((r_impl_abs vn2).bind fun y6 => some (ltI 200 y6))).bind fun b7 =>
  bif b7 then
    (
      some ((([] : List ((Int × Int))), false))
    )
  else
    (
      (r_impl_Form_disc f1).bind fun y9 =>
      (r_impl_abs vn2).bind fun y10 =>
      (r_impl_rootsOfDiscriminant y9 y10).bind fun y11 =>
      (r_impl_IndefinitePoints_L14 f1 vn2 y11 y9 FU 0 (([] : List ((Int × Int))))).bind fun qo15 =>
      match qo15 with
      | .inr r => some r
      | .inl o15 =>
        some ((o15, true))
    )

def r_spec_unForm (f1 : (Int × Int × Int)) : Option Bool :=
  (r_spec_cyGood f1).bind fun y2 =>
  (bif y2 then ((r_spec_foContent f1).bind fun y4 => some (eqI y4 1)) else some false).bind fun b5 =>
  some b5

def r_spec_roDisc_L5 (d1 : Int) (vn2 : Int) : Nat → Int → List Int → Option (List Int)
  | 0, _, _ => none
  | n + 1, b3, l4 =>
    bif (ltI b3 (w64 (2 * vn2))) then
      (
        (nz (w64 (4 * vn2))).bind fun z8 =>
        (some (eqI (Int.tmod (w64 ((w64 (b3 * b3)) - d1)) (w64 (4 * vn2))) 0)).bind fun t9 =>
        bif t9 then
          (
            (room (l4.length + ([b3]).length)).bind fun u11 =>
            sI (w64 (b3 + 1)) fun b12 =>
            r_spec_roDisc_L5 d1 vn2 n b12 (l4 ++ ([b3]))
          )
        else
          (
            sI (w64 (b3 + 1)) fun b13 =>
            r_spec_roDisc_L5 d1 vn2 n b13 l4
          )
      )
    else
      (
        some l4
      )
def r_spec_roDisc (d1 : Int) (vn2 : Int) : Option (List Int) :=
  (r_spec_roDisc_L5 d1 vn2 FU 0 (([] : List Int))).bind fun o6 =>
  some o6

def r_spec_cyMove (f1 : (Int × Int × Int)) : Option (Int × Int × Int × Int) :=
  (r_spec_foDisc f1).bind fun y2 =>
  (r_spec_nuRoot y2).bind fun y3 =>
  (r_spec_l1Abs f1.2.2).bind fun y4 =>
  (
    bif (ltI y3 y4) then
      (
        some y4
      )
    else
      (
        some y3
      )
  ).bind fun j5 =>
  (r_spec_nuMod (w64 (j5 + f1.2.1)) (w64 (2 * y4))).bind fun y7 =>
  sI (w64 (j5 - y7)) fun b8 =>
  (nz (w64 (2 * f1.2.2))).bind fun z9 =>
  sI (w64 (Int.tdiv (w64 (f1.2.1 + b8)) (w64 (2 * f1.2.2)))) fun f10 =>
  some ((0, -1, 1, f10))

def r_spec_foMatrix (vm1 : (Int × Int × Int × Int)) : Option Bool :=
  (r_spec_nuGood vm1.1).bind fun y2 =>
  (bif y2 then ((r_spec_nuGood vm1.2.1).bind fun y4 => some y4) else some false).bind fun b5 =>
  (bif b5 then ((r_spec_nuGood vm1.2.2.1).bind fun y7 => some y7) else some false).bind fun b8 =>
  (bif b8 then ((r_spec_nuGood vm1.2.2.2).bind fun y10 => some y10) else some false).bind fun b11 =>
  some b11

def r_spec_NextForm (f1 : (Int × Int × Int)) : Option (((Int × Int × Int)) × ((Int × Int × Int × Int)) × Bool) :=
  (r_spec_cyGood f1).bind fun y2 =>
  bif (!y2) then
    (
      some (((0, 0, 0), (0, 0, 0, 0), false))
    )
  else
    (
      (r_spec_cyMove f1).bind fun y4 =>
      (r_spec_foAct f1 y4).bind fun y5 =>
      (r_spec_foGood y5).bind fun y6 =>
      (bif (!y6) then some true else ((r_spec_foMatrix y4).bind fun y8 => some (!y8))).bind fun b9 =>
      bif b9 then
        (
          some (((0, 0, 0), (0, 0, 0, 0), false))
        )
      else
        (
          some ((y5, y4, true))
        )
    )

def r_spec_cyReduce_L9 : Nat → Int → Int → Int → Int → Int → Int → Int → Option ((Int × Int × Int × Int × Int × Int × Int) ⊕ (((Int × Int × Int)) × ((Int × Int × Int × Int)) × Bool))
  | 0, _, _, _, _, _, _, _ => none
  | n + 1, f2, f3, f4, f5, f6, f7, f8 =>
    (r_spec_cyIs ((f6, f7, f8))).bind fun y11 =>
    bif (!y11) then
      (
        (r_spec_NextForm ((f6, f7, f8))).bind fun y13 =>
        bif (!y13.2.2) then
          (
            some (.inr ((((0, 0, 0), (0, 0, 0, 0), false))))
          )
        else
          (
            (r_spec_foMul ((f2, f3, f4, f5)) y13.2.1).bind fun y15 =>
            (r_spec_foMatrix y15).bind fun y16 =>
            bif (!y16) then
              (
                some (.inr ((((0, 0, 0), (0, 0, 0, 0), false))))
              )
            else
              (
                r_spec_cyReduce_L9 n y15.1 y15.2.1 y15.2.2.1 y15.2.2.2 y13.1.1 y13.1.2.1 y13.1.2.2
              )
          )
      )
    else
      (
        some (.inl (f2, f3, f4, f5, f6, f7, f8))
      )
def r_spec_cyReduce (f1 : (Int × Int × Int)) : Option (((Int × Int × Int)) × ((Int × Int × Int × Int)) × Bool) :=
  (r_spec_cyReduce_L9 FU 1 0 0 1 f1.1 f1.2.1 f1.2.2).bind fun qo10 =>
  match qo10 with
  | .inr r => some r
  | .inl o10 =>
    some ((o10.2.2.2.2, (o10.1, o10.2.1, o10.2.2.1, o10.2.2.2.1), true))

def r_spec_cyCycle_L8 (f1 : (Int × Int × Int)) : Nat → Int → Int → Int → List ((Int × Int × Int)) → Option (List ((Int × Int × Int)))
  | 0, _, _, _, _ => none
  | n + 1, f4, f5, f6, l7 =>
    bif (!((f4 == f1.1) && ((f5 == f1.2.1) && (f6 == f1.2.2)))) then
      (
        (room (l7.length + ([(f4, f5, f6)]).length)).bind fun u11 =>
        (r_spec_cyMove ((f4, f5, f6))).bind fun y12 =>
        (r_spec_foAct ((f4, f5, f6)) y12).bind fun y13 =>
        r_spec_cyCycle_L8 f1 n y13.1 y13.2.1 y13.2.2 (l7 ++ ([(f4, f5, f6)]))
      )
    else
      (
        some l7
      )
def r_spec_cyCycle (f1 : (Int × Int × Int)) : Option (List ((Int × Int × Int))) :=
  (r_spec_cyMove f1).bind fun y2 =>
  (r_spec_foAct f1 y2).bind fun y3 =>
  (r_spec_cyCycle_L8 f1 FU y3.1 y3.2.1 y3.2.2 ([f1])).bind fun o9 =>
  some o9

def r_spec_cyHas_L4 (f2 : (Int × Int × Int)) (l1 : List ((Int × Int × Int))) : Nat → Int → Option (Unit ⊕ Bool)
  | 0, _ => none
  | n + 1, t3 =>
    bif (ltI t3 ((l1.length : Int))) then
      (
        (getI l1 t3).bind fun e7 =>
        (some (((e7.1 == f2.1) && ((e7.2.1 == f2.2.1) && (e7.2.2 == f2.2.2))))).bind fun t8 =>
        bif t8 then
          (
            some (.inr true)
          )
        else
          (
            sI (w64 (t3 + 1)) fun t10 =>
            r_spec_cyHas_L4 f2 l1 n t10
          )
      )
    else
      (
        some (.inl ())
      )
def r_spec_cyHas (l1 : List ((Int × Int × Int))) (f2 : (Int × Int × Int)) : Option Bool :=
  (r_spec_cyHas_L4 f2 l1 FU 0).bind fun qo5 =>
  match qo5 with
  | .inr r => some r
  | .inl o5 =>
    some false

def r_spec_SameCycle (f1 : (Int × Int × Int)) (g2 : (Int × Int × Int)) : Option (Bool × Bool) :=
  (r_spec_cyGood f1).bind fun y3 =>
  (bif (!y3) then some true else ((r_spec_cyGood g2).bind fun y5 => some (!y5))).bind fun b6 =>
  bif b6 then
    (
      some ((false, false))
    )
  else
    (
      (r_spec_cyReduce f1).bind fun y8 =>
      (r_spec_cyReduce g2).bind fun y9 =>
      bif (bif (!y8.2.2) then true else (!y9.2.2)) then
        (
          some ((false, false))
        )
      else
        (
          (r_spec_foDisc f1).bind fun y12 =>
          (r_spec_foDisc g2).bind fun y13 =>
          (bif (eqI y12 y13) then ((r_spec_cyCycle y8.1).bind fun y15 => (r_spec_cyHas y15 y9.1).bind fun y16 => some y16) else some false).bind fun b17 =>
          some ((b17, true))
        )
    )

def r_spec_foDet (vm1 : (Int × Int × Int × Int)) : Option Int :=
  sI (w64 ((w64 (vm1.1 * vm1.2.2.2)) - (w64 (vm1.2.1 * vm1.2.2.1)))) fun t2 =>
  some t2

def r_spec_foInverse (vm1 : (Int × Int × Int × Int)) : Option (Int × Int × Int × Int) :=
  (r_spec_foDet vm1).bind fun y2 =>
  sI (w64 (y2 * vm1.2.2.2)) fun f3 =>
  sI (w64 ((w64 (0 - y2)) * vm1.2.1)) fun f4 =>
  sI (w64 ((w64 (0 - y2)) * vm1.2.2.1)) fun f5 =>
  sI (w64 (y2 * vm1.1)) fun f6 =>
  some ((f3, f4, f5, f6))

def r_spec_CycleMatrix_L27 (y13 : (((Int × Int × Int)) × ((Int × Int × Int × Int)) × Bool)) : Nat → Int → Int → Int → Int → Int → Int → Int → Option ((Int × Int × Int × Int) ⊕ (((Int × Int × Int × Int)) × Bool))
  | 0, _, _, _, _, _, _, _ => none
  | n + 1, f20, f21, f22, f23, f24, f25, f26 =>
    (some (!((f24 == y13.1.1) && ((f25 == y13.1.2.1) && (f26 == y13.1.2.2))))).bind fun t29 =>
    bif t29 then
      (
        (r_spec_cyMove ((f24, f25, f26))).bind fun y31 =>
        (r_spec_foAct ((f24, f25, f26)) y31).bind fun y32 =>
        (r_spec_foMul ((f20, f21, f22, f23)) y31).bind fun y33 =>
        (r_spec_foMatrix y33).bind fun y34 =>
        bif (!y34) then
          (
            some (.inr ((((0, 0, 0, 0), false))))
          )
        else
          (
            r_spec_CycleMatrix_L27 y13 n y33.1 y33.2.1 y33.2.2.1 y33.2.2.2 y32.1 y32.2.1 y32.2.2
          )
      )
    else
      (
        some (.inl (f20, f21, f22, f23))
      )
def r_spec_CycleMatrix (f1 : (Int × Int × Int)) (g2 : (Int × Int × Int)) : Option (((Int × Int × Int × Int)) × Bool) :=
  (r_spec_cyGood f1).bind fun y3 =>
  (bif (!y3) then some true else ((r_spec_cyGood g2).bind fun y5 => some (!y5))).bind fun b6 =>
  (bif b6 then some true else ((r_spec_foDisc f1).bind fun y8 => (r_spec_foDisc g2).bind fun y9 => some (!eqI y8 y9))).bind fun b10 =>
  bif b10 then
    (
      some (((0, 0, 0, 0), false))
    )
  else
    (
      (r_spec_cyReduce f1).bind fun y12 =>
      (r_spec_cyReduce g2).bind fun y13 =>
      (bif (bif (!y12.2.2) then true else (!y13.2.2)) then some true else ((r_spec_cyCycle y12.1).bind fun y16 => (r_spec_cyHas y16 y13.1).bind fun y17 => some (!y17))).bind fun b18 =>
      bif b18 then
        (
          some (((0, 0, 0, 0), false))
        )
      else
        (
          (r_spec_CycleMatrix_L27 y13 FU y12.2.1.1 y12.2.1.2.1 y12.2.1.2.2.1 y12.2.1.2.2.2 y12.1.1 y12.1.2.1 y12.1.2.2).bind fun qo28 =>
          match qo28 with
          | .inr r => some r
          | .inl o28 =>
            (r_spec_foInverse y13.2.1).bind fun y36 =>
            (r_spec_foMul o28 y36).bind fun y37 =>
            (r_spec_foMatrix y37).bind fun y38 =>
            bif (!y38) then
              (
                some (((0, 0, 0, 0), false))
              )
            else
              (
                some ((y37, true))
              )
        )
    )

def r_spec_IndefinitePoints_L14 (f1 : (Int × Int × Int)) (vn2 : Int) (y11 : List Int) (y9 : Int) : Nat → Int → List ((Int × Int)) → Option (List ((Int × Int)) ⊕ ((List ((Int × Int))) × Bool))
  | 0, _, _ => none
  | n + 1, t12, l13 =>
    bif (ltI t12 ((y11.length : Int))) then
      (
        (getI y11 t12).bind fun e17 =>
        (getI y11 t12).bind fun e18 =>
        (nz (w64 (4 * vn2))).bind fun z19 =>
        sI (w64 (Int.tdiv (w64 ((w64 (e18 * e18)) - y9)) (w64 (4 * vn2)))) fun f20 =>
        (r_spec_SameCycle f1 ((vn2, e18, f20))).bind fun y21 =>
        bif (!y21.2) then
          (
            some (.inr (((([] : List ((Int × Int))), false))))
          )
        else
          (
            bif (!y21.1) then
              (
                sI (w64 (t12 + 1)) fun t24 =>
                r_spec_IndefinitePoints_L14 f1 vn2 y11 y9 n t24 l13
              )
            else
              (
                (r_spec_CycleMatrix f1 ((vn2, e18, f20))).bind fun y25 =>
                bif (!y25.2) then
                  (
                    some (.inr (((([] : List ((Int × Int))), false))))
                  )
                else
                  (
                    (room (l13.length + ([(y25.1.1, y25.1.2.2.1)]).length)).bind fun u27 =>
                    sI (w64 (t12 + 1)) fun t28 =>
                    r_spec_IndefinitePoints_L14 f1 vn2 y11 y9 n t28 (l13 ++ ([(y25.1.1, y25.1.2.2.1)]))
                  )
              )
          )
      )
    else
      (
        some (.inl l13)
      )
def r_spec_IndefinitePoints (f1 : (Int × Int × Int)) (vn2 : Int) : Option ((List ((Int × Int))) × Bool) :=
  (r_spec_unForm f1).bind fun y3 =>
  (bif (bif (!y3) then true else (eqI vn2 0)) then some true else ((r_spec_l1In vn2 (-200) 200).bind fun y6 => some (!y6))).bind fun b7 =>
  bif b7 then
    (
      some ((([] : List ((Int × Int))), false))
    )
  else
    (
      (r_spec_foDisc f1).bind fun y9 =>
      (r_spec_l1Abs vn2).bind fun y10 =>
      (r_spec_roDisc y9 y10).bind fun y11 =>
      (r_spec_IndefinitePoints_L14 f1 vn2 y11 y9 FU 0 (([] : List ((Int × Int))))).bind fun qo15 =>
      match qo15 with
      | .inr r => some r
      | .inl o15 =>
        some ((o15, true))
    )

def r_laws_qPoints_L5 (a1 : List ((Int × Int))) (b2 : List ((Int × Int))) : Nat → Int → Option (Unit ⊕ Bool)
  | 0, _ => none
  | n + 1, t4 =>
    bif (ltI t4 ((a1.length : Int))) then
      (
        (getI a1 t4).bind fun e8 =>
        (getI b2 t4).bind fun e9 =>
        bif (!((e8.1 == e9.1) && (e8.2 == e9.2))) then
          (
            some (.inr false)
          )
        else
          (
            sI (w64 (t4 + 1)) fun t11 =>
            r_laws_qPoints_L5 a1 b2 n t11
          )
      )
    else
      (
        some (.inl ())
      )
def r_laws_qPoints (a1 : List ((Int × Int))) (b2 : List ((Int × Int))) : Option Bool :=
  bif (!eqI ((a1.length : Int)) ((b2.length : Int))) then
    (
      some false
    )
  else
    (
      (r_laws_qPoints_L5 a1 b2 FU 0).bind fun qo6 =>
      match qo6 with
      | .inr r => some r
      | .inl o6 =>
        some true
    )

def r_impl_Form_at (f1 : (Int × Int × Int)) (x2 : Int) (y3 : Int) : Option Int :=
  sI (w64 ((w64 ((w64 ((w64 (f1.1 * x2)) * x2)) + (w64 ((w64 (f1.2.1 * x2)) * y3)))) + (w64 ((w64 (f1.2.2 * y3)) * y3)))) fun t4 =>
  some t4

def r_impl_ValueAt (f1 : (Int × Int × Int)) (x2 : Int) (y3 : Int) : Option (Int × Bool) :=
  (r_impl_IsForm f1).bind fun y4 =>
  (bif (!y4) then some true else ((r_impl_areNumbers ([x2, y3])).bind fun y6 => some (!y6))).bind fun b7 =>
  bif b7 then
    (
      some ((0, false))
    )
  else
    (
      (r_impl_Form_at f1 x2 y3).bind fun y9 =>
      some ((y9, true))
    )

def r_laws_qAbs (vn1 : Int) : Option Int :=
  bif (ltI vn1 0) then
    (
      sI (w64 (0 - vn1)) fun t3 =>
      some t3
    )
  else
    (
      some vn1
    )

def r_laws_qGcd_L5 : Nat → Int → Int → Option Int
  | 0, _, _ => none
  | n + 1, a3, b4 =>
    bif (!eqI b4 0) then
      (
        (nz b4).bind fun z8 =>
        sI (Int.tmod a3 b4) fun b9 =>
        r_laws_qGcd_L5 n b4 b9
      )
    else
      (
        some a3
      )
def r_laws_qGcd (a1 : Int) (b2 : Int) : Option Int :=
  (r_laws_qGcd_L5 FU a1 b2).bind fun o6 =>
  (r_laws_qAbs o6).bind fun y10 =>
  some y10

def r_laws_numberOf_L4 (b1 : List Int) : Nat → Int → Int → Option Int
  | 0, _, _ => none
  | n + 1, vn2, t3 =>
    bif (ltI t3 ((b1.length : Int))) then
      (
        (getI b1 t3).bind fun e7 =>
        sI (Int.tmod (w64 ((w64 (31 * vn2)) + (IntKind.i64.wrap e7))) 1000003) fun vn8 =>
        sI (w64 (t3 + 1)) fun t9 =>
        r_laws_numberOf_L4 b1 n vn8 t9
      )
    else
      (
        some vn2
      )
def r_laws_numberOf (b1 : List Int) : Option Int :=
  (r_laws_numberOf_L4 b1 FU 0 0).bind fun o5 =>
  some o5

def r_spec_ValueAt (f1 : (Int × Int × Int)) (x2 : Int) (y3 : Int) : Option (Int × Bool) :=
  (r_spec_foGood f1).bind fun y4 =>
  (bif (!y4) then some true else ((r_spec_nuGood x2).bind fun y6 => some (!y6))).bind fun b7 =>
  (bif b7 then some true else ((r_spec_nuGood y3).bind fun y9 => some (!y9))).bind fun b10 =>
  bif b10 then
    (
      some ((0, false))
    )
  else
    (
      (r_spec_foValue f1 x2 y3).bind fun y12 =>
      some ((y12, true))
    )

def r_laws_FnIndefiniteValues_L13 (more2 : List Int) (y5 : (((Int × Int × Int)) × Int)) (y6 : ((List ((Int × Int))) × Bool)) (y7 : ((List ((Int × Int))) × Bool)) : Nat → Int → Option (Unit ⊕ Bool)
  | 0, _ => none
  | n + 1, t12 =>
    bif (ltI t12 ((y7.1.length : Int))) then
      (
        (getI y7.1 t12).bind fun e16 =>
        (getI y7.1 t12).bind fun e17 =>
        (r_impl_ValueAt y5.1 e17.1 e17.2).bind fun y18 =>
        (bif (bif (!y18.2) then true else (!eqI y18.1 y5.2)) then some true else ((r_laws_qGcd e17.1 e17.2).bind fun y21 => some (!eqI y21 1))).bind fun b22 =>
        bif b22 then
          (
            some (.inr false)
          )
        else
          (
            sI (w64 (t12 + 1)) fun t24 =>
            r_laws_FnIndefiniteValues_L13 more2 y5 y6 y7 n t24
          )
      )
    else
      (
        some (.inl ())
      )
def r_laws_FnIndefiniteValues (code1 : List Int) (more2 : List Int) : Option Bool :=
  (r_laws_big code1 more2).bind fun y3 =>
  bif y3 then
    (
      some true
    )
  else
    (
      (r_spec_DrawIndefinitePoints code1).bind fun y5 =>
      (r_impl_IndefinitePoints y5.1 y5.2).bind fun y6 =>
      (r_spec_IndefinitePoints y5.1 y5.2).bind fun y7 =>
      (bif (y6.2 != y7.2) then some true else ((r_laws_qPoints y6.1 y7.1).bind fun y9 => some (!y9))).bind fun b10 =>
      bif b10 then
        (
          some false
        )
      else
        (
          (r_laws_FnIndefiniteValues_L13 more2 y5 y6 y7 FU 0).bind fun qo14 =>
          match qo14 with
          | .inr r => some r
          | .inl o14 =>
            (r_laws_numberOf more2).bind fun y25 =>
            (r_laws_numberOf more2).bind fun y26 =>
            sI (w64 ((Int.tmod y25 7) - 3)) fun x27 =>
            sI (w64 ((Int.tmod (w64 (Int.tdiv y26 7)) 7) - 3)) fun y28 =>
            (r_impl_ValueAt y5.1 x27 y28).bind fun y29 =>
            (r_spec_ValueAt y5.1 x27 y28).bind fun y30 =>
            bif (bif (y29.2 != y30.2) then true else (!eqI y29.1 y30.1)) then
              (
                some false
              )
            else
              (
                (bif y6.2 then ((r_laws_qGcd x27 y28).bind fun y34 => some (eqI y34 1)) else some false).bind fun b35 =>
                (bif (bif b35 then (!eqI y29.1 0) else false) then ((r_laws_qAbs y29.1).bind fun y38 => some (leI y38 200)) else some false).bind fun b39 =>
                bif b39 then
                  (
                    (r_impl_IndefinitePoints y5.1 y29.1).bind fun y41 =>
                    (r_spec_IndefinitePoints y5.1 y29.1).bind fun y42 =>
                    (bif (y41.2 == y42.2) then ((r_laws_qPoints y41.1 y42.1).bind fun y44 => some y44) else some false).bind fun b45 =>
                    (some (bif b45 then (bif (!y42.2) then true else (ltI 0 ((y42.1.length : Int)))) else false)).bind fun t48 =>
                    some t48
                  )
                else
                  (
                    some true
                  )
              )
        )
    )

end Go.Proofs.Ytgeajejmikaniaa
