/-
  What the functions of the program compute, as plain functions.
  Conditions: none.
-/
import Derived.Test.YtmpnloechnfkjaaDoorShRs

namespace Go.Proofs.YtmpnloechnfkjaaDoor

set_option linter.unusedVariables false

def r_laws_toForm (a1 : (Int × Int × Int)) : Option (Int × Int × Int) :=
  some a1

def r_spec_l1In (vn1 : Int) (lo2 : Int) (hi3 : Int) : Option Bool :=
  some (bif (leI lo2 vn1) then (leI vn1 hi3) else false)

def r_spec_nuGood (vn1 : Int) : Option Bool :=
  (r_spec_l1In vn1 (-1000000) 1000000).bind fun y2 =>
  some y2

def r_spec_foGood (f1 : (Int × Int × Int)) : Option Bool :=
  (r_spec_nuGood f1.1).bind fun y2 =>
  (bif y2 then ((r_spec_nuGood f1.2.1).bind fun y4 => some y4) else some false).bind fun b5 =>
  (bif b5 then ((r_spec_nuGood f1.2.2).bind fun y7 => some y7) else some false).bind fun b8 =>
  some b8

def r_spec_foDisc (f1 : (Int × Int × Int)) : Option Int :=
  sI (w64 ((w64 (f1.2.1 * f1.2.1)) - (w64 ((w64 (4 * f1.1)) * f1.2.2)))) fun t2 =>
  some t2

def r_spec_foDefinite (f1 : (Int × Int × Int)) : Option Bool :=
  (r_spec_foGood f1).bind fun y2 =>
  (bif y2 then ((r_spec_foDisc f1).bind fun y4 => some (ltI y4 0)) else some false).bind fun b5 =>
  some (bif b5 then (ltI 0 f1.1) else false)

def r_spec_vaForm (f1 : (Int × Int × Int)) : Option Bool :=
  (r_spec_foDefinite f1).bind fun y2 =>
  (bif y2 then ((r_spec_foDisc f1).bind fun y4 => some (leI (-2000) y4)) else some false).bind fun b5 =>
  some b5

def r_spec_vaShown (vn1 : Int) : Option Bool :=
  (r_spec_l1In vn1 1 10000).bind fun y2 =>
  some y2

def r_spec_nuRoot_L4 (vn1 : Int) : Nat → Int → Int → Option Int
  | 0, _, _ => none
  | n + 1, lo2, hi3 =>
    bif (ltI lo2 hi3) then
      (
        sI (w64 (Int.tdiv (w64 ((w64 (lo2 + hi3)) + 1)) 2)) fun mid7 =>
        bif (leI (w64 (mid7 * mid7)) vn1) then
          (
            r_spec_nuRoot_L4 vn1 n mid7 hi3
          )
        else
          (
            sI (w64 (mid7 - 1)) fun hi9 =>
            r_spec_nuRoot_L4 vn1 n lo2 hi9
          )
      )
    else
      (
        some lo2
      )
def r_spec_nuRoot (vn1 : Int) : Option Int :=
  (r_spec_nuRoot_L4 vn1 FU 0 1000000000).bind fun o5 =>
  some o5

def r_spec_vaHas_L4 (l1 : List ((Int × Int))) (p2 : (Int × Int)) : Nat → Int → Option (Unit ⊕ Bool)
  | 0, _ => none
  | n + 1, t3 =>
    bif (ltI t3 ((l1.length : Int))) then
      (
        (getI l1 t3).bind fun e7 =>
        bif (((e7.1 == p2.1) && (e7.2 == p2.2))) then
          (
            some (.inr true)
          )
        else
          (
            sI (w64 (t3 + 1)) fun t9 =>
            r_spec_vaHas_L4 l1 p2 n t9
          )
      )
    else
      (
        some (.inl ())
      )
def r_spec_vaHas (l1 : List ((Int × Int))) (p2 : (Int × Int)) : Option Bool :=
  (r_spec_vaHas_L4 l1 p2 FU 0).bind fun qo5 =>
  match qo5 with
  | .inr r => some r
  | .inl o5 =>
    some false

def r_spec_vaPut_L4 (l1 : List ((Int × Int))) (p2 : (Int × Int)) : Nat → Int → Option Int
  | 0, _ => none
  | n + 1, k3 =>
    (bif (ltI k3 ((l1.length : Int))) then ((getI l1 k3).bind fun e7 => (bif (ltI e7.1 p2.1) then some true else ((getI l1 k3).bind fun e9 => (bif (eqI e9.1 p2.1) then ((getI l1 k3).bind fun e11 => some (ltI e11.2 p2.2)) else some false).bind fun b12 => some b12)).bind fun b13 => some b13) else some false).bind fun b14 =>
    bif b14 then
      (
        sI (w64 (k3 + 1)) fun k16 =>
        r_spec_vaPut_L4 l1 p2 n k16
      )
    else
      (
        some k3
      )
def r_spec_vaPut (l1 : List ((Int × Int))) (p2 : (Int × Int)) : Option (List ((Int × Int))) :=
  (r_spec_vaPut_L4 l1 p2 FU 0).bind fun o5 =>
  (slc l1.length 0 o5).bind fun u17 =>
  (room ((([] : List ((Int × Int)))).length + (subl l1 0 o5).length)).bind fun u18 =>
  (room (((([] : List ((Int × Int)))) ++ (subl l1 0 o5)).length + ([p2]).length)).bind fun u19 =>
  (slc l1.length o5 ((l1.length : Int))).bind fun u20 =>
  (room ((((([] : List ((Int × Int)))) ++ (subl l1 0 o5)) ++ ([p2])).length + (subl l1 o5 ((l1.length : Int))).length)).bind fun u21 =>
  (some ((((([] : List ((Int × Int)))) ++ (subl l1 0 o5)) ++ ([p2])) ++ (subl l1 o5 ((l1.length : Int))))).bind fun l22 =>
  some l22

def r_spec_vaAt_L25 (e21 : Int) (f1 : (Int × Int × Int)) (t14 : Int) (t16 : Int) (t22 : Int) (vn2 : Int) (y10 : Int) (y3 : Int) (y4 : Int) : Nat → List ((Int × Int)) → Int → Option (List ((Int × Int)))
  | 0, _, _ => none
  | n + 1, out23, t24 =>
    bif (ltI t24 t22) then
      (
        (getI ([y10, w64 (0 - y10)]) t24).bind fun e28 =>
        (getI ([y10, w64 (0 - y10)]) t24).bind fun e29 =>
        (nz (w64 (2 * f1.1))).bind fun z30 =>
        (some (eqI (Int.tmod (w64 (e29 - (w64 (f1.2.1 * e21)))) (w64 (2 * f1.1))) 0)).bind fun t31 =>
        bif t31 then
          (
            (nz (w64 (2 * f1.1))).bind fun z33 =>
            sI (w64 (Int.tdiv (w64 (e29 - (w64 (f1.2.1 * e21)))) (w64 (2 * f1.1)))) fun f34 =>
            (r_spec_vaHas out23 ((f34, e21))).bind fun y35 =>
            bif (!y35) then
              (
                (r_spec_vaPut out23 ((f34, e21))).bind fun y37 =>
                sI (w64 (t24 + 1)) fun t38 =>
                r_spec_vaAt_L25 e21 f1 t14 t16 t22 vn2 y10 y3 y4 n y37 t38
              )
            else
              (
                sI (w64 (t24 + 1)) fun t39 =>
                r_spec_vaAt_L25 e21 f1 t14 t16 t22 vn2 y10 y3 y4 n out23 t39
              )
          )
        else
          (
            sI (w64 (t24 + 1)) fun t40 =>
            r_spec_vaAt_L25 e21 f1 t14 t16 t22 vn2 y10 y3 y4 n out23 t40
          )
      )
    else
      (
        some out23
      )
def r_spec_vaAt_L17 (f1 : (Int × Int × Int)) (t14 : Int) (vn2 : Int) (y10 : Int) (y3 : Int) (y4 : Int) : Nat → List ((Int × Int)) → Int → Option (List ((Int × Int)))
  | 0, _, _ => none
  | n + 1, out15, t16 =>
    bif (ltI t16 t14) then
      (
        (getI ([y4, w64 (0 - y4)]) t16).bind fun e20 =>
        (getI ([y4, w64 (0 - y4)]) t16).bind fun e21 =>
        sI ((([y10, w64 (0 - y10)]).length : Int)) fun t22 =>
        (r_spec_vaAt_L25 e21 f1 t14 t16 t22 vn2 y10 y3 y4 FU out15 0).bind fun o26 =>
        sI (w64 (t16 + 1)) fun t41 =>
        r_spec_vaAt_L17 f1 t14 vn2 y10 y3 y4 n o26 t41
      )
    else
      (
        some out15
      )
def r_spec_vaAt_L6 (f1 : (Int × Int × Int)) (vn2 : Int) (y3 : Int) : Nat → Int → List ((Int × Int)) → Option (List ((Int × Int)))
  | 0, _, _ => none
  | n + 1, y4, out5 =>
    (some (leI (w64 ((w64 ((w64 (0 - y3)) * y4)) * y4)) (w64 ((w64 (4 * f1.1)) * vn2)))).bind fun t8 =>
    bif t8 then
      (
        (r_spec_nuRoot (w64 ((w64 ((w64 (y3 * y4)) * y4)) + (w64 ((w64 (4 * f1.1)) * vn2))))).bind fun y10 =>
        (some (!eqI (w64 (y10 * y10)) (w64 ((w64 ((w64 (y3 * y4)) * y4)) + (w64 ((w64 (4 * f1.1)) * vn2)))))).bind fun t11 =>
        bif t11 then
          (
            sI (w64 (y4 + 1)) fun y13 =>
            r_spec_vaAt_L6 f1 vn2 y3 n y13 out5
          )
        else
          (
            sI ((([y4, w64 (0 - y4)]).length : Int)) fun t14 =>
            (r_spec_vaAt_L17 f1 t14 vn2 y10 y3 y4 FU out5 0).bind fun o18 =>
            sI (w64 (y4 + 1)) fun y42 =>
            r_spec_vaAt_L6 f1 vn2 y3 n y42 o18
          )
      )
    else
      (
        some out5
      )
def r_spec_vaAt (f1 : (Int × Int × Int)) (vn2 : Int) : Option (List ((Int × Int))) :=
  (r_spec_foDisc f1).bind fun y3 =>
  (r_spec_vaAt_L6 f1 vn2 y3 FU 0 (([] : List ((Int × Int))))).bind fun o7 =>
  some o7

def r_spec_l1Most (a1 : Int) (b2 : Int) : Option Int :=
  bif (ltI b2 a1) then
    (
      some a1
    )
  else
    (
      some b2
    )

def r_spec_l1Abs (vn1 : Int) : Option Int :=
  (r_spec_l1Most vn1 (w64 (0 - vn1))).bind fun y2 =>
  some y2

def r_spec_nuGcd_L7 : Nat → Int → Int → Option Int
  | 0, _, _ => none
  | n + 1, a5, b6 =>
    bif (!eqI b6 0) then
      (
        (nz b6).bind fun z10 =>
        sI (Int.tmod a5 b6) fun b11 =>
        r_spec_nuGcd_L7 n b6 b11
      )
    else
      (
        some a5
      )
def r_spec_nuGcd (a1 : Int) (b2 : Int) : Option Int :=
  (r_spec_l1Abs a1).bind fun y3 =>
  (r_spec_l1Abs b2).bind fun y4 =>
  (r_spec_nuGcd_L7 FU y3 y4).bind fun o8 =>
  some o8

def r_spec_vaPrimitive_L4 (l1 : List ((Int × Int))) : Nat → Int → List ((Int × Int)) → Option (List ((Int × Int)))
  | 0, _, _ => none
  | n + 1, t2, l3 =>
    bif (ltI t2 ((l1.length : Int))) then
      (
        (getI l1 t2).bind fun e7 =>
        (r_spec_nuGcd e7.1 e7.2).bind fun y8 =>
        bif (eqI y8 1) then
          (
            (room (l3.length + ([e7]).length)).bind fun u10 =>
            sI (w64 (t2 + 1)) fun t11 =>
            r_spec_vaPrimitive_L4 l1 n t11 (l3 ++ ([e7]))
          )
        else
          (
            sI (w64 (t2 + 1)) fun t12 =>
            r_spec_vaPrimitive_L4 l1 n t12 l3
          )
      )
    else
      (
        some l3
      )
def r_spec_vaPrimitive (l1 : List ((Int × Int))) : Option (List ((Int × Int))) :=
  (r_spec_vaPrimitive_L4 l1 FU 0 (([] : List ((Int × Int))))).bind fun o5 =>
  some o5

def r_spec_PrimitivePoints (f1 : (Int × Int × Int)) (vn2 : Int) : Option ((List ((Int × Int))) × Bool) :=
  (r_spec_vaForm f1).bind fun y3 =>
  (bif (!y3) then some true else ((r_spec_vaShown vn2).bind fun y5 => some (!y5))).bind fun b6 =>
  bif b6 then
    (
      some ((([] : List ((Int × Int))), false))
    )
  else
    (
      (r_spec_vaAt f1 vn2).bind fun y8 =>
      (r_spec_vaPrimitive y8).bind fun y9 =>
      some ((y9, true))
    )

def r_spec_l1Num : Nat → Int → Option ByteArray
  | 0, _ => none
  | n + 1, vn1 =>
    bif (ltI vn1 10) then
      (
        some (bytesI ([IntKind.u8.wrap (w64 (48 + vn1))]))
      )
    else
      (
        (r_spec_l1Num n (w64 (Int.tdiv vn1 10))).bind fun y3 =>
        (catR y3 (bytesI ([IntKind.u8.wrap (w64 (48 + (Int.tmod vn1 10)))]))).bind fun u4 =>
        some (y3 ++ (bytesI ([IntKind.u8.wrap (w64 (48 + (Int.tmod vn1 10)))])))
      )

def r_spec_l1Int (vn1 : Int) : Option ByteArray :=
  bif (ltI vn1 0) then
    (
      (r_spec_l1Num FU (w64 (0 - vn1))).bind fun y3 =>
      (catR ((⟨#[45]⟩ : ByteArray)) y3).bind fun u4 =>
      some (((⟨#[45]⟩ : ByteArray)) ++ y3)
    )
  else
    (
      (r_spec_l1Num FU vn1).bind fun y5 =>
      some y5
    )

def r_spec_foText (f1 : (Int × Int × Int)) : Option ByteArray :=
  (r_spec_l1Int f1.1).bind fun y2 =>
  (catR ((⟨#[40]⟩ : ByteArray)) y2).bind fun u3 =>
  (catR (((⟨#[40]⟩ : ByteArray)) ++ y2) ((⟨#[44]⟩ : ByteArray))).bind fun u4 =>
  (r_spec_l1Int f1.2.1).bind fun y5 =>
  (catR ((((⟨#[40]⟩ : ByteArray)) ++ y2) ++ ((⟨#[44]⟩ : ByteArray))) y5).bind fun u6 =>
  (catR (((((⟨#[40]⟩ : ByteArray)) ++ y2) ++ ((⟨#[44]⟩ : ByteArray))) ++ y5) ((⟨#[44]⟩ : ByteArray))).bind fun u7 =>
  (r_spec_l1Int f1.2.2).bind fun y8 =>
  (catR ((((((⟨#[40]⟩ : ByteArray)) ++ y2) ++ ((⟨#[44]⟩ : ByteArray))) ++ y5) ++ ((⟨#[44]⟩ : ByteArray))) y8).bind fun u9 =>
  (catR (((((((⟨#[40]⟩ : ByteArray)) ++ y2) ++ ((⟨#[44]⟩ : ByteArray))) ++ y5) ++ ((⟨#[44]⟩ : ByteArray))) ++ y8) ((⟨#[41]⟩ : ByteArray))).bind fun u10 =>
  some ((((((((⟨#[40]⟩ : ByteArray)) ++ y2) ++ ((⟨#[44]⟩ : ByteArray))) ++ y5) ++ ((⟨#[44]⟩ : ByteArray))) ++ y8) ++ ((⟨#[41]⟩ : ByteArray)))

def r_spec_prText_L4 (l1 : List ByteArray) : Nat → ByteArray → Int → Option ByteArray
  | 0, _, _ => none
  | n + 1, out2, t3 =>
    bif (ltI t3 ((l1.length : Int))) then
      (
        (getI l1 t3).bind fun e7 =>
        bif (ltI 0 t3) then
          (
            (catR out2 ((⟨#[32]⟩ : ByteArray))).bind fun u9 =>
            (catR (out2 ++ ((⟨#[32]⟩ : ByteArray))) e7).bind fun u10 =>
            sI (w64 (t3 + 1)) fun t11 =>
            r_spec_prText_L4 l1 n ((out2 ++ ((⟨#[32]⟩ : ByteArray))) ++ e7) t11
          )
        else
          (
            (catR out2 e7).bind fun u12 =>
            sI (w64 (t3 + 1)) fun t13 =>
            r_spec_prText_L4 l1 n (out2 ++ e7) t13
          )
      )
    else
      (
        some out2
      )
def r_spec_prText (l1 : List ByteArray) : Option ByteArray :=
  (r_spec_prText_L4 l1 FU ((⟨#[]⟩ : ByteArray)) 0).bind fun o5 =>
  some o5

def r_spec_ValueCertificate (f1 : (Int × Int × Int)) (vn2 : Int) : Option (ByteArray × Bool) :=
  (r_spec_PrimitivePoints f1 vn2).bind fun y3 =>
  bif (bif (!y3.2) then true else (eqI ((y3.1.length : Int)) 0)) then
    (
      some (((⟨#[]⟩ : ByteArray), false))
    )
  else
    (
      (r_spec_foText f1).bind fun y6 =>
      (r_spec_l1Int vn2).bind fun y7 =>
      (getI y3.1 0).bind fun e8 =>
      (getI y3.1 0).bind fun e9 =>
      (r_spec_l1Int e9.1).bind fun y10 =>
      (getI y3.1 0).bind fun e11 =>
      (getI y3.1 0).bind fun e12 =>
      (r_spec_l1Int e12.2).bind fun y13 =>
      (r_spec_prText ([(⟨#[118, 97, 108, 117, 101]⟩ : ByteArray), y6, y7, y10, y13])).bind fun y14 =>
      some ((y14, true))
    )

def r_impl_areNumbers_L3 (list1 : List Int) : Nat → Int → Option (Unit ⊕ Bool)
  | 0, _ => none
  | n + 1, t2 =>
    bif (ltI t2 ((list1.length : Int))) then
      (
        (getI list1 t2).bind fun e6 =>
        bif (bif (ltI e6 (-1000000)) then true else (ltI 1000000 e6)) then
          (
            some (.inr false)
          )
        else
          (
            sI (w64 (t2 + 1)) fun t9 =>
            r_impl_areNumbers_L3 list1 n t9
          )
      )
    else
      (
        some (.inl ())
      )
def r_impl_areNumbers (list1 : List Int) : Option Bool :=
  (r_impl_areNumbers_L3 list1 FU 0).bind fun qo4 =>
  match qo4 with
  | .inr r => some r
  | .inl o4 =>
    some true

def r_impl_IsForm (f1 : (Int × Int × Int)) : Option Bool :=
  (r_impl_areNumbers ([f1.1, f1.2.1, f1.2.2])).bind fun y2 =>
  some y2

def r_impl_Form_disc (f1 : (Int × Int × Int)) : Option Int :=
  sI (w64 ((w64 (f1.2.1 * f1.2.1)) - (w64 ((w64 (4 * f1.1)) * f1.2.2)))) fun t2 =>
  some t2

def r_impl_isDefinite (f1 : (Int × Int × Int)) : Option Bool :=
  (r_impl_IsForm f1).bind fun y2 =>
  (bif y2 then ((r_impl_Form_disc f1).bind fun y4 => some (ltI y4 0)) else some false).bind fun b5 =>
  some (bif b5 then (ltI 0 f1.1) else false)

def r_impl_isShownForm (f1 : (Int × Int × Int)) : Option Bool :=
  (r_impl_isDefinite f1).bind fun y2 =>
  (bif y2 then ((r_impl_Form_disc f1).bind fun y4 => some (leI (-2000) y4)) else some false).bind fun b5 =>
  some b5

def r_impl_isShown (vn1 : Int) : Option Bool :=
  some (bif (leI 1 vn1) then (leI vn1 10000) else false)

def r_impl_root_L4 (vn1 : Int) : Nat → Int → Int → Option Int
  | 0, _, _ => none
  | n + 1, low2, high3 =>
    bif (ltI low2 high3) then
      (
        sI (w64 (Int.tdiv (w64 ((w64 (low2 + high3)) + 1)) 2)) fun vm7 =>
        bif (leI (w64 (vm7 * vm7)) vn1) then
          (
            r_impl_root_L4 vn1 n vm7 high3
          )
        else
          (
            sI (w64 (vm7 - 1)) fun high9 =>
            r_impl_root_L4 vn1 n low2 high9
          )
      )
    else
      (
        some low2
      )
def r_impl_root (vn1 : Int) : Option Int :=
  (r_impl_root_L4 vn1 FU 0 3000000000).bind fun o5 =>
  some o5

def r_impl_isSquare (vn1 : Int) : Option Bool :=
  (bif (leI 0 vn1) then ((r_impl_root vn1).bind fun y3 => (r_impl_root vn1).bind fun y4 => some (eqI (w64 (y3 * y4)) vn1)) else some false).bind fun b5 =>
  some b5

def r_impl_Form_points_L9 (f1 : (Int × Int × Int)) (vn2 : Int) (y3 : Int) (y5 : Int) : Nat → Int → List ((Int × Int)) → Option (List ((Int × Int)))
  | 0, _, _ => none
  | n + 1, x7, l8 =>
    bif (leI x7 y5) then
      (
        sI (w64 ((w64 ((w64 (y3 * x7)) * x7)) + (w64 ((w64 (4 * f1.2.2)) * vn2)))) fun square12 =>
        (r_impl_isSquare square12).bind fun y13 =>
        bif (!y13) then
          (
            sI (w64 (x7 + 1)) fun x15 =>
            r_impl_Form_points_L9 f1 vn2 y3 y5 n x15 l8
          )
        else
          (
            (r_impl_root square12).bind fun y16 =>
            (
              (nz (w64 (2 * f1.2.2))).bind fun z18 =>
              (some (eqI (Int.tmod (w64 ((w64 ((w64 (0 - f1.2.1)) * x7)) - y16)) (w64 (2 * f1.2.2))) 0)).bind fun t19 =>
              bif t19 then
                (
                  (nz (w64 (2 * f1.2.2))).bind fun z21 =>
                  (room (l8.length + ([(x7, w64 (Int.tdiv (w64 ((w64 ((w64 (0 - f1.2.1)) * x7)) - y16)) (w64 (2 * f1.2.2))))]).length)).bind fun u22 =>
                  (some (l8 ++ ([(x7, w64 (Int.tdiv (w64 ((w64 ((w64 (0 - f1.2.1)) * x7)) - y16)) (w64 (2 * f1.2.2))))]))).bind fun l23 =>
                  some l23
                )
              else
                (
                  some l8
                )
            ).bind fun j17 =>
            (bif (ltI 0 y16) then ((nz (w64 (2 * f1.2.2))).bind fun z25 => some (eqI (Int.tmod (w64 ((w64 ((w64 (0 - f1.2.1)) * x7)) + y16)) (w64 (2 * f1.2.2))) 0)) else some false).bind fun b26 =>
            bif b26 then
              (
                (nz (w64 (2 * f1.2.2))).bind fun z28 =>
                (room (j17.length + ([(x7, w64 (Int.tdiv (w64 ((w64 ((w64 (0 - f1.2.1)) * x7)) + y16)) (w64 (2 * f1.2.2))))]).length)).bind fun u29 =>
                (some (j17 ++ ([(x7, w64 (Int.tdiv (w64 ((w64 ((w64 (0 - f1.2.1)) * x7)) + y16)) (w64 (2 * f1.2.2))))]))).bind fun l30 =>
                sI (w64 (x7 + 1)) fun x31 =>
                r_impl_Form_points_L9 f1 vn2 y3 y5 n x31 l30
              )
            else
              (
                sI (w64 (x7 + 1)) fun x32 =>
                r_impl_Form_points_L9 f1 vn2 y3 y5 n x32 j17
              )
          )
      )
    else
      (
        some l8
      )
def r_impl_Form_points (f1 : (Int × Int × Int)) (vn2 : Int) : Option (List ((Int × Int))) :=
  (r_impl_Form_disc f1).bind fun y3 =>
  (nz (w64 (0 - y3))).bind fun z4 =>
  (r_impl_root (w64 (Int.tdiv (w64 ((w64 (4 * f1.2.2)) * vn2)) (w64 (0 - y3))))).bind fun y5 =>
  sI (w64 (0 - y5)) fun x6 =>
  (r_impl_Form_points_L9 f1 vn2 y3 y5 FU x6 (([] : List ((Int × Int))))).bind fun o10 =>
  some o10

def r_impl_Representations (f1 : (Int × Int × Int)) (vn2 : Int) : Option ((List ((Int × Int))) × Bool) :=
  (r_impl_isShownForm f1).bind fun y3 =>
  (bif (!y3) then some true else ((r_impl_isShown vn2).bind fun y5 => some (!y5))).bind fun b6 =>
  bif b6 then
    (
      some ((([] : List ((Int × Int))), false))
    )
  else
    (
      (r_impl_Form_points f1 vn2).bind fun y8 =>
      some ((y8, true))
    )

def r_impl_abs (vn1 : Int) : Option Int :=
  sI (mxI vn1 (w64 (0 - (mxI vn1 (-9223372036854775807))))) fun t2 =>
  some t2

def r_impl_gcd_L5 : Nat → Int → Int → Option Int
  | 0, _, _ => none
  | n + 1, a3, b4 =>
    bif (!eqI b4 0) then
      (
        (nz b4).bind fun z8 =>
        sI (Int.tmod a3 b4) fun b9 =>
        r_impl_gcd_L5 n b4 b9
      )
    else
      (
        some a3
      )
def r_impl_gcd (a1 : Int) (b2 : Int) : Option Int :=
  (r_impl_gcd_L5 FU a1 b2).bind fun o6 =>
  (r_impl_abs o6).bind fun y10 =>
  some y10

def r_impl_PrimitivePoints_L6 (y3 : ((List ((Int × Int))) × Bool)) : Nat → Int → List ((Int × Int)) → Option (List ((Int × Int)))
  | 0, _, _ => none
  | n + 1, t4, l5 =>
    bif (ltI t4 ((y3.1.length : Int))) then
      (
        (getI y3.1 t4).bind fun e9 =>
        (getI y3.1 t4).bind fun e10 =>
        (r_impl_gcd e10.1 e10.2).bind fun y11 =>
        bif (eqI y11 1) then
          (
            (room (l5.length + ([e10]).length)).bind fun u13 =>
            sI (w64 (t4 + 1)) fun t14 =>
            r_impl_PrimitivePoints_L6 y3 n t14 (l5 ++ ([e10]))
          )
        else
          (
            sI (w64 (t4 + 1)) fun t15 =>
            r_impl_PrimitivePoints_L6 y3 n t15 l5
          )
      )
    else
      (
        some l5
      )
def r_impl_PrimitivePoints (f1 : (Int × Int × Int)) (vn2 : Int) : Option ((List ((Int × Int))) × Bool) :=
  (r_impl_Representations f1 vn2).bind fun y3 =>
  (r_impl_PrimitivePoints_L6 y3 FU 0 (([] : List ((Int × Int))))).bind fun o7 =>
  some ((o7, y3.2))

def r_impl_formText (f1 : (Int × Int × Int)) : Option ByteArray :=
  (r_strconv_Itoa f1.1).bind fun y2 =>
  (catR ((⟨#[40]⟩ : ByteArray)) y2).bind fun u3 =>
  (catR (((⟨#[40]⟩ : ByteArray)) ++ y2) ((⟨#[44]⟩ : ByteArray))).bind fun u4 =>
  (r_strconv_Itoa f1.2.1).bind fun y5 =>
  (catR ((((⟨#[40]⟩ : ByteArray)) ++ y2) ++ ((⟨#[44]⟩ : ByteArray))) y5).bind fun u6 =>
  (catR (((((⟨#[40]⟩ : ByteArray)) ++ y2) ++ ((⟨#[44]⟩ : ByteArray))) ++ y5) ((⟨#[44]⟩ : ByteArray))).bind fun u7 =>
  (r_strconv_Itoa f1.2.2).bind fun y8 =>
  (catR ((((((⟨#[40]⟩ : ByteArray)) ++ y2) ++ ((⟨#[44]⟩ : ByteArray))) ++ y5) ++ ((⟨#[44]⟩ : ByteArray))) y8).bind fun u9 =>
  (catR (((((((⟨#[40]⟩ : ByteArray)) ++ y2) ++ ((⟨#[44]⟩ : ByteArray))) ++ y5) ++ ((⟨#[44]⟩ : ByteArray))) ++ y8) ((⟨#[41]⟩ : ByteArray))).bind fun u10 =>
  some ((((((((⟨#[40]⟩ : ByteArray)) ++ y2) ++ ((⟨#[44]⟩ : ByteArray))) ++ y5) ++ ((⟨#[44]⟩ : ByteArray))) ++ y8) ++ ((⟨#[41]⟩ : ByteArray)))

def r_impl_certificate (kind1 : ByteArray) (words2 : List ByteArray) : Option ByteArray :=
  (catR kind1 ((⟨#[32]⟩ : ByteArray))).bind fun u3 =>
  (r_strings_Join words2 ((⟨#[32]⟩ : ByteArray))).bind fun y4 =>
  (catR (kind1 ++ ((⟨#[32]⟩ : ByteArray))) y4).bind fun u5 =>
  some ((kind1 ++ ((⟨#[32]⟩ : ByteArray))) ++ y4)

def r_impl_ValueCertificate (f1 : (Int × Int × Int)) (vn2 : Int) : Option (ByteArray × Bool) :=
  (r_impl_PrimitivePoints f1 vn2).bind fun y3 =>
  bif (bif (!y3.2) then true else (eqI ((y3.1.length : Int)) 0)) then
    (
      some (((⟨#[]⟩ : ByteArray), false))
    )
  else
    (
      (r_impl_formText f1).bind fun y6 =>
      (r_strconv_Itoa vn2).bind fun y7 =>
      (getI y3.1 0).bind fun e8 =>
      (getI y3.1 0).bind fun e9 =>
      (r_strconv_Itoa e9.1).bind fun y10 =>
      (getI y3.1 0).bind fun e11 =>
      (getI y3.1 0).bind fun e12 =>
      (r_strconv_Itoa e12.2).bind fun y13 =>
      (r_impl_certificate ((⟨#[118, 97, 108, 117, 101]⟩ : ByteArray)) ([y6, y7, y10, y13])).bind fun y14 =>
      some ((y14, true))
    )

def r_laws_FnExactValueCertificate (aF1 : (Int × Int × Int)) (aN2 : Int) : Option Bool :=
  (r_laws_toForm aF1).bind fun y3 =>
  (r_spec_ValueCertificate y3 aN2).bind fun y4 =>
  (r_laws_toForm aF1).bind fun y5 =>
  (r_impl_ValueCertificate y5 aN2).bind fun y6 =>
  (some (bif (!(y6.1.toList == y4.1.toList)) then true else (y6.2 != y4.2))).bind fun t8 =>
  bif t8 then
    (
      some false
    )
  else
    (
      some true
    )

end Go.Proofs.YtmpnloechnfkjaaDoor
