/-
  What the functions of the program compute, as plain functions.
  Conditions: none.
-/
import Derived.Test.YtnifkkihamgmaaaDoorShRs

namespace Go.Proofs.YtnifkkihamgmaaaDoor

set_option linter.unusedVariables false

def r_laws_toForm (a1 : (Int × Int × Int)) : Option (Int × Int × Int) :=
  some a1

def r_spec_l1In (vn1 : Int) (lo2 : Int) (hi3 : Int) : Option Bool :=
  some (bif (leI lo2 vn1) then (leI vn1 hi3) else false)

def r_spec_nuGood (vn1 : Int) : Option Bool :=
  (r_spec_l1In vn1 (-1000000) 1000000).bind fun y2 =>
  some y2

def r_spec_foGood (f1 : (Int × Int × Int)) : Option Bool :=
  (r_spec_nuGood f1.1).bind fun y2 =>
  (bif y2 then ((r_spec_nuGood f1.2.1).bind fun y4 => some y4) else some false).bind fun b5 =>
  (bif b5 then ((r_spec_nuGood f1.2.2).bind fun y7 => some y7) else some false).bind fun b8 =>
  some b8

def r_spec_foDisc (f1 : (Int × Int × Int)) : Option Int :=
  sI (w64 ((w64 (f1.2.1 * f1.2.1)) - (w64 ((w64 (4 * f1.1)) * f1.2.2)))) fun t2 =>
  some t2

def r_spec_foDefinite (f1 : (Int × Int × Int)) : Option Bool :=
  (r_spec_foGood f1).bind fun y2 =>
  (bif y2 then ((r_spec_foDisc f1).bind fun y4 => some (ltI y4 0)) else some false).bind fun b5 =>
  some (bif b5 then (ltI 0 f1.1) else false)

def r_spec_l1Most (a1 : Int) (b2 : Int) : Option Int :=
  bif (ltI b2 a1) then
    (
      some a1
    )
  else
    (
      some b2
    )

def r_spec_l1Abs (vn1 : Int) : Option Int :=
  (r_spec_l1Most vn1 (w64 (0 - vn1))).bind fun y2 =>
  some y2

def r_spec_nuGcd_L7 : Nat → Int → Int → Option Int
  | 0, _, _ => none
  | n + 1, a5, b6 =>
    bif (!eqI b6 0) then
      (
        (nz b6).bind fun z10 =>
        sI (Int.tmod a5 b6) fun b11 =>
        r_spec_nuGcd_L7 n b6 b11
      )
    else
      (
        some a5
      )
def r_spec_nuGcd (a1 : Int) (b2 : Int) : Option Int :=
  (r_spec_l1Abs a1).bind fun y3 =>
  (r_spec_l1Abs b2).bind fun y4 =>
  (r_spec_nuGcd_L7 FU y3 y4).bind fun o8 =>
  some o8

def r_spec_foContent (f1 : (Int × Int × Int)) : Option Int :=
  (r_spec_nuGcd f1.1 f1.2.1).bind fun y2 =>
  (r_spec_nuGcd y2 f1.2.2).bind fun y3 =>
  some y3

def r_spec_reLess (vm1 : (Int × Int × Int × Int)) (vn2 : (Int × Int × Int × Int)) : Option Bool :=
  bif (!eqI vm1.1 vn2.1) then
    (
      some (ltI vm1.1 vn2.1)
    )
  else
    (
      bif (!eqI vm1.2.1 vn2.2.1) then
        (
          some (ltI vm1.2.1 vn2.2.1)
        )
      else
        (
          bif (!eqI vm1.2.2.1 vn2.2.2.1) then
            (
              some (ltI vm1.2.2.1 vn2.2.2.1)
            )
          else
            (
              some (ltI vm1.2.2.2 vn2.2.2.2)
            )
        )
    )

def r_spec_reAutomorphs_L30 (f23 : Int) (f24 : Int) (f25 : Int) (f26 : Int) (f6 : Int) (f7 : Int) (f8 : Int) (t10 : Int) (u15 : Int) (y9 : Int) : Nat → Int → List ((Int × Int × Int × Int)) → Option (Int × (List ((Int × Int × Int × Int))))
  | 0, _, _ => none
  | n + 1, vat28, l29 =>
    (bif (ltI 0 vat28) then ((getI l29 (w64 (vat28 - 1))).bind fun e33 => (getI l29 (w64 (vat28 - 1))).bind fun e34 => (r_spec_reLess ((f23, f24, f25, f26)) e34).bind fun y35 => some y35) else some false).bind fun b36 =>
    bif b36 then
      (
        (getI l29 (w64 (vat28 - 1))).bind fun e38 =>
        (getI l29 (w64 (vat28 - 1))).bind fun e39 =>
        (getI l29 vat28).bind fun e40 =>
        (getI l29 vat28).bind fun e41 =>
        sI (w64 (vat28 - 1)) fun vat42 =>
        r_spec_reAutomorphs_L30 f23 f24 f25 f26 f6 f7 f8 t10 u15 y9 n vat42 (l29.set (Int.toNat (vat28)) e39)
      )
    else
      (
        some (vat28, l29)
      )
def r_spec_reAutomorphs_L17 (f6 : Int) (f7 : Int) (f8 : Int) (t10 : Int) (y9 : Int) : Nat → Int → List ((Int × Int × Int × Int)) → Option (List ((Int × Int × Int × Int)))
  | 0, _, _ => none
  | n + 1, u15, l16 =>
    bif (leI u15 1) then
      (
        (some (!eqI (w64 ((w64 (t10 * t10)) - (w64 ((w64 (y9 * u15)) * u15)))) 4)).bind fun t20 =>
        bif t20 then
          (
            sI (w64 (u15 + 1)) fun u22 =>
            r_spec_reAutomorphs_L17 f6 f7 f8 t10 y9 n u22 l16
          )
        else
          (
            sI (w64 (Int.tdiv (w64 (t10 - (w64 (f7 * u15)))) 2)) fun f23 =>
            sI (w64 ((w64 (0 - f8)) * u15)) fun f24 =>
            sI (w64 (f6 * u15)) fun f25 =>
            sI (w64 (Int.tdiv (w64 (t10 + (w64 (f7 * u15)))) 2)) fun f26 =>
            (room (l16.length + ([(f23, f24, f25, f26)]).length)).bind fun u27 =>
            (r_spec_reAutomorphs_L30 f23 f24 f25 f26 f6 f7 f8 t10 u15 y9 FU ((l16.length : Int)) (l16 ++ ([(f23, f24, f25, f26)]))).bind fun o31 =>
            (getI o31.2 o31.1).bind fun e43 =>
            (getI o31.2 o31.1).bind fun e44 =>
            sI (w64 (u15 + 1)) fun u45 =>
            r_spec_reAutomorphs_L17 f6 f7 f8 t10 y9 n u45 (o31.2.set (Int.toNat (o31.1)) ((f23, f24, f25, f26)))
          )
      )
    else
      (
        some l16
      )
def r_spec_reAutomorphs_L12 (f6 : Int) (f7 : Int) (f8 : Int) (y9 : Int) : Nat → Int → List ((Int × Int × Int × Int)) → Option (List ((Int × Int × Int × Int)))
  | 0, _, _ => none
  | n + 1, t10, l11 =>
    bif (leI t10 2) then
      (
        (r_spec_reAutomorphs_L17 f6 f7 f8 t10 y9 FU (-1) l11).bind fun o18 =>
        sI (w64 (t10 + 1)) fun t46 =>
        r_spec_reAutomorphs_L12 f6 f7 f8 y9 n t46 o18
      )
    else
      (
        some l11
      )
def r_spec_reAutomorphs (f1 : (Int × Int × Int)) : Option (List ((Int × Int × Int × Int))) :=
  (r_spec_foContent f1).bind fun y2 =>
  (nz y2).bind fun z3 =>
  (nz y2).bind fun z4 =>
  (nz y2).bind fun z5 =>
  sI (w64 (Int.tdiv f1.1 y2)) fun f6 =>
  sI (w64 (Int.tdiv f1.2.1 y2)) fun f7 =>
  sI (w64 (Int.tdiv f1.2.2 y2)) fun f8 =>
  (r_spec_foDisc ((f6, f7, f8))).bind fun y9 =>
  (r_spec_reAutomorphs_L12 f6 f7 f8 y9 FU (-2) (([] : List ((Int × Int × Int × Int))))).bind fun o13 =>
  some o13

def r_spec_l1Num : Nat → Int → Option ByteArray
  | 0, _ => none
  | n + 1, vn1 =>
    bif (ltI vn1 10) then
      (
        some (bytesI ([IntKind.u8.wrap (w64 (48 + vn1))]))
      )
    else
      (
        (r_spec_l1Num n (w64 (Int.tdiv vn1 10))).bind fun y3 =>
        (catR y3 (bytesI ([IntKind.u8.wrap (w64 (48 + (Int.tmod vn1 10)))]))).bind fun u4 =>
        some (y3 ++ (bytesI ([IntKind.u8.wrap (w64 (48 + (Int.tmod vn1 10)))])))
      )

def r_spec_l1Int (vn1 : Int) : Option ByteArray :=
  bif (ltI vn1 0) then
    (
      (r_spec_l1Num FU (w64 (0 - vn1))).bind fun y3 =>
      (catR ((⟨#[45]⟩ : ByteArray)) y3).bind fun u4 =>
      some (((⟨#[45]⟩ : ByteArray)) ++ y3)
    )
  else
    (
      (r_spec_l1Num FU vn1).bind fun y5 =>
      some y5
    )

def r_spec_foText (f1 : (Int × Int × Int)) : Option ByteArray :=
  (r_spec_l1Int f1.1).bind fun y2 =>
  (catR ((⟨#[40]⟩ : ByteArray)) y2).bind fun u3 =>
  (catR (((⟨#[40]⟩ : ByteArray)) ++ y2) ((⟨#[44]⟩ : ByteArray))).bind fun u4 =>
  (r_spec_l1Int f1.2.1).bind fun y5 =>
  (catR ((((⟨#[40]⟩ : ByteArray)) ++ y2) ++ ((⟨#[44]⟩ : ByteArray))) y5).bind fun u6 =>
  (catR (((((⟨#[40]⟩ : ByteArray)) ++ y2) ++ ((⟨#[44]⟩ : ByteArray))) ++ y5) ((⟨#[44]⟩ : ByteArray))).bind fun u7 =>
  (r_spec_l1Int f1.2.2).bind fun y8 =>
  (catR ((((((⟨#[40]⟩ : ByteArray)) ++ y2) ++ ((⟨#[44]⟩ : ByteArray))) ++ y5) ++ ((⟨#[44]⟩ : ByteArray))) y8).bind fun u9 =>
  (catR (((((((⟨#[40]⟩ : ByteArray)) ++ y2) ++ ((⟨#[44]⟩ : ByteArray))) ++ y5) ++ ((⟨#[44]⟩ : ByteArray))) ++ y8) ((⟨#[41]⟩ : ByteArray))).bind fun u10 =>
  some ((((((((⟨#[40]⟩ : ByteArray)) ++ y2) ++ ((⟨#[44]⟩ : ByteArray))) ++ y5) ++ ((⟨#[44]⟩ : ByteArray))) ++ y8) ++ ((⟨#[41]⟩ : ByteArray)))

def r_spec_foMatrixText (vm1 : (Int × Int × Int × Int)) : Option ByteArray :=
  (r_spec_l1Int vm1.1).bind fun y2 =>
  (catR ((⟨#[91]⟩ : ByteArray)) y2).bind fun u3 =>
  (catR (((⟨#[91]⟩ : ByteArray)) ++ y2) ((⟨#[44]⟩ : ByteArray))).bind fun u4 =>
  (r_spec_l1Int vm1.2.1).bind fun y5 =>
  (catR ((((⟨#[91]⟩ : ByteArray)) ++ y2) ++ ((⟨#[44]⟩ : ByteArray))) y5).bind fun u6 =>
  (catR (((((⟨#[91]⟩ : ByteArray)) ++ y2) ++ ((⟨#[44]⟩ : ByteArray))) ++ y5) ((⟨#[59]⟩ : ByteArray))).bind fun u7 =>
  (r_spec_l1Int vm1.2.2.1).bind fun y8 =>
  (catR ((((((⟨#[91]⟩ : ByteArray)) ++ y2) ++ ((⟨#[44]⟩ : ByteArray))) ++ y5) ++ ((⟨#[59]⟩ : ByteArray))) y8).bind fun u9 =>
  (catR (((((((⟨#[91]⟩ : ByteArray)) ++ y2) ++ ((⟨#[44]⟩ : ByteArray))) ++ y5) ++ ((⟨#[59]⟩ : ByteArray))) ++ y8) ((⟨#[44]⟩ : ByteArray))).bind fun u10 =>
  (r_spec_l1Int vm1.2.2.2).bind fun y11 =>
  (catR ((((((((⟨#[91]⟩ : ByteArray)) ++ y2) ++ ((⟨#[44]⟩ : ByteArray))) ++ y5) ++ ((⟨#[59]⟩ : ByteArray))) ++ y8) ++ ((⟨#[44]⟩ : ByteArray))) y11).bind fun u12 =>
  (catR (((((((((⟨#[91]⟩ : ByteArray)) ++ y2) ++ ((⟨#[44]⟩ : ByteArray))) ++ y5) ++ ((⟨#[59]⟩ : ByteArray))) ++ y8) ++ ((⟨#[44]⟩ : ByteArray))) ++ y11) ((⟨#[93]⟩ : ByteArray))).bind fun u13 =>
  some ((((((((((⟨#[91]⟩ : ByteArray)) ++ y2) ++ ((⟨#[44]⟩ : ByteArray))) ++ y5) ++ ((⟨#[59]⟩ : ByteArray))) ++ y8) ++ ((⟨#[44]⟩ : ByteArray))) ++ y11) ++ ((⟨#[93]⟩ : ByteArray)))

def r_spec_prText_L4 (l1 : List ByteArray) : Nat → ByteArray → Int → Option ByteArray
  | 0, _, _ => none
  | n + 1, out2, t3 =>
    bif (ltI t3 ((l1.length : Int))) then
      (
        (getI l1 t3).bind fun e7 =>
        bif (ltI 0 t3) then
          (
            (catR out2 ((⟨#[32]⟩ : ByteArray))).bind fun u9 =>
            (catR (out2 ++ ((⟨#[32]⟩ : ByteArray))) e7).bind fun u10 =>
            sI (w64 (t3 + 1)) fun t11 =>
            r_spec_prText_L4 l1 n ((out2 ++ ((⟨#[32]⟩ : ByteArray))) ++ e7) t11
          )
        else
          (
            (catR out2 e7).bind fun u12 =>
            sI (w64 (t3 + 1)) fun t13 =>
            r_spec_prText_L4 l1 n (out2 ++ e7) t13
          )
      )
    else
      (
        some out2
      )
def r_spec_prText (l1 : List ByteArray) : Option ByteArray :=
  (r_spec_prText_L4 l1 FU ((⟨#[]⟩ : ByteArray)) 0).bind fun o5 =>
  some o5

def r_spec_AutomorphCertificates_L7 (f1 : (Int × Int × Int)) (y4 : List ((Int × Int × Int × Int))) : Nat → Int → List ByteArray → Option (List ByteArray)
  | 0, _, _ => none
  | n + 1, t5, l6 =>
    bif (ltI t5 ((y4.length : Int))) then
      (
        (getI y4 t5).bind fun e10 =>
        (getI y4 t5).bind fun e11 =>
        (r_spec_foText f1).bind fun y12 =>
        (r_spec_foMatrixText e11).bind fun y13 =>
        (r_spec_prText ([(⟨#[97, 117, 116, 111, 109, 111, 114, 112, 104]⟩ : ByteArray), y12, y13])).bind fun y14 =>
        (room (l6.length + ([y14]).length)).bind fun u15 =>
        sI (w64 (t5 + 1)) fun t16 =>
        r_spec_AutomorphCertificates_L7 f1 y4 n t16 (l6 ++ ([y14]))
      )
    else
      (
        some l6
      )
def r_spec_AutomorphCertificates (f1 : (Int × Int × Int)) : Option ((List ByteArray) × Bool) :=
  (r_spec_foDefinite f1).bind fun y2 =>
  bif (!y2) then
    (
      some ((([] : List ByteArray), false))
    )
  else
    (
      (r_spec_reAutomorphs f1).bind fun y4 =>
      (r_spec_AutomorphCertificates_L7 f1 y4 FU 0 (([] : List ByteArray))).bind fun o8 =>
      some ((o8, true))
    )

def r_impl_areNumbers_L3 (list1 : List Int) : Nat → Int → Option (Unit ⊕ Bool)
  | 0, _ => none
  | n + 1, t2 =>
    bif (ltI t2 ((list1.length : Int))) then
      (
        (getI list1 t2).bind fun e6 =>
        bif (bif (ltI e6 (-1000000)) then true else (ltI 1000000 e6)) then
          (
            some (.inr false)
          )
        else
          (
            sI (w64 (t2 + 1)) fun t9 =>
            r_impl_areNumbers_L3 list1 n t9
          )
      )
    else
      (
        some (.inl ())
      )
def r_impl_areNumbers (list1 : List Int) : Option Bool :=
  (r_impl_areNumbers_L3 list1 FU 0).bind fun qo4 =>
  match qo4 with
  | .inr r => some r
  | .inl o4 =>
    some true

def r_impl_IsForm (f1 : (Int × Int × Int)) : Option Bool :=
  (r_impl_areNumbers ([f1.1, f1.2.1, f1.2.2])).bind fun y2 =>
  some y2

def r_impl_Form_disc (f1 : (Int × Int × Int)) : Option Int :=
  sI (w64 ((w64 (f1.2.1 * f1.2.1)) - (w64 ((w64 (4 * f1.1)) * f1.2.2)))) fun t2 =>
  some t2

def r_impl_isDefinite (f1 : (Int × Int × Int)) : Option Bool :=
  (r_impl_IsForm f1).bind fun y2 =>
  (bif y2 then ((r_impl_Form_disc f1).bind fun y4 => some (ltI y4 0)) else some false).bind fun b5 =>
  some (bif b5 then (ltI 0 f1.1) else false)

def r_impl_one : Option (Int × Int × Int × Int) :=
  some ((1, 0, 0, 1))

def r_impl_Form_isNormal (f1 : (Int × Int × Int)) : Option Bool :=
  (some (bif (ltI (w64 (0 - f1.1)) f1.2.1) then (leI f1.2.1 f1.1) else false)).bind fun t3 =>
  some t3

def r_impl_Form_isReduced (f1 : (Int × Int × Int)) : Option Bool :=
  (r_impl_Form_isNormal f1).bind fun y2 =>
  (some (bif y2 then (bif (ltI f1.1 f1.2.2) then true else (bif (eqI f1.1 f1.2.2) then (leI 0 f1.2.1) else false)) else false)).bind fun t6 =>
  some t6

def r_impl_mod (a1 : Int) (vm2 : Int) : Option Int :=
  (nz vm2).bind fun z3 =>
  sI (Int.tmod a1 vm2) fun vr4 =>
  bif (ltI vr4 0) then
    (
      sI (w64 (vr4 + vm2)) fun vr6 =>
      some vr6
    )
  else
    (
      some vr4
    )

def r_impl_floorDiv (a1 : Int) (vm2 : Int) : Option Int :=
  (r_impl_mod a1 vm2).bind fun y3 =>
  (nz vm2).bind fun z4 =>
  sI (w64 (Int.tdiv (w64 (a1 - y3)) vm2)) fun t5 =>
  some t5

def r_impl_Form_step (f1 : (Int × Int × Int)) : Option (Int × Int × Int × Int) :=
  (r_impl_Form_isReduced f1).bind fun y2 =>
  bif y2 then
    (
      (r_impl_one).bind fun y4 =>
      some y4
    )
  else
    (
      (r_impl_Form_isNormal f1).bind fun y5 =>
      bif (!y5) then
        (
          (r_impl_floorDiv (w64 (f1.1 - f1.2.1)) (w64 (2 * f1.1))).bind fun y7 =>
          some ((1, y7, 0, 1))
        )
      else
        (
          some ((0, -1, 1, 0))
        )
    )

def r_impl_Form_at (f1 : (Int × Int × Int)) (x2 : Int) (y3 : Int) : Option Int :=
  sI (w64 ((w64 ((w64 ((w64 (f1.1 * x2)) * x2)) + (w64 ((w64 (f1.2.1 * x2)) * y3)))) + (w64 ((w64 (f1.2.2 * y3)) * y3)))) fun t4 =>
  some t4

def r_impl_Form_polar (f1 : (Int × Int × Int)) (x2 : Int) (y3 : Int) (u4 : Int) (v5 : Int) : Option Int :=
  sI (w64 ((w64 ((w64 ((w64 ((w64 (2 * f1.1)) * x2)) * u4)) + (w64 (f1.2.1 * (w64 ((w64 (x2 * v5)) + (w64 (y3 * u4)))))))) + (w64 ((w64 ((w64 (2 * f1.2.2)) * y3)) * v5)))) fun t6 =>
  some t6

def r_impl_Form_substitute (f1 : (Int × Int × Int)) (vm2 : (Int × Int × Int × Int)) : Option (Int × Int × Int) :=
  (r_impl_Form_at f1 vm2.1 vm2.2.2.1).bind fun y3 =>
  (r_impl_Form_polar f1 vm2.1 vm2.2.2.1 vm2.2.1 vm2.2.2.2).bind fun y4 =>
  (r_impl_Form_at f1 vm2.2.1 vm2.2.2.2).bind fun y5 =>
  some ((y3, y4, y5))

def r_impl_Matrix_times (vm1 : (Int × Int × Int × Int)) (vn2 : (Int × Int × Int × Int)) : Option (Int × Int × Int × Int) :=
  sI (w64 ((w64 (vm1.1 * vn2.1)) + (w64 (vm1.2.1 * vn2.2.2.1)))) fun f3 =>
  sI (w64 ((w64 (vm1.1 * vn2.2.1)) + (w64 (vm1.2.1 * vn2.2.2.2)))) fun f4 =>
  sI (w64 ((w64 (vm1.2.2.1 * vn2.1)) + (w64 (vm1.2.2.2 * vn2.2.2.1)))) fun f5 =>
  sI (w64 ((w64 (vm1.2.2.1 * vn2.2.1)) + (w64 (vm1.2.2.2 * vn2.2.2.2)))) fun f6 =>
  some ((f3, f4, f5, f6))

def r_impl_reduce_L10 : Nat → Int → Int → Int → Int → Int → Int → Int → Option (Int × Int × Int × Int × Int × Int × Int)
  | 0, _, _, _, _, _, _, _ => none
  | n + 1, f3, f4, f5, f6, f7, f8, f9 =>
    (r_impl_Form_isReduced ((f7, f8, f9))).bind fun y12 =>
    bif (!y12) then
      (
        (r_impl_Form_step ((f7, f8, f9))).bind fun y14 =>
        (r_impl_Form_substitute ((f7, f8, f9)) y14).bind fun y15 =>
        (r_impl_Matrix_times ((f3, f4, f5, f6)) y14).bind fun y16 =>
        r_impl_reduce_L10 n y16.1 y16.2.1 y16.2.2.1 y16.2.2.2 y15.1 y15.2.1 y15.2.2
      )
    else
      (
        some (f3, f4, f5, f6, f7, f8, f9)
      )
def r_impl_reduce (f1 : (Int × Int × Int)) : Option (((Int × Int × Int)) × ((Int × Int × Int × Int))) :=
  (r_impl_one).bind fun y2 =>
  (r_impl_reduce_L10 FU y2.1 y2.2.1 y2.2.2.1 y2.2.2.2 f1.1 f1.2.1 f1.2.2).bind fun o11 =>
  some ((o11.2.2.2.2, (o11.1, o11.2.1, o11.2.2.1, o11.2.2.2.1)))

def r_impl_Form_turns_V (f1 : List ((Int × Int × Int × Int))) : Nat → Int → List ((Int × Int × Int × Int)) → Option (List ((Int × Int × Int × Int)))
  | 0, _, _ => none
  | n + 1, t3, l4 =>
    bif (ltI t3 ((f1.length : Int))) then
      (
        (getI f1 t3).bind fun e8 =>
        (room ((f1 ++ l4).length + ([(w64 (0 - e8.1), w64 (0 - e8.2.1), w64 (0 - e8.2.2.1), w64 (0 - e8.2.2.2))]).length)).bind fun u9 =>
        sI (w64 (t3 + 1)) fun t11 =>
        r_impl_Form_turns_V f1 n t11 (l4 ++ ([(w64 (0 - e8.1), w64 (0 - e8.2.1), w64 (0 - e8.2.2.1), w64 (0 - e8.2.2.2))]))
      )
    else
      (
        some l4
      )

def r_impl_Form_turns (f1 : (Int × Int × Int)) : Option (List ((Int × Int × Int × Int))) :=
  (r_impl_one).bind fun y2 =>
  bif (bif (eqI f1.1 f1.2.2) then (eqI f1.2.1 0) else false) then
    (
      (room (([y2]).length + ([(0, -1, 1, 0)]).length)).bind fun u5 =>
      (r_impl_Form_turns_V (([y2]) ++ ([(0, -1, 1, 0)])) FU 0 []).bind fun oV =>
      some ((([y2]) ++ ([(0, -1, 1, 0)])) ++ oV)
    )
  else
    (
      bif (bif (eqI f1.1 f1.2.2) then (eqI f1.2.1 f1.1) else false) then
        (
          (room (([y2]).length + ([(0, -1, 1, 1), (1, 1, -1, 0)]).length)).bind fun u8 =>
          (r_impl_Form_turns_V (([y2]) ++ ([(0, -1, 1, 1), (1, 1, -1, 0)])) FU 0 []).bind fun oV =>
          some ((([y2]) ++ ([(0, -1, 1, 1), (1, 1, -1, 0)])) ++ oV)
        )
      else
        (
          (r_impl_Form_turns_V ([y2]) FU 0 []).bind fun oV =>
          some (([y2]) ++ oV)
        )
    )

def r_impl_Matrix_det (vm1 : (Int × Int × Int × Int)) : Option Int :=
  sI (w64 ((w64 (vm1.1 * vm1.2.2.2)) - (w64 (vm1.2.1 * vm1.2.2.1)))) fun t2 =>
  some t2

def r_impl_Matrix_inverse (vm1 : (Int × Int × Int × Int)) : Option (Int × Int × Int × Int) :=
  (r_impl_Matrix_det vm1).bind fun y2 =>
  sI (w64 (y2 * vm1.2.2.2)) fun f3 =>
  sI (w64 ((w64 (0 - y2)) * vm1.2.1)) fun f4 =>
  sI (w64 ((w64 (0 - y2)) * vm1.2.2.1)) fun f5 =>
  sI (w64 (y2 * vm1.1)) fun f6 =>
  some ((f3, f4, f5, f6))

def r_impl_IsMatrix (vm1 : (Int × Int × Int × Int)) : Option Bool :=
  (r_impl_areNumbers ([vm1.1, vm1.2.1, vm1.2.2.1, vm1.2.2.2])).bind fun y2 =>
  some y2

def r_impl_lessMatrix (vm1 : (Int × Int × Int × Int)) (vn2 : (Int × Int × Int × Int)) : Option Bool :=
  bif (!eqI vm1.1 vn2.1) then
    (
      some (ltI vm1.1 vn2.1)
    )
  else
    (
      bif (!eqI vm1.2.1 vn2.2.1) then
        (
          some (ltI vm1.2.1 vn2.2.1)
        )
      else
        (
          bif (!eqI vm1.2.2.1 vn2.2.2.1) then
            (
              some (ltI vm1.2.2.1 vn2.2.2.1)
            )
          else
            (
              some (ltI vm1.2.2.2 vn2.2.2.2)
            )
        )
    )

def r_impl_Automorphs_L19 (l7 : List ((Int × Int × Int × Int))) (t6 : Int) (y15 : (Int × Int × Int × Int)) (y4 : (((Int × Int × Int)) × ((Int × Int × Int × Int)))) (y5 : List ((Int × Int × Int × Int))) : Nat → Int → Option Int
  | 0, _ => none
  | n + 1, vat18 =>
    (bif (ltI 0 vat18) then ((getI l7 (w64 (vat18 - 1))).bind fun e22 => (getI l7 (w64 (vat18 - 1))).bind fun e23 => (r_impl_lessMatrix y15 e23).bind fun y24 => some y24) else some false).bind fun b25 =>
    bif b25 then
      (
        sI (w64 (vat18 - 1)) fun vat27 =>
        r_impl_Automorphs_L19 l7 t6 y15 y4 y5 n vat27
      )
    else
      (
        some vat18
      )
def r_impl_Automorphs_L8 (y4 : (((Int × Int × Int)) × ((Int × Int × Int × Int)))) (y5 : List ((Int × Int × Int × Int))) : Nat → Int → List ((Int × Int × Int × Int)) → Option (List ((Int × Int × Int × Int)) ⊕ ((List ((Int × Int × Int × Int))) × Bool))
  | 0, _, _ => none
  | n + 1, t6, l7 =>
    bif (ltI t6 ((y5.length : Int))) then
      (
        (getI y5 t6).bind fun e11 =>
        (getI y5 t6).bind fun e12 =>
        (r_impl_Matrix_times y4.2 e12).bind fun y13 =>
        (r_impl_Matrix_inverse y4.2).bind fun y14 =>
        (r_impl_Matrix_times y13 y14).bind fun y15 =>
        (r_impl_IsMatrix y15).bind fun y16 =>
        bif (!y16) then
          (
            some (.inr (((([] : List ((Int × Int × Int × Int))), false))))
          )
        else
          (
            (r_impl_Automorphs_L19 l7 t6 y15 y4 y5 FU ((l7.length : Int))).bind fun o20 =>
            (room (l7.length + ([(0, 0, 0, 0)]).length)).bind fun u28 =>
            (slc (l7 ++ ([(0, 0, 0, 0)])).length (w64 (o20 + 1)) ((l7 ++ ([(0, 0, 0, 0)])).length : Int)).bind fun u29 =>
            (slc (l7 ++ ([(0, 0, 0, 0)])).length o20 ((l7 ++ ([(0, 0, 0, 0)])).length : Int)).bind fun u30 =>
            (some (copyL (l7 ++ ([(0, 0, 0, 0)])) (Int.toNat (w64 (o20 + 1))) (Int.toNat o20))).bind fun l31 =>
            (getI l31 o20).bind fun e32 =>
            (getI l31 o20).bind fun e33 =>
            sI (w64 (t6 + 1)) fun t34 =>
            r_impl_Automorphs_L8 y4 y5 n t34 (l31.set (Int.toNat (o20)) y15)
          )
      )
    else
      (
        some (.inl l7)
      )
def r_impl_Automorphs (f1 : (Int × Int × Int)) : Option ((List ((Int × Int × Int × Int))) × Bool) :=
  (r_impl_isDefinite f1).bind fun y2 =>
  bif (!y2) then
    (
      some ((([] : List ((Int × Int × Int × Int))), false))
    )
  else
    (
      (r_impl_reduce f1).bind fun y4 =>
      (r_impl_Form_turns y4.1).bind fun y5 =>
      (r_impl_Automorphs_L8 y4 y5 FU 0 (([] : List ((Int × Int × Int × Int))))).bind fun qo9 =>
      match qo9 with
      | .inr r => some r
      | .inl o9 =>
        some ((o9, true))
    )

def r_impl_formText (f1 : (Int × Int × Int)) : Option ByteArray :=
  (r_strconv_Itoa f1.1).bind fun y2 =>
  (catR ((⟨#[40]⟩ : ByteArray)) y2).bind fun u3 =>
  (catR (((⟨#[40]⟩ : ByteArray)) ++ y2) ((⟨#[44]⟩ : ByteArray))).bind fun u4 =>
  (r_strconv_Itoa f1.2.1).bind fun y5 =>
  (catR ((((⟨#[40]⟩ : ByteArray)) ++ y2) ++ ((⟨#[44]⟩ : ByteArray))) y5).bind fun u6 =>
  (catR (((((⟨#[40]⟩ : ByteArray)) ++ y2) ++ ((⟨#[44]⟩ : ByteArray))) ++ y5) ((⟨#[44]⟩ : ByteArray))).bind fun u7 =>
  (r_strconv_Itoa f1.2.2).bind fun y8 =>
  (catR ((((((⟨#[40]⟩ : ByteArray)) ++ y2) ++ ((⟨#[44]⟩ : ByteArray))) ++ y5) ++ ((⟨#[44]⟩ : ByteArray))) y8).bind fun u9 =>
  (catR (((((((⟨#[40]⟩ : ByteArray)) ++ y2) ++ ((⟨#[44]⟩ : ByteArray))) ++ y5) ++ ((⟨#[44]⟩ : ByteArray))) ++ y8) ((⟨#[41]⟩ : ByteArray))).bind fun u10 =>
  some ((((((((⟨#[40]⟩ : ByteArray)) ++ y2) ++ ((⟨#[44]⟩ : ByteArray))) ++ y5) ++ ((⟨#[44]⟩ : ByteArray))) ++ y8) ++ ((⟨#[41]⟩ : ByteArray)))

def r_impl_matrixText (vm1 : (Int × Int × Int × Int)) : Option ByteArray :=
  (r_strconv_Itoa vm1.1).bind fun y2 =>
  (catR ((⟨#[91]⟩ : ByteArray)) y2).bind fun u3 =>
  (catR (((⟨#[91]⟩ : ByteArray)) ++ y2) ((⟨#[44]⟩ : ByteArray))).bind fun u4 =>
  (r_strconv_Itoa vm1.2.1).bind fun y5 =>
  (catR ((((⟨#[91]⟩ : ByteArray)) ++ y2) ++ ((⟨#[44]⟩ : ByteArray))) y5).bind fun u6 =>
  (catR (((((⟨#[91]⟩ : ByteArray)) ++ y2) ++ ((⟨#[44]⟩ : ByteArray))) ++ y5) ((⟨#[59]⟩ : ByteArray))).bind fun u7 =>
  (r_strconv_Itoa vm1.2.2.1).bind fun y8 =>
  (catR ((((((⟨#[91]⟩ : ByteArray)) ++ y2) ++ ((⟨#[44]⟩ : ByteArray))) ++ y5) ++ ((⟨#[59]⟩ : ByteArray))) y8).bind fun u9 =>
  (catR (((((((⟨#[91]⟩ : ByteArray)) ++ y2) ++ ((⟨#[44]⟩ : ByteArray))) ++ y5) ++ ((⟨#[59]⟩ : ByteArray))) ++ y8) ((⟨#[44]⟩ : ByteArray))).bind fun u10 =>
  (r_strconv_Itoa vm1.2.2.2).bind fun y11 =>
  (catR ((((((((⟨#[91]⟩ : ByteArray)) ++ y2) ++ ((⟨#[44]⟩ : ByteArray))) ++ y5) ++ ((⟨#[59]⟩ : ByteArray))) ++ y8) ++ ((⟨#[44]⟩ : ByteArray))) y11).bind fun u12 =>
  (catR (((((((((⟨#[91]⟩ : ByteArray)) ++ y2) ++ ((⟨#[44]⟩ : ByteArray))) ++ y5) ++ ((⟨#[59]⟩ : ByteArray))) ++ y8) ++ ((⟨#[44]⟩ : ByteArray))) ++ y11) ((⟨#[93]⟩ : ByteArray))).bind fun u13 =>
  some ((((((((((⟨#[91]⟩ : ByteArray)) ++ y2) ++ ((⟨#[44]⟩ : ByteArray))) ++ y5) ++ ((⟨#[59]⟩ : ByteArray))) ++ y8) ++ ((⟨#[44]⟩ : ByteArray))) ++ y11) ++ ((⟨#[93]⟩ : ByteArray)))

def r_impl_certificate (kind1 : ByteArray) (words2 : List ByteArray) : Option ByteArray :=
  (catR kind1 ((⟨#[32]⟩ : ByteArray))).bind fun u3 =>
  (r_strings_Join words2 ((⟨#[32]⟩ : ByteArray))).bind fun y4 =>
  (catR (kind1 ++ ((⟨#[32]⟩ : ByteArray))) y4).bind fun u5 =>
  some ((kind1 ++ ((⟨#[32]⟩ : ByteArray))) ++ y4)

def r_impl_AutomorphCertificates_L5 (f1 : (Int × Int × Int)) (y2 : ((List ((Int × Int × Int × Int))) × Bool)) : Nat → Int → List ByteArray → Option (List ByteArray)
  | 0, _, _ => none
  | n + 1, t3, l4 =>
    bif (ltI t3 ((y2.1.length : Int))) then
      (
        (getI y2.1 t3).bind fun e8 =>
        (getI y2.1 t3).bind fun e9 =>
        (r_impl_formText f1).bind fun y10 =>
        (r_impl_matrixText e9).bind fun y11 =>
        (r_impl_certificate ((⟨#[97, 117, 116, 111, 109, 111, 114, 112, 104]⟩ : ByteArray)) ([y10, y11])).bind fun y12 =>
        (room (l4.length + ([y12]).length)).bind fun u13 =>
        sI (w64 (t3 + 1)) fun t14 =>
        r_impl_AutomorphCertificates_L5 f1 y2 n t14 (l4 ++ ([y12]))
      )
    else
      (
        some l4
      )
def r_impl_AutomorphCertificates (f1 : (Int × Int × Int)) : Option ((List ByteArray) × Bool) :=
  (r_impl_Automorphs f1).bind fun y2 =>
  (r_impl_AutomorphCertificates_L5 f1 y2 FU 0 (([] : List ByteArray))).bind fun o6 =>
  some ((o6, y2.2))

def r_laws_eqStringS_L5 (a1 : List ByteArray) (b2 : List ByteArray) : Nat → Int → Option (Unit ⊕ Bool)
  | 0, _ => none
  | n + 1, i4 =>
    bif (ltI i4 ((a1.length : Int))) then
      (
        (getI a1 i4).bind fun e8 =>
        (getI b2 i4).bind fun e9 =>
        bif (!(e8.toList == e9.toList)) then
          (
            some (.inr false)
          )
        else
          (
            sI (w64 (i4 + 1)) fun i11 =>
            r_laws_eqStringS_L5 a1 b2 n i11
          )
      )
    else
      (
        some (.inl ())
      )
def r_laws_eqStringS (a1 : List ByteArray) (b2 : List ByteArray) : Option Bool :=
  bif (!eqI ((a1.length : Int)) ((b2.length : Int))) then
    (
      some false
    )
  else
    (
      (r_laws_eqStringS_L5 a1 b2 FU 0).bind fun qo6 =>
      match qo6 with
      | .inr r => some r
      | .inl o6 =>
        some true
    )

def r_laws_markText_L5 : Nat → Int → ByteArray → Option ByteArray
  | 0, _, _ => none
  | n + 1, k3, out4 =>
    bif (ltI 0 k3) then
      (
        (catR (bytesI ([IntKind.u8.wrap (w64 (48 + (Int.tmod k3 10)))])) out4).bind fun u8 =>
        sI (w64 (Int.tdiv k3 10)) fun k9 =>
        r_laws_markText_L5 n k9 ((bytesI ([IntKind.u8.wrap (w64 (48 + (Int.tmod k3 10)))])) ++ out4)
      )
    else
      (
        some out4
      )
def r_laws_markText (k1 : Int) : Option ByteArray :=
  bif (leI k1 0) then
    (
      some ((⟨#[109, 48]⟩ : ByteArray))
    )
  else
    (
      (r_laws_markText_L5 FU k1 ((⟨#[]⟩ : ByteArray))).bind fun o6 =>
      (catR ((⟨#[109]⟩ : ByteArray)) o6).bind fun u10 =>
      some (((⟨#[109]⟩ : ByteArray)) ++ o6)
    )

def r_laws_markStringS_L6 : Nat → Int → Int → List ByteArray → Option (Int × (List ByteArray))
  | 0, _, _, _ => none
  | n + 1, k3, i4, l5 =>
    bif (ltI i4 ((l5.length : Int))) then
      (
        (r_laws_markText k3).bind fun y9 =>
        (getI l5 i4).bind fun e10 =>
        (getI l5 i4).bind fun e11 =>
        sI (w64 (k3 + 1)) fun k12 =>
        sI (w64 (i4 + 1)) fun i13 =>
        r_laws_markStringS_L6 n k12 i13 (l5.set (Int.toNat (i4)) y9)
      )
    else
      (
        some (k3, l5)
      )
def r_laws_markStringS (a1 : List ByteArray) (k2 : Int) : Option (Int × (List ByteArray)) :=
  (r_laws_markStringS_L6 FU k2 0 a1).bind fun o7 =>
  some ((o7.1, o7.2))

def r_laws_heldStringS_L5 (a1 : List ByteArray) : Nat → Int → Int → Option (Int ⊕ Int)
  | 0, _, _ => none
  | n + 1, k3, i4 =>
    bif (ltI i4 ((a1.length : Int))) then
      (
        (getI a1 i4).bind fun e8 =>
        (r_laws_markText k3).bind fun y9 =>
        bif (!(e8.toList == y9.toList)) then
          (
            some (.inr ((-1)))
          )
        else
          (
            sI (w64 (k3 + 1)) fun k11 =>
            sI (w64 (i4 + 1)) fun i12 =>
            r_laws_heldStringS_L5 a1 n k11 i12
          )
      )
    else
      (
        some (.inl k3)
      )
def r_laws_heldStringS (a1 : List ByteArray) (k2 : Int) : Option Int :=
  (r_laws_heldStringS_L5 a1 FU k2 0).bind fun qo6 =>
  match qo6 with
  | .inr r => some r
  | .inl o6 =>
    some o6

def r_laws_FnExactAutomorphCertificates (aF1 : (Int × Int × Int)) : Option Bool :=
  (r_laws_toForm aF1).bind fun y2 =>
  (r_spec_AutomorphCertificates y2).bind fun y3 =>
  (r_laws_toForm aF1).bind fun y4 =>
  (r_impl_AutomorphCertificates y4).bind fun y5 =>
  (r_laws_eqStringS y5.1 y3.1).bind fun y6 =>
  bif (bif (!y6) then true else (y5.2 != y3.2)) then
    (
      some false
    )
  else
    (
      (r_laws_markStringS y5.1 1).bind fun y9 =>
      (r_laws_heldStringS y9.2 1).bind fun y10 =>
      bif (ltI y10 0) then
        (
          some false
        )
      else
        (
          bif (!eqI y10 y9.1) then
            (
              some false
            )
          else
            (
              (r_laws_toForm aF1).bind fun y13 =>
              (r_impl_AutomorphCertificates y13).bind fun y14 =>
              (r_laws_eqStringS y14.1 y3.1).bind fun y15 =>
              bif (bif (!y15) then true else (y14.2 != y3.2)) then
                (
                  some false
                )
              else
                (
                  (r_laws_heldStringS y9.2 1).bind fun y18 =>
                  bif (ltI y18 0) then
                    (
                      some false
                    )
                  else
                    (
                      bif (!eqI y18 y9.1) then
                        (
                          some false
                        )
                      else
                        (
                          some true
                        )
                    )
                )
            )
        )
    )

end Go.Proofs.YtnifkkihamgmaaaDoor
