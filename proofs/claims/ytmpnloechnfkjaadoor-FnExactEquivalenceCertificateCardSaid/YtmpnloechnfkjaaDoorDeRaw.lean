/-
  What the functions of the program compute, as plain functions.
  Conditions: none.
-/
import Derived.Test.YtmpnloechnfkjaaDoorShRs

namespace Go.Proofs.YtmpnloechnfkjaaDoor

set_option linter.unusedVariables false

def r_laws_toForm (a1 : (Int × Int × Int)) : Option (Int × Int × Int) :=
  some a1

def r_spec_l1In (vn1 : Int) (lo2 : Int) (hi3 : Int) : Option Bool :=
  some (bif (leI lo2 vn1) then (leI vn1 hi3) else false)

def r_spec_nuGood (vn1 : Int) : Option Bool :=
  (r_spec_l1In vn1 (-1000000) 1000000).bind fun y2 =>
  some y2

def r_spec_foGood (f1 : (Int × Int × Int)) : Option Bool :=
  (r_spec_nuGood f1.1).bind fun y2 =>
  (bif y2 then ((r_spec_nuGood f1.2.1).bind fun y4 => some y4) else some false).bind fun b5 =>
  (bif b5 then ((r_spec_nuGood f1.2.2).bind fun y7 => some y7) else some false).bind fun b8 =>
  some b8

def r_spec_foDisc (f1 : (Int × Int × Int)) : Option Int :=
  sI (w64 ((w64 (f1.2.1 * f1.2.1)) - (w64 ((w64 (4 * f1.1)) * f1.2.2)))) fun t2 =>
  some t2

def r_spec_foDefinite (f1 : (Int × Int × Int)) : Option Bool :=
  (r_spec_foGood f1).bind fun y2 =>
  (bif y2 then ((r_spec_foDisc f1).bind fun y4 => some (ltI y4 0)) else some false).bind fun b5 =>
  some (bif b5 then (ltI 0 f1.1) else false)

def r_spec_reIs (f1 : (Int × Int × Int)) : Option Bool :=
  (some (bif (bif (ltI (w64 (0 - f1.1)) f1.2.1) then (leI f1.2.1 f1.1) else false) then (bif (ltI f1.1 f1.2.2) then true else (bif (eqI f1.1 f1.2.2) then (leI 0 f1.2.1) else false)) else false)).bind fun t6 =>
  some t6

def r_spec_nuMod (a1 : Int) (vm2 : Int) : Option Int :=
  (nz vm2).bind fun z3 =>
  sI (Int.tmod a1 vm2) fun vr4 =>
  bif (ltI vr4 0) then
    (
      sI (w64 (vr4 + vm2)) fun vr6 =>
      some vr6
    )
  else
    (
      some vr4
    )

def r_spec_reNormal (f1 : (Int × Int × Int)) : Option Int :=
  (r_spec_nuMod (w64 (f1.1 - f1.2.1)) (w64 (2 * f1.1))).bind fun y2 =>
  (nz (w64 (2 * f1.1))).bind fun z3 =>
  sI (w64 (Int.tdiv (w64 ((w64 (f1.1 - f1.2.1)) - y2)) (w64 (2 * f1.1)))) fun t4 =>
  some t4

def r_spec_reMove (f1 : (Int × Int × Int)) : Option (Int × Int × Int × Int) :=
  (r_spec_reNormal f1).bind fun y2 =>
  bif (!eqI y2 0) then
    (
      some ((1, y2, 0, 1))
    )
  else
    (
      (r_spec_reIs f1).bind fun y4 =>
      bif y4 then
        (
          some ((1, 0, 0, 1))
        )
      else
        (
          some ((0, -1, 1, 0))
        )
    )

def r_spec_foValue (f1 : (Int × Int × Int)) (x2 : Int) (y3 : Int) : Option Int :=
  sI (w64 ((w64 ((w64 ((w64 (f1.1 * x2)) * x2)) + (w64 ((w64 (f1.2.1 * x2)) * y3)))) + (w64 ((w64 (f1.2.2 * y3)) * y3)))) fun t4 =>
  some t4

def r_spec_foPolar (f1 : (Int × Int × Int)) (x2 : Int) (y3 : Int) (u4 : Int) (v5 : Int) : Option Int :=
  sI (w64 ((w64 ((w64 ((w64 ((w64 (2 * f1.1)) * x2)) * u4)) + (w64 (f1.2.1 * (w64 ((w64 (x2 * v5)) + (w64 (y3 * u4)))))))) + (w64 ((w64 ((w64 (2 * f1.2.2)) * y3)) * v5)))) fun t6 =>
  some t6

def r_spec_foAct (f1 : (Int × Int × Int)) (vm2 : (Int × Int × Int × Int)) : Option (Int × Int × Int) :=
  (r_spec_foValue f1 vm2.1 vm2.2.2.1).bind fun y3 =>
  (r_spec_foPolar f1 vm2.1 vm2.2.2.1 vm2.2.1 vm2.2.2.2).bind fun y4 =>
  (r_spec_foValue f1 vm2.2.1 vm2.2.2.2).bind fun y5 =>
  some ((y3, y4, y5))

def r_spec_foMul (vm1 : (Int × Int × Int × Int)) (vn2 : (Int × Int × Int × Int)) : Option (Int × Int × Int × Int) :=
  sI (w64 ((w64 (vm1.1 * vn2.1)) + (w64 (vm1.2.1 * vn2.2.2.1)))) fun f3 =>
  sI (w64 ((w64 (vm1.1 * vn2.2.1)) + (w64 (vm1.2.1 * vn2.2.2.2)))) fun f4 =>
  sI (w64 ((w64 (vm1.2.2.1 * vn2.1)) + (w64 (vm1.2.2.2 * vn2.2.2.1)))) fun f5 =>
  sI (w64 ((w64 (vm1.2.2.1 * vn2.2.1)) + (w64 (vm1.2.2.2 * vn2.2.2.2)))) fun f6 =>
  some ((f3, f4, f5, f6))

def r_spec_reReduce_L9 : Nat → Int → Int → Int → Int → Int → Int → Int → Option (Int × Int × Int × Int × Int × Int × Int)
  | 0, _, _, _, _, _, _, _ => none
  | n + 1, f2, f3, f4, f5, f6, f7, f8 =>
    (r_spec_reIs ((f6, f7, f8))).bind fun y11 =>
    bif (!y11) then
      (
        (r_spec_reMove ((f6, f7, f8))).bind fun y13 =>
        (r_spec_foAct ((f6, f7, f8)) y13).bind fun y14 =>
        (r_spec_foMul ((f2, f3, f4, f5)) y13).bind fun y15 =>
        r_spec_reReduce_L9 n y15.1 y15.2.1 y15.2.2.1 y15.2.2.2 y14.1 y14.2.1 y14.2.2
      )
    else
      (
        some (f2, f3, f4, f5, f6, f7, f8)
      )
def r_spec_reReduce (f1 : (Int × Int × Int)) : Option (((Int × Int × Int)) × ((Int × Int × Int × Int))) :=
  (r_spec_reReduce_L9 FU 1 0 0 1 f1.1 f1.2.1 f1.2.2).bind fun o10 =>
  some ((o10.2.2.2.2, (o10.1, o10.2.1, o10.2.2.1, o10.2.2.2.1)))

def r_spec_l1Num : Nat → Int → Option ByteArray
  | 0, _ => none
  | n + 1, vn1 =>
    bif (ltI vn1 10) then
      (
        some (bytesI ([IntKind.u8.wrap (w64 (48 + vn1))]))
      )
    else
      (
        (r_spec_l1Num n (w64 (Int.tdiv vn1 10))).bind fun y3 =>
        (catR y3 (bytesI ([IntKind.u8.wrap (w64 (48 + (Int.tmod vn1 10)))]))).bind fun u4 =>
        some (y3 ++ (bytesI ([IntKind.u8.wrap (w64 (48 + (Int.tmod vn1 10)))])))
      )

def r_spec_l1Int (vn1 : Int) : Option ByteArray :=
  bif (ltI vn1 0) then
    (
      (r_spec_l1Num FU (w64 (0 - vn1))).bind fun y3 =>
      (catR ((⟨#[45]⟩ : ByteArray)) y3).bind fun u4 =>
      some (((⟨#[45]⟩ : ByteArray)) ++ y3)
    )
  else
    (
      (r_spec_l1Num FU vn1).bind fun y5 =>
      some y5
    )

def r_spec_foText (f1 : (Int × Int × Int)) : Option ByteArray :=
  (r_spec_l1Int f1.1).bind fun y2 =>
  (catR ((⟨#[40]⟩ : ByteArray)) y2).bind fun u3 =>
  (catR (((⟨#[40]⟩ : ByteArray)) ++ y2) ((⟨#[44]⟩ : ByteArray))).bind fun u4 =>
  (r_spec_l1Int f1.2.1).bind fun y5 =>
  (catR ((((⟨#[40]⟩ : ByteArray)) ++ y2) ++ ((⟨#[44]⟩ : ByteArray))) y5).bind fun u6 =>
  (catR (((((⟨#[40]⟩ : ByteArray)) ++ y2) ++ ((⟨#[44]⟩ : ByteArray))) ++ y5) ((⟨#[44]⟩ : ByteArray))).bind fun u7 =>
  (r_spec_l1Int f1.2.2).bind fun y8 =>
  (catR ((((((⟨#[40]⟩ : ByteArray)) ++ y2) ++ ((⟨#[44]⟩ : ByteArray))) ++ y5) ++ ((⟨#[44]⟩ : ByteArray))) y8).bind fun u9 =>
  (catR (((((((⟨#[40]⟩ : ByteArray)) ++ y2) ++ ((⟨#[44]⟩ : ByteArray))) ++ y5) ++ ((⟨#[44]⟩ : ByteArray))) ++ y8) ((⟨#[41]⟩ : ByteArray))).bind fun u10 =>
  some ((((((((⟨#[40]⟩ : ByteArray)) ++ y2) ++ ((⟨#[44]⟩ : ByteArray))) ++ y5) ++ ((⟨#[44]⟩ : ByteArray))) ++ y8) ++ ((⟨#[41]⟩ : ByteArray)))

def r_spec_foMatrixText (vm1 : (Int × Int × Int × Int)) : Option ByteArray :=
  (r_spec_l1Int vm1.1).bind fun y2 =>
  (catR ((⟨#[91]⟩ : ByteArray)) y2).bind fun u3 =>
  (catR (((⟨#[91]⟩ : ByteArray)) ++ y2) ((⟨#[44]⟩ : ByteArray))).bind fun u4 =>
  (r_spec_l1Int vm1.2.1).bind fun y5 =>
  (catR ((((⟨#[91]⟩ : ByteArray)) ++ y2) ++ ((⟨#[44]⟩ : ByteArray))) y5).bind fun u6 =>
  (catR (((((⟨#[91]⟩ : ByteArray)) ++ y2) ++ ((⟨#[44]⟩ : ByteArray))) ++ y5) ((⟨#[59]⟩ : ByteArray))).bind fun u7 =>
  (r_spec_l1Int vm1.2.2.1).bind fun y8 =>
  (catR ((((((⟨#[91]⟩ : ByteArray)) ++ y2) ++ ((⟨#[44]⟩ : ByteArray))) ++ y5) ++ ((⟨#[59]⟩ : ByteArray))) y8).bind fun u9 =>
  (catR (((((((⟨#[91]⟩ : ByteArray)) ++ y2) ++ ((⟨#[44]⟩ : ByteArray))) ++ y5) ++ ((⟨#[59]⟩ : ByteArray))) ++ y8) ((⟨#[44]⟩ : ByteArray))).bind fun u10 =>
  (r_spec_l1Int vm1.2.2.2).bind fun y11 =>
  (catR ((((((((⟨#[91]⟩ : ByteArray)) ++ y2) ++ ((⟨#[44]⟩ : ByteArray))) ++ y5) ++ ((⟨#[59]⟩ : ByteArray))) ++ y8) ++ ((⟨#[44]⟩ : ByteArray))) y11).bind fun u12 =>
  (catR (((((((((⟨#[91]⟩ : ByteArray)) ++ y2) ++ ((⟨#[44]⟩ : ByteArray))) ++ y5) ++ ((⟨#[59]⟩ : ByteArray))) ++ y8) ++ ((⟨#[44]⟩ : ByteArray))) ++ y11) ((⟨#[93]⟩ : ByteArray))).bind fun u13 =>
  some ((((((((((⟨#[91]⟩ : ByteArray)) ++ y2) ++ ((⟨#[44]⟩ : ByteArray))) ++ y5) ++ ((⟨#[59]⟩ : ByteArray))) ++ y8) ++ ((⟨#[44]⟩ : ByteArray))) ++ y11) ++ ((⟨#[93]⟩ : ByteArray)))

def r_spec_prText_L4 (l1 : List ByteArray) : Nat → ByteArray → Int → Option ByteArray
  | 0, _, _ => none
  | n + 1, out2, t3 =>
    bif (ltI t3 ((l1.length : Int))) then
      (
        (getI l1 t3).bind fun e7 =>
        bif (ltI 0 t3) then
          (
            (catR out2 ((⟨#[32]⟩ : ByteArray))).bind fun u9 =>
            (catR (out2 ++ ((⟨#[32]⟩ : ByteArray))) e7).bind fun u10 =>
            sI (w64 (t3 + 1)) fun t11 =>
            r_spec_prText_L4 l1 n ((out2 ++ ((⟨#[32]⟩ : ByteArray))) ++ e7) t11
          )
        else
          (
            (catR out2 e7).bind fun u12 =>
            sI (w64 (t3 + 1)) fun t13 =>
            r_spec_prText_L4 l1 n (out2 ++ e7) t13
          )
      )
    else
      (
        some out2
      )
def r_spec_prText (l1 : List ByteArray) : Option ByteArray :=
  (r_spec_prText_L4 l1 FU ((⟨#[]⟩ : ByteArray)) 0).bind fun o5 =>
  some o5

def r_spec_DifferenceCertificate (f1 : (Int × Int × Int)) (g2 : (Int × Int × Int)) : Option (ByteArray × Bool) :=
  (r_spec_foDefinite f1).bind fun y3 =>
  (bif (!y3) then some true else ((r_spec_foDefinite g2).bind fun y5 => some (!y5))).bind fun b6 =>
  bif b6 then
    (
      some (((⟨#[]⟩ : ByteArray), false))
    )
  else
    (
      (r_spec_reReduce f1).bind fun y8 =>
      (r_spec_reReduce g2).bind fun y9 =>
      (some (((y8.1.1 == y9.1.1) && ((y8.1.2.1 == y9.1.2.1) && (y8.1.2.2 == y9.1.2.2))))).bind fun t10 =>
      bif t10 then
        (
          some (((⟨#[]⟩ : ByteArray), false))
        )
      else
        (
          (r_spec_foText f1).bind fun y12 =>
          (r_spec_foMatrixText y8.2).bind fun y13 =>
          (r_spec_foText y8.1).bind fun y14 =>
          (r_spec_foText g2).bind fun y15 =>
          (r_spec_foMatrixText y9.2).bind fun y16 =>
          (r_spec_foText y9.1).bind fun y17 =>
          (r_spec_prText ([(⟨#[100, 105, 102, 102, 101, 114, 101, 110, 116]⟩ : ByteArray), y12, y13, y14, y15, y16, y17])).bind fun y18 =>
          some ((y18, true))
        )
    )

def r_impl_areNumbers_L3 (list1 : List Int) : Nat → Int → Option (Unit ⊕ Bool)
  | 0, _ => none
  | n + 1, t2 =>
    bif (ltI t2 ((list1.length : Int))) then
      (
        (getI list1 t2).bind fun e6 =>
        bif (bif (ltI e6 (-1000000)) then true else (ltI 1000000 e6)) then
          (
            some (.inr false)
          )
        else
          (
            sI (w64 (t2 + 1)) fun t9 =>
            r_impl_areNumbers_L3 list1 n t9
          )
      )
    else
      (
        some (.inl ())
      )
def r_impl_areNumbers (list1 : List Int) : Option Bool :=
  (r_impl_areNumbers_L3 list1 FU 0).bind fun qo4 =>
  match qo4 with
  | .inr r => some r
  | .inl o4 =>
    some true

def r_impl_IsForm (f1 : (Int × Int × Int)) : Option Bool :=
  (r_impl_areNumbers ([f1.1, f1.2.1, f1.2.2])).bind fun y2 =>
  some y2

def r_impl_Form_disc (f1 : (Int × Int × Int)) : Option Int :=
  sI (w64 ((w64 (f1.2.1 * f1.2.1)) - (w64 ((w64 (4 * f1.1)) * f1.2.2)))) fun t2 =>
  some t2

def r_impl_isDefinite (f1 : (Int × Int × Int)) : Option Bool :=
  (r_impl_IsForm f1).bind fun y2 =>
  (bif y2 then ((r_impl_Form_disc f1).bind fun y4 => some (ltI y4 0)) else some false).bind fun b5 =>
  some (bif b5 then (ltI 0 f1.1) else false)

def r_impl_one : Option (Int × Int × Int × Int) :=
  some ((1, 0, 0, 1))

def r_impl_Form_isNormal (f1 : (Int × Int × Int)) : Option Bool :=
  (some (bif (ltI (w64 (0 - f1.1)) f1.2.1) then (leI f1.2.1 f1.1) else false)).bind fun t3 =>
  some t3

def r_impl_Form_isReduced (f1 : (Int × Int × Int)) : Option Bool :=
  (r_impl_Form_isNormal f1).bind fun y2 =>
  (some (bif y2 then (bif (ltI f1.1 f1.2.2) then true else (bif (eqI f1.1 f1.2.2) then (leI 0 f1.2.1) else false)) else false)).bind fun t6 =>
  some t6

def r_impl_mod (a1 : Int) (vm2 : Int) : Option Int :=
  (nz vm2).bind fun z3 =>
  sI (Int.tmod a1 vm2) fun vr4 =>
  bif (ltI vr4 0) then
    (
      sI (w64 (vr4 + vm2)) fun vr6 =>
      some vr6
    )
  else
    (
      some vr4
    )

def r_impl_floorDiv (a1 : Int) (vm2 : Int) : Option Int :=
  (r_impl_mod a1 vm2).bind fun y3 =>
  (nz vm2).bind fun z4 =>
  sI (w64 (Int.tdiv (w64 (a1 - y3)) vm2)) fun t5 =>
  some t5

def r_impl_Form_step (f1 : (Int × Int × Int)) : Option (Int × Int × Int × Int) :=
  (r_impl_Form_isReduced f1).bind fun y2 =>
  bif y2 then
    (
      (r_impl_one).bind fun y4 =>
      some y4
    )
  else
    (
      (r_impl_Form_isNormal f1).bind fun y5 =>
      bif (!y5) then
        (
          (r_impl_floorDiv (w64 (f1.1 - f1.2.1)) (w64 (2 * f1.1))).bind fun y7 =>
          some ((1, y7, 0, 1))
        )
      else
        (
          some ((0, -1, 1, 0))
        )
    )

def r_impl_Form_at (f1 : (Int × Int × Int)) (x2 : Int) (y3 : Int) : Option Int :=
  sI (w64 ((w64 ((w64 ((w64 (f1.1 * x2)) * x2)) + (w64 ((w64 (f1.2.1 * x2)) * y3)))) + (w64 ((w64 (f1.2.2 * y3)) * y3)))) fun t4 =>
  some t4

def r_impl_Form_polar (f1 : (Int × Int × Int)) (x2 : Int) (y3 : Int) (u4 : Int) (v5 : Int) : Option Int :=
  sI (w64 ((w64 ((w64 ((w64 ((w64 (2 * f1.1)) * x2)) * u4)) + (w64 (f1.2.1 * (w64 ((w64 (x2 * v5)) + (w64 (y3 * u4)))))))) + (w64 ((w64 ((w64 (2 * f1.2.2)) * y3)) * v5)))) fun t6 =>
  some t6

def r_impl_Form_substitute (f1 : (Int × Int × Int)) (vm2 : (Int × Int × Int × Int)) : Option (Int × Int × Int) :=
  (r_impl_Form_at f1 vm2.1 vm2.2.2.1).bind fun y3 =>
  (r_impl_Form_polar f1 vm2.1 vm2.2.2.1 vm2.2.1 vm2.2.2.2).bind fun y4 =>
  (r_impl_Form_at f1 vm2.2.1 vm2.2.2.2).bind fun y5 =>
  some ((y3, y4, y5))

def r_impl_Matrix_times (vm1 : (Int × Int × Int × Int)) (vn2 : (Int × Int × Int × Int)) : Option (Int × Int × Int × Int) :=
  sI (w64 ((w64 (vm1.1 * vn2.1)) + (w64 (vm1.2.1 * vn2.2.2.1)))) fun f3 =>
  sI (w64 ((w64 (vm1.1 * vn2.2.1)) + (w64 (vm1.2.1 * vn2.2.2.2)))) fun f4 =>
  sI (w64 ((w64 (vm1.2.2.1 * vn2.1)) + (w64 (vm1.2.2.2 * vn2.2.2.1)))) fun f5 =>
  sI (w64 ((w64 (vm1.2.2.1 * vn2.2.1)) + (w64 (vm1.2.2.2 * vn2.2.2.2)))) fun f6 =>
  some ((f3, f4, f5, f6))

def r_impl_reduce_L10 : Nat → Int → Int → Int → Int → Int → Int → Int → Option (Int × Int × Int × Int × Int × Int × Int)
  | 0, _, _, _, _, _, _, _ => none
  | n + 1, f3, f4, f5, f6, f7, f8, f9 =>
    (r_impl_Form_isReduced ((f7, f8, f9))).bind fun y12 =>
    bif (!y12) then
      (
        (r_impl_Form_step ((f7, f8, f9))).bind fun y14 =>
        (r_impl_Form_substitute ((f7, f8, f9)) y14).bind fun y15 =>
        (r_impl_Matrix_times ((f3, f4, f5, f6)) y14).bind fun y16 =>
        r_impl_reduce_L10 n y16.1 y16.2.1 y16.2.2.1 y16.2.2.2 y15.1 y15.2.1 y15.2.2
      )
    else
      (
        some (f3, f4, f5, f6, f7, f8, f9)
      )
def r_impl_reduce (f1 : (Int × Int × Int)) : Option (((Int × Int × Int)) × ((Int × Int × Int × Int))) :=
  (r_impl_one).bind fun y2 =>
  (r_impl_reduce_L10 FU y2.1 y2.2.1 y2.2.2.1 y2.2.2.2 f1.1 f1.2.1 f1.2.2).bind fun o11 =>
  some ((o11.2.2.2.2, (o11.1, o11.2.1, o11.2.2.1, o11.2.2.2.1)))

def r_impl_IsMatrix (vm1 : (Int × Int × Int × Int)) : Option Bool :=
  (r_impl_areNumbers ([vm1.1, vm1.2.1, vm1.2.2.1, vm1.2.2.2])).bind fun y2 =>
  some y2

def r_impl_ReduceForm (f1 : (Int × Int × Int)) : Option (((Int × Int × Int)) × ((Int × Int × Int × Int)) × Bool) :=
  (r_impl_isDefinite f1).bind fun y2 =>
  bif (!y2) then
    (
      some (((0, 0, 0), (0, 0, 0, 0), false))
    )
  else
    (
      (r_impl_reduce f1).bind fun y4 =>
      (r_impl_IsMatrix y4.2).bind fun y5 =>
      bif (!y5) then
        (
          some (((0, 0, 0), (0, 0, 0, 0), false))
        )
      else
        (
          some ((y4.1, y4.2, true))
        )
    )

def r_impl_formText (f1 : (Int × Int × Int)) : Option ByteArray :=
  (r_strconv_Itoa f1.1).bind fun y2 =>
  (catR ((⟨#[40]⟩ : ByteArray)) y2).bind fun u3 =>
  (catR (((⟨#[40]⟩ : ByteArray)) ++ y2) ((⟨#[44]⟩ : ByteArray))).bind fun u4 =>
  (r_strconv_Itoa f1.2.1).bind fun y5 =>
  (catR ((((⟨#[40]⟩ : ByteArray)) ++ y2) ++ ((⟨#[44]⟩ : ByteArray))) y5).bind fun u6 =>
  (catR (((((⟨#[40]⟩ : ByteArray)) ++ y2) ++ ((⟨#[44]⟩ : ByteArray))) ++ y5) ((⟨#[44]⟩ : ByteArray))).bind fun u7 =>
  (r_strconv_Itoa f1.2.2).bind fun y8 =>
  (catR ((((((⟨#[40]⟩ : ByteArray)) ++ y2) ++ ((⟨#[44]⟩ : ByteArray))) ++ y5) ++ ((⟨#[44]⟩ : ByteArray))) y8).bind fun u9 =>
  (catR (((((((⟨#[40]⟩ : ByteArray)) ++ y2) ++ ((⟨#[44]⟩ : ByteArray))) ++ y5) ++ ((⟨#[44]⟩ : ByteArray))) ++ y8) ((⟨#[41]⟩ : ByteArray))).bind fun u10 =>
  some ((((((((⟨#[40]⟩ : ByteArray)) ++ y2) ++ ((⟨#[44]⟩ : ByteArray))) ++ y5) ++ ((⟨#[44]⟩ : ByteArray))) ++ y8) ++ ((⟨#[41]⟩ : ByteArray)))

def r_impl_matrixText (vm1 : (Int × Int × Int × Int)) : Option ByteArray :=
  (r_strconv_Itoa vm1.1).bind fun y2 =>
  (catR ((⟨#[91]⟩ : ByteArray)) y2).bind fun u3 =>
  (catR (((⟨#[91]⟩ : ByteArray)) ++ y2) ((⟨#[44]⟩ : ByteArray))).bind fun u4 =>
  (r_strconv_Itoa vm1.2.1).bind fun y5 =>
  (catR ((((⟨#[91]⟩ : ByteArray)) ++ y2) ++ ((⟨#[44]⟩ : ByteArray))) y5).bind fun u6 =>
  (catR (((((⟨#[91]⟩ : ByteArray)) ++ y2) ++ ((⟨#[44]⟩ : ByteArray))) ++ y5) ((⟨#[59]⟩ : ByteArray))).bind fun u7 =>
  (r_strconv_Itoa vm1.2.2.1).bind fun y8 =>
  (catR ((((((⟨#[91]⟩ : ByteArray)) ++ y2) ++ ((⟨#[44]⟩ : ByteArray))) ++ y5) ++ ((⟨#[59]⟩ : ByteArray))) y8).bind fun u9 =>
  (catR (((((((⟨#[91]⟩ : ByteArray)) ++ y2) ++ ((⟨#[44]⟩ : ByteArray))) ++ y5) ++ ((⟨#[59]⟩ : ByteArray))) ++ y8) ((⟨#[44]⟩ : ByteArray))).bind fun u10 =>
  (r_strconv_Itoa vm1.2.2.2).bind fun y11 =>
  (catR ((((((((⟨#[91]⟩ : ByteArray)) ++ y2) ++ ((⟨#[44]⟩ : ByteArray))) ++ y5) ++ ((⟨#[59]⟩ : ByteArray))) ++ y8) ++ ((⟨#[44]⟩ : ByteArray))) y11).bind fun u12 =>
  (catR (((((((((⟨#[91]⟩ : ByteArray)) ++ y2) ++ ((⟨#[44]⟩ : ByteArray))) ++ y5) ++ ((⟨#[59]⟩ : ByteArray))) ++ y8) ++ ((⟨#[44]⟩ : ByteArray))) ++ y11) ((⟨#[93]⟩ : ByteArray))).bind fun u13 =>
  some ((((((((((⟨#[91]⟩ : ByteArray)) ++ y2) ++ ((⟨#[44]⟩ : ByteArray))) ++ y5) ++ ((⟨#[59]⟩ : ByteArray))) ++ y8) ++ ((⟨#[44]⟩ : ByteArray))) ++ y11) ++ ((⟨#[93]⟩ : ByteArray)))

def r_impl_certificate (kind1 : ByteArray) (words2 : List ByteArray) : Option ByteArray :=
  (catR kind1 ((⟨#[32]⟩ : ByteArray))).bind fun u3 =>
  (r_strings_Join words2 ((⟨#[32]⟩ : ByteArray))).bind fun y4 =>
  (catR (kind1 ++ ((⟨#[32]⟩ : ByteArray))) y4).bind fun u5 =>
  some ((kind1 ++ ((⟨#[32]⟩ : ByteArray))) ++ y4)

def r_impl_DifferenceCertificate (f1 : (Int × Int × Int)) (g2 : (Int × Int × Int)) : Option (ByteArray × Bool) :=
  (r_impl_ReduceForm f1).bind fun y3 =>
  (r_impl_ReduceForm g2).bind fun y4 =>
  (some (bif (bif (!y3.2.2) then true else (!y4.2.2)) then true else (((y3.1.1 == y4.1.1) && ((y3.1.2.1 == y4.1.2.1) && (y3.1.2.2 == y4.1.2.2)))))).bind fun t7 =>
  bif t7 then
    (
      some (((⟨#[]⟩ : ByteArray), false))
    )
  else
    (
      (r_impl_formText f1).bind fun y9 =>
      (r_impl_matrixText y3.2.1).bind fun y10 =>
      (r_impl_formText y3.1).bind fun y11 =>
      (r_impl_formText g2).bind fun y12 =>
      (r_impl_matrixText y4.2.1).bind fun y13 =>
      (r_impl_formText y4.1).bind fun y14 =>
      (r_impl_certificate ((⟨#[100, 105, 102, 102, 101, 114, 101, 110, 116]⟩ : ByteArray)) ([y9, y10, y11, y12, y13, y14])).bind fun y15 =>
      some ((y15, true))
    )

def r_laws_FnExactDifferenceCertificate (aF1 : (Int × Int × Int)) (aG2 : (Int × Int × Int)) : Option Bool :=
  (r_laws_toForm aF1).bind fun y3 =>
  (r_laws_toForm aG2).bind fun y4 =>
  (r_spec_DifferenceCertificate y3 y4).bind fun y5 =>
  (r_laws_toForm aF1).bind fun y6 =>
  (r_laws_toForm aG2).bind fun y7 =>
  (r_impl_DifferenceCertificate y6 y7).bind fun y8 =>
  (some (bif (!(y8.1.toList == y5.1.toList)) then true else (y8.2 != y5.2))).bind fun t10 =>
  bif t10 then
    (
      some false
    )
  else
    (
      some true
    )

def r_spec_foDet (vm1 : (Int × Int × Int × Int)) : Option Int :=
  sI (w64 ((w64 (vm1.1 * vm1.2.2.2)) - (w64 (vm1.2.1 * vm1.2.2.1)))) fun t2 =>
  some t2

def r_spec_foInverse (vm1 : (Int × Int × Int × Int)) : Option (Int × Int × Int × Int) :=
  (r_spec_foDet vm1).bind fun y2 =>
  sI (w64 (y2 * vm1.2.2.2)) fun f3 =>
  sI (w64 ((w64 (0 - y2)) * vm1.2.1)) fun f4 =>
  sI (w64 ((w64 (0 - y2)) * vm1.2.2.1)) fun f5 =>
  sI (w64 (y2 * vm1.1)) fun f6 =>
  some ((f3, f4, f5, f6))

def r_spec_foMatrix (vm1 : (Int × Int × Int × Int)) : Option Bool :=
  (r_spec_nuGood vm1.1).bind fun y2 =>
  (bif y2 then ((r_spec_nuGood vm1.2.1).bind fun y4 => some y4) else some false).bind fun b5 =>
  (bif b5 then ((r_spec_nuGood vm1.2.2.1).bind fun y7 => some y7) else some false).bind fun b8 =>
  (bif b8 then ((r_spec_nuGood vm1.2.2.2).bind fun y10 => some y10) else some false).bind fun b11 =>
  some b11

def r_spec_EquivalenceMatrix (f1 : (Int × Int × Int)) (g2 : (Int × Int × Int)) : Option (((Int × Int × Int × Int)) × Bool) :=
  (r_spec_foDefinite f1).bind fun y3 =>
  (bif (!y3) then some true else ((r_spec_foDefinite g2).bind fun y5 => some (!y5))).bind fun b6 =>
  bif b6 then
    (
      some (((0, 0, 0, 0), false))
    )
  else
    (
      (r_spec_reReduce f1).bind fun y8 =>
      (r_spec_reReduce g2).bind fun y9 =>
      (r_spec_foInverse y9.2).bind fun y10 =>
      (r_spec_foMul y8.2 y10).bind fun y11 =>
      (bif (!((y8.1.1 == y9.1.1) && ((y8.1.2.1 == y9.1.2.1) && (y8.1.2.2 == y9.1.2.2)))) then some true else ((r_spec_foMatrix y11).bind fun y13 => some (!y13))).bind fun b14 =>
      bif b14 then
        (
          some (((0, 0, 0, 0), false))
        )
      else
        (
          some ((y11, true))
        )
    )

def r_spec_EquivalenceCertificate (f1 : (Int × Int × Int)) (g2 : (Int × Int × Int)) : Option (ByteArray × Bool) :=
  (r_spec_EquivalenceMatrix f1 g2).bind fun y3 =>
  bif (!y3.2) then
    (
      some (((⟨#[]⟩ : ByteArray), false))
    )
  else
    (
      (r_spec_foText f1).bind fun y5 =>
      (r_spec_foText g2).bind fun y6 =>
      (r_spec_foMatrixText y3.1).bind fun y7 =>
      (r_spec_prText ([(⟨#[101, 113, 117, 105, 118, 97, 108, 101, 110, 116]⟩ : ByteArray), y5, y6, y7])).bind fun y8 =>
      some ((y8, true))
    )

def r_impl_Matrix_det (vm1 : (Int × Int × Int × Int)) : Option Int :=
  sI (w64 ((w64 (vm1.1 * vm1.2.2.2)) - (w64 (vm1.2.1 * vm1.2.2.1)))) fun t2 =>
  some t2

def r_impl_Matrix_inverse (vm1 : (Int × Int × Int × Int)) : Option (Int × Int × Int × Int) :=
  (r_impl_Matrix_det vm1).bind fun y2 =>
  sI (w64 (y2 * vm1.2.2.2)) fun f3 =>
  sI (w64 ((w64 (0 - y2)) * vm1.2.1)) fun f4 =>
  sI (w64 ((w64 (0 - y2)) * vm1.2.2.1)) fun f5 =>
  sI (w64 (y2 * vm1.1)) fun f6 =>
  some ((f3, f4, f5, f6))

def r_impl_checked (vm1 : (Int × Int × Int × Int)) : Option (((Int × Int × Int × Int)) × Bool) :=
  (r_impl_IsMatrix vm1).bind fun y2 =>
  bif (!y2) then
    (
      some (((0, 0, 0, 0), false))
    )
  else
    (
      some ((vm1, true))
    )

def r_impl_EquivalenceMatrix (f1 : (Int × Int × Int)) (g2 : (Int × Int × Int)) : Option (((Int × Int × Int × Int)) × Bool) :=
  (r_impl_isDefinite f1).bind fun y3 =>
  (bif (!y3) then some true else ((r_impl_isDefinite g2).bind fun y5 => some (!y5))).bind fun b6 =>
  bif b6 then
    (
      some (((0, 0, 0, 0), false))
    )
  else
    (
      (r_impl_reduce f1).bind fun y8 =>
      (r_impl_reduce g2).bind fun y9 =>
      (some (!((y8.1.1 == y9.1.1) && ((y8.1.2.1 == y9.1.2.1) && (y8.1.2.2 == y9.1.2.2))))).bind fun t10 =>
      bif t10 then
        (
          some (((0, 0, 0, 0), false))
        )
      else
        (
          (r_impl_Matrix_inverse y9.2).bind fun y12 =>
          (r_impl_Matrix_times y8.2 y12).bind fun y13 =>
          (r_impl_checked y13).bind fun y14 =>
          some ((y14.1, y14.2))
        )
    )

def r_impl_EquivalenceCertificate (f1 : (Int × Int × Int)) (g2 : (Int × Int × Int)) : Option (ByteArray × Bool) :=
  (r_impl_EquivalenceMatrix f1 g2).bind fun y3 =>
  bif (!y3.2) then
    (
      some (((⟨#[]⟩ : ByteArray), false))
    )
  else
    (
      (r_impl_formText f1).bind fun y5 =>
      (r_impl_formText g2).bind fun y6 =>
      (r_impl_matrixText y3.1).bind fun y7 =>
      (r_impl_certificate ((⟨#[101, 113, 117, 105, 118, 97, 108, 101, 110, 116]⟩ : ByteArray)) ([y5, y6, y7])).bind fun y8 =>
      some ((y8, true))
    )

def r_laws_FnExactEquivalenceCertificate (aF1 : (Int × Int × Int)) (aG2 : (Int × Int × Int)) : Option Bool :=
  (r_laws_toForm aF1).bind fun y3 =>
  (r_laws_toForm aG2).bind fun y4 =>
  (r_spec_EquivalenceCertificate y3 y4).bind fun y5 =>
  (r_laws_toForm aF1).bind fun y6 =>
  (r_laws_toForm aG2).bind fun y7 =>
  (r_impl_EquivalenceCertificate y6 y7).bind fun y8 =>
  (some (bif (!(y8.1.toList == y5.1.toList)) then true else (y8.2 != y5.2))).bind fun t10 =>
  bif t10 then
    (
      some false
    )
  else
    (
      some true
    )

end Go.Proofs.YtmpnloechnfkjaaDoor
