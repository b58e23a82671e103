/-
  What the functions of the program compute, as plain functions.
  Conditions: none.
-/
import Derived.Test.YtmpnloechnfkjaaDoorShRs

namespace Go.Proofs.YtmpnloechnfkjaaDoor

set_option linter.unusedVariables false

def r_spec_l1In (vn1 : Int) (lo2 : Int) (hi3 : Int) : Option Bool :=
  some (bif (leI lo2 vn1) then (leI vn1 hi3) else false)

def r_spec_nuGood (vn1 : Int) : Option Bool :=
  (r_spec_l1In vn1 (-1000000) 1000000).bind fun y2 =>
  some y2

def r_spec_roDisc_L5 (d1 : Int) (vn2 : Int) : Nat → Int → List Int → Option (List Int)
  | 0, _, _ => none
  | n + 1, b3, l4 =>
    bif (ltI b3 (w64 (2 * vn2))) then
      (
        (nz (w64 (4 * vn2))).bind fun z8 =>
        (some (eqI (Int.tmod (w64 ((w64 (b3 * b3)) - d1)) (w64 (4 * vn2))) 0)).bind fun t9 =>
        bif t9 then
          (
            (room (l4.length + ([b3]).length)).bind fun u11 =>
            sI (w64 (b3 + 1)) fun b12 =>
            r_spec_roDisc_L5 d1 vn2 n b12 (l4 ++ ([b3]))
          )
        else
          (
            sI (w64 (b3 + 1)) fun b13 =>
            r_spec_roDisc_L5 d1 vn2 n b13 l4
          )
      )
    else
      (
        some l4
      )
def r_spec_roDisc (d1 : Int) (vn2 : Int) : Option (List Int) :=
  (r_spec_roDisc_L5 d1 vn2 FU 0 (([] : List Int))).bind fun o6 =>
  some o6

def r_spec_RootsOfDiscriminant (d1 : Int) (vn2 : Int) : Option ((List Int) × Bool) :=
  (r_spec_nuGood d1).bind fun y3 =>
  (bif (!y3) then some true else ((r_spec_l1In vn2 1 2500).bind fun y5 => some (!y5))).bind fun b6 =>
  bif b6 then
    (
      some ((([] : List Int), false))
    )
  else
    (
      (r_spec_roDisc d1 vn2).bind fun y8 =>
      some ((y8, true))
    )

def r_spec_l1Num : Nat → Int → Option ByteArray
  | 0, _ => none
  | n + 1, vn1 =>
    bif (ltI vn1 10) then
      (
        some (bytesI ([IntKind.u8.wrap (w64 (48 + vn1))]))
      )
    else
      (
        (r_spec_l1Num n (w64 (Int.tdiv vn1 10))).bind fun y3 =>
        (catR y3 (bytesI ([IntKind.u8.wrap (w64 (48 + (Int.tmod vn1 10)))]))).bind fun u4 =>
        some (y3 ++ (bytesI ([IntKind.u8.wrap (w64 (48 + (Int.tmod vn1 10)))])))
      )

def r_spec_l1Int (vn1 : Int) : Option ByteArray :=
  bif (ltI vn1 0) then
    (
      (r_spec_l1Num FU (w64 (0 - vn1))).bind fun y3 =>
      (catR ((⟨#[45]⟩ : ByteArray)) y3).bind fun u4 =>
      some (((⟨#[45]⟩ : ByteArray)) ++ y3)
    )
  else
    (
      (r_spec_l1Num FU vn1).bind fun y5 =>
      some y5
    )

def r_spec_prText_L4 (l1 : List ByteArray) : Nat → ByteArray → Int → Option ByteArray
  | 0, _, _ => none
  | n + 1, out2, t3 =>
    bif (ltI t3 ((l1.length : Int))) then
      (
        (getI l1 t3).bind fun e7 =>
        bif (ltI 0 t3) then
          (
            (catR out2 ((⟨#[32]⟩ : ByteArray))).bind fun u9 =>
            (catR (out2 ++ ((⟨#[32]⟩ : ByteArray))) e7).bind fun u10 =>
            sI (w64 (t3 + 1)) fun t11 =>
            r_spec_prText_L4 l1 n ((out2 ++ ((⟨#[32]⟩ : ByteArray))) ++ e7) t11
          )
        else
          (
            (catR out2 e7).bind fun u12 =>
            sI (w64 (t3 + 1)) fun t13 =>
            r_spec_prText_L4 l1 n (out2 ++ e7) t13
          )
      )
    else
      (
        some out2
      )
def r_spec_prText (l1 : List ByteArray) : Option ByteArray :=
  (r_spec_prText_L4 l1 FU ((⟨#[]⟩ : ByteArray)) 0).bind fun o5 =>
  some o5

def r_spec_RootCertificates_L7 (d1 : Int) (vn2 : Int) (y3 : ((List Int) × Bool)) : Nat → Int → List ByteArray → Option (List ByteArray)
  | 0, _, _ => none
  | n + 1, t5, l6 =>
    bif (ltI t5 ((y3.1.length : Int))) then
      (
        (getI y3.1 t5).bind fun e10 =>
        (getI y3.1 t5).bind fun e11 =>
        (r_spec_l1Int d1).bind fun y12 =>
        (r_spec_l1Int vn2).bind fun y13 =>
        (r_spec_l1Int e11).bind fun y14 =>
        (r_spec_prText ([(⟨#[114, 111, 111, 116]⟩ : ByteArray), y12, y13, y14])).bind fun y15 =>
        (room (l6.length + ([y15]).length)).bind fun u16 =>
        sI (w64 (t5 + 1)) fun t17 =>
        r_spec_RootCertificates_L7 d1 vn2 y3 n t17 (l6 ++ ([y15]))
      )
    else
      (
        some l6
      )
def r_spec_RootCertificates (d1 : Int) (vn2 : Int) : Option ((List ByteArray) × Bool) :=
  (r_spec_RootsOfDiscriminant d1 vn2).bind fun y3 =>
  bif (!y3.2) then
    (
      some ((([] : List ByteArray), false))
    )
  else
    (
      (r_spec_RootCertificates_L7 d1 vn2 y3 FU 0 (([] : List ByteArray))).bind fun o8 =>
      some ((o8, true))
    )

def r_impl_areNumbers_L3 (list1 : List Int) : Nat → Int → Option (Unit ⊕ Bool)
  | 0, _ => none
  | n + 1, t2 =>
    bif (ltI t2 ((list1.length : Int))) then
      (
        (getI list1 t2).bind fun e6 =>
        bif (bif (ltI e6 (-1000000)) then true else (ltI 1000000 e6)) then
          (
            some (.inr false)
          )
        else
          (
            sI (w64 (t2 + 1)) fun t9 =>
            r_impl_areNumbers_L3 list1 n t9
          )
      )
    else
      (
        some (.inl ())
      )
def r_impl_areNumbers (list1 : List Int) : Option Bool :=
  (r_impl_areNumbers_L3 list1 FU 0).bind fun qo4 =>
  match qo4 with
  | .inr r => some r
  | .inl o4 =>
    some true

def r_impl_rootsOfDiscriminant_L5 (d1 : Int) (vn2 : Int) : Nat → Int → List Int → Option (List Int)
  | 0, _, _ => none
  | n + 1, b3, l4 =>
    bif (ltI b3 (w64 (2 * vn2))) then
      (
        (nz (w64 (4 * vn2))).bind fun z8 =>
        (some (eqI (Int.tmod (w64 ((w64 (b3 * b3)) - d1)) (w64 (4 * vn2))) 0)).bind fun t9 =>
        bif t9 then
          (
            (room (l4.length + ([b3]).length)).bind fun u11 =>
            sI (w64 (b3 + 1)) fun b12 =>
            r_impl_rootsOfDiscriminant_L5 d1 vn2 n b12 (l4 ++ ([b3]))
          )
        else
          (
            sI (w64 (b3 + 1)) fun b13 =>
            r_impl_rootsOfDiscriminant_L5 d1 vn2 n b13 l4
          )
      )
    else
      (
        some l4
      )
def r_impl_rootsOfDiscriminant (d1 : Int) (vn2 : Int) : Option (List Int) :=
  (r_impl_rootsOfDiscriminant_L5 d1 vn2 FU 0 (([] : List Int))).bind fun o6 =>
  some o6

def r_impl_RootsOfDiscriminant (d1 : Int) (vn2 : Int) : Option ((List Int) × Bool) :=
  (r_impl_areNumbers ([d1])).bind fun y3 =>
  (some (bif (bif (!y3) then true else (ltI vn2 1)) then true else (ltI 2500 vn2))).bind fun t6 =>
  bif t6 then
    (
      some ((([] : List Int), false))
    )
  else
    (
      (r_impl_rootsOfDiscriminant d1 vn2).bind fun y8 =>
      some ((y8, true))
    )

def r_impl_certificate (kind1 : ByteArray) (words2 : List ByteArray) : Option ByteArray :=
  (catR kind1 ((⟨#[32]⟩ : ByteArray))).bind fun u3 =>
  (r_strings_Join words2 ((⟨#[32]⟩ : ByteArray))).bind fun y4 =>
  (catR (kind1 ++ ((⟨#[32]⟩ : ByteArray))) y4).bind fun u5 =>
  some ((kind1 ++ ((⟨#[32]⟩ : ByteArray))) ++ y4)

def r_impl_RootCertificates_L6 (d1 : Int) (vn2 : Int) (y3 : ((List Int) × Bool)) : Nat → Int → List ByteArray → Option (List ByteArray)
  | 0, _, _ => none
  | n + 1, t4, l5 =>
    bif (ltI t4 ((y3.1.length : Int))) then
      (
        (getI y3.1 t4).bind fun e9 =>
        (getI y3.1 t4).bind fun e10 =>
        (r_strconv_Itoa d1).bind fun y11 =>
        (r_strconv_Itoa vn2).bind fun y12 =>
        (r_strconv_Itoa e10).bind fun y13 =>
        (r_impl_certificate ((⟨#[114, 111, 111, 116]⟩ : ByteArray)) ([y11, y12, y13])).bind fun y14 =>
        (room (l5.length + ([y14]).length)).bind fun u15 =>
        sI (w64 (t4 + 1)) fun t16 =>
        r_impl_RootCertificates_L6 d1 vn2 y3 n t16 (l5 ++ ([y14]))
      )
    else
      (
        some l5
      )
def r_impl_RootCertificates (d1 : Int) (vn2 : Int) : Option ((List ByteArray) × Bool) :=
  (r_impl_RootsOfDiscriminant d1 vn2).bind fun y3 =>
  (r_impl_RootCertificates_L6 d1 vn2 y3 FU 0 (([] : List ByteArray))).bind fun o7 =>
  some ((o7, y3.2))

def r_laws_eqStringS_L5 (a1 : List ByteArray) (b2 : List ByteArray) : Nat → Int → Option (Unit ⊕ Bool)
  | 0, _ => none
  | n + 1, i4 =>
    bif (ltI i4 ((a1.length : Int))) then
      (
        (getI a1 i4).bind fun e8 =>
        (getI b2 i4).bind fun e9 =>
        bif (!(e8.toList == e9.toList)) then
          (
            some (.inr false)
          )
        else
          (
            sI (w64 (i4 + 1)) fun i11 =>
            r_laws_eqStringS_L5 a1 b2 n i11
          )
      )
    else
      (
        some (.inl ())
      )
def r_laws_eqStringS (a1 : List ByteArray) (b2 : List ByteArray) : Option Bool :=
  bif (!eqI ((a1.length : Int)) ((b2.length : Int))) then
    (
      some false
    )
  else
    (
      (r_laws_eqStringS_L5 a1 b2 FU 0).bind fun qo6 =>
      match qo6 with
      | .inr r => some r
      | .inl o6 =>
        some true
    )

def r_laws_markText_L5 : Nat → Int → ByteArray → Option ByteArray
  | 0, _, _ => none
  | n + 1, k3, out4 =>
    bif (ltI 0 k3) then
      (
        (catR (bytesI ([IntKind.u8.wrap (w64 (48 + (Int.tmod k3 10)))])) out4).bind fun u8 =>
        sI (w64 (Int.tdiv k3 10)) fun k9 =>
        r_laws_markText_L5 n k9 ((bytesI ([IntKind.u8.wrap (w64 (48 + (Int.tmod k3 10)))])) ++ out4)
      )
    else
      (
        some out4
      )
def r_laws_markText (k1 : Int) : Option ByteArray :=
  bif (leI k1 0) then
    (
      some ((⟨#[109, 48]⟩ : ByteArray))
    )
  else
    (
      (r_laws_markText_L5 FU k1 ((⟨#[]⟩ : ByteArray))).bind fun o6 =>
      (catR ((⟨#[109]⟩ : ByteArray)) o6).bind fun u10 =>
      some (((⟨#[109]⟩ : ByteArray)) ++ o6)
    )

def r_laws_markStringS_L6 : Nat → Int → Int → List ByteArray → Option (Int × (List ByteArray))
  | 0, _, _, _ => none
  | n + 1, k3, i4, l5 =>
    bif (ltI i4 ((l5.length : Int))) then
      (
        (r_laws_markText k3).bind fun y9 =>
        (getI l5 i4).bind fun e10 =>
        (getI l5 i4).bind fun e11 =>
        sI (w64 (k3 + 1)) fun k12 =>
        sI (w64 (i4 + 1)) fun i13 =>
        r_laws_markStringS_L6 n k12 i13 (l5.set (Int.toNat (i4)) y9)
      )
    else
      (
        some (k3, l5)
      )
def r_laws_markStringS (a1 : List ByteArray) (k2 : Int) : Option (Int × (List ByteArray)) :=
  (r_laws_markStringS_L6 FU k2 0 a1).bind fun o7 =>
  some ((o7.1, o7.2))

def r_laws_heldStringS_L5 (a1 : List ByteArray) : Nat → Int → Int → Option (Int ⊕ Int)
  | 0, _, _ => none
  | n + 1, k3, i4 =>
    bif (ltI i4 ((a1.length : Int))) then
      (
        (getI a1 i4).bind fun e8 =>
        (r_laws_markText k3).bind fun y9 =>
        bif (!(e8.toList == y9.toList)) then
          (
            some (.inr ((-1)))
          )
        else
          (
            sI (w64 (k3 + 1)) fun k11 =>
            sI (w64 (i4 + 1)) fun i12 =>
            r_laws_heldStringS_L5 a1 n k11 i12
          )
      )
    else
      (
        some (.inl k3)
      )
def r_laws_heldStringS (a1 : List ByteArray) (k2 : Int) : Option Int :=
  (r_laws_heldStringS_L5 a1 FU k2 0).bind fun qo6 =>
  match qo6 with
  | .inr r => some r
  | .inl o6 =>
    some o6

def r_laws_FnExactRootCertificates (aD1 : Int) (aN2 : Int) : Option Bool :=
  (r_spec_RootCertificates aD1 aN2).bind fun y3 =>
  (r_impl_RootCertificates aD1 aN2).bind fun y4 =>
  (r_laws_eqStringS y4.1 y3.1).bind fun y5 =>
  bif (bif (!y5) then true else (y4.2 != y3.2)) then
    (
      some false
    )
  else
    (
      (r_laws_markStringS y4.1 1).bind fun y8 =>
      (r_laws_heldStringS y8.2 1).bind fun y9 =>
      bif (ltI y9 0) then
        (
          some false
        )
      else
        (
          bif (!eqI y9 y8.1) then
            (
              some false
            )
          else
            (
              (r_impl_RootCertificates aD1 aN2).bind fun y12 =>
              (r_laws_eqStringS y12.1 y3.1).bind fun y13 =>
              bif (bif (!y13) then true else (y12.2 != y3.2)) then
                (
                  some false
                )
              else
                (
                  (r_laws_heldStringS y8.2 1).bind fun y16 =>
                  bif (ltI y16 0) then
                    (
                      some false
                    )
                  else
                    (
                      bif (!eqI y16 y8.1) then
                        (
                          some false
                        )
                      else
                        (
                          some true
                        )
                    )
                )
            )
        )
    )

def r_spec_nuMod (a1 : Int) (vm2 : Int) : Option Int :=
  (nz vm2).bind fun z3 =>
  sI (Int.tmod a1 vm2) fun vr4 =>
  bif (ltI vr4 0) then
    (
      sI (w64 (vr4 + vm2)) fun vr6 =>
      some vr6
    )
  else
    (
      some vr4
    )

def r_spec_reDisc (d1 : Int) : Option Bool :=
  (r_spec_l1In d1 (-2000) (-3)).bind fun y2 =>
  (bif y2 then ((r_spec_nuMod d1 4).bind fun y4 => some (ltI y4 2)) else some false).bind fun b5 =>
  some b5

def r_spec_vaShown (vn1 : Int) : Option Bool :=
  (r_spec_l1In vn1 1 10000).bind fun y2 =>
  some y2

def r_spec_nuFactors_L10 (d3 : Int) : Nat → Int → List Int → Option (Int × (List Int))
  | 0, _, _ => none
  | n + 1, vn8, l9 =>
    (nz d3).bind fun z12 =>
    bif (eqI (Int.tmod vn8 d3) 0) then
      (
        (room (l9.length + ([d3]).length)).bind fun u14 =>
        (nz d3).bind fun z15 =>
        sI (w64 (Int.tdiv vn8 d3)) fun vn16 =>
        r_spec_nuFactors_L10 d3 n vn16 (l9 ++ ([d3]))
      )
    else
      (
        some (vn8, l9)
      )
def r_spec_nuFactors_L5 : Nat → Int → Int → List Int → Option (Int × (List Int))
  | 0, _, _, _ => none
  | n + 1, vn2, d3, l4 =>
    bif (leI (w64 (d3 * d3)) vn2) then
      (
        (r_spec_nuFactors_L10 d3 FU vn2 l4).bind fun o11 =>
        sI (w64 (d3 + 1)) fun d17 =>
        r_spec_nuFactors_L5 n o11.1 d17 o11.2
      )
    else
      (
        some (vn2, l4)
      )
def r_spec_nuFactors (vn1 : Int) : Option (List Int) :=
  (r_spec_nuFactors_L5 FU vn1 2 (([] : List Int))).bind fun o6 =>
  bif (ltI 1 o6.1) then
    (
      (room (o6.2.length + ([o6.1]).length)).bind fun u19 =>
      some (o6.2 ++ ([o6.1]))
    )
  else
    (
      some o6.2
    )

def r_spec_l1Put_L4 (l1 : List Int) (vn2 : Int) : Nat → Int → Option Int
  | 0, _ => none
  | n + 1, k3 =>
    (bif (ltI k3 ((l1.length : Int))) then ((getI l1 k3).bind fun e7 => some (ltI e7 vn2)) else some false).bind fun b8 =>
    bif b8 then
      (
        sI (w64 (k3 + 1)) fun k10 =>
        r_spec_l1Put_L4 l1 vn2 n k10
      )
    else
      (
        some k3
      )
def r_spec_l1Put (l1 : List Int) (vn2 : Int) : Option (List Int) :=
  (r_spec_l1Put_L4 l1 vn2 FU 0).bind fun o5 =>
  (bif (ltI o5 ((l1.length : Int))) then ((getI l1 o5).bind fun e12 => some (eqI e12 vn2)) else some false).bind fun b13 =>
  bif b13 then
    (
      some l1
    )
  else
    (
      (slc l1.length 0 o5).bind fun u15 =>
      (room ((([] : List Int)).length + (subl l1 0 o5).length)).bind fun u16 =>
      (room (((([] : List Int)) ++ (subl l1 0 o5)).length + ([vn2]).length)).bind fun u17 =>
      (slc l1.length o5 ((l1.length : Int))).bind fun u18 =>
      (room ((((([] : List Int)) ++ (subl l1 0 o5)) ++ ([vn2])).length + (subl l1 o5 ((l1.length : Int))).length)).bind fun u19 =>
      (some ((((([] : List Int)) ++ (subl l1 0 o5)) ++ ([vn2])) ++ (subl l1 o5 ((l1.length : Int))))).bind fun l20 =>
      some l20
    )

def r_spec_nuPrimes_L5 (y2 : List Int) : Nat → List Int → Int → Option (List Int)
  | 0, _, _ => none
  | n + 1, out3, t4 =>
    bif (ltI t4 ((y2.length : Int))) then
      (
        (getI y2 t4).bind fun e8 =>
        (getI y2 t4).bind fun e9 =>
        (r_spec_l1Put out3 e9).bind fun y10 =>
        sI (w64 (t4 + 1)) fun t11 =>
        r_spec_nuPrimes_L5 y2 n y10 t11
      )
    else
      (
        some out3
      )
def r_spec_nuPrimes (vn1 : Int) : Option (List Int) :=
  (r_spec_nuFactors vn1).bind fun y2 =>
  (r_spec_nuPrimes_L5 y2 FU (([] : List Int)) 0).bind fun o6 =>
  some o6

def r_spec_nuExponent_L5 (p2 : Int) : Nat → Int → Int → Option Int
  | 0, _, _ => none
  | n + 1, vn3, k4 =>
    (nz p2).bind fun z7 =>
    bif (eqI (Int.tmod vn3 p2) 0) then
      (
        (nz p2).bind fun z9 =>
        sI (w64 (Int.tdiv vn3 p2)) fun vn10 =>
        sI (w64 (k4 + 1)) fun k11 =>
        r_spec_nuExponent_L5 p2 n vn10 k11
      )
    else
      (
        some k4
      )
def r_spec_nuExponent (vn1 : Int) (p2 : Int) : Option Int :=
  (r_spec_nuExponent_L5 p2 FU vn1 0).bind fun o6 =>
  some o6

def r_spec_vaHasRoot_L4 (d1 : Int) (vn2 : Int) : Nat → Int → Option (Unit ⊕ Bool)
  | 0, _ => none
  | n + 1, b3 =>
    bif (ltI b3 (w64 (2 * vn2))) then
      (
        (nz (w64 (4 * vn2))).bind fun z7 =>
        (some (eqI (Int.tmod (w64 ((w64 (b3 * b3)) - d1)) (w64 (4 * vn2))) 0)).bind fun t8 =>
        bif t8 then
          (
            some (.inr true)
          )
        else
          (
            sI (w64 (b3 + 1)) fun b10 =>
            r_spec_vaHasRoot_L4 d1 vn2 n b10
          )
      )
    else
      (
        some (.inl ())
      )
def r_spec_vaHasRoot (d1 : Int) (vn2 : Int) : Option Bool :=
  (r_spec_vaHasRoot_L4 d1 vn2 FU 0).bind fun qo5 =>
  match qo5 with
  | .inr r => some r
  | .inl o5 =>
    some false

def r_spec_ForbiddingPrime_L10 (d1 : Int) (vn2 : Int) (y8 : List Int) : Nat → Int → Option (Unit ⊕ (Int × Bool))
  | 0, _ => none
  | n + 1, t9 =>
    bif (ltI t9 ((y8.length : Int))) then
      (
        (getI y8 t9).bind fun e13 =>
        (r_spec_nuExponent vn2 e13).bind fun y14 =>
        (bif (eqI (Int.tmod y14 2) 1) then ((r_spec_vaHasRoot d1 e13).bind fun y16 => some (!y16)) else some false).bind fun b17 =>
        bif b17 then
          (
            some (.inr (((e13, true))))
          )
        else
          (
            sI (w64 (t9 + 1)) fun t19 =>
            r_spec_ForbiddingPrime_L10 d1 vn2 y8 n t19
          )
      )
    else
      (
        some (.inl ())
      )
def r_spec_ForbiddingPrime (d1 : Int) (vn2 : Int) : Option (Int × Bool) :=
  (r_spec_reDisc d1).bind fun y3 =>
  (bif (!y3) then some true else ((r_spec_vaShown vn2).bind fun y5 => some (!y5))).bind fun b6 =>
  bif b6 then
    (
      some ((0, false))
    )
  else
    (
      (r_spec_nuPrimes vn2).bind fun y8 =>
      (r_spec_ForbiddingPrime_L10 d1 vn2 y8 FU 0).bind fun qo11 =>
      match qo11 with
      | .inr r => some r
      | .inl o11 =>
        some ((0, false))
    )

def r_spec_ObstructionCertificate (d1 : Int) (vn2 : Int) : Option (ByteArray × Bool) :=
  (r_spec_ForbiddingPrime d1 vn2).bind fun y3 =>
  bif (bif (!y3.2) then true else (ltI 2500 y3.1)) then
    (
      some (((⟨#[]⟩ : ByteArray), false))
    )
  else
    (
      (r_spec_l1Int d1).bind fun y6 =>
      (r_spec_l1Int vn2).bind fun y7 =>
      (r_spec_l1Int y3.1).bind fun y8 =>
      (r_spec_prText ([(⟨#[111, 98, 115, 116, 114, 117, 99, 116, 105, 111, 110]⟩ : ByteArray), y6, y7, y8])).bind fun y9 =>
      some ((y9, true))
    )

def r_impl_mod (a1 : Int) (vm2 : Int) : Option Int :=
  (nz vm2).bind fun z3 =>
  sI (Int.tmod a1 vm2) fun vr4 =>
  bif (ltI vr4 0) then
    (
      sI (w64 (vr4 + vm2)) fun vr6 =>
      some vr6
    )
  else
    (
      some vr4
    )

def r_impl_isNegativeDisc (d1 : Int) : Option Bool :=
  (bif (bif (leI (-2000) d1) then (leI d1 (-3)) else false) then ((r_impl_mod d1 4).bind fun y4 => some (leI y4 1)) else some false).bind fun b5 =>
  some b5

def r_impl_isShown (vn1 : Int) : Option Bool :=
  some (bif (leI 1 vn1) then (leI vn1 10000) else false)

def r_impl_factors_L10 (p3 : Int) : Nat → Int → List Int → Option (Int × (List Int))
  | 0, _, _ => none
  | n + 1, vn8, l9 =>
    (nz p3).bind fun z12 =>
    bif (eqI (Int.tmod vn8 p3) 0) then
      (
        (room (l9.length + ([p3]).length)).bind fun u14 =>
        (nz p3).bind fun z15 =>
        sI (w64 (Int.tdiv vn8 p3)) fun vn16 =>
        r_impl_factors_L10 p3 n vn16 (l9 ++ ([p3]))
      )
    else
      (
        some (vn8, l9)
      )
def r_impl_factors_L5 : Nat → Int → Int → List Int → Option (Int × (List Int))
  | 0, _, _, _ => none
  | n + 1, vn2, p3, l4 =>
    bif (leI (w64 (p3 * p3)) vn2) then
      (
        (r_impl_factors_L10 p3 FU vn2 l4).bind fun o11 =>
        sI (w64 (p3 + 1)) fun p17 =>
        r_impl_factors_L5 n o11.1 p17 o11.2
      )
    else
      (
        some (vn2, l4)
      )
def r_impl_factors (vn1 : Int) : Option (List Int) :=
  (r_impl_factors_L5 FU vn1 2 (([] : List Int))).bind fun o6 =>
  bif (ltI 1 o6.1) then
    (
      (room (o6.2.length + ([o6.1]).length)).bind fun u19 =>
      some (o6.2 ++ ([o6.1]))
    )
  else
    (
      some o6.2
    )

def r_impl_primesOf_L5 (y2 : List Int) : Nat → Int → List Int → Option (List Int)
  | 0, _, _ => none
  | n + 1, t3, l4 =>
    bif (ltI t3 ((y2.length : Int))) then
      (
        (getI y2 t3).bind fun e8 =>
        (getI y2 t3).bind fun e9 =>
        (bif (eqI ((l4.length : Int)) 0) then some true else ((getI l4 (w64 (((l4.length : Int)) - 1))).bind fun e11 => (getI l4 (w64 (((l4.length : Int)) - 1))).bind fun e12 => some (!eqI e12 e9))).bind fun b13 =>
        bif b13 then
          (
            (room (l4.length + ([e9]).length)).bind fun u15 =>
            sI (w64 (t3 + 1)) fun t16 =>
            r_impl_primesOf_L5 y2 n t16 (l4 ++ ([e9]))
          )
        else
          (
            sI (w64 (t3 + 1)) fun t17 =>
            r_impl_primesOf_L5 y2 n t17 l4
          )
      )
    else
      (
        some l4
      )
def r_impl_primesOf (vn1 : Int) : Option (List Int) :=
  (r_impl_factors vn1).bind fun y2 =>
  (r_impl_primesOf_L5 y2 FU 0 (([] : List Int))).bind fun o6 =>
  some o6

def r_impl_exponent_L5 (p2 : Int) : Nat → Int → Int → Option Int
  | 0, _, _ => none
  | n + 1, vn3, k4 =>
    (nz p2).bind fun z7 =>
    bif (eqI (Int.tmod vn3 p2) 0) then
      (
        sI (w64 (k4 + 1)) fun k9 =>
        (nz p2).bind fun z10 =>
        sI (w64 (Int.tdiv vn3 p2)) fun vn11 =>
        r_impl_exponent_L5 p2 n vn11 k9
      )
    else
      (
        some k4
      )
def r_impl_exponent (vn1 : Int) (p2 : Int) : Option Int :=
  (r_impl_exponent_L5 p2 FU vn1 0).bind fun o6 =>
  some o6

def r_impl_ForbiddingPrime_L10 (d1 : Int) (vn2 : Int) (y8 : List Int) : Nat → Int → Option (Unit ⊕ (Int × Bool))
  | 0, _ => none
  | n + 1, t9 =>
    bif (ltI t9 ((y8.length : Int))) then
      (
        (getI y8 t9).bind fun e13 =>
        (getI y8 t9).bind fun e14 =>
        (r_impl_exponent vn2 e14).bind fun y15 =>
        (bif (eqI (Int.tmod y15 2) 1) then ((r_impl_rootsOfDiscriminant d1 e14).bind fun y17 => some (eqI ((y17.length : Int)) 0)) else some false).bind fun b18 =>
        bif b18 then
          (
            some (.inr (((e14, true))))
          )
        else
          (
            sI (w64 (t9 + 1)) fun t20 =>
            r_impl_ForbiddingPrime_L10 d1 vn2 y8 n t20
          )
      )
    else
      (
        some (.inl ())
      )
def r_impl_ForbiddingPrime (d1 : Int) (vn2 : Int) : Option (Int × Bool) :=
  (r_impl_isNegativeDisc d1).bind fun y3 =>
  (bif (!y3) then some true else ((r_impl_isShown vn2).bind fun y5 => some (!y5))).bind fun b6 =>
  bif b6 then
    (
      some ((0, false))
    )
  else
    (
      (r_impl_primesOf vn2).bind fun y8 =>
      (r_impl_ForbiddingPrime_L10 d1 vn2 y8 FU 0).bind fun qo11 =>
      match qo11 with
      | .inr r => some r
      | .inl o11 =>
        some ((0, false))
    )

def r_impl_ObstructionCertificate (d1 : Int) (vn2 : Int) : Option (ByteArray × Bool) :=
  (r_impl_ForbiddingPrime d1 vn2).bind fun y3 =>
  bif (bif (!y3.2) then true else (ltI 2500 y3.1)) then
    (
      some (((⟨#[]⟩ : ByteArray), false))
    )
  else
    (
      (r_strconv_Itoa d1).bind fun y6 =>
      (r_strconv_Itoa vn2).bind fun y7 =>
      (r_strconv_Itoa y3.1).bind fun y8 =>
      (r_impl_certificate ((⟨#[111, 98, 115, 116, 114, 117, 99, 116, 105, 111, 110]⟩ : ByteArray)) ([y6, y7, y8])).bind fun y9 =>
      some ((y9, true))
    )

def r_laws_FnExactObstructionCertificate (aD1 : Int) (aN2 : Int) : Option Bool :=
  (r_spec_ObstructionCertificate aD1 aN2).bind fun y3 =>
  (r_impl_ObstructionCertificate aD1 aN2).bind fun y4 =>
  (some (bif (!(y4.1.toList == y3.1.toList)) then true else (y4.2 != y3.2))).bind fun t6 =>
  bif t6 then
    (
      some false
    )
  else
    (
      some true
    )

end Go.Proofs.YtmpnloechnfkjaaDoor
