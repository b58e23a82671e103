/-
  What descending does to a reduced form: the same on both sides, worked out for all reduced forms.
  Conditions: none.
-/
import Derived.Test.YtdffhgibkeifmaaDscRaw
namespace Go.Proofs.Ytdffhgibkeifmaa
set_option linter.unusedVariables false
set_option linter.unusedSimpArgs false

abbrev Fm := Int × Int × Int
abbrev Mx := Int × Int × Int × Int
/-- behind the first reduction: the matrix of completing, the shift, the reduced form and its matrix -/
def dTail (r : Fm) (p : Int) : Option (Mx × Int × Fm × Mx) :=
  (r_impl_firstPoint r p).bind fun y4 => (r_impl_Form_complete r y4.1 y4.2).bind fun y5 =>
  (r_impl_descend_L11 p (r, (1, 0, 0, 1)) y5 (1, 0, 0, 1) FU 0 y5.1.1 y5.1.2.1 y5.1.2.2).bind fun o12 =>
  (nz p).bind fun z20 => (nz (w64 (p * p))).bind fun z21 =>
  (r_impl_reduce ((o12.2.1, w64 (Int.tdiv o12.2.2.1 p), w64 (Int.tdiv o12.2.2.2 (w64 (p * p)))))).bind fun y22 =>
  some (y5.2, o12.1, y22.1, y22.2)
def sSkel (p : Int) (f : Fm) : Nat → Int → Option (Int × Fm × Mx)
  | 0, _ => none
  | n + 1, t7 =>
    bif (ltI t7 p) then
      (
        (r_spec_coShift t7).bind fun y11 =>
        (r_spec_foAct f y11).bind fun y12 =>
        (nz p).bind fun z13 =>
        (bif (!eqI (Int.tmod y12.2.1 p) 0) then some true else ((nz (w64 (p * p))).bind fun z15 => some (!eqI (Int.tmod y12.2.2 (w64 (p * p))) 0))).bind fun b16 =>
        bif b16 then
          (
            sI (w64 (t7 + 1)) fun t18 => sSkel p f n t18
          )
        else
          (
            (nz p).bind fun z19 =>
            (nz (w64 (p * p))).bind fun z20 =>
            (r_spec_reReduce ((y12.1, w64 (Int.tdiv y12.2.1 p), w64 (Int.tdiv y12.2.2 (w64 (p * p)))))).bind fun y21 =>
            some (t7, y21.1, y21.2)
          )
      )
    else none
def sTail (r : Fm) (p : Int) : Option (Mx × Int × Fm × Mx) :=
  (r_spec_coPoint r p).bind fun y4 => (r_spec_vaComplete r y4.1 y4.2).bind fun y5 => (sSkel p y5.1 FU 0).bind fun q => some (y5.2, q.1, q.2.1, q.2.2)
def eq3 (x y : Fm) : Bool := bif eqI x.1 y.1 then (bif eqI x.2.1 y.2.1 then eqI x.2.2 y.2.2 else false) else false
def eq4 (x y : Mx) : Bool := bif eqI x.1 y.1 then eq3 x.2 y.2 else false
def eqT (x y : Option (Mx × Int × Fm × Mx)) : Bool := match x, y with
  | some x, some y => bif eq4 x.1 y.1 then (bif eqI x.2.1 y.2.1 then (bif eq3 x.2.2.1 y.2.2.1 then eq4 x.2.2.2 y.2.2.2 else false) else false) else false
  | _, _ => false
/-- a prime is to be tried -/
def tryP (a b c D p : Int) : Bool := bif eqI (Int.tmod D (p * p)) 0 then (bif (r_impl_isNegativeDisc (Int.tdiv D (p * p))) == some true then !(eqI (Int.tmod a p) 0 && (eqI (Int.tmod b p) 0 && eqI (Int.tmod c p) 0)) else false) else false
def dchP (a b c D : Int) : List Int → Bool
  | [] => true
  | p :: ps => bif (bif tryP a b c D p then eqT (dTail (a, b, c) p) (sTail (a, b, c) p) else true) then dchP a b c D ps else false
def dPs : List Int := [2, 3, 5, 7, 11, 13, 17, 19, 23]
def dchC (a b : Int) : Nat → Int → Bool
  | 0, _ => true
  | n + 1, c => bif dchP a b c (b * b - 4 * a * c) dPs then sI (c + 1) (dchC a b n) else false
def dchB (a : Int) : Nat → Int → Bool
  | 0, _ => true
  | n + 1, b => bif dchC a b (Int.toNat ((2000 + b * b) / (4 * a) - a + 1)) a then sI (b + 1) (dchB a n) else false
set_option maxRecDepth 100000
theorem dTl_1 : dchB 1 2 (0) = true := by decide +kernel
theorem dTl_2 : dchB 2 4 (-1) = true := by decide +kernel
theorem dTl_3 : dchB 3 6 (-2) = true := by decide +kernel
theorem dTl_4 : dchB 4 8 (-3) = true := by decide +kernel
theorem dTl_5 : dchB 5 10 (-4) = true := by decide +kernel
theorem dTl_6 : dchB 6 12 (-5) = true := by decide +kernel
theorem dTl_7 : dchB 7 14 (-6) = true := by decide +kernel
theorem dTl_8 : dchB 8 16 (-7) = true := by decide +kernel
theorem dTl_9 : dchB 9 18 (-8) = true := by decide +kernel
theorem dTl_10 : dchB 10 20 (-9) = true := by decide +kernel
theorem dTl_11 : dchB 11 22 (-10) = true := by decide +kernel
theorem dTl_12 : dchB 12 24 (-11) = true := by decide +kernel
theorem dTl_13 : dchB 13 26 (-12) = true := by decide +kernel
theorem dTl_14 : dchB 14 28 (-13) = true := by decide +kernel
theorem dTl_15 : dchB 15 30 (-14) = true := by decide +kernel
theorem dTl_16 : dchB 16 32 (-15) = true := by decide +kernel
theorem dTl_17 : dchB 17 34 (-16) = true := by decide +kernel
theorem dTl_18 : dchB 18 36 (-17) = true := by decide +kernel
theorem dTl_19 : dchB 19 38 (-18) = true := by decide +kernel
theorem dTl_20 : dchB 20 40 (-19) = true := by decide +kernel
theorem dTl_21 : dchB 21 42 (-20) = true := by decide +kernel
theorem dTl_22 : dchB 22 44 (-21) = true := by decide +kernel
theorem dTl_23 : dchB 23 46 (-22) = true := by decide +kernel
theorem dTl_24 : dchB 24 48 (-23) = true := by decide +kernel
theorem dTl_25 : dchB 25 50 (-24) = true := by decide +kernel
end Go.Proofs.Ytdffhgibkeifmaa
