/-
  What descending for all primes of a number does to a reduced form: the same on both sides, worked out for all reduced forms.
  Conditions: none.
-/
import Derived.Test.YtdffhgibkeifmaaDscRaw
namespace Go.Proofs.Ytdffhgibkeifmaa
set_option linter.unusedVariables false
set_option linter.unusedSimpArgs false

abbrev Fm := Int × Int × Int
def eq3 (x y : Fm) : Bool := bif eqI x.1 y.1 then (bif eqI x.2.1 y.2.1 then eqI x.2.2 y.2.2 else false) else false
def toI (r : Fm) (k : Int) : Option Fm := (r_impl_factors k).bind fun l => r_impl_DescendTo_L22 l FU 0 r.1 r.2.1 r.2.2
def toS (r : Fm) (k : Int) : Option Fm := (r_spec_nuFactors k).bind fun l => r_spec_DescendTo_L23 l FU 0 r.1 r.2.1 r.2.2
def eqO (x y : Option Fm) : Bool := match x, y with
  | some x, some y => eq3 x y
  | _, _ => false
def tryK (D k : Int) : Bool := bif eqI (Int.tmod D (k * k)) 0 then r_impl_isNegativeDisc (Int.tdiv D (k * k)) == some true else false
def tchK (a b c D : Int) : List Int → Bool
  | [] => true
  | k :: ks => bif (bif tryK D k then eqO (toI (a, b, c) k) (toS (a, b, c) k) else true) then tchK a b c D ks else false
def tKs : List Int := [1, 2, 3, 4, 5, 6, 7, 8, 9, 10, 11, 12, 13, 14, 15, 16, 17, 18, 19, 20, 21, 22, 23, 24, 25]
def tchC (a b : Int) : Nat → Int → Bool
  | 0, _ => true
  | n + 1, c => bif (bif Nat.beq (Nat.gcd a.natAbs (Nat.gcd b.natAbs c.natAbs)) 1 then tchK a b c (b * b - 4 * a * c) tKs else true) then sI (c + 1) (tchC a b n) else false
def tchB (a : Int) : Nat → Int → Bool
  | 0, _ => true
  | n + 1, b => bif tchC a b (Int.toNat ((2000 + b * b) / (4 * a) - a + 1)) a then sI (b + 1) (tchB a n) else false
set_option maxRecDepth 100000
theorem tTl_1 : tchB 1 2 (0) = true := by decide +kernel
theorem tTl_2 : tchB 2 4 (-1) = true := by decide +kernel
theorem tTl_3 : tchB 3 6 (-2) = true := by decide +kernel
theorem tTl_4 : tchB 4 8 (-3) = true := by decide +kernel
theorem tTl_5 : tchB 5 10 (-4) = true := by decide +kernel
theorem tTl_6 : tchB 6 12 (-5) = true := by decide +kernel
theorem tTl_7 : tchB 7 14 (-6) = true := by decide +kernel
theorem tTl_8 : tchB 8 16 (-7) = true := by decide +kernel
theorem tTl_9 : tchB 9 18 (-8) = true := by decide +kernel
theorem tTl_10 : tchB 10 20 (-9) = true := by decide +kernel
theorem tTl_11 : tchB 11 22 (-10) = true := by decide +kernel
theorem tTl_12 : tchB 12 24 (-11) = true := by decide +kernel
theorem tTl_13 : tchB 13 26 (-12) = true := by decide +kernel
theorem tTl_14 : tchB 14 28 (-13) = true := by decide +kernel
theorem tTl_15 : tchB 15 30 (-14) = true := by decide +kernel
theorem tTl_16 : tchB 16 32 (-15) = true := by decide +kernel
theorem tTl_17 : tchB 17 34 (-16) = true := by decide +kernel
theorem tTl_18 : tchB 18 36 (-17) = true := by decide +kernel
theorem tTl_19 : tchB 19 38 (-18) = true := by decide +kernel
theorem tTl_20 : tchB 20 40 (-19) = true := by decide +kernel
theorem tTl_21 : tchB 21 42 (-20) = true := by decide +kernel
theorem tTl_22 : tchB 22 44 (-21) = true := by decide +kernel
theorem tTl_23 : tchB 23 46 (-22) = true := by decide +kernel
theorem tTl_24 : tchB 24 48 (-23) = true := by decide +kernel
theorem tTl_25 : tchB 25 50 (-24) = true := by decide +kernel
end Go.Proofs.Ytdffhgibkeifmaa
