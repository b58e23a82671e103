/-
  Words for strings, for the plain functions.
  Conditions: none.
-/
import Derived.Test.YtnheekadeflecaaGreatShR
import Derived.Lib.ItoaNum
import Derived.Lib.Join
namespace Go.Proofs.YtnheekadeflecaaGreat
set_option linter.unusedVariables false

/-- A string's byte at a place. -/
def getB (b : ByteArray) (i : Int) : Option Int := if 0 ≤ i ∧ i < b.size then some (((b.data.toList[i.toNat]?).getD 0).toNat : Int) else none
/-- Bytes made into a string. -/
def bytesI (xs : List Int) : ByteArray := xs.foldl (fun r n => r.push (UInt8.ofNat n.toNat)) ByteArray.empty
/-- Two strings can be put together. -/
def catR (a b : ByteArray) : Option Unit := if a.size + b.size ≤ 9223372036854775807 then some () else none
/-- strconv.Itoa. -/
def r_strconv_Itoa (n : Int) : Option ByteArray := if -9223372036854775808 ≤ n ∧ n ≤ 9223372036854775807 then some ⟨(Go.Lib.itoa n).toArray⟩ else none
/-- strings.Join. -/
def r_strings_Join (xs : List ByteArray) (sep : ByteArray) : Option ByteArray :=
  if xs.length ≤ 140737488355328 ∧ (Go.Lib.join (xs.map (·.data.toList)) sep.data.toList).length ≤ 140737488355328 then some ⟨(Go.Lib.join (xs.map (·.data.toList)) sep.data.toList).toArray⟩ else none
def cpN (n k1 k2 : Nat) : Nat := Nat.min (n - k2) (n - k1)
/-- copy(l[k1:], l[k2:]) -/
def copyL {α : Type} (l : List α) (k1 k2 : Nat) : List α := splice l k1 ((l.drop k2).take (cpN l.length k1 k2))
section
variable {κ ν : Type} [DecidableEq κ]
def ixM (a : κ) : List κ → Option Nat
  | [] => none
  | k :: ks => if a = k then some 0 else (ixM a ks).map (· + 1)
/-- What a map holds at a key. -/
def mGet (a : κ) : List (κ × ν) → Option ν
  | [] => none
  | p :: ps => if a = p.1 then some p.2 else mGet a ps
/-- A map with a key's value. -/
def mPut (a : κ) (v : ν) : List (κ × ν) → List (κ × ν)
  | [] => [(a, v)]
  | p :: ps => if a = p.1 then (a, v) :: ps else p :: mPut a v ps
def mHas (a : κ) (m : List (κ × ν)) : Bool := (mGet a m).isSome
def mAt (a : κ) (m : List (κ × ν)) (z : ν) : ν := (mGet a m).getD z
end
/-! ### Views of a row that grows -/
/-- The lower bound of a view that goes to the row's end. -/
def vwg (n : Nat) (f h : Int) : Option Unit := bif (leI 0 f && (ltI f (n : Int) && eqI h (n : Int))) then some () else none
def vwl (n : Nat) (f : Int) : Int := ((n - f.toNat : Nat) : Int)
def vwi {α : Type} (xs : List α) (f t : Int) : Option α := bif (leI 0 f && leI 0 t) then getI xs (f + t) else none
end Go.Proofs.YtnheekadeflecaaGreat
