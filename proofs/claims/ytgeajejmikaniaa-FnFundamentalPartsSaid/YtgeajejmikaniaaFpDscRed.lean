/-
  The reference and the program reduce every definite form with small coefficients to the same reduced form by the same matrix.
  Conditions: none.
-/
import Derived.Test.YtgeajejmikaniaaFpDscBas
namespace Go.Proofs.Ytgeajejmikaniaa
set_option linter.unusedVariables false
set_option linter.unusedSimpArgs false

/-- A definite form on its way to the reduced one. -/
structure RedInv (a b c d g : Int) : Prop where
  a1 : 1 ≤ a
  aM : a ≤ 1000000
  b1 : -1000000 ≤ b
  b2 : b ≤ 1000000
  c1 : 1 ≤ c
  cM : c ≤ 1250000
  dis : b * b - 4 * a * c = d
  neg : d < 0
  nrm : (-a < b ∧ b ≤ a) ∨ c ≤ 1000000
  con : ∀ k : Int, (k ∣ a ∧ k ∣ b ∧ k ∣ c) ↔ k ∣ g
def IsRed (a b c : Int) : Prop := (-a < b ∧ b ≤ a) ∧ (a < c ∨ (a = c ∧ 0 ≤ b))
instance (a b c : Int) : Decidable (IsRed a b c) := inferInstanceAs (Decidable ((-a < b ∧ b ≤ a) ∧ (a < c ∨ (a = c ∧ 0 ≤ b))))
end Go.Proofs.Ytgeajejmikaniaa
