/-
  The package-level tables on whose contents the proof leans: none.
  Conditions: none.
-/
import Derived.WalkKit
namespace Go.Proofs.YtnheekadeflecaaGreat
open Go.RowKit
/-- The variables that are read: block number and what holds of the cells. -/
def TB : List (Nat × (Array Value → Prop)) := []
end Go.Proofs.YtnheekadeflecaaGreat
