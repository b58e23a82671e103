/-
  The package-level tables on whose contents the proof leans: none.
  Conditions: none.
-/
import Derived.WalkKit
namespace Go.Proofs.Ytafomkclmkfjeaa
open Go.RowKit
/-- The tables that are read: block number and cells. -/
def TB : List (Nat × Array Value) := []
end Go.Proofs.Ytafomkclmkfjeaa
