/-
  The package-level tables on whose contents the proof leans: the powers of ten by which the library writes a number.
  Conditions: none.
-/
import Derived.WalkKit
import Derived.Lib.ItoaNum
namespace Go.Proofs.YtnifkkihamgmaaaDoor
open Go.RowKit
/-- The tables that are read: block number and cells. -/
def TB : List (Nat × Array Value) := [(1, (Go.Lib.pow10Tab.map fun z => Value.int .u64 z).toArray)]
end Go.Proofs.YtnifkkihamgmaaaDoor
