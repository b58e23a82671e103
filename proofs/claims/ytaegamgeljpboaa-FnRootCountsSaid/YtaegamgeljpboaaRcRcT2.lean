/-
  Primitive points and forms with a first coefficient, counted, part 2.
  Conditions: none.
-/
import Derived.Test.YtaegamgeljpboaaRcRcT0
namespace Go.Proofs.Ytaegamgeljpboaa
set_option maxRecDepth 100000
theorem rcT_1496 : rcAll 76 1496 = true := by decide +kernel
theorem rcT_1645 : rcAll 72 1645 = true := by decide +kernel
theorem rcT_1789 : rcAll 71 1789 = true := by decide +kernel
end Go.Proofs.Ytaegamgeljpboaa
