/-
  Primitive points and forms with a first coefficient, counted, part 3.
  Conditions: none.
-/
import Derived.Test.YtaegamgeljpboaaRcRcT0
namespace Go.Proofs.Ytaegamgeljpboaa
set_option maxRecDepth 100000
theorem rcT_548 : rcAll 97 548 = true := by decide +kernel
theorem rcT_1420 : rcAll 76 1420 = true := by decide +kernel
theorem rcT_1717 : rcAll 72 1717 = true := by decide +kernel
end Go.Proofs.Ytaegamgeljpboaa
