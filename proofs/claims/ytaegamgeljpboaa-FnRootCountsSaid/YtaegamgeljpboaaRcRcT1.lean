/-
  Primitive points and forms with a first coefficient, counted, part 1.
  Conditions: none.
-/
import Derived.Test.YtaegamgeljpboaaRcRcT0
namespace Go.Proofs.Ytaegamgeljpboaa
set_option maxRecDepth 100000
theorem rcT_1341 : rcAll 79 1341 = true := by decide +kernel
theorem rcT_1860 : rcAll 69 1860 = true := by decide +kernel
theorem rcT_1997 : rcAll 4 1997 = true := by decide +kernel
end Go.Proofs.Ytaegamgeljpboaa
