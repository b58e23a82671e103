/-
  Primitive points and forms with a first coefficient, counted, part 7.
  Conditions: none.
-/
import Derived.Test.YtaegamgeljpboaaRcRcT0
namespace Go.Proofs.Ytaegamgeljpboaa
set_option maxRecDepth 100000
theorem rcT_3 : rcAll 117 3 = true := by decide +kernel
theorem rcT_120 : rcAll 113 120 = true := by decide +kernel
theorem rcT_1261 : rcAll 80 1261 = true := by decide +kernel
end Go.Proofs.Ytaegamgeljpboaa
