/-
  Primitive points and forms with a first coefficient, counted, part 5.
  Conditions: none.
-/
import Derived.Test.YtaegamgeljpboaaRcRcT0
namespace Go.Proofs.Ytaegamgeljpboaa
set_option maxRecDepth 100000
theorem rcT_233 : rcAll 108 233 = true := by decide +kernel
theorem rcT_832 : rcAll 89 832 = true := by decide +kernel
theorem rcT_1096 : rcAll 84 1096 = true := by decide +kernel
end Go.Proofs.Ytaegamgeljpboaa
