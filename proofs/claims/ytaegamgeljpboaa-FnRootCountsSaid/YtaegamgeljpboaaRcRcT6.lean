/-
  Primitive points and forms with a first coefficient, counted, part 6.
  Conditions: none.
-/
import Derived.Test.YtaegamgeljpboaaRcRcT0
namespace Go.Proofs.Ytaegamgeljpboaa
set_option maxRecDepth 100000
theorem rcT_341 : rcAll 104 341 = true := by decide +kernel
theorem rcT_1009 : rcAll 87 1009 = true := by decide +kernel
theorem rcT_1572 : rcAll 73 1572 = true := by decide +kernel
end Go.Proofs.Ytaegamgeljpboaa
