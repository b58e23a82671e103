/-
  Primitive points and forms with a first coefficient, counted, part 4.
  Conditions: none.
-/
import Derived.Test.YtaegamgeljpboaaRcRcT0
namespace Go.Proofs.Ytaegamgeljpboaa
set_option maxRecDepth 100000
theorem rcT_445 : rcAll 103 445 = true := by decide +kernel
theorem rcT_740 : rcAll 92 740 = true := by decide +kernel
theorem rcT_1929 : rcAll 68 1929 = true := by decide +kernel
end Go.Proofs.Ytaegamgeljpboaa
