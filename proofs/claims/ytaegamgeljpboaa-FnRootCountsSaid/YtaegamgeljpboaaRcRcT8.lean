/-
  Primitive points and forms with a first coefficient, counted, part 8.
  Conditions: none.
-/
import Derived.Test.YtaegamgeljpboaaRcRcT0
namespace Go.Proofs.Ytaegamgeljpboaa
set_option maxRecDepth 100000
theorem rcT_645 : rcAll 95 645 = true := by decide +kernel
theorem rcT_921 : rcAll 88 921 = true := by decide +kernel
theorem rcT_1180 : rcAll 81 1180 = true := by decide +kernel
end Go.Proofs.Ytaegamgeljpboaa
