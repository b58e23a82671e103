/-
  Class numbers worked out in every way, part 2.
  Conditions: none.
-/
import Derived.Test.YtaegamgeljpboaaCfCfS
namespace Go.Proofs.Ytaegamgeljpboaa
set_option maxRecDepth 100000
theorem cfT_578 : cfQall 87 578 = true := by decide +kernel
theorem cfT_1332 : cfQall 47 1332 = true := by decide +kernel
theorem cfT_1469 : cfQall 43 1469 = true := by decide +kernel
theorem cfT_1635 : cfQall 40 1635 = true := by decide +kernel
end Go.Proofs.Ytaegamgeljpboaa
