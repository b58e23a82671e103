/-
  Class numbers worked out in every way, part 3.
  Conditions: none.
-/
import Derived.Test.YtaegamgeljpboaaCfCfS
namespace Go.Proofs.Ytaegamgeljpboaa
set_option maxRecDepth 100000
theorem cfT_665 : cfQall 80 665 = true := by decide +kernel
theorem cfT_1554 : cfQall 41 1554 = true := by decide +kernel
theorem cfT_1595 : cfQall 40 1595 = true := by decide +kernel
theorem cfT_1966 : cfQall 34 1966 = true := by decide +kernel
end Go.Proofs.Ytaegamgeljpboaa
