/-
  Class numbers worked out in every way, part 1.
  Conditions: none.
-/
import Derived.Test.YtaegamgeljpboaaCfCfS
namespace Go.Proofs.Ytaegamgeljpboaa
set_option maxRecDepth 100000
theorem cfT_3 : cfQall 220 3 = true := by decide +kernel
theorem cfT_1234 : cfQall 50 1234 = true := by decide +kernel
theorem cfT_1284 : cfQall 48 1284 = true := by decide +kernel
theorem cfT_1789 : cfQall 37 1789 = true := by decide +kernel
end Go.Proofs.Ytaegamgeljpboaa
