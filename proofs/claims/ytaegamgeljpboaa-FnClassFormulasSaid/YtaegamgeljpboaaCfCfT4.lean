/-
  Class numbers worked out in every way, part 4.
  Conditions: none.
-/
import Derived.Test.YtaegamgeljpboaaCfCfS
namespace Go.Proofs.Ytaegamgeljpboaa
set_option maxRecDepth 100000
theorem cfT_819 : cfQall 69 819 = true := by decide +kernel
theorem cfT_1425 : cfQall 44 1425 = true := by decide +kernel
theorem cfT_1897 : cfQall 35 1897 = true := by decide +kernel
theorem cfT_1932 : cfQall 34 1932 = true := by decide +kernel
end Go.Proofs.Ytaegamgeljpboaa
