/-
  Class numbers worked out in every way, part 7.
  Conditions: none.
-/
import Derived.Test.YtaegamgeljpboaaCfCfS
namespace Go.Proofs.Ytaegamgeljpboaa
set_option maxRecDepth 100000
theorem cfT_1072 : cfQall 56 1072 = true := by decide +kernel
theorem cfT_1714 : cfQall 38 1714 = true := by decide +kernel
theorem cfT_1826 : cfQall 36 1826 = true := by decide +kernel
theorem cfT_1862 : cfQall 35 1862 = true := by decide +kernel
end Go.Proofs.Ytaegamgeljpboaa
