/-
  Class numbers worked out in every way, part 8.
  Conditions: none.
-/
import Derived.Test.YtaegamgeljpboaaCfCfS
namespace Go.Proofs.Ytaegamgeljpboaa
set_option maxRecDepth 100000
theorem cfT_223 : cfQall 143 223 = true := by decide +kernel
theorem cfT_480 : cfQall 98 480 = true := by decide +kernel
theorem cfT_1014 : cfQall 58 1014 = true := by decide +kernel
theorem cfT_1128 : cfQall 54 1128 = true := by decide +kernel
theorem cfT_1182 : cfQall 52 1182 = true := by decide +kernel
end Go.Proofs.Ytaegamgeljpboaa
