/-
  Class numbers worked out in every way, part 5.
  Conditions: none.
-/
import Derived.Test.YtaegamgeljpboaaCfCfS
namespace Go.Proofs.Ytaegamgeljpboaa
set_option maxRecDepth 100000
theorem cfT_888 : cfQall 65 888 = true := by decide +kernel
theorem cfT_953 : cfQall 61 953 = true := by decide +kernel
theorem cfT_1512 : cfQall 42 1512 = true := by decide +kernel
theorem cfT_1675 : cfQall 39 1675 = true := by decide +kernel
end Go.Proofs.Ytaegamgeljpboaa
