/-
  Class numbers worked out in every way, part 6.
  Conditions: none.
-/
import Derived.Test.YtaegamgeljpboaaCfCfS
namespace Go.Proofs.Ytaegamgeljpboaa
set_option maxRecDepth 100000
theorem cfT_366 : cfQall 114 366 = true := by decide +kernel
theorem cfT_745 : cfQall 74 745 = true := by decide +kernel
theorem cfT_1379 : cfQall 46 1379 = true := by decide +kernel
theorem cfT_1752 : cfQall 37 1752 = true := by decide +kernel
theorem cfT_2000 : cfQall 1 2000 = true := by decide +kernel
end Go.Proofs.Ytaegamgeljpboaa
