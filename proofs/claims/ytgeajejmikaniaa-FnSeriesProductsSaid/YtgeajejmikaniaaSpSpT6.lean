/-
  Reduced forms and sums of four squares worked out, part 6.
  Conditions: none.
-/
import Derived.Test.YtgeajejmikaniaaSpSpT0
namespace Go.Proofs.Ytgeajejmikaniaa
set_option maxRecDepth 100000
theorem sqT_76 : sqAll two 2 76 = true := by decide +kernel
theorem sqT_88 : sqAll two 1 88 = true := by decide +kernel
theorem sqT_89 : sqAll two 1 89 = true := by decide +kernel
theorem sqT_97 : sqAll two 1 97 = true := by decide +kernel
end Go.Proofs.Ytgeajejmikaniaa
