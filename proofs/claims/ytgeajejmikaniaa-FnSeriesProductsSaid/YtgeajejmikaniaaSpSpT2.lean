/-
  Reduced forms and sums of four squares worked out, part 2.
  Conditions: none.
-/
import Derived.Test.YtgeajejmikaniaaSpSpT0
namespace Go.Proofs.Ytgeajejmikaniaa
set_option maxRecDepth 100000
theorem sqT_0 : sqAll two 40 0 = true := by decide +kernel
theorem sqT_54 : sqAll two 4 54 = true := by decide +kernel
theorem sqT_85 : sqAll two 1 85 = true := by decide +kernel
theorem sqT_91 : sqAll two 1 91 = true := by decide +kernel
end Go.Proofs.Ytgeajejmikaniaa
