/-
  Reduced forms and sums of four squares worked out, part 5.
  Conditions: none.
-/
import Derived.Test.YtgeajejmikaniaaSpSpT0
namespace Go.Proofs.Ytgeajejmikaniaa
set_option maxRecDepth 100000
theorem sqT_62 : sqAll two 3 62 = true := by decide +kernel
theorem sqT_70 : sqAll two 2 70 = true := by decide +kernel
theorem sqT_78 : sqAll two 1 78 = true := by decide +kernel
theorem sqT_83 : sqAll two 1 83 = true := by decide +kernel
theorem sqT_100 : sqAll two 1 100 = true := by decide +kernel
end Go.Proofs.Ytgeajejmikaniaa
