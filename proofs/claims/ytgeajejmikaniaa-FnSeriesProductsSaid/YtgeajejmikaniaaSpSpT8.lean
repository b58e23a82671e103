/-
  Reduced forms and sums of four squares worked out, part 8.
  Conditions: none.
-/
import Derived.Test.YtgeajejmikaniaaSpSpT0
namespace Go.Proofs.Ytgeajejmikaniaa
set_option maxRecDepth 100000
theorem sqT_40 : sqAll two 8 40 = true := by decide +kernel
theorem sqT_80 : sqAll two 1 80 = true := by decide +kernel
theorem sqT_81 : sqAll two 1 81 = true := by decide +kernel
theorem sqT_94 : sqAll two 1 94 = true := by decide +kernel
theorem sqT_98 : sqAll two 1 98 = true := by decide +kernel
end Go.Proofs.Ytgeajejmikaniaa
