/-
  Reduced forms and sums of four squares worked out, part 1.
  Conditions: none.
-/
import Derived.Test.YtgeajejmikaniaaSpSpT0
namespace Go.Proofs.Ytgeajejmikaniaa
set_option maxRecDepth 100000
theorem sqT_58 : sqAll two 4 58 = true := by decide +kernel
theorem sqT_72 : sqAll two 2 72 = true := by decide +kernel
theorem sqT_86 : sqAll two 1 86 = true := by decide +kernel
theorem sqT_90 : sqAll two 1 90 = true := by decide +kernel
end Go.Proofs.Ytgeajejmikaniaa
