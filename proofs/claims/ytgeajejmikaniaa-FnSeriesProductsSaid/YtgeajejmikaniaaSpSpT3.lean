/-
  Reduced forms and sums of four squares worked out, part 3.
  Conditions: none.
-/
import Derived.Test.YtgeajejmikaniaaSpSpT0
namespace Go.Proofs.Ytgeajejmikaniaa
set_option maxRecDepth 100000
theorem sqT_48 : sqAll two 6 48 = true := by decide +kernel
theorem sqT_79 : sqAll two 1 79 = true := by decide +kernel
theorem sqT_82 : sqAll two 1 82 = true := by decide +kernel
theorem sqT_93 : sqAll two 1 93 = true := by decide +kernel
theorem sqT_95 : sqAll two 1 95 = true := by decide +kernel
end Go.Proofs.Ytgeajejmikaniaa
