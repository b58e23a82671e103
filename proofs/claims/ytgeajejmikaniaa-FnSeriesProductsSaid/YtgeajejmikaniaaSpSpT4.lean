/-
  Reduced forms and sums of four squares worked out, part 4.
  Conditions: none.
-/
import Derived.Test.YtgeajejmikaniaaSpSpT0
namespace Go.Proofs.Ytgeajejmikaniaa
set_option maxRecDepth 100000
theorem sqT_65 : sqAll two 3 65 = true := by decide +kernel
theorem sqT_68 : sqAll two 2 68 = true := by decide +kernel
theorem sqT_87 : sqAll two 1 87 = true := by decide +kernel
theorem sqT_96 : sqAll two 1 96 = true := by decide +kernel
end Go.Proofs.Ytgeajejmikaniaa
