/-
  Reduced forms and sums of four squares worked out, part 7.
  Conditions: none.
-/
import Derived.Test.YtgeajejmikaniaaSpSpT0
namespace Go.Proofs.Ytgeajejmikaniaa
set_option maxRecDepth 100000
theorem sqT_74 : sqAll two 2 74 = true := by decide +kernel
theorem sqT_84 : sqAll two 1 84 = true := by decide +kernel
theorem sqT_92 : sqAll two 1 92 = true := by decide +kernel
theorem sqT_99 : sqAll two 1 99 = true := by decide +kernel
end Go.Proofs.Ytgeajejmikaniaa
