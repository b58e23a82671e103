/-
  The forms above on both sides, worked out, part 3.
  Conditions: none.
-/
import Derived.Test.YtdffhgibkeifmaaKcLfT0
namespace Go.Proofs.Ytdffhgibkeifmaa
set_option maxRecDepth 100000
theorem lfT_3_4 : lfAll 3 40 (-163) = true := by decide +kernel
theorem lfT_3_2 : lfAll 3 40 (-83) = true := by decide +kernel
theorem lfT_2_2 : lfAll 2 40 (-83) = true := by decide +kernel
theorem lfT_2_1 : lfAll 2 40 (-43) = true := by decide +kernel
end Go.Proofs.Ytdffhgibkeifmaa
