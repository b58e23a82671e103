/-
  The forms above on both sides, worked out, part 7.
  Conditions: none.
-/
import Derived.Test.YtdffhgibkeifmaaKcLfT0
namespace Go.Proofs.Ytdffhgibkeifmaa
set_option maxRecDepth 100000
theorem lfT_3_3 : lfAll 3 40 (-123) = true := by decide +kernel
theorem lfT_2_7 : lfAll 2 40 (-283) = true := by decide +kernel
theorem lfT_3_1 : lfAll 3 40 (-43) = true := by decide +kernel
theorem lfT_23_0 : lfAll 23 1 (-3) = true := by decide +kernel
end Go.Proofs.Ytdffhgibkeifmaa
