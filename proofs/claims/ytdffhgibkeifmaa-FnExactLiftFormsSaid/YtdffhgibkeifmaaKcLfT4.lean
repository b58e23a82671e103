/-
  The forms above on both sides, worked out, part 4.
  Conditions: none.
-/
import Derived.Test.YtdffhgibkeifmaaKcLfT0
namespace Go.Proofs.Ytdffhgibkeifmaa
set_option maxRecDepth 100000
theorem lfT_2_9 : lfAll 2 40 (-363) = true := by decide +kernel
theorem lfT_3_5 : lfAll 3 20 (-203) = true := by decide +kernel
theorem lfT_5_0 : lfAll 5 40 (-3) = true := by decide +kernel
theorem lfT_2_0 : lfAll 2 40 (-3) = true := by decide +kernel
end Go.Proofs.Ytdffhgibkeifmaa
