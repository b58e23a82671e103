/-
  The forms above on both sides, worked out, part 6.
  Conditions: none.
-/
import Derived.Test.YtdffhgibkeifmaaKcLfT0
namespace Go.Proofs.Ytdffhgibkeifmaa
set_option maxRecDepth 100000
theorem lfT_2_8 : lfAll 2 40 (-323) = true := by decide +kernel
theorem lfT_2_6 : lfAll 2 40 (-243) = true := by decide +kernel
theorem lfT_2_4 : lfAll 2 40 (-163) = true := by decide +kernel
end Go.Proofs.Ytdffhgibkeifmaa
