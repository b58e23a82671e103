/-
  The forms above on both sides, worked out, part 1.
  Conditions: none.
-/
import Derived.Test.YtdffhgibkeifmaaKcLfT0
namespace Go.Proofs.Ytdffhgibkeifmaa
set_option maxRecDepth 100000
theorem lfT_2_11 : lfAll 2 40 (-443) = true := by decide +kernel
theorem lfT_2_12 : lfAll 2 18 (-483) = true := by decide +kernel
theorem lfT_13_0 : lfAll 13 9 (-3) = true := by decide +kernel
theorem lfT_17_0 : lfAll 17 4 (-3) = true := by decide +kernel
end Go.Proofs.Ytdffhgibkeifmaa
