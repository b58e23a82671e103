/-
  The forms above on both sides, worked out, part 2.
  Conditions: none.
-/
import Derived.Test.YtdffhgibkeifmaaKcLfT0
namespace Go.Proofs.Ytdffhgibkeifmaa
set_option maxRecDepth 100000
theorem lfT_2_10 : lfAll 2 40 (-403) = true := by decide +kernel
theorem lfT_2_5 : lfAll 2 40 (-203) = true := by decide +kernel
theorem lfT_11_0 : lfAll 11 14 (-3) = true := by decide +kernel
theorem lfT_3_0 : lfAll 3 40 (-3) = true := by decide +kernel
end Go.Proofs.Ytdffhgibkeifmaa
