/-
  The forms above on both sides, worked out, part 5.
  Conditions: none.
-/
import Derived.Test.YtdffhgibkeifmaaKcLfT0
namespace Go.Proofs.Ytdffhgibkeifmaa
set_option maxRecDepth 100000
theorem lfT_5_1 : lfAll 5 38 (-43) = true := by decide +kernel
theorem lfT_7_0 : lfAll 7 38 (-3) = true := by decide +kernel
theorem lfT_2_3 : lfAll 2 40 (-123) = true := by decide +kernel
theorem lfT_19_0 : lfAll 19 3 (-3) = true := by decide +kernel
end Go.Proofs.Ytdffhgibkeifmaa
