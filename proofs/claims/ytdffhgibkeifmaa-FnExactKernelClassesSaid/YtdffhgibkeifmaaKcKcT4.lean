/-
  The kernel classes worked out, part 4.
  Conditions: none.
-/
import Derived.Test.YtdffhgibkeifmaaKcKcT0
namespace Go.Proofs.Ytdffhgibkeifmaa
set_option maxRecDepth 100000
theorem kcT_2_7 : kcAll 2 50 (-353) = true := by decide +kernel
theorem kcT_3_4 : kcAll 3 20 (-203) = true := by decide +kernel
theorem kcT_3_0 : kcAll 3 50 (-3) = true := by decide +kernel
end Go.Proofs.Ytdffhgibkeifmaa
