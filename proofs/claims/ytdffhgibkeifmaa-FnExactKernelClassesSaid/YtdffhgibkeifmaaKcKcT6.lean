/-
  The kernel classes worked out, part 6.
  Conditions: none.
-/
import Derived.Test.YtdffhgibkeifmaaKcKcT0
namespace Go.Proofs.Ytdffhgibkeifmaa
set_option maxRecDepth 100000
theorem kcT_5_1 : kcAll 5 38 (-43) = true := by decide +kernel
theorem kcT_2_4 : kcAll 2 50 (-203) = true := by decide +kernel
theorem kcT_5_0 : kcAll 5 40 (-3) = true := by decide +kernel
end Go.Proofs.Ytdffhgibkeifmaa
