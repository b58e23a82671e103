/-
  The kernel classes worked out, part 3.
  Conditions: none.
-/
import Derived.Test.YtdffhgibkeifmaaKcKcT0
namespace Go.Proofs.Ytdffhgibkeifmaa
set_option maxRecDepth 100000
theorem kcT_3_3 : kcAll 3 50 (-153) = true := by decide +kernel
theorem kcT_2_3 : kcAll 2 50 (-153) = true := by decide +kernel
theorem kcT_13_0 : kcAll 13 9 (-3) = true := by decide +kernel
end Go.Proofs.Ytdffhgibkeifmaa
