/-
  The kernel classes worked out, part 5.
  Conditions: none.
-/
import Derived.Test.YtdffhgibkeifmaaKcKcT0
namespace Go.Proofs.Ytdffhgibkeifmaa
set_option maxRecDepth 100000
theorem kcT_2_6 : kcAll 2 50 (-303) = true := by decide +kernel
theorem kcT_7_0 : kcAll 7 38 (-3) = true := by decide +kernel
theorem kcT_11_0 : kcAll 11 14 (-3) = true := by decide +kernel
theorem kcT_19_0 : kcAll 19 3 (-3) = true := by decide +kernel
end Go.Proofs.Ytdffhgibkeifmaa
