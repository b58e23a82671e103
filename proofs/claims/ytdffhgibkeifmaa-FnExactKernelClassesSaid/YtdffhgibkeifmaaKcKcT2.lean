/-
  The kernel classes worked out, part 2.
  Conditions: none.
-/
import Derived.Test.YtdffhgibkeifmaaKcKcT0
namespace Go.Proofs.Ytdffhgibkeifmaa
set_option maxRecDepth 100000
theorem kcT_2_8 : kcAll 2 50 (-403) = true := by decide +kernel
theorem kcT_3_1 : kcAll 3 50 (-53) = true := by decide +kernel
theorem kcT_17_0 : kcAll 17 4 (-3) = true := by decide +kernel
end Go.Proofs.Ytdffhgibkeifmaa
