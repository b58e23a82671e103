/-
  The kernel classes worked out, part 7.
  Conditions: none.
-/
import Derived.Test.YtdffhgibkeifmaaKcKcT0
namespace Go.Proofs.Ytdffhgibkeifmaa
set_option maxRecDepth 100000
theorem kcT_3_2 : kcAll 3 50 (-103) = true := by decide +kernel
theorem kcT_2_5 : kcAll 2 50 (-253) = true := by decide +kernel
theorem kcT_2_1 : kcAll 2 50 (-53) = true := by decide +kernel
end Go.Proofs.Ytdffhgibkeifmaa
