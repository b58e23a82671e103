/-
  The kernel classes worked out, part 1.
  Conditions: none.
-/
import Derived.Test.YtdffhgibkeifmaaKcKcT0
namespace Go.Proofs.Ytdffhgibkeifmaa
set_option maxRecDepth 100000
theorem kcT_2_9 : kcAll 2 48 (-453) = true := by decide +kernel
theorem kcT_2_2 : kcAll 2 50 (-103) = true := by decide +kernel
theorem kcT_2_0 : kcAll 2 50 (-3) = true := by decide +kernel
theorem kcT_23_0 : kcAll 23 1 (-3) = true := by decide +kernel
theorem kcT_4_0 : kcAll 4 40 (-3) = true := by decide +kernel
theorem kcT_4_1 : kcAll 4 40 (-43) = true := by decide +kernel
theorem kcT_4_2 : kcAll 4 40 (-83) = true := by decide +kernel
theorem kcT_4_3 : kcAll 4 3 (-123) = true := by decide +kernel
theorem kcT_6_0 : kcAll 6 40 (-3) = true := by decide +kernel
theorem kcT_6_1 : kcAll 6 13 (-43) = true := by decide +kernel
theorem kcT_8_0 : kcAll 8 29 (-3) = true := by decide +kernel
theorem kcT_9_0 : kcAll 9 22 (-3) = true := by decide +kernel
theorem kcT_10_0 : kcAll 10 18 (-3) = true := by decide +kernel
theorem kcT_12_0 : kcAll 12 11 (-3) = true := by decide +kernel
theorem kcT_14_0 : kcAll 14 8 (-3) = true := by decide +kernel
theorem kcT_15_0 : kcAll 15 6 (-3) = true := by decide +kernel
theorem kcT_16_0 : kcAll 16 5 (-3) = true := by decide +kernel
theorem kcT_18_0 : kcAll 18 4 (-3) = true := by decide +kernel
theorem kcT_20_0 : kcAll 20 3 (-3) = true := by decide +kernel
theorem kcT_21_0 : kcAll 21 2 (-3) = true := by decide +kernel
theorem kcT_22_0 : kcAll 22 2 (-3) = true := by decide +kernel
theorem kcT_24_0 : kcAll 24 1 (-3) = true := by decide +kernel
theorem kcT_25_0 : kcAll 25 1 (-3) = true := by decide +kernel
end Go.Proofs.Ytdffhgibkeifmaa
