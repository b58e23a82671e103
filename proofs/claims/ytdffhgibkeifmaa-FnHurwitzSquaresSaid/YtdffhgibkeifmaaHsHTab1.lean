/-
  The table of the Hurwitz numbers is right: a part of it.
  Conditions: none.
-/
import Derived.Test.YtdffhgibkeifmaaHsHTab
namespace Go.Proofs.Ytdffhgibkeifmaa
set_option maxRecDepth 100000
theorem hA_1040 : hAll 60 1040 = true := by decide +kernel
theorem hA_1100 : hAll 60 1100 = true := by decide +kernel
theorem hA_1160 : hAll 60 1160 = true := by decide +kernel
theorem hA_1220 : hAll 60 1220 = true := by decide +kernel
theorem hA_1280 : hAll 60 1280 = true := by decide +kernel
theorem hA_1340 : hAll 60 1340 = true := by decide +kernel
theorem hA_1400 : hAll 40 1400 = true := by decide +kernel
theorem hA_1440 : hAll 40 1440 = true := by decide +kernel
theorem hA_1480 : hAll 40 1480 = true := by decide +kernel
theorem hPart1 (m : Int) (h1 : 1040 ≤ m) (h2 : m < 1520) : hOk m = true := by
  by_cases a1040 : m < 1100
  · exact hAll_at _ _ hA_1040 m (by omega) (by omega)
  by_cases a1100 : m < 1160
  · exact hAll_at _ _ hA_1100 m (by omega) (by omega)
  by_cases a1160 : m < 1220
  · exact hAll_at _ _ hA_1160 m (by omega) (by omega)
  by_cases a1220 : m < 1280
  · exact hAll_at _ _ hA_1220 m (by omega) (by omega)
  by_cases a1280 : m < 1340
  · exact hAll_at _ _ hA_1280 m (by omega) (by omega)
  by_cases a1340 : m < 1400
  · exact hAll_at _ _ hA_1340 m (by omega) (by omega)
  by_cases a1400 : m < 1440
  · exact hAll_at _ _ hA_1400 m (by omega) (by omega)
  by_cases a1440 : m < 1480
  · exact hAll_at _ _ hA_1440 m (by omega) (by omega)
  exact hAll_at _ _ hA_1480 m (by omega) (by omega)
end Go.Proofs.Ytdffhgibkeifmaa
