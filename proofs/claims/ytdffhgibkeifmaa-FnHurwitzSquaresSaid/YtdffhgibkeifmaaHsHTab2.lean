/-
  The table of the Hurwitz numbers is right: a part of it.
  Conditions: none.
-/
import Derived.Test.YtdffhgibkeifmaaHsHTab
namespace Go.Proofs.Ytdffhgibkeifmaa
set_option maxRecDepth 100000
theorem hA_1520 : hAll 40 1520 = true := by decide +kernel
theorem hA_1560 : hAll 40 1560 = true := by decide +kernel
theorem hA_1600 : hAll 40 1600 = true := by decide +kernel
theorem hA_1640 : hAll 40 1640 = true := by decide +kernel
theorem hA_1680 : hAll 40 1680 = true := by decide +kernel
theorem hA_1720 : hAll 40 1720 = true := by decide +kernel
theorem hA_1760 : hAll 40 1760 = true := by decide +kernel
theorem hA_1800 : hAll 40 1800 = true := by decide +kernel
theorem hA_1840 : hAll 40 1840 = true := by decide +kernel
theorem hA_1880 : hAll 40 1880 = true := by decide +kernel
theorem hA_1920 : hAll 40 1920 = true := by decide +kernel
theorem hA_1960 : hAll 40 1960 = true := by decide +kernel
theorem hA_2000 : hAll 1 2000 = true := by decide +kernel
theorem hPart2 (m : Int) (h1 : 1520 ≤ m) (h2 : m < 2001) : hOk m = true := by
  by_cases a1520 : m < 1560
  · exact hAll_at _ _ hA_1520 m (by omega) (by omega)
  by_cases a1560 : m < 1600
  · exact hAll_at _ _ hA_1560 m (by omega) (by omega)
  by_cases a1600 : m < 1640
  · exact hAll_at _ _ hA_1600 m (by omega) (by omega)
  by_cases a1640 : m < 1680
  · exact hAll_at _ _ hA_1640 m (by omega) (by omega)
  by_cases a1680 : m < 1720
  · exact hAll_at _ _ hA_1680 m (by omega) (by omega)
  by_cases a1720 : m < 1760
  · exact hAll_at _ _ hA_1720 m (by omega) (by omega)
  by_cases a1760 : m < 1800
  · exact hAll_at _ _ hA_1760 m (by omega) (by omega)
  by_cases a1800 : m < 1840
  · exact hAll_at _ _ hA_1800 m (by omega) (by omega)
  by_cases a1840 : m < 1880
  · exact hAll_at _ _ hA_1840 m (by omega) (by omega)
  by_cases a1880 : m < 1920
  · exact hAll_at _ _ hA_1880 m (by omega) (by omega)
  by_cases a1920 : m < 1960
  · exact hAll_at _ _ hA_1920 m (by omega) (by omega)
  by_cases a1960 : m < 2000
  · exact hAll_at _ _ hA_1960 m (by omega) (by omega)
  exact hAll_at _ _ hA_2000 m (by omega) (by omega)
end Go.Proofs.Ytdffhgibkeifmaa
