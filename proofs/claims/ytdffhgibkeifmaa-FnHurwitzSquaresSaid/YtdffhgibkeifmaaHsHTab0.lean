/-
  The table of the Hurwitz numbers is right: a part of it.
  Conditions: none.
-/
import Derived.Test.YtdffhgibkeifmaaHsHTab
namespace Go.Proofs.Ytdffhgibkeifmaa
set_option maxRecDepth 100000
theorem hA_0 : hAll 100 0 = true := by decide +kernel
theorem hA_100 : hAll 100 100 = true := by decide +kernel
theorem hA_200 : hAll 100 200 = true := by decide +kernel
theorem hA_300 : hAll 100 300 = true := by decide +kernel
theorem hA_400 : hAll 100 400 = true := by decide +kernel
theorem hA_500 : hAll 60 500 = true := by decide +kernel
theorem hA_560 : hAll 60 560 = true := by decide +kernel
theorem hA_620 : hAll 60 620 = true := by decide +kernel
theorem hA_680 : hAll 60 680 = true := by decide +kernel
theorem hA_740 : hAll 60 740 = true := by decide +kernel
theorem hA_800 : hAll 60 800 = true := by decide +kernel
theorem hA_860 : hAll 60 860 = true := by decide +kernel
theorem hA_920 : hAll 60 920 = true := by decide +kernel
theorem hA_980 : hAll 60 980 = true := by decide +kernel
theorem hPart0 (m : Int) (h1 : 0 ≤ m) (h2 : m < 1040) : hOk m = true := by
  by_cases a0 : m < 100
  · exact hAll_at _ _ hA_0 m (by omega) (by omega)
  by_cases a100 : m < 200
  · exact hAll_at _ _ hA_100 m (by omega) (by omega)
  by_cases a200 : m < 300
  · exact hAll_at _ _ hA_200 m (by omega) (by omega)
  by_cases a300 : m < 400
  · exact hAll_at _ _ hA_300 m (by omega) (by omega)
  by_cases a400 : m < 500
  · exact hAll_at _ _ hA_400 m (by omega) (by omega)
  by_cases a500 : m < 560
  · exact hAll_at _ _ hA_500 m (by omega) (by omega)
  by_cases a560 : m < 620
  · exact hAll_at _ _ hA_560 m (by omega) (by omega)
  by_cases a620 : m < 680
  · exact hAll_at _ _ hA_620 m (by omega) (by omega)
  by_cases a680 : m < 740
  · exact hAll_at _ _ hA_680 m (by omega) (by omega)
  by_cases a740 : m < 800
  · exact hAll_at _ _ hA_740 m (by omega) (by omega)
  by_cases a800 : m < 860
  · exact hAll_at _ _ hA_800 m (by omega) (by omega)
  by_cases a860 : m < 920
  · exact hAll_at _ _ hA_860 m (by omega) (by omega)
  by_cases a920 : m < 980
  · exact hAll_at _ _ hA_920 m (by omega) (by omega)
  exact hAll_at _ _ hA_980 m (by omega) (by omega)
end Go.Proofs.Ytdffhgibkeifmaa
