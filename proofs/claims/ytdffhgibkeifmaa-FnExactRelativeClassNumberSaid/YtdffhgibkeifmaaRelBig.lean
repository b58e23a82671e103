/-
  The two lists of reduced forms are alike in length for every discriminant, worked out: the larger ones.
  Conditions: none.
-/
import Derived.Test.YtdffhgibkeifmaaRelChk
namespace Go.Proofs.Ytdffhgibkeifmaa
set_option maxRecDepth 100000
theorem relB_0 : relAll 40 (-1203) = true := by decide +kernel
theorem relB_1 : relAll 40 (-1243) = true := by decide +kernel
theorem relB_2 : relAll 40 (-1283) = true := by decide +kernel
theorem relB_3 : relAll 40 (-1323) = true := by decide +kernel
theorem relB_4 : relAll 40 (-1363) = true := by decide +kernel
theorem relB_5 : relAll 40 (-1403) = true := by decide +kernel
theorem relB_6 : relAll 40 (-1443) = true := by decide +kernel
theorem relB_7 : relAll 40 (-1483) = true := by decide +kernel
theorem relB_8 : relAll 40 (-1523) = true := by decide +kernel
theorem relB_9 : relAll 40 (-1563) = true := by decide +kernel
theorem relB_10 : relAll 40 (-1603) = true := by decide +kernel
theorem relB_11 : relAll 40 (-1643) = true := by decide +kernel
theorem relB_12 : relAll 40 (-1683) = true := by decide +kernel
theorem relB_13 : relAll 40 (-1723) = true := by decide +kernel
theorem relB_14 : relAll 40 (-1763) = true := by decide +kernel
theorem relB_15 : relAll 40 (-1803) = true := by decide +kernel
theorem relB_16 : relAll 40 (-1843) = true := by decide +kernel
theorem relB_17 : relAll 40 (-1883) = true := by decide +kernel
theorem relB_18 : relAll 40 (-1923) = true := by decide +kernel
theorem relB_19 : relAll 38 (-1963) = true := by decide +kernel
theorem relB_all (d : Int) (h1 : -2000 ≤ d) (h2 : d ≤ -1203) : relChk d = true := by
  by_cases a0 : -1243 < d
  · exact relAll_mem _ _ relB_0 d (by omega) (by omega)
  by_cases a1 : -1283 < d
  · exact relAll_mem _ _ relB_1 d (by omega) (by omega)
  by_cases a2 : -1323 < d
  · exact relAll_mem _ _ relB_2 d (by omega) (by omega)
  by_cases a3 : -1363 < d
  · exact relAll_mem _ _ relB_3 d (by omega) (by omega)
  by_cases a4 : -1403 < d
  · exact relAll_mem _ _ relB_4 d (by omega) (by omega)
  by_cases a5 : -1443 < d
  · exact relAll_mem _ _ relB_5 d (by omega) (by omega)
  by_cases a6 : -1483 < d
  · exact relAll_mem _ _ relB_6 d (by omega) (by omega)
  by_cases a7 : -1523 < d
  · exact relAll_mem _ _ relB_7 d (by omega) (by omega)
  by_cases a8 : -1563 < d
  · exact relAll_mem _ _ relB_8 d (by omega) (by omega)
  by_cases a9 : -1603 < d
  · exact relAll_mem _ _ relB_9 d (by omega) (by omega)
  by_cases a10 : -1643 < d
  · exact relAll_mem _ _ relB_10 d (by omega) (by omega)
  by_cases a11 : -1683 < d
  · exact relAll_mem _ _ relB_11 d (by omega) (by omega)
  by_cases a12 : -1723 < d
  · exact relAll_mem _ _ relB_12 d (by omega) (by omega)
  by_cases a13 : -1763 < d
  · exact relAll_mem _ _ relB_13 d (by omega) (by omega)
  by_cases a14 : -1803 < d
  · exact relAll_mem _ _ relB_14 d (by omega) (by omega)
  by_cases a15 : -1843 < d
  · exact relAll_mem _ _ relB_15 d (by omega) (by omega)
  by_cases a16 : -1883 < d
  · exact relAll_mem _ _ relB_16 d (by omega) (by omega)
  by_cases a17 : -1923 < d
  · exact relAll_mem _ _ relB_17 d (by omega) (by omega)
  by_cases a18 : -1963 < d
  · exact relAll_mem _ _ relB_18 d (by omega) (by omega)
  · exact relAll_mem _ _ relB_19 d (by omega) (by omega)
theorem relChk_all (d : Int) (h1 : -2000 ≤ d) (h2 : d ≤ -3) : relChk d = true := by
  by_cases a : -1202 ≤ d
  · exact relA_all d a h2
  · exact relB_all d h1 (by omega)
end Go.Proofs.Ytdffhgibkeifmaa
