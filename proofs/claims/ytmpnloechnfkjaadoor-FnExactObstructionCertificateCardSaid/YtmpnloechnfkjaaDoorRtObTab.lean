/-
  The primes of every number up to ten thousand are alike both ways.
  Conditions: none.
-/
import Derived.Test.YtmpnloechnfkjaaDoorRtObT1
import Derived.Test.YtmpnloechnfkjaaDoorRtObT2
import Derived.Test.YtmpnloechnfkjaaDoorRtObT3
namespace Go.Proofs.YtmpnloechnfkjaaDoor
theorem ob_tab (n : Int) (h1 : 1 ≤ n) (h2 : n ≤ 10000) : obN n = true := by
  by_cases a1 : n ≤ 500
  · exact obAll_at 500 _ ob_1 n (by omega) (by omega)
  by_cases a2 : n ≤ 1000
  · exact obAll_at 500 _ ob_2 n (by omega) (by omega)
  by_cases a3 : n ≤ 1500
  · exact obAll_at 500 _ ob_3 n (by omega) (by omega)
  by_cases a4 : n ≤ 2000
  · exact obAll_at 500 _ ob_4 n (by omega) (by omega)
  by_cases a5 : n ≤ 2500
  · exact obAll_at 500 _ ob_5 n (by omega) (by omega)
  by_cases a6 : n ≤ 3000
  · exact obAll_at 500 _ ob_6 n (by omega) (by omega)
  by_cases a7 : n ≤ 3500
  · exact obAll_at 500 _ ob_7 n (by omega) (by omega)
  by_cases a8 : n ≤ 4000
  · exact obAll_at 500 _ ob_8 n (by omega) (by omega)
  by_cases a9 : n ≤ 4500
  · exact obAll_at 500 _ ob_9 n (by omega) (by omega)
  by_cases a10 : n ≤ 5000
  · exact obAll_at 500 _ ob_10 n (by omega) (by omega)
  by_cases a11 : n ≤ 5500
  · exact obAll_at 500 _ ob_11 n (by omega) (by omega)
  by_cases a12 : n ≤ 6000
  · exact obAll_at 500 _ ob_12 n (by omega) (by omega)
  by_cases a13 : n ≤ 6500
  · exact obAll_at 500 _ ob_13 n (by omega) (by omega)
  by_cases a14 : n ≤ 7000
  · exact obAll_at 500 _ ob_14 n (by omega) (by omega)
  by_cases a15 : n ≤ 7500
  · exact obAll_at 500 _ ob_15 n (by omega) (by omega)
  by_cases a16 : n ≤ 8000
  · exact obAll_at 500 _ ob_16 n (by omega) (by omega)
  by_cases a17 : n ≤ 8500
  · exact obAll_at 500 _ ob_17 n (by omega) (by omega)
  by_cases a18 : n ≤ 9000
  · exact obAll_at 500 _ ob_18 n (by omega) (by omega)
  by_cases a19 : n ≤ 9500
  · exact obAll_at 500 _ ob_19 n (by omega) (by omega)
  exact obAll_at 500 _ ob_20 n (by omega) (by omega)
end Go.Proofs.YtmpnloechnfkjaaDoor
