/-
  The kernel classes worked out wherever a prime may rise, joined.
  Conditions: none.
-/
import Derived.Test.YtdffhgibkeifmaaKcKcT1
import Derived.Test.YtdffhgibkeifmaaKcKcT2
import Derived.Test.YtdffhgibkeifmaaKcKcT3
import Derived.Test.YtdffhgibkeifmaaKcKcT4
import Derived.Test.YtdffhgibkeifmaaKcKcT5
import Derived.Test.YtdffhgibkeifmaaKcKcT6
import Derived.Test.YtdffhgibkeifmaaKcKcT7
namespace Go.Proofs.Ytdffhgibkeifmaa
theorem kc_tab (d p : Int) (h1 : -2000 ≤ d) (h2 : d ≤ -3) (h3 : 2 ≤ p) (h4 : p ≤ 25) (h5 : -2000 ≤ d * p * p) : r_laws_FnExactKernelClasses d p = some true := by
  by_cases p2 : p = 2
  · subst p2
    by_cases a0 : -53 < d
    · exact kcAll_at _ _ kcT_2_0 d (by omega) (by omega)
    by_cases a1 : -103 < d
    · exact kcAll_at _ _ kcT_2_1 d (by omega) (by omega)
    by_cases a2 : -153 < d
    · exact kcAll_at _ _ kcT_2_2 d (by omega) (by omega)
    by_cases a3 : -203 < d
    · exact kcAll_at _ _ kcT_2_3 d (by omega) (by omega)
    by_cases a4 : -253 < d
    · exact kcAll_at _ _ kcT_2_4 d (by omega) (by omega)
    by_cases a5 : -303 < d
    · exact kcAll_at _ _ kcT_2_5 d (by omega) (by omega)
    by_cases a6 : -353 < d
    · exact kcAll_at _ _ kcT_2_6 d (by omega) (by omega)
    by_cases a7 : -403 < d
    · exact kcAll_at _ _ kcT_2_7 d (by omega) (by omega)
    by_cases a8 : -453 < d
    · exact kcAll_at _ _ kcT_2_8 d (by omega) (by omega)
    exact kcAll_at _ _ kcT_2_9 d (by omega) (by omega)
  by_cases p3 : p = 3
  · subst p3
    by_cases a0 : -53 < d
    · exact kcAll_at _ _ kcT_3_0 d (by omega) (by omega)
    by_cases a1 : -103 < d
    · exact kcAll_at _ _ kcT_3_1 d (by omega) (by omega)
    by_cases a2 : -153 < d
    · exact kcAll_at _ _ kcT_3_2 d (by omega) (by omega)
    by_cases a3 : -203 < d
    · exact kcAll_at _ _ kcT_3_3 d (by omega) (by omega)
    exact kcAll_at _ _ kcT_3_4 d (by omega) (by omega)
  by_cases p4 : p = 4
  · subst p4
    by_cases a0 : -43 < d
    · exact kcAll_at _ _ kcT_4_0 d (by omega) (by omega)
    by_cases a1 : -83 < d
    · exact kcAll_at _ _ kcT_4_1 d (by omega) (by omega)
    by_cases a2 : -123 < d
    · exact kcAll_at _ _ kcT_4_2 d (by omega) (by omega)
    exact kcAll_at _ _ kcT_4_3 d (by omega) (by omega)
  by_cases p5 : p = 5
  · subst p5
    by_cases a0 : -43 < d
    · exact kcAll_at _ _ kcT_5_0 d (by omega) (by omega)
    exact kcAll_at _ _ kcT_5_1 d (by omega) (by omega)
  by_cases p6 : p = 6
  · subst p6
    by_cases a0 : -43 < d
    · exact kcAll_at _ _ kcT_6_0 d (by omega) (by omega)
    exact kcAll_at _ _ kcT_6_1 d (by omega) (by omega)
  by_cases p7 : p = 7
  · subst p7
    exact kcAll_at _ _ kcT_7_0 d (by omega) (by omega)
  by_cases p8 : p = 8
  · subst p8
    exact kcAll_at _ _ kcT_8_0 d (by omega) (by omega)
  by_cases p9 : p = 9
  · subst p9
    exact kcAll_at _ _ kcT_9_0 d (by omega) (by omega)
  by_cases p10 : p = 10
  · subst p10
    exact kcAll_at _ _ kcT_10_0 d (by omega) (by omega)
  by_cases p11 : p = 11
  · subst p11
    exact kcAll_at _ _ kcT_11_0 d (by omega) (by omega)
  by_cases p12 : p = 12
  · subst p12
    exact kcAll_at _ _ kcT_12_0 d (by omega) (by omega)
  by_cases p13 : p = 13
  · subst p13
    exact kcAll_at _ _ kcT_13_0 d (by omega) (by omega)
  by_cases p14 : p = 14
  · subst p14
    exact kcAll_at _ _ kcT_14_0 d (by omega) (by omega)
  by_cases p15 : p = 15
  · subst p15
    exact kcAll_at _ _ kcT_15_0 d (by omega) (by omega)
  by_cases p16 : p = 16
  · subst p16
    exact kcAll_at _ _ kcT_16_0 d (by omega) (by omega)
  by_cases p17 : p = 17
  · subst p17
    exact kcAll_at _ _ kcT_17_0 d (by omega) (by omega)
  by_cases p18 : p = 18
  · subst p18
    exact kcAll_at _ _ kcT_18_0 d (by omega) (by omega)
  by_cases p19 : p = 19
  · subst p19
    exact kcAll_at _ _ kcT_19_0 d (by omega) (by omega)
  by_cases p20 : p = 20
  · subst p20
    exact kcAll_at _ _ kcT_20_0 d (by omega) (by omega)
  by_cases p21 : p = 21
  · subst p21
    exact kcAll_at _ _ kcT_21_0 d (by omega) (by omega)
  by_cases p22 : p = 22
  · subst p22
    exact kcAll_at _ _ kcT_22_0 d (by omega) (by omega)
  by_cases p23 : p = 23
  · subst p23
    exact kcAll_at _ _ kcT_23_0 d (by omega) (by omega)
  by_cases p24 : p = 24
  · subst p24
    exact kcAll_at _ _ kcT_24_0 d (by omega) (by omega)
  by_cases p25 : p = 25
  · subst p25
    exact kcAll_at _ _ kcT_25_0 d (by omega) (by omega)
  omega
end Go.Proofs.Ytdffhgibkeifmaa
