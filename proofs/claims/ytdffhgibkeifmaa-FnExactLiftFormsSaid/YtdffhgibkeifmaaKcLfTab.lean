/-
  The forms above on both sides, joined.
  Conditions: none.
-/
import Derived.Test.YtdffhgibkeifmaaKcLfT1
import Derived.Test.YtdffhgibkeifmaaKcLfT2
import Derived.Test.YtdffhgibkeifmaaKcLfT3
import Derived.Test.YtdffhgibkeifmaaKcLfT4
import Derived.Test.YtdffhgibkeifmaaKcLfT5
import Derived.Test.YtdffhgibkeifmaaKcLfT6
import Derived.Test.YtdffhgibkeifmaaKcLfT7
namespace Go.Proofs.Ytdffhgibkeifmaa
set_option maxRecDepth 100000
theorem not_prime {p : Int} {b : Bool} (h : r_impl_isPrime p = some b) (hb : b = false) (h2 : r_impl_isPrime p = some true) : False := by
  rw [h, hb] at h2
  cases h2
theorem lf_tab (d p : Int) (hd : d ≤ -3) (hm : d % 4 ≤ 1) (h3 : 2 ≤ p) (h4 : p ≤ 25) (hp : r_impl_isPrime p = some true) (h5 : -2000 ≤ d * p * p) : lfOk p (d * p * p) = true := by
  by_cases p2 : p = 2
  · subst p2
    by_cases a0 : -43 < d
    · exact lfAll_at _ _ lfT_2_0 d (by omega) (by omega) hm
    by_cases a1 : -83 < d
    · exact lfAll_at _ _ lfT_2_1 d (by omega) (by omega) hm
    by_cases a2 : -123 < d
    · exact lfAll_at _ _ lfT_2_2 d (by omega) (by omega) hm
    by_cases a3 : -163 < d
    · exact lfAll_at _ _ lfT_2_3 d (by omega) (by omega) hm
    by_cases a4 : -203 < d
    · exact lfAll_at _ _ lfT_2_4 d (by omega) (by omega) hm
    by_cases a5 : -243 < d
    · exact lfAll_at _ _ lfT_2_5 d (by omega) (by omega) hm
    by_cases a6 : -283 < d
    · exact lfAll_at _ _ lfT_2_6 d (by omega) (by omega) hm
    by_cases a7 : -323 < d
    · exact lfAll_at _ _ lfT_2_7 d (by omega) (by omega) hm
    by_cases a8 : -363 < d
    · exact lfAll_at _ _ lfT_2_8 d (by omega) (by omega) hm
    by_cases a9 : -403 < d
    · exact lfAll_at _ _ lfT_2_9 d (by omega) (by omega) hm
    by_cases a10 : -443 < d
    · exact lfAll_at _ _ lfT_2_10 d (by omega) (by omega) hm
    by_cases a11 : -483 < d
    · exact lfAll_at _ _ lfT_2_11 d (by omega) (by omega) hm
    exact lfAll_at _ _ lfT_2_12 d (by omega) (by omega) hm
  by_cases p3 : p = 3
  · subst p3
    by_cases a0 : -43 < d
    · exact lfAll_at _ _ lfT_3_0 d (by omega) (by omega) hm
    by_cases a1 : -83 < d
    · exact lfAll_at _ _ lfT_3_1 d (by omega) (by omega) hm
    by_cases a2 : -123 < d
    · exact lfAll_at _ _ lfT_3_2 d (by omega) (by omega) hm
    by_cases a3 : -163 < d
    · exact lfAll_at _ _ lfT_3_3 d (by omega) (by omega) hm
    by_cases a4 : -203 < d
    · exact lfAll_at _ _ lfT_3_4 d (by omega) (by omega) hm
    exact lfAll_at _ _ lfT_3_5 d (by omega) (by omega) hm
  by_cases p4 : p = 4
  · subst p4
    exact (not_prime (show r_impl_isPrime 4 = some false by decide +kernel) rfl hp).elim
  by_cases p5 : p = 5
  · subst p5
    by_cases a0 : -43 < d
    · exact lfAll_at _ _ lfT_5_0 d (by omega) (by omega) hm
    exact lfAll_at _ _ lfT_5_1 d (by omega) (by omega) hm
  by_cases p6 : p = 6
  · subst p6
    exact (not_prime (show r_impl_isPrime 6 = some false by decide +kernel) rfl hp).elim
  by_cases p7 : p = 7
  · subst p7
    exact lfAll_at _ _ lfT_7_0 d (by omega) (by omega) hm
  by_cases p8 : p = 8
  · subst p8
    exact (not_prime (show r_impl_isPrime 8 = some false by decide +kernel) rfl hp).elim
  by_cases p9 : p = 9
  · subst p9
    exact (not_prime (show r_impl_isPrime 9 = some false by decide +kernel) rfl hp).elim
  by_cases p10 : p = 10
  · subst p10
    exact (not_prime (show r_impl_isPrime 10 = some false by decide +kernel) rfl hp).elim
  by_cases p11 : p = 11
  · subst p11
    exact lfAll_at _ _ lfT_11_0 d (by omega) (by omega) hm
  by_cases p12 : p = 12
  · subst p12
    exact (not_prime (show r_impl_isPrime 12 = some false by decide +kernel) rfl hp).elim
  by_cases p13 : p = 13
  · subst p13
    exact lfAll_at _ _ lfT_13_0 d (by omega) (by omega) hm
  by_cases p14 : p = 14
  · subst p14
    exact (not_prime (show r_impl_isPrime 14 = some false by decide +kernel) rfl hp).elim
  by_cases p15 : p = 15
  · subst p15
    exact (not_prime (show r_impl_isPrime 15 = some false by decide +kernel) rfl hp).elim
  by_cases p16 : p = 16
  · subst p16
    exact (not_prime (show r_impl_isPrime 16 = some false by decide +kernel) rfl hp).elim
  by_cases p17 : p = 17
  · subst p17
    exact lfAll_at _ _ lfT_17_0 d (by omega) (by omega) hm
  by_cases p18 : p = 18
  · subst p18
    exact (not_prime (show r_impl_isPrime 18 = some false by decide +kernel) rfl hp).elim
  by_cases p19 : p = 19
  · subst p19
    exact lfAll_at _ _ lfT_19_0 d (by omega) (by omega) hm
  by_cases p20 : p = 20
  · subst p20
    exact (not_prime (show r_impl_isPrime 20 = some false by decide +kernel) rfl hp).elim
  by_cases p21 : p = 21
  · subst p21
    exact (not_prime (show r_impl_isPrime 21 = some false by decide +kernel) rfl hp).elim
  by_cases p22 : p = 22
  · subst p22
    exact (not_prime (show r_impl_isPrime 22 = some false by decide +kernel) rfl hp).elim
  by_cases p23 : p = 23
  · subst p23
    exact lfAll_at _ _ lfT_23_0 d (by omega) (by omega) hm
  by_cases p24 : p = 24
  · subst p24
    exact (not_prime (show r_impl_isPrime 24 = some false by decide +kernel) rfl hp).elim
  by_cases p25 : p = 25
  · subst p25
    exact (not_prime (show r_impl_isPrime 25 = some false by decide +kernel) rfl hp).elim
  omega
end Go.Proofs.Ytdffhgibkeifmaa
