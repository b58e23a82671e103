/-
  Primes and genera worked out: the parts joined.
  Conditions: none.
-/
import Derived.Test.YtpfnhgpepgeaiaaPgPgT1
import Derived.Test.YtpfnhgpepgeaiaaPgPgT2
import Derived.Test.YtpfnhgpepgeaiaaPgPgT3
import Derived.Test.YtpfnhgpepgeaiaaPgPgT4
namespace Go.Proofs.Ytpfnhgpepgeaiaa
theorem pg_tab (D : Nat) (h1 : 3 ≤ D) (h2 : D ≤ 2000) : pgG D = true := by
  by_cases a3 : D < 52
  · exact pgAll_at _ _ pgT_3 D (by omega) (by omega)
  by_cases a52 : D < 100
  · exact pgAll_at _ _ pgT_52 D (by omega) (by omega)
  by_cases a100 : D < 148
  · exact pgAll_at _ _ pgT_100 D (by omega) (by omega)
  by_cases a148 : D < 193
  · exact pgAll_at _ _ pgT_148 D (by omega) (by omega)
  by_cases a193 : D < 240
  · exact pgAll_at _ _ pgT_193 D (by omega) (by omega)
  by_cases a240 : D < 284
  · exact pgAll_at _ _ pgT_240 D (by omega) (by omega)
  by_cases a284 : D < 328
  · exact pgAll_at _ _ pgT_284 D (by omega) (by omega)
  by_cases a328 : D < 369
  · exact pgAll_at _ _ pgT_328 D (by omega) (by omega)
  by_cases a369 : D < 412
  · exact pgAll_at _ _ pgT_369 D (by omega) (by omega)
  by_cases a412 : D < 452
  · exact pgAll_at _ _ pgT_412 D (by omega) (by omega)
  by_cases a452 : D < 492
  · exact pgAll_at _ _ pgT_452 D (by omega) (by omega)
  by_cases a492 : D < 532
  · exact pgAll_at _ _ pgT_492 D (by omega) (by omega)
  by_cases a532 : D < 569
  · exact pgAll_at _ _ pgT_532 D (by omega) (by omega)
  by_cases a569 : D < 608
  · exact pgAll_at _ _ pgT_569 D (by omega) (by omega)
  by_cases a608 : D < 645
  · exact pgAll_at _ _ pgT_608 D (by omega) (by omega)
  by_cases a645 : D < 684
  · exact pgAll_at _ _ pgT_645 D (by omega) (by omega)
  by_cases a684 : D < 720
  · exact pgAll_at _ _ pgT_684 D (by omega) (by omega)
  by_cases a720 : D < 756
  · exact pgAll_at _ _ pgT_720 D (by omega) (by omega)
  by_cases a756 : D < 792
  · exact pgAll_at _ _ pgT_756 D (by omega) (by omega)
  by_cases a792 : D < 825
  · exact pgAll_at _ _ pgT_792 D (by omega) (by omega)
  by_cases a825 : D < 860
  · exact pgAll_at _ _ pgT_825 D (by omega) (by omega)
  by_cases a860 : D < 893
  · exact pgAll_at _ _ pgT_860 D (by omega) (by omega)
  by_cases a893 : D < 928
  · exact pgAll_at _ _ pgT_893 D (by omega) (by omega)
  by_cases a928 : D < 961
  · exact pgAll_at _ _ pgT_928 D (by omega) (by omega)
  by_cases a961 : D < 993
  · exact pgAll_at _ _ pgT_961 D (by omega) (by omega)
  by_cases a993 : D < 1025
  · exact pgAll_at _ _ pgT_993 D (by omega) (by omega)
  by_cases a1025 : D < 1057
  · exact pgAll_at _ _ pgT_1025 D (by omega) (by omega)
  by_cases a1057 : D < 1089
  · exact pgAll_at _ _ pgT_1057 D (by omega) (by omega)
  by_cases a1089 : D < 1121
  · exact pgAll_at _ _ pgT_1089 D (by omega) (by omega)
  by_cases a1121 : D < 1153
  · exact pgAll_at _ _ pgT_1121 D (by omega) (by omega)
  by_cases a1153 : D < 1184
  · exact pgAll_at _ _ pgT_1153 D (by omega) (by omega)
  by_cases a1184 : D < 1213
  · exact pgAll_at _ _ pgT_1184 D (by omega) (by omega)
  by_cases a1213 : D < 1244
  · exact pgAll_at _ _ pgT_1213 D (by omega) (by omega)
  by_cases a1244 : D < 1273
  · exact pgAll_at _ _ pgT_1244 D (by omega) (by omega)
  by_cases a1273 : D < 1304
  · exact pgAll_at _ _ pgT_1273 D (by omega) (by omega)
  by_cases a1304 : D < 1333
  · exact pgAll_at _ _ pgT_1304 D (by omega) (by omega)
  by_cases a1333 : D < 1361
  · exact pgAll_at _ _ pgT_1333 D (by omega) (by omega)
  by_cases a1361 : D < 1389
  · exact pgAll_at _ _ pgT_1361 D (by omega) (by omega)
  by_cases a1389 : D < 1417
  · exact pgAll_at _ _ pgT_1389 D (by omega) (by omega)
  by_cases a1417 : D < 1445
  · exact pgAll_at _ _ pgT_1417 D (by omega) (by omega)
  by_cases a1445 : D < 1473
  · exact pgAll_at _ _ pgT_1445 D (by omega) (by omega)
  by_cases a1473 : D < 1501
  · exact pgAll_at _ _ pgT_1473 D (by omega) (by omega)
  by_cases a1501 : D < 1529
  · exact pgAll_at _ _ pgT_1501 D (by omega) (by omega)
  by_cases a1529 : D < 1557
  · exact pgAll_at _ _ pgT_1529 D (by omega) (by omega)
  by_cases a1557 : D < 1585
  · exact pgAll_at _ _ pgT_1557 D (by omega) (by omega)
  by_cases a1585 : D < 1612
  · exact pgAll_at _ _ pgT_1585 D (by omega) (by omega)
  by_cases a1612 : D < 1637
  · exact pgAll_at _ _ pgT_1612 D (by omega) (by omega)
  by_cases a1637 : D < 1664
  · exact pgAll_at _ _ pgT_1637 D (by omega) (by omega)
  by_cases a1664 : D < 1689
  · exact pgAll_at _ _ pgT_1664 D (by omega) (by omega)
  by_cases a1689 : D < 1716
  · exact pgAll_at _ _ pgT_1689 D (by omega) (by omega)
  by_cases a1716 : D < 1741
  · exact pgAll_at _ _ pgT_1716 D (by omega) (by omega)
  by_cases a1741 : D < 1768
  · exact pgAll_at _ _ pgT_1741 D (by omega) (by omega)
  by_cases a1768 : D < 1793
  · exact pgAll_at _ _ pgT_1768 D (by omega) (by omega)
  by_cases a1793 : D < 1820
  · exact pgAll_at _ _ pgT_1793 D (by omega) (by omega)
  by_cases a1820 : D < 1845
  · exact pgAll_at _ _ pgT_1820 D (by omega) (by omega)
  by_cases a1845 : D < 1869
  · exact pgAll_at _ _ pgT_1845 D (by omega) (by omega)
  by_cases a1869 : D < 1893
  · exact pgAll_at _ _ pgT_1869 D (by omega) (by omega)
  by_cases a1893 : D < 1917
  · exact pgAll_at _ _ pgT_1893 D (by omega) (by omega)
  by_cases a1917 : D < 1941
  · exact pgAll_at _ _ pgT_1917 D (by omega) (by omega)
  by_cases a1941 : D < 1965
  · exact pgAll_at _ _ pgT_1941 D (by omega) (by omega)
  by_cases a1965 : D < 1989
  · exact pgAll_at _ _ pgT_1965 D (by omega) (by omega)
  exact pgAll_at _ _ pgT_1989 D (by omega) (by omega)
end Go.Proofs.Ytpfnhgpepgeaiaa
