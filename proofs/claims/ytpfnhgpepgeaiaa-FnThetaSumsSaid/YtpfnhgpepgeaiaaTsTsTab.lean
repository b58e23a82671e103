/-
  Values of genera and sums of series worked out: the parts joined.
  Conditions: none.
-/
import Derived.Test.YtpfnhgpepgeaiaaTsTsU1
import Derived.Test.YtpfnhgpepgeaiaaTsTsU3
import Derived.Test.YtpfnhgpepgeaiaaTsTsU5
import Derived.Test.YtpfnhgpepgeaiaaTsTsU7
namespace Go.Proofs.Ytpfnhgpepgeaiaa
theorem ts_tab (D : Nat) (h1 : 3 ≤ D) (h2 : D ≤ 2000) : tsG D = true := by
  by_cases a3 : D < 169
  · exact tsAll_at _ _ tsT_3 D (by omega) (by omega)
  by_cases a169 : D < 300
  · exact tsAll_at _ _ tsT_169 D (by omega) (by omega)
  by_cases a300 : D < 412
  · exact tsAll_at _ _ tsT_300 D (by omega) (by omega)
  by_cases a412 : D < 509
  · exact tsAll_at _ _ tsT_412 D (by omega) (by omega)
  by_cases a509 : D < 597
  · exact tsAll_at _ _ tsT_509 D (by omega) (by omega)
  by_cases a597 : D < 680
  · exact tsAll_at _ _ tsT_597 D (by omega) (by omega)
  by_cases a680 : D < 756
  · exact tsAll_at _ _ tsT_680 D (by omega) (by omega)
  by_cases a756 : D < 828
  · exact tsAll_at _ _ tsT_756 D (by omega) (by omega)
  by_cases a828 : D < 896
  · exact tsAll_at _ _ tsT_828 D (by omega) (by omega)
  by_cases a896 : D < 960
  · exact tsAll_at _ _ tsT_896 D (by omega) (by omega)
  by_cases a960 : D < 1021
  · exact tsAll_at _ _ tsT_960 D (by omega) (by omega)
  by_cases a1021 : D < 1081
  · exact tsAll_at _ _ tsT_1021 D (by omega) (by omega)
  by_cases a1081 : D < 1140
  · exact tsAll_at _ _ tsT_1081 D (by omega) (by omega)
  by_cases a1140 : D < 1196
  · exact tsAll_at _ _ tsT_1140 D (by omega) (by omega)
  by_cases a1196 : D < 1249
  · exact tsAll_at _ _ tsT_1196 D (by omega) (by omega)
  by_cases a1249 : D < 1301
  · exact tsAll_at _ _ tsT_1249 D (by omega) (by omega)
  by_cases a1301 : D < 1352
  · exact tsAll_at _ _ tsT_1301 D (by omega) (by omega)
  by_cases a1352 : D < 1401
  · exact tsAll_at _ _ tsT_1352 D (by omega) (by omega)
  by_cases a1401 : D < 1449
  · exact tsAll_at _ _ tsT_1401 D (by omega) (by omega)
  by_cases a1449 : D < 1496
  · exact tsAll_at _ _ tsT_1449 D (by omega) (by omega)
  by_cases a1496 : D < 1541
  · exact tsAll_at _ _ tsT_1496 D (by omega) (by omega)
  by_cases a1541 : D < 1585
  · exact tsAll_at _ _ tsT_1541 D (by omega) (by omega)
  by_cases a1585 : D < 1629
  · exact tsAll_at _ _ tsT_1585 D (by omega) (by omega)
  by_cases a1629 : D < 1672
  · exact tsAll_at _ _ tsT_1629 D (by omega) (by omega)
  by_cases a1672 : D < 1713
  · exact tsAll_at _ _ tsT_1672 D (by omega) (by omega)
  by_cases a1713 : D < 1756
  · exact tsAll_at _ _ tsT_1713 D (by omega) (by omega)
  by_cases a1756 : D < 1796
  · exact tsAll_at _ _ tsT_1756 D (by omega) (by omega)
  by_cases a1796 : D < 1836
  · exact tsAll_at _ _ tsT_1796 D (by omega) (by omega)
  by_cases a1836 : D < 1873
  · exact tsAll_at _ _ tsT_1836 D (by omega) (by omega)
  by_cases a1873 : D < 1912
  · exact tsAll_at _ _ tsT_1873 D (by omega) (by omega)
  by_cases a1912 : D < 1949
  · exact tsAll_at _ _ tsT_1912 D (by omega) (by omega)
  by_cases a1949 : D < 1988
  · exact tsAll_at _ _ tsT_1949 D (by omega) (by omega)
  exact tsAll_at _ _ tsT_1988 D (by omega) (by omega)
end Go.Proofs.Ytpfnhgpepgeaiaa
