/-
  Primitive points and forms with a first coefficient, counted: the parts joined.
  Conditions: none.
-/
import Derived.Test.YtaegamgeljpboaaRcRcT1
import Derived.Test.YtaegamgeljpboaaRcRcT2
import Derived.Test.YtaegamgeljpboaaRcRcT3
import Derived.Test.YtaegamgeljpboaaRcRcT4
import Derived.Test.YtaegamgeljpboaaRcRcT5
import Derived.Test.YtaegamgeljpboaaRcRcT6
import Derived.Test.YtaegamgeljpboaaRcRcT7
import Derived.Test.YtaegamgeljpboaaRcRcT8
namespace Go.Proofs.Ytaegamgeljpboaa
theorem rcAll_at : ∀ (n D0 : Nat), rcAll n D0 = true → ∀ D, D0 ≤ D → D < D0 + n → rcG D = true
  | 0, D0, _, D, h1, h2 => by omega
  | n + 1, D0, h, D, h1, h2 => by
    unfold rcAll at h
    cases h3 : rcG D0 with
    | false => rw [h3] at h; cases h
    | true =>
      rw [h3, cond_true, fM_eq] at h
      by_cases h5 : D = D0
      · subst h5; exact h3
      · exact rcAll_at n (D0 + 1) h D (by omega) (by omega)
theorem rc_tab (D : Nat) (h1 : 3 ≤ D) (h2 : D ≤ 2000) : rcG D = true := by
  by_cases a3 : D < 120
  · exact rcAll_at _ _ rcT_3 D (by omega) (by omega)
  by_cases a120 : D < 233
  · exact rcAll_at _ _ rcT_120 D (by omega) (by omega)
  by_cases a233 : D < 341
  · exact rcAll_at _ _ rcT_233 D (by omega) (by omega)
  by_cases a341 : D < 445
  · exact rcAll_at _ _ rcT_341 D (by omega) (by omega)
  by_cases a445 : D < 548
  · exact rcAll_at _ _ rcT_445 D (by omega) (by omega)
  by_cases a548 : D < 645
  · exact rcAll_at _ _ rcT_548 D (by omega) (by omega)
  by_cases a645 : D < 740
  · exact rcAll_at _ _ rcT_645 D (by omega) (by omega)
  by_cases a740 : D < 832
  · exact rcAll_at _ _ rcT_740 D (by omega) (by omega)
  by_cases a832 : D < 921
  · exact rcAll_at _ _ rcT_832 D (by omega) (by omega)
  by_cases a921 : D < 1009
  · exact rcAll_at _ _ rcT_921 D (by omega) (by omega)
  by_cases a1009 : D < 1096
  · exact rcAll_at _ _ rcT_1009 D (by omega) (by omega)
  by_cases a1096 : D < 1180
  · exact rcAll_at _ _ rcT_1096 D (by omega) (by omega)
  by_cases a1180 : D < 1261
  · exact rcAll_at _ _ rcT_1180 D (by omega) (by omega)
  by_cases a1261 : D < 1341
  · exact rcAll_at _ _ rcT_1261 D (by omega) (by omega)
  by_cases a1341 : D < 1420
  · exact rcAll_at _ _ rcT_1341 D (by omega) (by omega)
  by_cases a1420 : D < 1496
  · exact rcAll_at _ _ rcT_1420 D (by omega) (by omega)
  by_cases a1496 : D < 1572
  · exact rcAll_at _ _ rcT_1496 D (by omega) (by omega)
  by_cases a1572 : D < 1645
  · exact rcAll_at _ _ rcT_1572 D (by omega) (by omega)
  by_cases a1645 : D < 1717
  · exact rcAll_at _ _ rcT_1645 D (by omega) (by omega)
  by_cases a1717 : D < 1789
  · exact rcAll_at _ _ rcT_1717 D (by omega) (by omega)
  by_cases a1789 : D < 1860
  · exact rcAll_at _ _ rcT_1789 D (by omega) (by omega)
  by_cases a1860 : D < 1929
  · exact rcAll_at _ _ rcT_1860 D (by omega) (by omega)
  by_cases a1929 : D < 1997
  · exact rcAll_at _ _ rcT_1929 D (by omega) (by omega)
  exact rcAll_at _ _ rcT_1997 D (by omega) (by omega)
end Go.Proofs.Ytaegamgeljpboaa
