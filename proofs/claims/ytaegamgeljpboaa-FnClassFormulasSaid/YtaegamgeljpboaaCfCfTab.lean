/-
  Class numbers worked out in every way, joined.
  Conditions: none.
-/
import Derived.Test.YtaegamgeljpboaaCfCfT1
import Derived.Test.YtaegamgeljpboaaCfCfT2
import Derived.Test.YtaegamgeljpboaaCfCfT3
import Derived.Test.YtaegamgeljpboaaCfCfT4
import Derived.Test.YtaegamgeljpboaaCfCfT5
import Derived.Test.YtaegamgeljpboaaCfCfT6
import Derived.Test.YtaegamgeljpboaaCfCfT7
import Derived.Test.YtaegamgeljpboaaCfCfT8
namespace Go.Proofs.Ytaegamgeljpboaa
theorem cfQall_at : ∀ (n D0 : Nat), cfQall n D0 = true → ∀ D, D0 ≤ D → D < D0 + n → cfQ D = true ∧ cfB (-(D : Int)) = true
  | 0, D0, _, D, h1, h2 => by omega
  | n + 1, D0, h, D, h1, h2 => by
    unfold cfQall at h
    cases h3 : cfQ D0 with
    | false => rw [h3] at h; cases h
    | true =>
      cases h4 : cfB (-(D0 : Int)) with
      | false => rw [h3, h4] at h; cases h
      | true =>
        rw [h3, h4, cond_true, cond_true, fN_eq] at h
        by_cases h5 : D = D0
        · subst h5; exact ⟨h3, h4⟩
        · exact cfQall_at n (D0 + 1) h D (by omega) (by omega)
theorem cf_tab (D : Nat) (h1 : 3 ≤ D) (h2 : D ≤ 2000) : cfQ D = true ∧ cfB (-(D : Int)) = true := by
  by_cases a3 : D < 223
  · exact cfQall_at _ _ cfT_3 D (by omega) (by omega)
  by_cases a223 : D < 366
  · exact cfQall_at _ _ cfT_223 D (by omega) (by omega)
  by_cases a366 : D < 480
  · exact cfQall_at _ _ cfT_366 D (by omega) (by omega)
  by_cases a480 : D < 578
  · exact cfQall_at _ _ cfT_480 D (by omega) (by omega)
  by_cases a578 : D < 665
  · exact cfQall_at _ _ cfT_578 D (by omega) (by omega)
  by_cases a665 : D < 745
  · exact cfQall_at _ _ cfT_665 D (by omega) (by omega)
  by_cases a745 : D < 819
  · exact cfQall_at _ _ cfT_745 D (by omega) (by omega)
  by_cases a819 : D < 888
  · exact cfQall_at _ _ cfT_819 D (by omega) (by omega)
  by_cases a888 : D < 953
  · exact cfQall_at _ _ cfT_888 D (by omega) (by omega)
  by_cases a953 : D < 1014
  · exact cfQall_at _ _ cfT_953 D (by omega) (by omega)
  by_cases a1014 : D < 1072
  · exact cfQall_at _ _ cfT_1014 D (by omega) (by omega)
  by_cases a1072 : D < 1128
  · exact cfQall_at _ _ cfT_1072 D (by omega) (by omega)
  by_cases a1128 : D < 1182
  · exact cfQall_at _ _ cfT_1128 D (by omega) (by omega)
  by_cases a1182 : D < 1234
  · exact cfQall_at _ _ cfT_1182 D (by omega) (by omega)
  by_cases a1234 : D < 1284
  · exact cfQall_at _ _ cfT_1234 D (by omega) (by omega)
  by_cases a1284 : D < 1332
  · exact cfQall_at _ _ cfT_1284 D (by omega) (by omega)
  by_cases a1332 : D < 1379
  · exact cfQall_at _ _ cfT_1332 D (by omega) (by omega)
  by_cases a1379 : D < 1425
  · exact cfQall_at _ _ cfT_1379 D (by omega) (by omega)
  by_cases a1425 : D < 1469
  · exact cfQall_at _ _ cfT_1425 D (by omega) (by omega)
  by_cases a1469 : D < 1512
  · exact cfQall_at _ _ cfT_1469 D (by omega) (by omega)
  by_cases a1512 : D < 1554
  · exact cfQall_at _ _ cfT_1512 D (by omega) (by omega)
  by_cases a1554 : D < 1595
  · exact cfQall_at _ _ cfT_1554 D (by omega) (by omega)
  by_cases a1595 : D < 1635
  · exact cfQall_at _ _ cfT_1595 D (by omega) (by omega)
  by_cases a1635 : D < 1675
  · exact cfQall_at _ _ cfT_1635 D (by omega) (by omega)
  by_cases a1675 : D < 1714
  · exact cfQall_at _ _ cfT_1675 D (by omega) (by omega)
  by_cases a1714 : D < 1752
  · exact cfQall_at _ _ cfT_1714 D (by omega) (by omega)
  by_cases a1752 : D < 1789
  · exact cfQall_at _ _ cfT_1752 D (by omega) (by omega)
  by_cases a1789 : D < 1826
  · exact cfQall_at _ _ cfT_1789 D (by omega) (by omega)
  by_cases a1826 : D < 1862
  · exact cfQall_at _ _ cfT_1826 D (by omega) (by omega)
  by_cases a1862 : D < 1897
  · exact cfQall_at _ _ cfT_1862 D (by omega) (by omega)
  by_cases a1897 : D < 1932
  · exact cfQall_at _ _ cfT_1897 D (by omega) (by omega)
  by_cases a1932 : D < 1966
  · exact cfQall_at _ _ cfT_1932 D (by omega) (by omega)
  by_cases a1966 : D < 2000
  · exact cfQall_at _ _ cfT_1966 D (by omega) (by omega)
  exact cfQall_at _ _ cfT_2000 D (by omega) (by omega)
end Go.Proofs.Ytaegamgeljpboaa
