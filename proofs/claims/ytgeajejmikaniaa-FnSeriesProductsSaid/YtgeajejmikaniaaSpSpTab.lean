/-
  Reduced forms and sums of four squares worked out: the parts joined.
  Conditions: none.
-/
import Derived.Test.YtgeajejmikaniaaSpSpT1
import Derived.Test.YtgeajejmikaniaaSpSpT2
import Derived.Test.YtgeajejmikaniaaSpSpT3
import Derived.Test.YtgeajejmikaniaaSpSpT4
import Derived.Test.YtgeajejmikaniaaSpSpT5
import Derived.Test.YtgeajejmikaniaaSpSpT6
import Derived.Test.YtgeajejmikaniaaSpSpT7
import Derived.Test.YtgeajejmikaniaaSpSpT8
namespace Go.Proofs.Ytgeajejmikaniaa
theorem sq_tab (k : Nat) (h2 : k ≤ 100) : sqO two k = true := by
  by_cases a0 : k < 40
  · exact sqAll_at _ _ _ sqT_0 k (by omega) (by omega)
  by_cases a40 : k < 48
  · exact sqAll_at _ _ _ sqT_40 k (by omega) (by omega)
  by_cases a48 : k < 54
  · exact sqAll_at _ _ _ sqT_48 k (by omega) (by omega)
  by_cases a54 : k < 58
  · exact sqAll_at _ _ _ sqT_54 k (by omega) (by omega)
  by_cases a58 : k < 62
  · exact sqAll_at _ _ _ sqT_58 k (by omega) (by omega)
  by_cases a62 : k < 65
  · exact sqAll_at _ _ _ sqT_62 k (by omega) (by omega)
  by_cases a65 : k < 68
  · exact sqAll_at _ _ _ sqT_65 k (by omega) (by omega)
  by_cases a68 : k < 70
  · exact sqAll_at _ _ _ sqT_68 k (by omega) (by omega)
  by_cases a70 : k < 72
  · exact sqAll_at _ _ _ sqT_70 k (by omega) (by omega)
  by_cases a72 : k < 74
  · exact sqAll_at _ _ _ sqT_72 k (by omega) (by omega)
  by_cases a74 : k < 76
  · exact sqAll_at _ _ _ sqT_74 k (by omega) (by omega)
  by_cases a76 : k < 78
  · exact sqAll_at _ _ _ sqT_76 k (by omega) (by omega)
  by_cases a78 : k < 79
  · exact sqAll_at _ _ _ sqT_78 k (by omega) (by omega)
  by_cases a79 : k < 80
  · exact sqAll_at _ _ _ sqT_79 k (by omega) (by omega)
  by_cases a80 : k < 81
  · exact sqAll_at _ _ _ sqT_80 k (by omega) (by omega)
  by_cases a81 : k < 82
  · exact sqAll_at _ _ _ sqT_81 k (by omega) (by omega)
  by_cases a82 : k < 83
  · exact sqAll_at _ _ _ sqT_82 k (by omega) (by omega)
  by_cases a83 : k < 84
  · exact sqAll_at _ _ _ sqT_83 k (by omega) (by omega)
  by_cases a84 : k < 85
  · exact sqAll_at _ _ _ sqT_84 k (by omega) (by omega)
  by_cases a85 : k < 86
  · exact sqAll_at _ _ _ sqT_85 k (by omega) (by omega)
  by_cases a86 : k < 87
  · exact sqAll_at _ _ _ sqT_86 k (by omega) (by omega)
  by_cases a87 : k < 88
  · exact sqAll_at _ _ _ sqT_87 k (by omega) (by omega)
  by_cases a88 : k < 89
  · exact sqAll_at _ _ _ sqT_88 k (by omega) (by omega)
  by_cases a89 : k < 90
  · exact sqAll_at _ _ _ sqT_89 k (by omega) (by omega)
  by_cases a90 : k < 91
  · exact sqAll_at _ _ _ sqT_90 k (by omega) (by omega)
  by_cases a91 : k < 92
  · exact sqAll_at _ _ _ sqT_91 k (by omega) (by omega)
  by_cases a92 : k < 93
  · exact sqAll_at _ _ _ sqT_92 k (by omega) (by omega)
  by_cases a93 : k < 94
  · exact sqAll_at _ _ _ sqT_93 k (by omega) (by omega)
  by_cases a94 : k < 95
  · exact sqAll_at _ _ _ sqT_94 k (by omega) (by omega)
  by_cases a95 : k < 96
  · exact sqAll_at _ _ _ sqT_95 k (by omega) (by omega)
  by_cases a96 : k < 97
  · exact sqAll_at _ _ _ sqT_96 k (by omega) (by omega)
  by_cases a97 : k < 98
  · exact sqAll_at _ _ _ sqT_97 k (by omega) (by omega)
  by_cases a98 : k < 99
  · exact sqAll_at _ _ _ sqT_98 k (by omega) (by omega)
  by_cases a99 : k < 100
  · exact sqAll_at _ _ _ sqT_99 k (by omega) (by omega)
  exact sqAll_at _ _ _ sqT_100 k (by omega) (by omega)
end Go.Proofs.Ytgeajejmikaniaa
