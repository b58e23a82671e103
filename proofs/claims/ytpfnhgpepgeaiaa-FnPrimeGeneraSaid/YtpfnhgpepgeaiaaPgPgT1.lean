/-
  Primes and genera worked out, part 1.
  Conditions: none.
-/
import Derived.Test.YtpfnhgpepgeaiaaPgPgT0
namespace Go.Proofs.Ytpfnhgpepgeaiaa
set_option maxRecDepth 100000
theorem pgT_52 : pgAll 48 52 = true := by decide +kernel
theorem pgT_193 : pgAll 47 193 = true := by decide +kernel
theorem pgT_284 : pgAll 44 284 = true := by decide +kernel
theorem pgT_569 : pgAll 39 569 = true := by decide +kernel
theorem pgT_825 : pgAll 35 825 = true := by decide +kernel
theorem pgT_961 : pgAll 32 961 = true := by decide +kernel
theorem pgT_1057 : pgAll 32 1057 = true := by decide +kernel
theorem pgT_1089 : pgAll 32 1089 = true := by decide +kernel
theorem pgT_1153 : pgAll 31 1153 = true := by decide +kernel
theorem pgT_1389 : pgAll 28 1389 = true := by decide +kernel
theorem pgT_1473 : pgAll 28 1473 = true := by decide +kernel
theorem pgT_1501 : pgAll 28 1501 = true := by decide +kernel
theorem pgT_1637 : pgAll 27 1637 = true := by decide +kernel
theorem pgT_1664 : pgAll 25 1664 = true := by decide +kernel
theorem pgT_1820 : pgAll 25 1820 = true := by decide +kernel
end Go.Proofs.Ytpfnhgpepgeaiaa
