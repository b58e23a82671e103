/-
  Primes and genera worked out, part 4.
  Conditions: none.
-/
import Derived.Test.YtpfnhgpepgeaiaaPgPgT0
namespace Go.Proofs.Ytpfnhgpepgeaiaa
set_option maxRecDepth 100000
theorem pgT_100 : pgAll 48 100 = true := by decide +kernel
theorem pgT_148 : pgAll 45 148 = true := by decide +kernel
theorem pgT_240 : pgAll 44 240 = true := by decide +kernel
theorem pgT_412 : pgAll 40 412 = true := by decide +kernel
theorem pgT_492 : pgAll 40 492 = true := by decide +kernel
theorem pgT_532 : pgAll 37 532 = true := by decide +kernel
theorem pgT_684 : pgAll 36 684 = true := by decide +kernel
theorem pgT_860 : pgAll 33 860 = true := by decide +kernel
theorem pgT_928 : pgAll 33 928 = true := by decide +kernel
theorem pgT_1121 : pgAll 32 1121 = true := by decide +kernel
theorem pgT_1213 : pgAll 31 1213 = true := by decide +kernel
theorem pgT_1273 : pgAll 31 1273 = true := by decide +kernel
theorem pgT_1529 : pgAll 28 1529 = true := by decide +kernel
theorem pgT_1689 : pgAll 27 1689 = true := by decide +kernel
theorem pgT_1917 : pgAll 24 1917 = true := by decide +kernel
end Go.Proofs.Ytpfnhgpepgeaiaa
