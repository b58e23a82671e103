/-
  Primes and genera worked out, part 2.
  Conditions: none.
-/
import Derived.Test.YtpfnhgpepgeaiaaPgPgT0
namespace Go.Proofs.Ytpfnhgpepgeaiaa
set_option maxRecDepth 100000
theorem pgT_993 : pgAll 32 993 = true := by decide +kernel
theorem pgT_1025 : pgAll 32 1025 = true := by decide +kernel
theorem pgT_1184 : pgAll 29 1184 = true := by decide +kernel
theorem pgT_1244 : pgAll 29 1244 = true := by decide +kernel
theorem pgT_1333 : pgAll 28 1333 = true := by decide +kernel
theorem pgT_1361 : pgAll 28 1361 = true := by decide +kernel
theorem pgT_1445 : pgAll 28 1445 = true := by decide +kernel
theorem pgT_1557 : pgAll 28 1557 = true := by decide +kernel
theorem pgT_1612 : pgAll 25 1612 = true := by decide +kernel
theorem pgT_1716 : pgAll 25 1716 = true := by decide +kernel
theorem pgT_1741 : pgAll 27 1741 = true := by decide +kernel
theorem pgT_1768 : pgAll 25 1768 = true := by decide +kernel
theorem pgT_1869 : pgAll 24 1869 = true := by decide +kernel
theorem pgT_1941 : pgAll 24 1941 = true := by decide +kernel
theorem pgT_1965 : pgAll 24 1965 = true := by decide +kernel
theorem pgT_1989 : pgAll 12 1989 = true := by decide +kernel
end Go.Proofs.Ytpfnhgpepgeaiaa
