/-
  Primes and genera worked out, part 3.
  Conditions: none.
-/
import Derived.Test.YtpfnhgpepgeaiaaPgPgT0
namespace Go.Proofs.Ytpfnhgpepgeaiaa
set_option maxRecDepth 100000
theorem pgT_3 : pgAll 49 3 = true := by decide +kernel
theorem pgT_328 : pgAll 41 328 = true := by decide +kernel
theorem pgT_369 : pgAll 43 369 = true := by decide +kernel
theorem pgT_452 : pgAll 40 452 = true := by decide +kernel
theorem pgT_608 : pgAll 37 608 = true := by decide +kernel
theorem pgT_645 : pgAll 39 645 = true := by decide +kernel
theorem pgT_720 : pgAll 36 720 = true := by decide +kernel
theorem pgT_756 : pgAll 36 756 = true := by decide +kernel
theorem pgT_792 : pgAll 33 792 = true := by decide +kernel
theorem pgT_893 : pgAll 35 893 = true := by decide +kernel
theorem pgT_1304 : pgAll 29 1304 = true := by decide +kernel
theorem pgT_1417 : pgAll 28 1417 = true := by decide +kernel
theorem pgT_1585 : pgAll 27 1585 = true := by decide +kernel
theorem pgT_1793 : pgAll 27 1793 = true := by decide +kernel
theorem pgT_1845 : pgAll 24 1845 = true := by decide +kernel
theorem pgT_1893 : pgAll 24 1893 = true := by decide +kernel
end Go.Proofs.Ytpfnhgpepgeaiaa
