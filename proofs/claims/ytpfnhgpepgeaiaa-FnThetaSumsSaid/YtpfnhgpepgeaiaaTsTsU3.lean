/-
  Values of genera and sums of series worked out, part 3.
  Conditions: none.
-/
import Derived.Test.YtpfnhgpepgeaiaaTsTsT0
namespace Go.Proofs.Ytpfnhgpepgeaiaa
set_option maxRecDepth 100000
theorem tsT_597 : tsAll 83 597 = true := by decide +kernel
theorem tsT_896 : tsAll 64 896 = true := by decide +kernel
theorem tsT_1249 : tsAll 52 1249 = true := by decide +kernel
theorem tsT_1352 : tsAll 49 1352 = true := by decide +kernel
end Go.Proofs.Ytpfnhgpepgeaiaa
namespace Go.Proofs.Ytpfnhgpepgeaiaa
set_option maxRecDepth 100000
theorem tsT_960 : tsAll 61 960 = true := by decide +kernel
theorem tsT_1021 : tsAll 60 1021 = true := by decide +kernel
theorem tsT_1796 : tsAll 40 1796 = true := by decide +kernel
theorem tsT_1836 : tsAll 37 1836 = true := by decide +kernel
theorem tsT_1988 : tsAll 13 1988 = true := by decide +kernel
end Go.Proofs.Ytpfnhgpepgeaiaa
