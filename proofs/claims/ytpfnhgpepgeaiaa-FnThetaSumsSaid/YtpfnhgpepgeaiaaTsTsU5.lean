/-
  Values of genera and sums of series worked out, part 5.
  Conditions: none.
-/
import Derived.Test.YtpfnhgpepgeaiaaTsTsT0
namespace Go.Proofs.Ytpfnhgpepgeaiaa
set_option maxRecDepth 100000
theorem tsT_509 : tsAll 88 509 = true := by decide +kernel
theorem tsT_1401 : tsAll 48 1401 = true := by decide +kernel
theorem tsT_1756 : tsAll 40 1756 = true := by decide +kernel
theorem tsT_1912 : tsAll 37 1912 = true := by decide +kernel
end Go.Proofs.Ytpfnhgpepgeaiaa
namespace Go.Proofs.Ytpfnhgpepgeaiaa
set_option maxRecDepth 100000
theorem tsT_680 : tsAll 76 680 = true := by decide +kernel
theorem tsT_756 : tsAll 72 756 = true := by decide +kernel
theorem tsT_1585 : tsAll 44 1585 = true := by decide +kernel
theorem tsT_1672 : tsAll 41 1672 = true := by decide +kernel
end Go.Proofs.Ytpfnhgpepgeaiaa
