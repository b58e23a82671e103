/-
  Values of genera and sums of series worked out, part 7.
  Conditions: none.
-/
import Derived.Test.YtpfnhgpepgeaiaaTsTsT0
namespace Go.Proofs.Ytpfnhgpepgeaiaa
set_option maxRecDepth 100000
theorem tsT_828 : tsAll 68 828 = true := by decide +kernel
theorem tsT_1196 : tsAll 53 1196 = true := by decide +kernel
theorem tsT_1496 : tsAll 45 1496 = true := by decide +kernel
theorem tsT_1629 : tsAll 43 1629 = true := by decide +kernel
end Go.Proofs.Ytpfnhgpepgeaiaa
namespace Go.Proofs.Ytpfnhgpepgeaiaa
set_option maxRecDepth 100000
theorem tsT_1081 : tsAll 59 1081 = true := by decide +kernel
theorem tsT_1140 : tsAll 56 1140 = true := by decide +kernel
theorem tsT_1301 : tsAll 51 1301 = true := by decide +kernel
theorem tsT_1449 : tsAll 47 1449 = true := by decide +kernel
end Go.Proofs.Ytpfnhgpepgeaiaa
