/-
  Values of genera and sums of series worked out, part 1.
  Conditions: none.
-/
import Derived.Test.YtpfnhgpepgeaiaaTsTsT0
namespace Go.Proofs.Ytpfnhgpepgeaiaa
set_option maxRecDepth 100000
theorem tsT_3 : tsAll 166 3 = true := by decide +kernel
theorem tsT_412 : tsAll 97 412 = true := by decide +kernel
theorem tsT_1873 : tsAll 39 1873 = true := by decide +kernel
theorem tsT_1949 : tsAll 39 1949 = true := by decide +kernel
end Go.Proofs.Ytpfnhgpepgeaiaa
namespace Go.Proofs.Ytpfnhgpepgeaiaa
set_option maxRecDepth 100000
theorem tsT_169 : tsAll 131 169 = true := by decide +kernel
theorem tsT_300 : tsAll 112 300 = true := by decide +kernel
theorem tsT_1541 : tsAll 44 1541 = true := by decide +kernel
theorem tsT_1713 : tsAll 43 1713 = true := by decide +kernel
end Go.Proofs.Ytpfnhgpepgeaiaa
