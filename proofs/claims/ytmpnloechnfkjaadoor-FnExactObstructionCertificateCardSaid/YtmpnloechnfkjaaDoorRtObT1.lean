/-
  The primes of the numbers up to ten thousand worked out both ways, part 1.
  Conditions: none.
-/
import Derived.Test.YtmpnloechnfkjaaDoorRtObT0
namespace Go.Proofs.YtmpnloechnfkjaaDoor
set_option maxRecDepth 100000
theorem ob_1 : obAll 500 1 = true := by decide +kernel
theorem ob_2 : obAll 500 501 = true := by decide +kernel
theorem ob_3 : obAll 500 1001 = true := by decide +kernel
theorem ob_4 : obAll 500 1501 = true := by decide +kernel
theorem ob_5 : obAll 500 2001 = true := by decide +kernel
theorem ob_6 : obAll 500 2501 = true := by decide +kernel
theorem ob_7 : obAll 500 3001 = true := by decide +kernel
theorem ob_8 : obAll 500 3501 = true := by decide +kernel
end Go.Proofs.YtmpnloechnfkjaaDoor
