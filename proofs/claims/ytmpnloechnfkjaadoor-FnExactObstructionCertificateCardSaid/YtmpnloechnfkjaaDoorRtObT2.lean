/-
  The primes of the numbers up to ten thousand worked out both ways, part 2.
  Conditions: none.
-/
import Derived.Test.YtmpnloechnfkjaaDoorRtObT0
namespace Go.Proofs.YtmpnloechnfkjaaDoor
set_option maxRecDepth 100000
theorem ob_9 : obAll 500 4001 = true := by decide +kernel
theorem ob_10 : obAll 500 4501 = true := by decide +kernel
theorem ob_11 : obAll 500 5001 = true := by decide +kernel
theorem ob_12 : obAll 500 5501 = true := by decide +kernel
theorem ob_13 : obAll 500 6001 = true := by decide +kernel
theorem ob_14 : obAll 500 6501 = true := by decide +kernel
end Go.Proofs.YtmpnloechnfkjaaDoor
