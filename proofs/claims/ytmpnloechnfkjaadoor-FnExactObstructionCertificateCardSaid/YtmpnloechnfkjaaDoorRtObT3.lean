/-
  The primes of the numbers up to ten thousand worked out both ways, part 3.
  Conditions: none.
-/
import Derived.Test.YtmpnloechnfkjaaDoorRtObT0
namespace Go.Proofs.YtmpnloechnfkjaaDoor
set_option maxRecDepth 100000
theorem ob_15 : obAll 500 7001 = true := by decide +kernel
theorem ob_16 : obAll 500 7501 = true := by decide +kernel
theorem ob_17 : obAll 500 8001 = true := by decide +kernel
theorem ob_18 : obAll 500 8501 = true := by decide +kernel
theorem ob_19 : obAll 500 9001 = true := by decide +kernel
theorem ob_20 : obAll 500 9501 = true := by decide +kernel
end Go.Proofs.YtmpnloechnfkjaaDoor
