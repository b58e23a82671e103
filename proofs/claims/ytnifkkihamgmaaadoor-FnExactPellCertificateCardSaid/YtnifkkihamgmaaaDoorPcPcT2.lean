/-
  Pell's equation at each discriminant: what is worked out, part 2.
  Conditions: none.
-/
import Derived.Test.YtnifkkihamgmaaaDoorPcPcT0
namespace Go.Proofs.YtnifkkihamgmaaaDoor
theorem pc_35 : okr 35 40 = true := by decide +kernel
theorem pc_220 : okr 220 50 = true := by decide +kernel
theorem pc_420 : okr 420 50 = true := by decide +kernel
theorem pc_630 : okr 630 55 = true := by decide +kernel
theorem pc_870 : okr 870 65 = true := by decide +kernel
end Go.Proofs.YtnifkkihamgmaaaDoor
