/-
  Pell's equation at each discriminant: what is worked out, part 4.
  Conditions: none.
-/
import Derived.Test.YtnifkkihamgmaaaDoorPcPcT0
namespace Go.Proofs.YtnifkkihamgmaaaDoor
theorem pc_120 : okr 120 50 = true := by decide +kernel
theorem pc_320 : okr 320 50 = true := by decide +kernel
theorem pc_520 : okr 520 55 = true := by decide +kernel
theorem pc_740 : okr 740 65 = true := by decide +kernel
end Go.Proofs.YtnifkkihamgmaaaDoor
