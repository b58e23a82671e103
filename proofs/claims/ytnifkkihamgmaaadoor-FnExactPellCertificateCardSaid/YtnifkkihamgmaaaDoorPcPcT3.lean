/-
  Pell's equation at each discriminant: what is worked out, part 3.
  Conditions: none.
-/
import Derived.Test.YtnifkkihamgmaaaDoorPcPcT0
namespace Go.Proofs.YtnifkkihamgmaaaDoor
theorem pc_75 : okr 75 45 = true := by decide +kernel
theorem pc_270 : okr 270 50 = true := by decide +kernel
theorem pc_470 : okr 470 50 = true := by decide +kernel
theorem pc_685 : okr 685 55 = true := by decide +kernel
theorem pc_935 : okr 935 66 = true := by decide +kernel
end Go.Proofs.YtnifkkihamgmaaaDoor
