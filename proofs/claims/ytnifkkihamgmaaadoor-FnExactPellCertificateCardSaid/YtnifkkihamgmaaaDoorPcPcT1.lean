/-
  Pell's equation at each discriminant: what is worked out, part 1.
  Conditions: none.
-/
import Derived.Test.YtnifkkihamgmaaaDoorPcPcT0
namespace Go.Proofs.YtnifkkihamgmaaaDoor
theorem pc_5 : okr 5 30 = true := by decide +kernel
theorem pc_170 : okr 170 50 = true := by decide +kernel
theorem pc_370 : okr 370 50 = true := by decide +kernel
theorem pc_575 : okr 575 55 = true := by decide +kernel
theorem pc_805 : okr 805 65 = true := by decide +kernel
end Go.Proofs.YtnifkkihamgmaaaDoor
