/-
  The program's list of the primitive reduced forms is the reference's.
  Conditions: none.
-/
import Derived.Test.YtnheekadeflecaaGreatUpRlG
namespace Go.Proofs.YtnheekadeflecaaGreat
set_option linter.unusedVariables false
set_option linter.unusedSimpArgs false

end Go.Proofs.YtnheekadeflecaaGreat
