/-
  Pell's equation at each discriminant: the parts joined.
  Conditions: none.
-/
import Derived.Test.YtnifkkihamgmaaaDoorPcPcT1
import Derived.Test.YtnifkkihamgmaaaDoorPcPcT2
import Derived.Test.YtnifkkihamgmaaaDoorPcPcT3
import Derived.Test.YtnifkkihamgmaaaDoorPcPcT4
namespace Go.Proofs.YtnifkkihamgmaaaDoor
theorem okd_all : ∀ d : Nat, 5 ≤ d → d ≤ 1000 → okd d = true := by
  intro d h1 h2
  by_cases h5 : d < 35
  · exact okr_spec 30 5 pc_5 d (by omega) (by omega)
  by_cases h35 : d < 75
  · exact okr_spec 40 35 pc_35 d (by omega) (by omega)
  by_cases h75 : d < 120
  · exact okr_spec 45 75 pc_75 d (by omega) (by omega)
  by_cases h120 : d < 170
  · exact okr_spec 50 120 pc_120 d (by omega) (by omega)
  by_cases h170 : d < 220
  · exact okr_spec 50 170 pc_170 d (by omega) (by omega)
  by_cases h220 : d < 270
  · exact okr_spec 50 220 pc_220 d (by omega) (by omega)
  by_cases h270 : d < 320
  · exact okr_spec 50 270 pc_270 d (by omega) (by omega)
  by_cases h320 : d < 370
  · exact okr_spec 50 320 pc_320 d (by omega) (by omega)
  by_cases h370 : d < 420
  · exact okr_spec 50 370 pc_370 d (by omega) (by omega)
  by_cases h420 : d < 470
  · exact okr_spec 50 420 pc_420 d (by omega) (by omega)
  by_cases h470 : d < 520
  · exact okr_spec 50 470 pc_470 d (by omega) (by omega)
  by_cases h520 : d < 575
  · exact okr_spec 55 520 pc_520 d (by omega) (by omega)
  by_cases h575 : d < 630
  · exact okr_spec 55 575 pc_575 d (by omega) (by omega)
  by_cases h630 : d < 685
  · exact okr_spec 55 630 pc_630 d (by omega) (by omega)
  by_cases h685 : d < 740
  · exact okr_spec 55 685 pc_685 d (by omega) (by omega)
  by_cases h740 : d < 805
  · exact okr_spec 65 740 pc_740 d (by omega) (by omega)
  by_cases h805 : d < 870
  · exact okr_spec 65 805 pc_805 d (by omega) (by omega)
  by_cases h870 : d < 935
  · exact okr_spec 65 870 pc_870 d (by omega) (by omega)
  by_cases h935 : d < 1001
  · exact okr_spec 66 935 pc_935 d (by omega) (by omega)
  omega
end Go.Proofs.YtnifkkihamgmaaaDoor
