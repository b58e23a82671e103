/-
  The sums of one, two and three squares up to 500, and the relation with the Hurwitz numbers, joined.
  Conditions: none.
-/
import Derived.Test.YtdffhgibkeifmaaHsHsR1
import Derived.Test.YtdffhgibkeifmaaHsHsR2
import Derived.Test.YtdffhgibkeifmaaHsHsR3
import Derived.Test.YtdffhgibkeifmaaHsHsRA
namespace Go.Proofs.Ytdffhgibkeifmaa
set_option linter.unusedVariables false
set_option linter.unusedSimpArgs false
set_option maxRecDepth 100000

theorem FU_is : FU = 999999996 + 4 := rfl
theorem sq_mk : mk (w64 (500 + 1)) (w64 (500 + 1)) = some () := rfl
theorem sq_rep : List.replicate (Int.toNat (w64 (500 + 1))) (0 : Int) = List.replicate 501 0 := rfl
theorem sq_step {n : Nat} {k : Int} {c o : List Int} (hk : ltI 0 k = true) (h : r_impl_squareCounts_L15 c k 500 FU 0 (List.replicate 501 0) = some o) : r_impl_squareCounts_L9 500 (n + 1) k c = r_impl_squareCounts_L9 500 n (w64 (k - 1)) o := by
  rw [r_impl_squareCounts_L9, hk, cond_true, sq_mk, Option.bind_some, sq_rep, h, Option.bind_some, sI_eq]
theorem sq_rounds : r_impl_squareCounts_L9 500 FU 3 ((List.replicate 501 0).set 0 1) = some sq3 := by
  rw [FU_is, sq_step (n := 999999996 + 3) rfl sqr_1, show w64 (3 - 1) = 2 from rfl, sq_step (n := 999999996 + 2) rfl sqr_2, show w64 (2 - 1) = 1 from rfl, sq_step (n := 999999996 + 1) rfl sqr_3, show w64 (1 - 1) = 0 from rfl, r_impl_squareCounts_L9]
  rfl
end Go.Proofs.Ytdffhgibkeifmaa
