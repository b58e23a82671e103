/-
  Round 3 of the sums of squares up to 500, worked out entry by entry.
  Conditions: none.
-/
import Derived.Test.YtdffhgibkeifmaaHsHsT0
import Derived.Test.YtdffhgibkeifmaaHsHsF
namespace Go.Proofs.Ytdffhgibkeifmaa
set_option maxRecDepth 100000

theorem rw3_0 : rowAll sq2 sq3 50 0 = true := by decide +kernel
theorem rw3_1 : rowAll sq2 sq3 50 50 = true := by decide +kernel
theorem rw3_2 : rowAll sq2 sq3 50 100 = true := by decide +kernel
theorem rw3_3 : rowAll sq2 sq3 50 150 = true := by decide +kernel
theorem rw3_4 : rowAll sq2 sq3 50 200 = true := by decide +kernel
theorem rw3_5 : rowAll sq2 sq3 50 250 = true := by decide +kernel
theorem rw3_6 : rowAll sq2 sq3 50 300 = true := by decide +kernel
theorem rw3_7 : rowAll sq2 sq3 50 350 = true := by decide +kernel
theorem rw3_8 : rowAll sq2 sq3 50 400 = true := by decide +kernel
theorem rw3_9 : rowAll sq2 sq3 50 450 = true := by decide +kernel
theorem rw3_10 : rowAll sq2 sq3 1 500 = true := by decide +kernel
theorem rw3_all (i : Nat) (h : i ≤ 500) : rowOk sq2 sq3 i = true := by
  by_cases a0 : i < 50
  · exact rowAll_at _ _ rw3_0 i (by omega) (by omega)
  by_cases a1 : i < 100
  · exact rowAll_at _ _ rw3_1 i (by omega) (by omega)
  by_cases a2 : i < 150
  · exact rowAll_at _ _ rw3_2 i (by omega) (by omega)
  by_cases a3 : i < 200
  · exact rowAll_at _ _ rw3_3 i (by omega) (by omega)
  by_cases a4 : i < 250
  · exact rowAll_at _ _ rw3_4 i (by omega) (by omega)
  by_cases a5 : i < 300
  · exact rowAll_at _ _ rw3_5 i (by omega) (by omega)
  by_cases a6 : i < 350
  · exact rowAll_at _ _ rw3_6 i (by omega) (by omega)
  by_cases a7 : i < 400
  · exact rowAll_at _ _ rw3_7 i (by omega) (by omega)
  by_cases a8 : i < 450
  · exact rowAll_at _ _ rw3_8 i (by omega) (by omega)
  by_cases a9 : i < 500
  · exact rowAll_at _ _ rw3_9 i (by omega) (by omega)
  exact rowAll_at _ _ rw3_10 i (by omega) (by omega)
theorem sqr_3 : r_impl_squareCounts_L15 sq2 1 500 FU 0 (List.replicate 501 0) = some sq3 := row_is (by decide +kernel) (by decide +kernel) rw3_all
end Go.Proofs.Ytdffhgibkeifmaa
