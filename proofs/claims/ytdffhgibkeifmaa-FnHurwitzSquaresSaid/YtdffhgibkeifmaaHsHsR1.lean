/-
  Round 1 of the sums of squares up to 500, worked out entry by entry.
  Conditions: none.
-/
import Derived.Test.YtdffhgibkeifmaaHsHsT0
import Derived.Test.YtdffhgibkeifmaaHsHsF
namespace Go.Proofs.Ytdffhgibkeifmaa
set_option maxRecDepth 100000

theorem rw1_0 : rowAll ((List.replicate 501 (0 : Int)).set 0 1) sq1 50 0 = true := by decide +kernel
theorem rw1_1 : rowAll ((List.replicate 501 (0 : Int)).set 0 1) sq1 50 50 = true := by decide +kernel
theorem rw1_2 : rowAll ((List.replicate 501 (0 : Int)).set 0 1) sq1 50 100 = true := by decide +kernel
theorem rw1_3 : rowAll ((List.replicate 501 (0 : Int)).set 0 1) sq1 50 150 = true := by decide +kernel
theorem rw1_4 : rowAll ((List.replicate 501 (0 : Int)).set 0 1) sq1 50 200 = true := by decide +kernel
theorem rw1_5 : rowAll ((List.replicate 501 (0 : Int)).set 0 1) sq1 50 250 = true := by decide +kernel
theorem rw1_6 : rowAll ((List.replicate 501 (0 : Int)).set 0 1) sq1 50 300 = true := by decide +kernel
theorem rw1_7 : rowAll ((List.replicate 501 (0 : Int)).set 0 1) sq1 50 350 = true := by decide +kernel
theorem rw1_8 : rowAll ((List.replicate 501 (0 : Int)).set 0 1) sq1 50 400 = true := by decide +kernel
theorem rw1_9 : rowAll ((List.replicate 501 (0 : Int)).set 0 1) sq1 50 450 = true := by decide +kernel
theorem rw1_10 : rowAll ((List.replicate 501 (0 : Int)).set 0 1) sq1 1 500 = true := by decide +kernel
theorem rw1_all (i : Nat) (h : i ≤ 500) : rowOk ((List.replicate 501 (0 : Int)).set 0 1) sq1 i = true := by
  by_cases a0 : i < 50
  · exact rowAll_at _ _ rw1_0 i (by omega) (by omega)
  by_cases a1 : i < 100
  · exact rowAll_at _ _ rw1_1 i (by omega) (by omega)
  by_cases a2 : i < 150
  · exact rowAll_at _ _ rw1_2 i (by omega) (by omega)
  by_cases a3 : i < 200
  · exact rowAll_at _ _ rw1_3 i (by omega) (by omega)
  by_cases a4 : i < 250
  · exact rowAll_at _ _ rw1_4 i (by omega) (by omega)
  by_cases a5 : i < 300
  · exact rowAll_at _ _ rw1_5 i (by omega) (by omega)
  by_cases a6 : i < 350
  · exact rowAll_at _ _ rw1_6 i (by omega) (by omega)
  by_cases a7 : i < 400
  · exact rowAll_at _ _ rw1_7 i (by omega) (by omega)
  by_cases a8 : i < 450
  · exact rowAll_at _ _ rw1_8 i (by omega) (by omega)
  by_cases a9 : i < 500
  · exact rowAll_at _ _ rw1_9 i (by omega) (by omega)
  exact rowAll_at _ _ rw1_10 i (by omega) (by omega)
theorem sqr_1 : r_impl_squareCounts_L15 ((List.replicate 501 (0 : Int)).set 0 1) 3 500 FU 0 (List.replicate 501 0) = some sq1 := row_is (by decide +kernel) (by decide +kernel) rw1_all
end Go.Proofs.Ytdffhgibkeifmaa
