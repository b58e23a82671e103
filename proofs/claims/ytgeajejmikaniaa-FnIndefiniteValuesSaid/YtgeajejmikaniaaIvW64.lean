/-
  Sums and products of 64-bit whole numbers are those of the whole numbers, wrapped once.
  Conditions: none.
-/
import Derived.Test.YtgeajejmikaniaaIvDscBas
namespace Go.Proofs.Ytgeajejmikaniaa
set_option linter.unusedVariables false
set_option linter.unusedSimpArgs false

def bv (x : Int) : BitVec 64 := BitVec.ofInt 64 x
theorem w64_bv (x : Int) : w64 x = (bv x).toInt := by
  rw [w64_eq, bv, BitVec.toInt_ofInt, IntKind.wrap_i64, Int.bmod_def]
  omega
theorem bv_w64 (x : Int) : bv (w64 x) = bv x := by
  rw [w64_bv]
  unfold bv
  rw [BitVec.ofInt_toInt]
theorem w64_congr {x y : Int} (h : bv x = bv y) : w64 x = w64 y := by rw [w64_bv, w64_bv, h]
theorem bv_add (x y : Int) : bv (x + y) = bv x + bv y := BitVec.ofInt_add x y
theorem bv_mul (x y : Int) : bv (x * y) = bv x * bv y := BitVec.ofInt_mul x y
theorem bv_neg (x : Int) : bv (-x) = -bv x := BitVec.ofInt_neg
theorem bv_sub (x y : Int) : bv (x - y) = bv x - bv y := by
  rw [Int.sub_eq_add_neg, bv_add]
  unfold bv
  rw [BitVec.ofInt_neg, BitVec.sub_eq_add_neg]
theorem wml (x y : Int) : w64 (w64 x * y) = w64 (x * y) := w64_congr (by rw [bv_mul, bv_mul, bv_w64])
theorem wmr (x y : Int) : w64 (x * w64 y) = w64 (x * y) := w64_congr (by rw [bv_mul, bv_mul, bv_w64])
theorem wal (x y : Int) : w64 (w64 x + y) = w64 (x + y) := w64_congr (by rw [bv_add, bv_add, bv_w64])
theorem war (x y : Int) : w64 (x + w64 y) = w64 (x + y) := w64_congr (by rw [bv_add, bv_add, bv_w64])
theorem wsl (x y : Int) : w64 (w64 x - y) = w64 (x - y) := w64_congr (by rw [bv_sub, bv_sub, bv_w64])
theorem wsr (x y : Int) : w64 (x - w64 y) = w64 (x - y) := w64_congr (by rw [bv_sub, bv_sub, bv_w64])
theorem at_w (a b c x y : Int) : r_impl_Form_at (a, b, c) x y = some (w64 (a * x * x + b * x * y + c * y * y)) := by
  simp only [r_impl_Form_at, sI_eq, wml, wmr, wal, war, wsl, wsr]
theorem times_w (p q r s p' q' r' s' : Int) : r_impl_Matrix_times (p, q, r, s) (p', q', r', s') = some (w64 (p * p' + q * r'), w64 (p * q' + q * s'), w64 (r * p' + s * r'), w64 (r * q' + s * s')) := by
  simp only [r_impl_Matrix_times, sI_eq, wml, wmr, wal, war, wsl, wsr]
theorem disc_w (a b c : Int) : r_impl_Form_disc (a, b, c) = some (w64 (b * b - 4 * a * c)) := by
  simp only [r_impl_Form_disc, sI_eq, wml, wmr, wal, war, wsl, wsr]
end Go.Proofs.Ytgeajejmikaniaa
