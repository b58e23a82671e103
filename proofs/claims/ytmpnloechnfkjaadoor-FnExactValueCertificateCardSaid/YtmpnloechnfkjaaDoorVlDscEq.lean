/-
  The functions of the reference and of the program for reducing a form compute the same.
  Conditions: none.
-/
import Derived.Test.YtmpnloechnfkjaaDoorVlRaw
namespace Go.Proofs.YtmpnloechnfkjaaDoor
set_option linter.unusedVariables false
set_option linter.unusedSimpArgs false

theorem tmod_neg {a m : Int} (hm : 1 ≤ m) (h : a.tmod m < 0) : a.tmod m + m = a % m := by
  have e := Int.tmod_eq_emod (a := a) (b := m)
  have h1 := Int.emod_nonneg a (b := m) (by omega)
  have h2 := Int.emod_lt_of_pos a (b := m) (by omega)
  split at e <;> omega
theorem tmod_pos {a m : Int} (hm : 1 ≤ m) (h : 0 ≤ a.tmod m) : a.tmod m = a % m := by
  have e := Int.tmod_eq_emod (a := a) (b := m)
  have h1 := Int.emod_nonneg a (b := m) (by omega)
  have h2 := Int.emod_lt_of_pos a (b := m) (by omega)
  split at e <;> omega
theorem w64_abs {n : Int} (h : n.natAbs ≤ 9223372036854775807) : w64 n = n := w64_in (by omega)
theorem abs_mul {x y : Int} {A B : Nat} (hx : x.natAbs ≤ A) (hy : y.natAbs ≤ B) : (x * y).natAbs ≤ A * B := by
  rw [Int.natAbs_mul]; exact Nat.mul_le_mul hx hy
end Go.Proofs.YtmpnloechnfkjaaDoor
