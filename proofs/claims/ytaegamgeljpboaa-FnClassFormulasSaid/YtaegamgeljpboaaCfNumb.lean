/-
  Plain values of the small functions: whole numbers that fit, numbers, forms.
  Conditions: none.
-/
import Derived.Test.YtaegamgeljpboaaCfRaw
namespace Go.Proofs.Ytaegamgeljpboaa
set_option linter.unusedVariables false
set_option linter.unusedSimpArgs false

theorem w64_abs {n : Int} (h : n.natAbs ≤ 9223372036854775807) : w64 n = n := w64_in (by omega)
theorem abs_mul {x y : Int} {A B : Nat} (hx : x.natAbs ≤ A) (hy : y.natAbs ≤ B) : (x * y).natAbs ≤ A * B := by
  rw [Int.natAbs_mul]; exact Nat.mul_le_mul hx hy
theorem nz_ne {b : Int} (h : b ≠ 0) : nz b = some () := by
  unfold nz
  rw [eqI_eq]
  have : (b == 0) = false := by rw [beq_eq_false_iff_ne]; exact h
  rw [this]
  rfl
theorem eqI_false {a b : Int} (h : a ≠ b) : eqI a b = false := by rw [eqI_eq, beq_eq_false_iff_ne]; exact h
theorem eqI_true (a : Int) : eqI a a = true := by rw [eqI_eq]; exact beq_self_eq_true a
theorem FU_succ (k : Nat) (h : k ≤ 1000000) : k ≤ FU := Nat.le_trans h (by decide)
def inN (x : Int) : Bool := leI (-1000000) x && leI x 1000000
theorem inN_iff {x : Int} : inN x = true ↔ -1000000 ≤ x ∧ x ≤ 1000000 := by
  unfold inN
  rw [leI_eq, leI_eq]
  simp
end Go.Proofs.Ytaegamgeljpboaa
