/-
  The functions of the reference and of the program for reducing a form compute the same.
  Conditions: none.
-/
import Derived.Test.YtnifkkihamgmaaaDoorPcRaw
namespace Go.Proofs.YtnifkkihamgmaaaDoor
set_option linter.unusedVariables false
set_option linter.unusedSimpArgs false

theorem dsc_mod (a m : Int) : r_spec_nuMod a m = r_impl_mod a m := by
  simp only [r_spec_nuMod, r_impl_mod, sI_eq]
theorem tmod_neg {a m : Int} (hm : 1 ≤ m) (h : a.tmod m < 0) : a.tmod m + m = a % m := by
  have e := Int.tmod_eq_emod (a := a) (b := m)
  have h1 := Int.emod_nonneg a (b := m) (by omega)
  have h2 := Int.emod_lt_of_pos a (b := m) (by omega)
  split at e <;> omega
theorem tmod_pos {a m : Int} (hm : 1 ≤ m) (h : 0 ≤ a.tmod m) : a.tmod m = a % m := by
  have e := Int.tmod_eq_emod (a := a) (b := m)
  have h1 := Int.emod_nonneg a (b := m) (by omega)
  have h2 := Int.emod_lt_of_pos a (b := m) (by omega)
  split at e <;> omega
theorem dsc_mod_val {a m : Int} (h1 : 1 ≤ m) (h2 : m ≤ 9223372036854775807) : r_impl_mod a m = some (a % m) := by
  have h3 := Int.emod_nonneg a (b := m) (by omega)
  have h4 := Int.emod_lt_of_pos a (b := m) (by omega)
  have hz : nz m = some () := by
    unfold nz
    rw [eqI_eq]
    have : (m == 0) = false := by rw [beq_eq_false_iff_ne]; omega
    rw [this]
    rfl
  simp only [r_impl_mod, hz, Option.bind_some, sI_eq, ltI_eq]
  by_cases h : a.tmod m < 0
  · rw [decide_eq_true h, cond_true, tmod_neg h1 h, w64_in (by omega)]
  · rw [decide_eq_false h, cond_false, tmod_pos h1 (by omega)]
theorem w64_abs {n : Int} (h : n.natAbs ≤ 9223372036854775807) : w64 n = n := w64_in (by omega)
theorem abs_mul {x y : Int} {A B : Nat} (hx : x.natAbs ≤ A) (hy : y.natAbs ≤ B) : (x * y).natAbs ≤ A * B := by
  rw [Int.natAbs_mul]; exact Nat.mul_le_mul hx hy
end Go.Proofs.YtnifkkihamgmaaaDoor
