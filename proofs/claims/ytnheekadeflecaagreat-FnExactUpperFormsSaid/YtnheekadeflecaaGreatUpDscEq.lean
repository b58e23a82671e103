/-
  The functions of the reference and of the program for reducing a form compute the same.
  Conditions: none.
-/
import Derived.Test.YtnheekadeflecaaGreatUpRaw
namespace Go.Proofs.YtnheekadeflecaaGreat
set_option linter.unusedVariables false
set_option linter.unusedSimpArgs false

theorem dsc_value : r_spec_foValue = r_impl_Form_at := rfl
theorem dsc_polar : r_spec_foPolar = r_impl_Form_polar := rfl
theorem dsc_act : r_spec_foAct = r_impl_Form_substitute := rfl
theorem dsc_mul : r_spec_foMul = r_impl_Matrix_times := rfl
theorem dsc_is (f : Int × Int × Int) : r_spec_reIs f = r_impl_Form_isReduced f := by
  simp only [r_spec_reIs, r_impl_Form_isReduced, r_impl_Form_isNormal, Option.bind_some]
theorem dsc_mod (a m : Int) : r_spec_nuMod a m = r_impl_mod a m := by
  simp only [r_spec_nuMod, r_impl_mod, sI_eq]
theorem dsc_floor (a m : Int) : ((r_spec_nuMod a m).bind fun y2 => (nz m).bind fun _ => sI (w64 (Int.tdiv (w64 (a - y2)) m)) fun t4 => some t4) = r_impl_floorDiv a m := by
  simp only [r_impl_floorDiv, dsc_mod]
theorem dsc_normal (f : Int × Int × Int) : r_spec_reNormal f = r_impl_floorDiv (w64 (f.1 - f.2.1)) (w64 (2 * f.1)) := dsc_floor _ _
theorem tmod_neg {a m : Int} (hm : 1 ≤ m) (h : a.tmod m < 0) : a.tmod m + m = a % m := by
  have e := Int.tmod_eq_emod (a := a) (b := m)
  have h1 := Int.emod_nonneg a (b := m) (by omega)
  have h2 := Int.emod_lt_of_pos a (b := m) (by omega)
  split at e <;> omega
theorem tmod_pos {a m : Int} (hm : 1 ≤ m) (h : 0 ≤ a.tmod m) : a.tmod m = a % m := by
  have e := Int.tmod_eq_emod (a := a) (b := m)
  have h1 := Int.emod_nonneg a (b := m) (by omega)
  have h2 := Int.emod_lt_of_pos a (b := m) (by omega)
  split at e <;> omega
theorem dsc_mod_val {a m : Int} (h1 : 1 ≤ m) (h2 : m ≤ 9223372036854775807) : r_impl_mod a m = some (a % m) := by
  have h3 := Int.emod_nonneg a (b := m) (by omega)
  have h4 := Int.emod_lt_of_pos a (b := m) (by omega)
  have hz : nz m = some () := by
    unfold nz
    rw [eqI_eq]
    have : (m == 0) = false := by rw [beq_eq_false_iff_ne]; omega
    rw [this]
    rfl
  simp only [r_impl_mod, hz, Option.bind_some, sI_eq, ltI_eq]
  by_cases h : a.tmod m < 0
  · rw [decide_eq_true h, cond_true, tmod_neg h1 h, w64_in (by omega)]
  · rw [decide_eq_false h, cond_false, tmod_pos h1 (by omega)]
theorem dsc_floor_val {a m : Int} (h1 : 1 ≤ m) (h2 : m ≤ 4611686018427387904) (h3 : -4611686018427387904 ≤ a) (h4 : a ≤ 4611686018427387904) : r_impl_floorDiv a m = some (a / m) := by
  have e1 := Int.emod_nonneg a (b := m) (by omega)
  have e2 := Int.emod_lt_of_pos a (b := m) (by omega)
  have hz : nz m = some () := by
    unfold nz
    rw [eqI_eq]
    have : (m == 0) = false := by rw [beq_eq_false_iff_ne]; omega
    rw [this]
    rfl
  have e3 : a - a % m = m * (a / m) := by have := Int.emod_add_mul_ediv a m; omega
  have e4 : Int.tdiv (a - a % m) m = a / m := by rw [e3]; exact Int.mul_tdiv_cancel_left _ (by omega)
  have e5 : a / m ≤ 4611686018427387904 ∧ -4611686018427387904 ≤ a / m := by
    constructor
    · rcases Int.lt_or_le a 0 with h | h
      · have := Int.ediv_neg_of_neg_of_pos h (show 0 < m by omega); omega
      · have := Int.ediv_le_self m h; omega
    · have := Int.le_ediv_of_mul_le (c := m) (a := -4611686018427387904) (b := a) (by omega) (by
        have : -4611686018427387904 * m ≤ -4611686018427387904 := by omega
        omega)
      omega
  simp only [r_impl_floorDiv, dsc_mod_val h1 (by omega), hz, Option.bind_some, sI_eq]
  rw [w64_in (n := a - a % m) (by omega), e4, w64_in (by omega)]
/-- A form that is not reduced: both take the same step. -/
theorem dsc_step {a b c : Int} (ha : 1 ≤ a) (haM : a ≤ 2000000) (hb1 : -2000000 ≤ b) (hb2 : b ≤ 2000000) (hr : r_impl_Form_isReduced (a, b, c) = some false) : r_spec_reMove (a, b, c) = r_impl_Form_step (a, b, c) := by
  have hf := dsc_floor_val (a := a - b) (m := 2 * a) (by omega) (by omega) (by omega) (by omega)
  have hn : r_impl_Form_isNormal (a, b, c) = some (decide (-a < b ∧ b ≤ a)) := by
    simp only [r_impl_Form_isNormal, Option.bind_some, ltI_eq, leI_eq]
    rw [w64_in (by omega)]
    by_cases h1 : -a < b <;> by_cases h2 : b ≤ a <;> simp [h1, h2]
    all_goals omega
  have hq : (a - b) / (2 * a) = 0 ↔ (-a < b ∧ b ≤ a) := by
    constructor
    · intro h
      have h1 := Int.emod_add_mul_ediv (a - b) (2 * a)
      have h2 := Int.emod_nonneg (a - b) (b := 2 * a) (by omega)
      have h3 := Int.emod_lt_of_pos (a - b) (b := 2 * a) (by omega)
      rw [h] at h1
      omega
    · rintro ⟨h1, h2⟩
      exact Int.ediv_eq_zero_of_lt (by omega) (by omega)
  simp only [r_spec_reMove, r_impl_Form_step, dsc_normal, dsc_is, hr, Option.bind_some, hn]
  rw [w64_in (n := a - b) (by omega), w64_in (n := 2 * a) (by omega), hf]
  simp only [Option.bind_some, cond_false, eqI_eq]
  by_cases h : (a - b) / (2 * a) = 0
  · have h2 := hq.1 h
    simp [h, h2]
  · have h2 : ¬ (-a < b ∧ b ≤ a) := fun x => h (hq.2 x)
    have h3 : ((a - b) / (2 * a) == 0) = false := by rw [beq_eq_false_iff_ne]; exact h
    simp [h3, h2]
theorem w64_abs {n : Int} (h : n.natAbs ≤ 9223372036854775807) : w64 n = n := w64_in (by omega)
theorem abs_mul {x y : Int} {A B : Nat} (hx : x.natAbs ≤ A) (hy : y.natAbs ≤ B) : (x * y).natAbs ≤ A * B := by
  rw [Int.natAbs_mul]; exact Nat.mul_le_mul hx hy
theorem dsc_act_swap {a b c : Int} (ha : a.natAbs ≤ 2000000) (hb : b.natAbs ≤ 2000000) (hc : c.natAbs ≤ 2000000) : r_impl_Form_substitute (a, b, c) (0, -1, 1, 0) = some (c, -b, a) := by
  simp only [r_impl_Form_substitute, r_impl_Form_at, r_impl_Form_polar, sI_eq, Option.bind_some, Int.mul_zero, Int.zero_mul, Int.mul_one, Int.add_zero, Int.zero_add, Int.one_mul]
  rw [show w64 0 = 0 from rfl]
  simp only [Int.mul_zero, Int.zero_mul, Int.mul_one, Int.add_zero, Int.zero_add, Int.one_mul]
  rw [show w64 0 = 0 from rfl]
  simp only [Int.mul_zero, Int.zero_mul, Int.mul_one, Int.add_zero, Int.zero_add, Int.one_mul, Int.mul_neg, Int.neg_mul, Int.neg_neg]
  have e1 : w64 c = c := w64_abs (by omega)
  have e2 : w64 (-1) = -1 := rfl
  have e3 : w64 a = a := w64_abs (by omega)
  have e4 : w64 (-a) = -a := w64_abs (by omega)
  have e5 : w64 (-b) = -b := w64_abs (by omega)
  simp only [e1, e2, e3, e4, e5, Int.mul_neg, Int.neg_mul, Int.neg_neg, Int.mul_one, Int.one_mul, Int.add_zero, Int.zero_add, show w64 0 = 0 from rfl]
theorem dsc_act_norm {a b c s : Int} (ha : a.natAbs ≤ 2000000) (hb : b.natAbs ≤ 2000000) (hc : c.natAbs ≤ 2000000) (hs : s.natAbs ≤ 2000000) : r_impl_Form_substitute (a, b, c) (1, s, 0, 1) = some (a, 2 * a * s + b, a * s * s + b * s + c) := by
  have m1 := abs_mul ha hs
  have m2 := abs_mul hb hs
  have m3 := abs_mul m1 hs
  have m4 : (2 * a * s).natAbs ≤ 2 * 2000000 * 2000000 := abs_mul (abs_mul (x := 2) (A := 2) (by decide) ha) hs
  simp only [r_impl_Form_substitute, r_impl_Form_at, r_impl_Form_polar, sI_eq, Option.bind_some, Int.mul_zero, Int.zero_mul, Int.mul_one, Int.add_zero, Int.zero_add, Int.one_mul]
  have z : w64 0 = 0 := rfl
  have o : w64 1 = 1 := rfl
  have e1 : w64 c = c := w64_abs (by omega)
  have e3 : w64 a = a := w64_abs (by omega)
  have e4 : w64 b = b := w64_abs (by omega)
  have e5 : w64 (2 * a) = 2 * a := w64_abs (by omega)
  have e6 : w64 (2 * a * s) = 2 * a * s := w64_abs (by omega)
  have e7 : w64 (a * s) = a * s := w64_abs (by omega)
  have e8 : w64 (a * s * s) = a * s * s := w64_abs (by omega)
  have e9 : w64 (b * s) = b * s := w64_abs (by omega)
  have e10 : w64 (a * s * s + b * s) = a * s * s + b * s := w64_abs (by omega)
  have e11 : w64 (a * s * s + b * s + c) = a * s * s + b * s + c := w64_abs (by omega)
  have e12 : w64 (2 * a * s + b) = 2 * a * s + b := w64_abs (by omega)
  simp only [z, o, e1, e3, e4, e5, e6, e7, e8, e9, e10, e11, e12, Int.mul_one, Int.one_mul, Int.add_zero, Int.zero_add, Int.mul_zero, Int.zero_mul]
end Go.Proofs.YtnheekadeflecaaGreat
