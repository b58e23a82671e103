/-
  A class of positive forms has one reduced form.
  Conditions: none.
-/
import Derived.Test.YtnheekadeflecaaGreatUpDscRed
namespace Go.Proofs.YtnheekadeflecaaGreat
set_option linter.unusedVariables false
set_option linter.unusedSimpArgs false

theorem uq_mul {x y z : Int} (hx : 0 ≤ x) (h : y ≤ z) : x * y ≤ x * z := Int.mul_le_mul_of_nonneg_left h hx
/-- A reduced form's values off the first axis are no less than its last coefficient. -/
theorem uq_c {a b c x y : Int} (ha : 1 ≤ a) (hb1 : -a ≤ b) (hb2 : b ≤ a) (hc : a ≤ c) (hy : y ≠ 0) : c ≤ a * x * x + b * x * y + c * y * y := by
  have key : ∀ x y : Int, 0 ≤ x → 1 ≤ y → ∀ b, -a ≤ b → b ≤ a → c ≤ a * x * x + b * x * y + c * y * y := by
    intro x y hx hy b hb1 hb2
    have hxy : 0 ≤ x * y := Int.mul_nonneg hx (by omega)
    have h1 : -(a * (x * y)) ≤ b * (x * y) := by
      have : (-a) * (x * y) ≤ b * (x * y) := Int.mul_le_mul_of_nonneg_right hb1 hxy
      have e : (-a) * (x * y) = -(a * (x * y)) := Int.neg_mul ..
      omega
    have e1 : a * x * x + b * x * y + c * y * y = a * (x * x) + b * (x * y) + c * (y * y) := by grind
    rw [e1]
    rcases Int.le_total y x with h | h
    · have h2 : a * (x * y) ≤ a * (x * x) := uq_mul (by omega) (uq_mul hx h)
      have h3 : c * (1 * 1) ≤ c * (y * y) := uq_mul (by omega) (Int.mul_le_mul hy hy (by omega) (by omega))
      omega
    · by_cases h0 : x = 0
      · subst h0
        have h3 : c * (1 * 1) ≤ c * (y * y) := uq_mul (by omega) (Int.mul_le_mul hy hy (by omega) (by omega))
        simp only [Int.zero_mul, Int.mul_zero] at *
        omega
      · have h2 : a * (x * (y - x)) ≤ c * (x * (y - x)) := Int.mul_le_mul_of_nonneg_right hc (Int.mul_nonneg hx (by omega))
        have h4 : x * (y - x) ≤ (y - 1) * y := by
          rcases Int.lt_or_le x y with h5 | h5
          · have : x * (y - x) ≤ (y - 1) * (y - x) := Int.mul_le_mul_of_nonneg_right (by omega) (by omega)
            have : (y - 1) * (y - x) ≤ (y - 1) * y := uq_mul (by omega) (by omega)
            omega
          · have e : y - x = 0 := by omega
            rw [e, Int.mul_zero]
            exact Int.mul_nonneg (by omega) (by omega)
        have h6 : c * (x * (y - x)) ≤ c * ((y - 1) * y) := uq_mul (by omega) h4
        have e2 : a * (x * (y - x)) = a * (x * y) - a * (x * x) := by grind
        have e3 : c * ((y - 1) * y) = c * (y * y) - c * y := by grind
        have h7 : c * 1 ≤ c * y := uq_mul (by omega) hy
        omega
  have e2 : a * x * x + b * x * y + c * y * y = a * (-x) * (-x) + (-b) * (-x) * y + c * y * y := by grind
  have e3 : a * x * x + b * x * y + c * y * y = a * x * x + (-b) * x * (-y) + c * (-y) * (-y) := by grind
  have e4 : a * x * x + b * x * y + c * y * y = a * (-x) * (-x) + b * (-x) * (-y) + c * (-y) * (-y) := by grind
  rcases Int.lt_or_le 0 y with h1 | h1 <;> rcases Int.le_total 0 x with h2 | h2
  · exact key x y h2 h1 b hb1 hb2
  · rw [e2]; exact key (-x) y (by omega) h1 (-b) (by omega) (by omega)
  · rw [e3]; exact key x (-y) h2 (by omega) (-b) (by omega) (by omega)
  · rw [e4]; exact key (-x) (-y) (by omega) (by omega) b hb1 hb2
theorem uq_a {a b c x y : Int} (ha : 1 ≤ a) (hb1 : -a ≤ b) (hb2 : b ≤ a) (hc : a ≤ c) (h : x ≠ 0 ∨ y ≠ 0) : a ≤ a * x * x + b * x * y + c * y * y := by
  by_cases hy : y = 0
  · subst hy
    have hx : x ≠ 0 := by omega
    have h1 : 1 ≤ x * x := by
      have h2 : 0 < x * x := by
        rcases Int.lt_or_le 0 x with h3 | h3
        · exact Int.mul_pos h3 h3
        · exact Int.mul_pos_of_neg_of_neg (by omega) (by omega)
      omega
    have h2 : a * 1 ≤ a * (x * x) := uq_mul (by omega) h1
    have e : a * x * x + b * x * 0 + c * 0 * 0 = a * (x * x) := by grind
    omega
  · have := uq_c (x := x) ha hb1 hb2 hc hy
    omega
/-- Two reduced forms of one class are equal. -/
theorem uq_a2 {a b c a' b' c' p q r s : Int} (ha : 1 ≤ a) (h1 : IsRed a b c) (ha' : 1 ≤ a') (h2 : IsRed a' b' c') (hdet : p * s - q * r = 1) (e1 : a' = a * p * p + b * p * r + c * r * r) : a ≤ a' ∧ (r ≠ 0 → c ≤ a') := by
  obtain ⟨⟨i1, i2⟩, i3⟩ := h1
  have hac : a ≤ c := by omega
  have hpr : p ≠ 0 ∨ r ≠ 0 := by
    rcases Decidable.em (p = 0) with h | h
    · right
      intro hr
      rw [h, hr] at hdet
      simp at hdet
    · exact .inl h
  refine ⟨by rw [e1]; exact uq_a ha (by omega) i2 hac hpr, fun hr => by rw [e1]; exact uq_c ha (by omega) i2 hac hr⟩
theorem red_uniq {a b c a' b' c' p q r s : Int} (ha : 1 ≤ a) (h1 : IsRed a b c) (ha' : 1 ≤ a') (h2 : IsRed a' b' c') (hdet : p * s - q * r = 1) (e1 : a' = a * p * p + b * p * r + c * r * r) (e2 : b' = 2 * a * p * q + b * (p * s + q * r) + 2 * c * r * s) (e3 : c' = a * q * q + b * q * s + c * s * s) : a = a' ∧ b = b' ∧ c = c' := by
  have f1 : a = a' * s * s + b' * s * (-r) + c' * (-r) * (-r) := by rw [e1, e2, e3]; grind
  have hdet2 : s * p - (-q) * (-r) = 1 := by grind
  obtain ⟨k1, k2⟩ := uq_a2 ha h1 ha' h2 hdet e1
  obtain ⟨k3, k4⟩ := uq_a2 ha' h2 ha h1 hdet2 f1
  have hd : b * b - 4 * a * c = b' * b' - 4 * a' * c' := by rw [e1, e2, e3]; grind
  have haa : a = a' := by omega
  obtain ⟨⟨i1, i2⟩, i3⟩ := h1
  obtain ⟨⟨j1, j2⟩, j3⟩ := h2
  have fin : b = b' → a = a' ∧ b = b' ∧ c = c' := by
    intro hb
    refine ⟨haa, hb, ?_⟩
    subst haa hb
    have : 4 * a * c = 4 * a * c' := by omega
    exact Int.eq_of_mul_eq_mul_left (by omega) this
  by_cases hr : r = 0
  · subst hr
    have hps : p * s = 1 := by omega
    have hd1 : p.natAbs ∣ 1 := ⟨s.natAbs, by rw [← Int.natAbs_mul, hps]; rfl⟩
    have hp : p = 1 ∨ p = -1 := by have := Nat.dvd_one.1 hd1; omega
    have small : ∀ t : Int, -(2 * a) < 2 * a * t → 2 * a * t < 2 * a → t = 0 := by
      intro t h3 h4
      rcases Int.lt_trichotomy t 0 with h | h | h
      · have : 2 * a * t ≤ 2 * a * (-1) := uq_mul (by omega) (by omega)
        omega
      · exact h
      · have : 2 * a * 1 ≤ 2 * a * t := uq_mul (by omega) (by omega)
        omega
    rcases hp with h | h
    · subst h
      have hs : s = 1 := by omega
      subst hs
      have e4 : b' = 2 * a * q + b := by rw [e2]; grind
      have hq := small q (by omega) (by omega)
      rw [hq] at e4
      exact fin (by omega)
    · subst h
      have hs : s = -1 := by omega
      subst hs
      have e4 : b' = 2 * a * (-q) + b := by rw [e2]; grind
      have hq := small (-q) (by omega) (by omega)
      rw [hq] at e4
      exact fin (by omega)
  · have m1 := k2 hr
    have m2 := k4 (by omega)
    have hcc : c = c' := by omega
    subst haa hcc
    have hb : b = b' := by
      have hsq : (b - b') * (b + b') = 0 := by grind
      rcases Int.mul_eq_zero.1 hsq with h | h <;> omega
    exact fin hb
end Go.Proofs.YtnheekadeflecaaGreat
