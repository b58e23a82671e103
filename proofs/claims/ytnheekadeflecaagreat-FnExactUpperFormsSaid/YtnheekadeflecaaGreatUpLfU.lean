/-
  Where a prime may rise.
  Conditions: none.
-/
import Derived.Test.YtnheekadeflecaaGreatUpDscRed
namespace Go.Proofs.YtnheekadeflecaaGreat
set_option linter.unusedVariables false
set_option linter.unusedSimpArgs false
set_option maxRecDepth 100000

theorem up_val {d p : Int} (h : w64 (w64 (d * p) * p) = d * p * p) : r_impl_isNegativeDisc (w64 (w64 (d * p) * p)) = some (decide (-2000 ≤ d * p * p ∧ d * p * p ≤ -3 ∧ d * p * p % 4 ≤ 1)) := by
  rw [h, negdisc_val]
theorem lf_cases (d p : Int) (hd : -2000 ≤ d ∧ d ≤ -3 ∧ d % 4 ≤ 1) : (r_spec_odUp d p = some false ∧ r_impl_canRise d p = some false) ∨ (r_spec_odUp d p = some true ∧ r_impl_canRise d p = some true ∧ r_impl_isPrime p = some true ∧ w64 (w64 (d * p) * p) = d * p * p ∧ 2 ≤ p ∧ p ≤ 25 ∧ -2000 ≤ d * p * p) := by
  simp only [r_spec_odUp, negdisc_eq, negdisc_val d, Option.bind_some]
  rw [decide_eq_true hd]
  simp only [cond_true, Bool.not_true, cond_false, r_spec_odPrime, r_spec_l1In, prime_eq, r_impl_canRise, r_impl_IsPrime, num_val _ (show [p].length < 1000000 by simp), List.all_cons, List.all_nil, Bool.and_true, Option.bind_some, inN, leI_eq]
  by_cases h0 : p < 2
  · have e1 : ¬ (2 ≤ p) := by omega
    have e2 : r_impl_isPrime p = some false := by simp only [r_impl_isPrime, ltI_eq, decide_eq_true h0, cond_true]
    left
    rw [decide_eq_false e1, e2]
    constructor
    · rfl
    · cases (decide (-1000000 ≤ p) && decide (p ≤ 1000000)) <;> rfl
  · by_cases h1 : 1000000 < p
    · have e1 : ¬ (p ≤ 1000) := by omega
      have e2 : ¬ (p ≤ 1000000) := by omega
      left
      constructor <;> simp [e1, e2]
    · obtain ⟨q, hq⟩ := prime_some p (by omega)
      rw [hq, decide_eq_true (show 2 ≤ p by omega), decide_eq_true (show -1000000 ≤ p by omega), decide_eq_true (show p ≤ 1000000 by omega)]
      cases q with
      | false => left; constructor <;> simp
      | true =>
        by_cases h2 : p ≤ 2000
        · have m1 := abs_mul (x := d) (y := p) (A := 2000) (B := 2000) (by omega) (by omega)
          have m2 := abs_mul (x := d * p) (y := p) (A := 2000 * 2000) (B := 2000) m1 (by omega)
          have hw : w64 (w64 (d * p) * p) = d * p * p := by rw [w64_abs (n := d * p) (by omega), w64_abs (by omega)]
          rw [up_val hw]
          by_cases h3 : -2000 ≤ d * p * p
          · have h4 : p ≤ 25 := by
              by_cases h4 : p ≤ 25
              · exact h4
              · have k1 : 26 * 26 ≤ p * p := Int.mul_le_mul (by omega) (by omega) (by omega) (by omega)
                have k2 : 3 * (p * p) ≤ (-d) * (p * p) := Int.mul_le_mul_of_nonneg_right (by omega) (by omega)
                have k3 : (-d) * (p * p) = -(d * p * p) := by grind
                omega
            rw [decide_eq_true (show p ≤ 1000 by omega), decide_eq_true (show p ≤ 2000 by omega)]
            cases decide (-2000 ≤ d * p * p ∧ d * p * p ≤ -3 ∧ d * p * p % 4 ≤ 1) with
            | false => left; constructor <;> rfl
            | true => right; exact ⟨rfl, rfl, rfl, hw, by omega, h4, h3⟩
          · left
            rw [decide_eq_false (show ¬ (-2000 ≤ d * p * p ∧ d * p * p ≤ -3 ∧ d * p * p % 4 ≤ 1) by omega)]
            constructor
            · cases decide (p ≤ 1000) <;> rfl
            · cases decide (p ≤ 2000) <;> rfl
        · left
          rw [decide_eq_false (show ¬ (p ≤ 1000) by omega), decide_eq_false h2]
          constructor <;> rfl
end Go.Proofs.YtnheekadeflecaaGreat
