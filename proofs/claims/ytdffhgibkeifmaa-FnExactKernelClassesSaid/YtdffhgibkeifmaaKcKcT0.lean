/-
  Where a prime may rise, and how the kernel classes are worked out.
  Conditions: none.
-/
import Derived.Test.YtdffhgibkeifmaaKcKcBas
namespace Go.Proofs.Ytdffhgibkeifmaa
set_option linter.unusedVariables false
set_option linter.unusedSimpArgs false
set_option maxRecDepth 100000

theorem up_false {d p : Int} (h : w64 (w64 (d * p) * p) = d * p * p) (hb : d * p * p < -2000) : r_impl_isNegativeDisc (w64 (w64 (d * p) * p)) = some false := by
  rw [h, negdisc_val, decide_eq_false (by omega)]
theorem kc_cases (d p : Int) : (r_spec_odUp d p = some false ∧ ((r_impl_isNegativeDisc d).bind fun y3 => (bif (!y3) then some true else ((r_impl_canRise d p).bind fun y5 => some (!y5)))) = some true) ∨ (-2000 ≤ d ∧ d ≤ -3 ∧ 2 ≤ p ∧ p ≤ 25 ∧ -2000 ≤ d * p * p) := by
  simp only [r_spec_odUp, negdisc_eq, negdisc_val d, Option.bind_some]
  by_cases hd : -2000 ≤ d ∧ d ≤ -3 ∧ d % 4 ≤ 1
  · rw [decide_eq_true hd]
    simp only [cond_true, Bool.not_true, cond_false, r_spec_odPrime, r_spec_l1In, prime_eq, r_impl_canRise, r_impl_IsPrime, num_val _ (show [p].length < 1000000 by simp), List.all_cons, List.all_nil, Bool.and_true, Option.bind_some, inN, leI_eq]
    by_cases h0 : p < 2
    · have e1 : ¬ (2 ≤ p) := by omega
      have e2 : r_impl_isPrime p = some false := by simp only [r_impl_isPrime, ltI_eq, decide_eq_true h0, cond_true]
      left
      rw [decide_eq_false e1, e2]
      constructor
      · rfl
      · cases (decide (-1000000 ≤ p) && decide (p ≤ 1000000)) <;> rfl
    · by_cases h1 : 1000000 < p
      · have e1 : ¬ (p ≤ 1000) := by omega
        have e2 : ¬ (p ≤ 1000000) := by omega
        left
        constructor <;> simp [e1, e2]
      · obtain ⟨q, hq⟩ := prime_some p (by omega)
        rw [hq, decide_eq_true (show 2 ≤ p by omega), decide_eq_true (show -1000000 ≤ p by omega), decide_eq_true (show p ≤ 1000000 by omega)]
        cases q with
        | false => left; constructor <;> simp
        | true =>
          by_cases h2 : p ≤ 2000
          · have m1 := abs_mul (x := d) (y := p) (A := 2000) (B := 2000) (by omega) (by omega)
            have m2 := abs_mul (x := d * p) (y := p) (A := 2000 * 2000) (B := 2000) m1 (by omega)
            have hw : w64 (w64 (d * p) * p) = d * p * p := by rw [w64_abs (n := d * p) (by omega), w64_abs (by omega)]
            by_cases h3 : -2000 ≤ d * p * p
            · right
              refine ⟨hd.1, hd.2.1, by omega, ?_, h3⟩
              by_cases h4 : p ≤ 25
              · exact h4
              · have k1 : 26 * 26 ≤ p * p := Int.mul_le_mul (by omega) (by omega) (by omega) (by omega)
                have k2 : 3 * (p * p) ≤ (-d) * (p * p) := Int.mul_le_mul_of_nonneg_right (by omega) (by omega)
                have k3 : (-d) * (p * p) = -(d * p * p) := by grind
                omega
            · left
              rw [up_false hw (by omega)]
              constructor
              · cases decide (p ≤ 1000) <;> rfl
              · cases decide (p ≤ 2000) <;> rfl
          · left
            rw [decide_eq_false (show ¬ (p ≤ 1000) by omega), decide_eq_false h2]
            constructor <;> rfl
  · rw [decide_eq_false hd]
    left
    constructor <;> rfl
def isT (x : Option Bool) : Bool := match x with
  | some true => true
  | _ => false
theorem isT_eq {x : Option Bool} (h : isT x = true) : x = some true := by
  cases x with
  | none => cases h
  | some b => cases b with
    | true => rfl
    | false => cases h
def kcAll (p : Int) : Nat → Int → Bool
  | 0, _ => true
  | n + 1, d => bif isT (r_laws_FnExactKernelClasses d p) then sI (d - 1) (kcAll p n) else false
theorem kcAll_at {p : Int} : ∀ (n : Nat) (d0 : Int), kcAll p n d0 = true → ∀ d, d ≤ d0 → d0 - n < d → r_laws_FnExactKernelClasses d p = some true
  | 0, d0, _, d, h1, h2 => by simp at h2; omega
  | n + 1, d0, h, d, h1, h2 => by
    unfold kcAll at h
    cases h3 : isT (r_laws_FnExactKernelClasses d0 p) with
    | false => rw [h3] at h; cases h
    | true =>
      rw [h3, cond_true, sI_eq] at h
      by_cases h4 : d = d0
      · subst h4; exact isT_eq h3
      · exact kcAll_at n (d0 - 1) h d (by omega) (by push_cast at h2; omega)
end Go.Proofs.Ytdffhgibkeifmaa
