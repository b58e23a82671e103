/-
  When a form can be descended: the same both ways.
  Conditions: none.
-/
import Derived.Test.YtafomkclmkfjeaaGreatIsDscBas
namespace Go.Proofs.YtafomkclmkfjeaaGreat
set_option linter.unusedVariables false
set_option linter.unusedSimpArgs false

theorem can_eq (f : Int × Int × Int) (p : Int) : r_spec_odDown f p = r_impl_canDescend f p := by
  obtain ⟨cb, hcb⟩ := class_some f
  simp only [r_spec_odDown, r_impl_canDescend, class_val, hcb, Option.bind_some, disc_eq, negdisc_eq, prime_eq, r_spec_odPrime, r_spec_l1In, r_impl_IsPrime, num_val _ (show [p].length < 1000000 by simp), List.all_cons, List.all_nil, Bool.and_true]
  cases cb with
  | false => rfl
  | true =>
    obtain ⟨a, b, c⟩ := f
    obtain ⟨ha, hb, hc, hneg, hbig, _, _⟩ := class_true hcb
    simp only [cond_true, Bool.not_true, cond_false, disc_val ha hb hc, Option.bind_some, inN, leI_eq, ltI_eq]
    by_cases h0 : p < 2
    · have e1 : ¬ (2 ≤ p) := by omega
      have e2 : r_impl_isPrime p = some false := by simp only [r_impl_isPrime, ltI_eq, decide_eq_true h0, cond_true]
      rw [decide_eq_false e1, e2]
      cases (decide (-1000000 ≤ p) && decide (p ≤ 1000000)) <;> rfl
    · by_cases h1 : 1000000 < p
      · have e1 : ¬ (p ≤ 1000) := by omega
        have e2 : ¬ (p ≤ 1000000) := by omega
        simp [e1, e2]
      · obtain ⟨q, hq⟩ := prime_some p (by omega)
        have m1 := abs_mul (x := p) (y := p) (A := 1000000) (B := 1000000) (by omega) (by omega)
        rw [w64_abs (n := p * p) (by omega), hq, decide_eq_true (show 2 ≤ p by omega), decide_eq_true (show -1000000 ≤ p by omega), decide_eq_true (show p ≤ 1000000 by omega)]
        have hp0 : p * p ≠ 0 := by
          have := Int.mul_pos (show 0 < p by omega) (show 0 < p by omega)
          omega
        rw [nz_ne hp0]
        by_cases h2 : p ≤ 1000
        · rw [decide_eq_true h2, decide_eq_false (show ¬ (2000 < p) by omega)]
          cases q
          · rfl
          · simp only [Bool.and_true, Option.bind_some, cond_true, cond_false, Bool.not_true]
        · have hfar : 1000 * 1000 ≤ p * p := Int.mul_le_mul (by omega) (by omega) (by omega) (by omega)
          rw [decide_eq_false h2, tmod_far (by omega), eqI_false (by omega)]
          cases q <;> cases decide (2000 < p) <;> rfl
theorem can_true {a b c p : Int} (h : r_impl_canDescend (a, b, c) p = some true) : r_impl_isClassForm (a, b, c) = some true ∧ 2 ≤ p ∧ p ≤ 25 ∧ r_impl_isPrime p = some true ∧ (b * b - 4 * a * c).tmod (p * p) = 0 ∧ r_impl_isNegativeDisc ((b * b - 4 * a * c).tdiv (p * p)) = some true := by
  obtain ⟨cb, hcb⟩ := class_some (a, b, c)
  simp only [r_impl_canDescend, hcb, Option.bind_some] at h
  cases cb with
  | false => exact absurd (some_inj h) (by decide)
  | true =>
    obtain ⟨ha, hb, hc, hneg, hbig, _, _⟩ := class_true hcb
    simp only [Bool.not_true, cond_false, r_impl_IsPrime, num_val _ (show [p].length < 1000000 by simp), List.all_cons, List.all_nil, Bool.and_true, Option.bind_some, disc_val ha hb hc] at h
    cases hN : inN p with
    | false => rw [hN] at h; exact absurd (some_inj h) (by decide)
    | true =>
      rw [hN] at h
      rw [inN_iff] at hN
      obtain ⟨q, hq⟩ := prime_some p (by omega)
      rw [hq] at h
      have hp2 : q = true → 2 ≤ p := by
        intro hqt
        subst hqt
        rcases Int.lt_or_le p 2 with h1 | h1
        · simp only [r_impl_isPrime, ltI_eq, decide_eq_true h1, cond_true] at hq
          exact absurd (some_inj hq) (by decide)
        · exact h1
      cases q with
      | false => exact absurd (some_inj h) (by decide)
      | true =>
        have hp2 := hp2 rfl
        simp only [cond_true, Option.bind_some, Bool.not_true, cond_false, ltI_eq] at h
        by_cases h3 : 2000 < p
        · rw [decide_eq_true h3] at h; exact absurd (some_inj h) (by decide)
        · rw [decide_eq_false h3, cond_false] at h
          have m1 := abs_mul (x := p) (y := p) (A := 2000) (B := 2000) (by omega) (by omega)
          have m2 : 2 * 2 ≤ p * p := Int.mul_le_mul hp2 hp2 (by omega) (by omega)
          rw [w64_abs (n := p * p) (by omega), nz_ne (by omega)] at h
          simp only [Option.bind_some] at h
          cases h4 : eqI (Int.tmod (b * b - 4 * a * c) (p * p)) 0 with
          | false => rw [h4] at h; exact absurd (some_inj h) (by decide)
          | true =>
            rw [h4] at h
            rw [eqI_eq] at h4
            have h4 := eq_of_beq h4
            have h5 : ((b * b - 4 * a * c).tdiv (p * p)).natAbs ≤ 2000 := by
              rw [Int.natAbs_tdiv]
              exact Nat.le_trans (Nat.div_le_self _ _) (by omega)
            rw [w64_abs (by omega)] at h
            obtain ⟨z, hz, h⟩ := of_bind h
            have h := some_inj h
            subst h
            obtain ⟨z2, hz2, hz⟩ := of_bind hz
            have hz := some_inj hz
            subst hz
            refine ⟨hcb, hp2, ?_, hq, h4, hz2⟩
            rw [negdisc_val] at hz2
            have hz3 := of_decide_eq_true (some_inj hz2)
            rcases Int.lt_or_le 25 p with h6 | h6
            · exfalso
              have m3 : 26 * 26 ≤ p * p := Int.mul_le_mul (by omega) (by omega) (by omega) (by omega)
              have e1 := Int.tmod_add_tdiv_mul (b * b - 4 * a * c) (p * p)
              rw [h4] at e1
              have m4 : (b * b - 4 * a * c).tdiv (p * p) * (p * p) ≤ (-3) * (26 * 26) := by
                have e2 : -((b * b - 4 * a * c).tdiv (p * p)) * (p * p) ≥ 3 * (26 * 26) := Int.mul_le_mul (by omega) m3 (by omega) (by omega)
                have e3 : -((b * b - 4 * a * c).tdiv (p * p)) * (p * p) = -((b * b - 4 * a * c).tdiv (p * p) * (p * p)) := Int.neg_mul _ _
                omega
              omega
            · exact h6
theorem can_some (f : Int × Int × Int) (p : Int) : ∃ b, r_impl_canDescend f p = some b := by
  obtain ⟨cb, hcb⟩ := class_some f
  simp only [r_impl_canDescend, hcb, Option.bind_some]
  cases cb with
  | false => exact ⟨_, rfl⟩
  | true =>
    simp only [Bool.not_true, cond_false, r_impl_IsPrime, num_val _ (show [p].length < 1000000 by simp), List.all_cons, List.all_nil, Bool.and_true, Option.bind_some]
    cases hN : inN p with
    | false => exact ⟨_, rfl⟩
    | true =>
      rw [inN_iff] at hN
      obtain ⟨q, hq⟩ := prime_some p (by omega)
      rw [hq]
      cases q with
      | false => exact ⟨_, rfl⟩
      | true =>
        have hp2 : 2 ≤ p := by
          rcases Int.lt_or_le p 2 with h1 | h1
          · simp only [r_impl_isPrime, ltI_eq, decide_eq_true h1, cond_true] at hq
            exact absurd (some_inj hq) (by decide)
          · exact h1
        simp only [cond_true, Option.bind_some, Bool.not_true, cond_false, ltI_eq]
        by_cases h3 : 2000 < p
        · rw [decide_eq_true h3]; exact ⟨_, rfl⟩
        · rw [decide_eq_false h3, cond_false]
          have m1 := abs_mul (x := p) (y := p) (A := 2000) (B := 2000) (by omega) (by omega)
          have m2 : 2 * 2 ≤ p * p := Int.mul_le_mul hp2 hp2 (by omega) (by omega)
          rw [w64_abs (n := p * p) (by omega), nz_ne (by omega)]
          simp only [Option.bind_some, r_impl_Form_disc, sI_eq, negdisc_val]
          cases eqI _ 0 <;> exact ⟨_, rfl⟩
theorem prime_odd {p : Int} (h1 : 2 ≤ p) (h2 : p ≤ 25) (h : r_impl_isPrime p = some true) : p = 2 ∨ p % 2 = 1 := by
  have bad : ∀ q : Int, (r_impl_isPrime q == some false) = true → p ≠ q := by
    intro q hq e
    subst e
    rw [h] at hq
    cases hq
  have b4 := bad 4 (by decide +kernel)
  have b6 := bad 6 (by decide +kernel)
  have b8 := bad 8 (by decide +kernel)
  have b10 := bad 10 (by decide +kernel)
  have b12 := bad 12 (by decide +kernel)
  have b14 := bad 14 (by decide +kernel)
  have b16 := bad 16 (by decide +kernel)
  have b18 := bad 18 (by decide +kernel)
  have b20 := bad 20 (by decide +kernel)
  have b22 := bad 22 (by decide +kernel)
  have b24 := bad 24 (by decide +kernel)
  omega
end Go.Proofs.YtafomkclmkfjeaaGreat
