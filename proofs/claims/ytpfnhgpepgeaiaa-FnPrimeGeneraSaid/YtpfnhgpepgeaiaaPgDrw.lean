/-
  What the reference draws: it always draws something.
  Conditions: none.
-/
import Derived.Test.YtpfnhgpepgeaiaaPgRlG
import Derived.Test.YtpfnhgpepgeaiaaPgDisc
namespace Go.Proofs.Ytpfnhgpepgeaiaa
set_option linter.unusedVariables false
set_option linter.unusedSimpArgs false

theorem red_of_shown {a b c : Int} (h : r_impl_isShownForm (a, b, c) = some true) : RedInv a b c (b * b - 4 * a * c) (Int.gcd a (Int.gcd b c) : Int) := by
  obtain ⟨ha, hb, hc, hneg, hbig, hpos⟩ := shown_true h
  rw [inN_iff] at ha hb hc
  have hbb : 0 ≤ b * b := by
    rcases Int.le_total 0 b with h | h
    · exact Int.mul_nonneg h h
    · exact Int.mul_nonneg_of_nonpos_of_nonpos h h
  have hc1 : 1 ≤ c := by
    rcases Int.lt_or_le 0 c with h | h
    · exact h
    · have : 4 * a * c ≤ 4 * a * 0 := Int.mul_le_mul_of_nonneg_left h (by omega)
      omega
  refine ⟨by omega, by omega, by omega, by omega, hc1, by omega, rfl, hneg, .inr (by omega), fun k => ?_⟩
  constructor
  · rintro ⟨u1, u2, u3⟩
    exact Int.dvd_coe_gcd u1 (Int.dvd_coe_gcd u2 u3)
  · intro h1
    have h2 : (Int.gcd a (Int.gcd b c) : Int) ∣ a := Int.gcd_dvd_left _ _
    have h3 : (Int.gcd a (Int.gcd b c) : Int) ∣ (Int.gcd b c : Int) := Int.gcd_dvd_right _ _
    exact ⟨Int.dvd_trans h1 h2, Int.dvd_trans (Int.dvd_trans h1 h3) (Int.gcd_dvd_left _ _), Int.dvd_trans (Int.dvd_trans h1 h3) (Int.gcd_dvd_right _ _)⟩
theorem one_ok {k : Nat} {c : List Int × Int × Int} (n : Int) (h : CurB k c) (hk : k ≤ 100000000000) : ∃ b c', r_spec_l1Cur_one c n = some (b, c') ∧ CurB (k + 2) c' := by
  obtain ⟨x, c', e, _, _, _, h1⟩ := pick_ok n h (by omega)
  exact ⟨eqI x 0, c', by simp only [r_spec_l1Cur_one, e, Option.bind_some], h1⟩
/-- A negative discriminant. -/
def OkD (d : Int) : Prop := -2000 ≤ d ∧ d ≤ -3 ∧ d % 4 ≤ 1
instance (d : Int) : Decidable (OkD d) := inferInstanceAs (Decidable (-2000 ≤ d ∧ d ≤ -3 ∧ d % 4 ≤ 1))
theorem okd_val (d : Int) : r_spec_reDisc d = some (decide (OkD d)) := by
  simp only [r_spec_reDisc, r_spec_l1In, Option.bind_some, leI_eq]
  by_cases h1 : -2000 ≤ d
  · by_cases h2 : d ≤ -3
    · rw [decide_eq_true h1, decide_eq_true h2, cond_true, cond_true, dsc_mod, dsc_mod_val (by omega) (by omega)]
      simp only [Option.bind_some, ltI_eq]
      congr 1
      rw [Bool.eq_iff_iff, decide_eq_true_iff, decide_eq_true_iff]
      unfold OkD
      omega
    · rw [decide_eq_true h1, decide_eq_false h2, decide_eq_false (show ¬ OkD d from fun h => h2 h.2.1)]
      rfl
  · rw [decide_eq_false h1, decide_eq_false (show ¬ OkD d from fun h => h1 h.1)]
    rfl
theorem bif3 {α : Type} (a b c : Bool) : ∃ x, (bif a then some b else some c : Option Bool) = some x := by cases a <;> exact ⟨_, rfl⟩
theorem number_ok {k : Nat} {c : List Int × Int × Int} (h : CurB k c) (hk : k ≤ 100000000000) : ∃ v c', r_spec_l1Cur_number c = some (v, c') ∧ CurB (k + 8) c' := by
  obtain ⟨y, c1, e1, _, _, _, h1⟩ := pick_ok 12 h (by omega)
  simp only [r_spec_l1Cur_number, e1, Option.bind_some]
  cases eqI y 0 with
  | true =>
    obtain ⟨x, c2, e2, _, h2⟩ := among_ok (l := [0, 1, -1, 1000000, -1000000, 1000001, -1000001, -9223372036854775808, 9223372036854775807, 999983, 999999, 1000]) (by simp) h1 (by omega)
    simp only [cond_true, e2, Option.bind_some]
    exact ⟨x, c2, rfl, h2.up (by omega)⟩
  | false =>
    rw [cond_false]
    obtain ⟨j, hj⟩ := bif3 (α := Int) (eqI y 1) (eqI y 1) (eqI y 2)
    rw [hj]
    simp only [Option.bind_some]
    cases j with
    | true =>
      obtain ⟨x1, c2, e2, _, _, _, h2⟩ := pick_ok 50000 h1 (by omega)
      obtain ⟨x2, c3, e3, _, _, _, h3⟩ := pick_ok 20 h2 (by omega)
      obtain ⟨x3, c4, e4, _, _, _, h4⟩ := pick_ok 2 h3 (by omega)
      simp only [cond_true, e2, e3, e4, Option.bind_some, sI_eq]
      exact ⟨_, c4, rfl, h4.up (by omega)⟩
    | false =>
      rw [cond_false]
      obtain ⟨j, hj⟩ := bif3 (α := Int) (eqI y 3) (eqI y 3) (eqI y 4)
      rw [hj]
      simp only [Option.bind_some]
      cases j with
      | true =>
        obtain ⟨x1, c2, e2, _, _, _, h2⟩ := pick_ok 2000 h1 (by omega)
        simp only [cond_true, e2, Option.bind_some]
        exact ⟨_, c2, rfl, h2.up (by omega)⟩
      | false =>
        obtain ⟨x1, c2, e2, _, _, _, h2⟩ := pick_ok 121 h1 (by omega)
        simp only [cond_false, e2, Option.bind_some, sI_eq]
        exact ⟨_, c2, rfl, h2.up (by omega)⟩
end Go.Proofs.Ytpfnhgpepgeaiaa
