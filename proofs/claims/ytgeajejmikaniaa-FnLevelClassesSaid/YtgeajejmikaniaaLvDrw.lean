/-
  What the reference draws: it always draws something.
  Conditions: none.
-/
import Derived.Test.YtgeajejmikaniaaLvRlG
import Derived.Test.YtgeajejmikaniaaLvDisc
namespace Go.Proofs.Ytgeajejmikaniaa
set_option linter.unusedVariables false
set_option linter.unusedSimpArgs false

theorem red_of_shown {a b c : Int} (h : r_impl_isShownForm (a, b, c) = some true) : RedInv a b c (b * b - 4 * a * c) (Int.gcd a (Int.gcd b c) : Int) := by
  obtain ⟨ha, hb, hc, hneg, hbig, hpos⟩ := shown_true h
  rw [inN_iff] at ha hb hc
  have hbb : 0 ≤ b * b := by
    rcases Int.le_total 0 b with h | h
    · exact Int.mul_nonneg h h
    · exact Int.mul_nonneg_of_nonpos_of_nonpos h h
  have hc1 : 1 ≤ c := by
    rcases Int.lt_or_le 0 c with h | h
    · exact h
    · have : 4 * a * c ≤ 4 * a * 0 := Int.mul_le_mul_of_nonneg_left h (by omega)
      omega
  refine ⟨by omega, by omega, by omega, by omega, hc1, by omega, rfl, hneg, .inr (by omega), fun k => ?_⟩
  constructor
  · rintro ⟨u1, u2, u3⟩
    exact Int.dvd_coe_gcd u1 (Int.dvd_coe_gcd u2 u3)
  · intro h1
    have h2 : (Int.gcd a (Int.gcd b c) : Int) ∣ a := Int.gcd_dvd_left _ _
    have h3 : (Int.gcd a (Int.gcd b c) : Int) ∣ (Int.gcd b c : Int) := Int.gcd_dvd_right _ _
    exact ⟨Int.dvd_trans h1 h2, Int.dvd_trans (Int.dvd_trans h1 h3) (Int.gcd_dvd_left _ _), Int.dvd_trans (Int.dvd_trans h1 h3) (Int.gcd_dvd_right _ _)⟩
theorem one_ok {k : Nat} {c : List Int × Int × Int} (n : Int) (h : CurB k c) (hk : k ≤ 100000000000) : ∃ b c', r_spec_l1Cur_one c n = some (b, c') ∧ CurB (k + 2) c' := by
  obtain ⟨x, c', e, _, _, _, h1⟩ := pick_ok n h (by omega)
  exact ⟨eqI x 0, c', by simp only [r_spec_l1Cur_one, e, Option.bind_some], h1⟩
theorem foMul_some (m n : Int × Int × Int × Int) : ∃ y, r_spec_foMul m n = some y := by
  simp only [r_spec_foMul, sI_eq]
  exact ⟨_, rfl⟩
theorem foAct_some (f : Int × Int × Int) (m : Int × Int × Int × Int) : ∃ y, r_spec_foAct f m = some y := by
  simp only [r_spec_foAct, r_spec_foValue, r_spec_foPolar, sI_eq, Option.bind_some]
  exact ⟨_, rfl⟩
/-- A negative discriminant. -/
def OkD (d : Int) : Prop := -2000 ≤ d ∧ d ≤ -3 ∧ d % 4 ≤ 1
instance (d : Int) : Decidable (OkD d) := inferInstanceAs (Decidable (-2000 ≤ d ∧ d ≤ -3 ∧ d % 4 ≤ 1))
theorem okd_val (d : Int) : r_spec_reDisc d = some (decide (OkD d)) := by
  simp only [r_spec_reDisc, r_spec_l1In, Option.bind_some, leI_eq]
  by_cases h1 : -2000 ≤ d
  · by_cases h2 : d ≤ -3
    · rw [decide_eq_true h1, decide_eq_true h2, cond_true, cond_true, dsc_mod, dsc_mod_val (by omega) (by omega)]
      simp only [Option.bind_some, ltI_eq]
      congr 1
      rw [Bool.eq_iff_iff, decide_eq_true_iff, decide_eq_true_iff]
      unfold OkD
      omega
    · rw [decide_eq_true h1, decide_eq_false h2, decide_eq_false (show ¬ OkD d from fun h => h2 h.2.1)]
      rfl
  · rw [decide_eq_false h1, decide_eq_false (show ¬ OkD d from fun h => h1 h.1)]
    rfl
theorem bif3 {α : Type} (a b c : Bool) : ∃ x, (bif a then some b else some c : Option Bool) = some x := by cases a <;> exact ⟨_, rfl⟩
theorem class_some' {f : Int × Int × Int} (h : r_impl_isShownForm f = some true) : ∃ g, r_spec_reClass f = some g := by
  obtain ⟨a, b, c⟩ := f
  obtain ⟨m, a2, b2, c2, _, h2, _, _⟩ := red_both (red_of_shown h)
  exact ⟨(a2, b2, c2), by simp only [r_spec_reClass, h2, Option.bind_some]⟩
end Go.Proofs.Ytgeajejmikaniaa
