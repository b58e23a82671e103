/-
  The reference and the program reduce every definite form with small coefficients to the same reduced form by the same matrix.
  Conditions: none.
-/
import Derived.Test.YtnheekadeflecaaGreatUpDscBas
namespace Go.Proofs.YtnheekadeflecaaGreat
set_option linter.unusedVariables false
set_option linter.unusedSimpArgs false

/-- A definite form on its way to the reduced one. -/
structure RedInv (a b c d g : Int) : Prop where
  a1 : 1 ≤ a
  aM : a ≤ 1000000
  b1 : -1900000 ≤ b
  b2 : b ≤ 1900000
  c1 : 1 ≤ c
  cM : c ≤ 1250000
  dis : b * b - 4 * a * c = d
  neg : d < 0
  nrm : (-a < b ∧ b ≤ a) ∨ c ≤ 1000000
  con : ∀ k : Int, (k ∣ a ∧ k ∣ b ∧ k ∣ c) ↔ k ∣ g
def IsRed (a b c : Int) : Prop := (-a < b ∧ b ≤ a) ∧ (a < c ∨ (a = c ∧ 0 ≤ b))
instance (a b c : Int) : Decidable (IsRed a b c) := inferInstanceAs (Decidable ((-a < b ∧ b ≤ a) ∧ (a < c ∨ (a = c ∧ 0 ≤ b))))
theorem red_is {a b c : Int} (ha : 1 ≤ a) (haM : a ≤ 1000000) : r_impl_Form_isReduced (a, b, c) = some (decide (IsRed a b c)) := by
  have hn : r_impl_Form_isNormal (a, b, c) = some (decide (-a < b ∧ b ≤ a)) := by
    simp only [r_impl_Form_isNormal, Option.bind_some, ltI_eq, leI_eq]
    rw [w64_in (by omega)]
    by_cases h1 : -a < b <;> by_cases h2 : b ≤ a <;> simp [h1, h2]
    all_goals omega
  simp only [r_impl_Form_isReduced, hn, Option.bind_some, ltI_eq, leI_eq, eqI_eq]
  unfold IsRed
  by_cases h1 : -a < b <;> by_cases h2 : b ≤ a <;> by_cases h3 : a < c <;> by_cases h4 : a = c <;> by_cases h5 : 0 ≤ b <;> simp [h1, h2, h3, h4, h5]
theorem red_step {a b c d g : Int} (h : RedInv a b c d g) (hr : ¬ IsRed a b c) : ∃ m a2 b2 c2, r_impl_Form_step (a, b, c) = some m ∧ r_impl_Form_substitute (a, b, c) m = some (a2, b2, c2) ∧ RedInv a2 b2 c2 d g ∧
    ((¬ (-a < b ∧ b ≤ a) ∧ a2 = a ∧ (-a2 < b2 ∧ b2 ≤ a2)) ∨ ((-a < b ∧ b ≤ a) ∧ a2 < a) ∨ ((-a < b ∧ b ≤ a) ∧ IsRed a2 b2 c2 ∧ a2 ≤ a)) := by
  obtain ⟨a1, aM, b1, b2, c1, cM, dis, neg, nrm, con⟩ := h
  have hn : r_impl_Form_isNormal (a, b, c) = some (decide (-a < b ∧ b ≤ a)) := by
    simp only [r_impl_Form_isNormal, Option.bind_some, ltI_eq, leI_eq]
    rw [w64_in (by omega)]
    by_cases h1 : -a < b <;> by_cases h2 : b ≤ a <;> simp [h1, h2]
    all_goals omega
  by_cases hN : -a < b ∧ b ≤ a
  · have hst : r_impl_Form_step (a, b, c) = some (0, -1, 1, 0) := by
      simp only [r_impl_Form_step, red_is a1 aM, hn, Option.bind_some, decide_eq_false hr, decide_eq_true hN]
      rfl
    refine ⟨_, c, -b, a, hst, dsc_act_swap (by omega) (by omega) (by omega), ?_, ?_⟩
    · have hca : c ≤ a := by
        unfold IsRed at hr
        have : ¬ (a < c ∨ (a = c ∧ 0 ≤ b)) := fun x => hr ⟨hN, x⟩
        omega
      exact ⟨c1, by omega, by omega, by omega, a1, by omega, by grind, neg, .inr aM, fun k => by rw [← con k, Int.dvd_neg]; exact ⟨fun h => ⟨h.2.2, h.2.1, h.1⟩, fun h => ⟨h.2.2, h.2.1, h.1⟩⟩⟩
    · have h2 : ¬ (a < c ∨ (a = c ∧ 0 ≤ b)) := fun x => hr ⟨hN, x⟩
      by_cases hac : a = c
      · refine .inr (.inr ⟨hN, ⟨?_, .inr ?_⟩, ?_⟩) <;> omega
      · exact .inr (.inl ⟨hN, by omega⟩)
  · have hf := dsc_floor_val (a := a - b) (m := 2 * a) (by omega) (by omega) (by omega) (by omega)
    have e1 := Int.emod_nonneg (a - b) (b := 2 * a) (by omega)
    have e2 := Int.emod_lt_of_pos (a - b) (b := 2 * a) (by omega)
    have e3 := Int.emod_add_mul_ediv (a - b) (2 * a)
    generalize hs : (a - b) / (2 * a) = s at *
    generalize hq : (a - b) % (2 * a) = q at *
    have hs1 : s ≤ 1000000 := by
      rcases Int.lt_or_le 1000000 s with h | h
      · have : 2 * a * 1000001 ≤ 2 * a * s := Int.mul_le_mul_of_nonneg_left (by omega) (by omega)
        omega
      · exact h
    have hs2 : -1000001 ≤ s := by
      rcases Int.lt_or_le s (-1000001) with h | h
      · have : 2 * a * s ≤ 2 * a * (-1000002) := Int.mul_le_mul_of_nonneg_left (by omega) (by omega)
        omega
      · exact h
    have hst : r_impl_Form_step (a, b, c) = some (1, s, 0, 1) := by
      simp only [r_impl_Form_step, red_is a1 aM, hn, Option.bind_some, decide_eq_false hr, decide_eq_false hN, cond_false, Bool.not_false, cond_true]
      rw [w64_in (n := a - b) (by omega), w64_in (n := 2 * a) (by omega), hf]
      rfl
    have hb : -a < 2 * a * s + b ∧ 2 * a * s + b ≤ a := by omega
    have hid : 4 * a * (a * s * s + b * s + c) = (2 * a * s + b) * (2 * a * s + b) - d := by grind
    have hsq : 0 ≤ (2 * a * s + b) * (2 * a * s + b) := by
      rcases Int.le_total 0 (2 * a * s + b) with h | h
      · exact Int.mul_nonneg h h
      · exact Int.mul_nonneg_of_nonpos_of_nonpos h h
    have hsq2 : (2 * a * s + b) * (2 * a * s + b) ≤ a * a := by
      have := abs_mul (x := 2 * a * s + b) (y := 2 * a * s + b) (A := a.natAbs) (B := a.natAbs) (by omega) (by omega)
      have h2 : ((2 * a * s + b) * (2 * a * s + b)).natAbs ≤ (a * a).natAbs := by rw [Int.natAbs_mul a a]; exact this
      have h3 : 0 ≤ a * a := Int.mul_nonneg (by omega) (by omega)
      omega
    have hbb : 0 ≤ b * b := by
      rcases Int.le_total 0 b with h | h
      · exact Int.mul_nonneg h h
      · exact Int.mul_nonneg_of_nonpos_of_nonpos h h
    have hc : 1 ≤ a * s * s + b * s + c := by
      rcases Int.lt_or_le 0 (a * s * s + b * s + c) with h | h
      · exact h
      · have : 4 * a * (a * s * s + b * s + c) ≤ 4 * a * 0 := Int.mul_le_mul_of_nonneg_left h (by omega)
        omega
    have hcc : c ≤ 1000000 := nrm.resolve_left hN
    have hcM : a * s * s + b * s + c ≤ 1250000 := by
      have h4 : 4 * a * (a * s * s + b * s + c) ≤ a * a + 4 * a * c := by omega
      have h5 : a * a + 4 * a * c ≤ a * 5000000 := by
        have : a * (a + 4 * c) ≤ a * 5000000 := Int.mul_le_mul_of_nonneg_left (by omega) (by omega)
        have e : a * (a + 4 * c) = a * a + 4 * a * c := by grind
        omega
      rcases Int.lt_or_le 1250000 (a * s * s + b * s + c) with h | h
      · have : 4 * a * 1250001 ≤ 4 * a * (a * s * s + b * s + c) := Int.mul_le_mul_of_nonneg_left (by omega) (by omega)
        omega
      · exact h
    have hcon : ∀ k : Int, (k ∣ a ∧ k ∣ 2 * a * s + b ∧ k ∣ a * s * s + b * s + c) ↔ k ∣ g := by
      intro k
      rw [← con k]
      constructor
      · rintro ⟨u1, u2, u3⟩
        have v1 : k ∣ b := by
          have w1 : k ∣ 2 * a * s := Int.dvd_mul_of_dvd_left (Int.dvd_mul_of_dvd_right u1)
          exact (Int.dvd_add_right w1).1 u2
        have w2 : k ∣ a * s * s + b * s := Int.dvd_add (Int.dvd_mul_of_dvd_left (Int.dvd_mul_of_dvd_left u1)) (Int.dvd_mul_of_dvd_left v1)
        exact ⟨u1, v1, (Int.dvd_add_right w2).1 u3⟩
      · rintro ⟨u1, u2, u3⟩
        have w1 : k ∣ 2 * a * s := Int.dvd_mul_of_dvd_left (Int.dvd_mul_of_dvd_right u1)
        have w2 : k ∣ a * s * s + b * s := Int.dvd_add (Int.dvd_mul_of_dvd_left (Int.dvd_mul_of_dvd_left u1)) (Int.dvd_mul_of_dvd_left u2)
        exact ⟨u1, Int.dvd_add w1 u2, Int.dvd_add w2 u3⟩
    refine ⟨_, a, 2 * a * s + b, a * s * s + b * s + c, hst, dsc_act_norm (by omega) (by omega) (by omega) (by omega), ⟨a1, aM, by omega, by omega, hc, hcM, by grind, neg, .inl hb, hcon⟩, .inl ⟨hN, rfl, hb⟩⟩
theorem times_some (m n : Int × Int × Int × Int) : ∃ y, r_impl_Matrix_times m n = some y := by
  simp only [r_impl_Matrix_times, sI_eq]
  exact ⟨_, rfl⟩
/-- Both loops end alike. -/
theorem red_run : ∀ (n : Nat) (a b c d g p q r s : Int), RedInv a b c d g → 4 * a + (if -a < b ∧ b ≤ a then 0 else 2) + (if IsRed a b c then 0 else 1) ≤ (n : Int) →
    ∃ m1 m2 m3 m4 a2 b2 c2, r_impl_reduce_L10 n p q r s a b c = some (m1, m2, m3, m4, a2, b2, c2) ∧ r_spec_reReduce_L9 n p q r s a b c = some (m1, m2, m3, m4, a2, b2, c2) ∧ RedInv a2 b2 c2 d g ∧ IsRed a2 b2 c2
  | 0, a, b, c, d, g, p, q, r, s, h, hm => by
    have := h.a1
    split at hm <;> split at hm <;> omega
  | n + 1, a, b, c, d, g, p, q, r, s, h, hm => by
    unfold r_impl_reduce_L10 r_spec_reReduce_L9
    rw [dsc_is, red_is h.a1 h.aM]
    by_cases hr : IsRed a b c
    · refine ⟨p, q, r, s, a, b, c, ?_, ?_, h, hr⟩ <;> simp [hr]
    · obtain ⟨m, a2, b2, c2, h1, h2, h3, h4⟩ := red_step h hr
      obtain ⟨y, hy⟩ := times_some (p, q, r, s) m
      obtain ⟨y1, y2, y3, y4⟩ := y
      have hstep : r_spec_reMove (a, b, c) = r_impl_Form_step (a, b, c) := dsc_step h.a1 (by have := h.aM; omega) (by have := h.b1; omega) (by have := h.b2; omega) (by rw [red_is h.a1 h.aM, decide_eq_false hr])
      have e1 : (!decide (IsRed a b c)) = true := by simp [hr]
      simp only [Option.bind_some, hstep, h1, dsc_act, dsc_mul, h2, hy, e1, cond_true]
      refine red_run n a2 b2 c2 d g y1 y2 y3 y4 h3 ?_
      rcases h4 with ⟨g1, g2, g3⟩ | ⟨g1, g2⟩ | ⟨g1, g2, g3⟩
      · rw [if_neg g1, if_neg hr] at hm
        rw [if_pos g3]
        split <;> omega
      · rw [if_pos g1, if_neg hr] at hm
        split <;> split <;> omega
      · rw [if_pos g1, if_neg hr] at hm
        rw [if_pos g2.1, if_pos g2]
        omega
/-- Reducing: the same on both sides. -/
theorem red_both {a b c d g : Int} (h : RedInv a b c d g) : ∃ m a2 b2 c2, r_impl_reduce (a, b, c) = some ((a2, b2, c2), m) ∧ r_spec_reReduce (a, b, c) = some ((a2, b2, c2), m) ∧ RedInv a2 b2 c2 d g ∧ IsRed a2 b2 c2 := by
  obtain ⟨m1, m2, m3, m4, a2, b2, c2, h1, h2, h3, h4⟩ := red_run FU a b c d g 1 0 0 1 h (by
    have e : ((FU : Nat) : Int) = 1000000000 := rfl
    rw [e]
    have := h.aM
    split <;> split <;> omega)
  refine ⟨(m1, m2, m3, m4), a2, b2, c2, ?_, ?_, h3, h4⟩
  · simp only [r_impl_reduce, r_impl_one, Option.bind_some, h1]
  · simp only [r_spec_reReduce, h2, Option.bind_some]
/-- A class form may be reduced. -/
theorem red_of_class {a b c : Int} (h : r_impl_isClassForm (a, b, c) = some true) : RedInv a b c (b * b - 4 * a * c) 1 := by
  obtain ⟨ha, hb, hc, hneg, hbig, hpos, hg⟩ := class_true h
  rw [inN_iff] at ha hb hc
  have hbb : 0 ≤ b * b := by
    rcases Int.le_total 0 b with h | h
    · exact Int.mul_nonneg h h
    · exact Int.mul_nonneg_of_nonpos_of_nonpos h h
  have hc1 : 1 ≤ c := by
    rcases Int.lt_or_le 0 c with h | h
    · exact h
    · have : 4 * a * c ≤ 4 * a * 0 := Int.mul_le_mul_of_nonneg_left h (by omega)
      omega
  refine ⟨by omega, by omega, by omega, by omega, hc1, by omega, rfl, hneg, .inr (by omega), fun k => ?_⟩
  constructor
  · rintro ⟨u1, u2, u3⟩
    have h1 : k ∣ (Int.gcd b c : Int) := Int.dvd_coe_gcd u2 u3
    have h2 : k ∣ (Int.gcd a (Int.gcd b c) : Int) := Int.dvd_coe_gcd u1 h1
    rw [hg] at h2
    exact h2
  · intro h1
    exact ⟨Int.dvd_trans h1 (Int.one_dvd _), Int.dvd_trans h1 (Int.one_dvd _), Int.dvd_trans h1 (Int.one_dvd _)⟩
end Go.Proofs.YtnheekadeflecaaGreat
