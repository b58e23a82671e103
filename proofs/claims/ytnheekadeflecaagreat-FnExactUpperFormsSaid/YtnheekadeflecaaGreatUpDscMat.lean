/-
  The matrix by which a definite form with small coefficients is reduced has small entries.
  Conditions: none.
-/
import Derived.Test.YtnheekadeflecaaGreatUpDscRed
namespace Go.Proofs.YtnheekadeflecaaGreat
set_option linter.unusedVariables false
set_option linter.unusedSimpArgs false

theorem sq_nonneg (x : Int) : 0 ≤ x * x := by
  rcases Int.le_total 0 x with h | h
  · exact Int.mul_nonneg h h
  · exact Int.mul_nonneg_of_nonpos_of_nonpos h h
theorem abs_of_sq {x : Int} {M N : Nat} (h : x * x ≤ (N : Int)) (hM : N < (M + 1) * (M + 1)) : x.natAbs ≤ M := by
  rcases Nat.lt_or_ge M x.natAbs with h1 | h1
  · have h2 : (M + 1) * (M + 1) ≤ x.natAbs * x.natAbs := Nat.mul_le_mul h1 h1
    have h3 : x * x = ((x.natAbs * x.natAbs : Nat) : Int) := Int.natAbs_mul_self.symm
    omega
  · exact h1
theorem quad_id {A B C d x y v : Int} (hd : B * B - 4 * A * C = d) (hv : A * x * x + B * x * y + C * y * y = v) : (-d) * (x * x) + (2 * C * y + B * x) * (2 * C * y + B * x) = 4 * C * v := by
  subst hd hv
  grind
theorem ent_le {A B C d x y v : Int} (hd : B * B - 4 * A * C = d) (hv : A * x * x + B * x * y + C * y * y = v) : (-d) * (x * x) ≤ 4 * C * v := by
  have h1 := quad_id hd hv
  have h2 := sq_nonneg (2 * C * y + B * x)
  omega
theorem ent_bd {A B C d x y v : Int} (hd : B * B - 4 * A * C = d) (hneg : d < 0) (hC1 : 1 ≤ C) (hC : C ≤ 1000000) (hv : A * x * x + B * x * y + C * y * y = v) (hv2 : v ≤ 1250000) : x.natAbs ≤ 2300000 := by
  have h1 := ent_le hd hv
  have h2 : 1 * (x * x) ≤ (-d) * (x * x) := Int.mul_le_mul_of_nonneg_right (by omega) (sq_nonneg x)
  have h3 : 4 * C * v ≤ 4 * C * 1250000 := Int.mul_le_mul_of_nonneg_left hv2 (by omega)
  exact abs_of_sq (N := 5000000000000) (by omega) (by decide)
/-- What the matrix makes of the form at the beginning. -/
structure MatInv (A B C p q r s a b c : Int) : Prop where
  e1 : A * p * p + B * p * r + C * r * r = a
  e2 : 2 * A * p * q + B * (p * s + q * r) + 2 * C * r * s = b
  e3 : A * q * q + B * q * s + C * s * s = c
  dt : p * s - q * r = 1
theorem MatInv.swap {A B C p q r s a b c : Int} (h : MatInv A B C p q r s a b c) : MatInv A B C q (-p) s (-r) c (-b) a := by
  obtain ⟨e1, e2, e3, dt⟩ := h
  exact ⟨e3, by grind, by grind, by grind⟩
theorem MatInv.norm {A B C p q r s a b c : Int} (t : Int) (h : MatInv A B C p q r s a b c) : MatInv A B C p (p * t + q) r (r * t + s) a (2 * a * t + b) (a * t * t + b * t + c) := by
  obtain ⟨e1, e2, e3, dt⟩ := h
  exact ⟨e1, by grind, by grind, by grind⟩
theorem step_cases {a b c d g : Int} (h : RedInv a b c d g) (hr : ¬ IsRed a b c) : r_impl_Form_step (a, b, c) = some (0, -1, 1, 0) ∨ ∃ t, -1000001 ≤ t ∧ t ≤ 1000000 ∧ r_impl_Form_step (a, b, c) = some (1, t, 0, 1) := by
  obtain ⟨a1, aM, b1, b2, c1, cM, dis, neg, nrm, con⟩ := h
  have hn : r_impl_Form_isNormal (a, b, c) = some (decide (-a < b ∧ b ≤ a)) := by
    simp only [r_impl_Form_isNormal, Option.bind_some, ltI_eq, leI_eq]
    rw [w64_in (by omega)]
    by_cases h1 : -a < b <;> by_cases h2 : b ≤ a <;> simp [h1, h2]
    all_goals omega
  by_cases hN : -a < b ∧ b ≤ a
  · left
    simp only [r_impl_Form_step, red_is a1 aM, hn, Option.bind_some, decide_eq_false hr, decide_eq_true hN]
    rfl
  · right
    have hf := dsc_floor_val (a := a - b) (m := 2 * a) (by omega) (by omega) (by omega) (by omega)
    have e1 := Int.emod_nonneg (a - b) (b := 2 * a) (by omega)
    have e2 := Int.emod_lt_of_pos (a - b) (b := 2 * a) (by omega)
    have e3 := Int.emod_add_mul_ediv (a - b) (2 * a)
    generalize hs : (a - b) / (2 * a) = s at *
    generalize hq : (a - b) % (2 * a) = q at *
    have hs1 : s ≤ 1000000 := by
      rcases Int.lt_or_le 1000000 s with h | h
      · have : 2 * a * 1000001 ≤ 2 * a * s := Int.mul_le_mul_of_nonneg_left (by omega) (by omega)
        omega
      · exact h
    have hs2 : -1000001 ≤ s := by
      rcases Int.lt_or_le s (-1000001) with h | h
      · have : 2 * a * s ≤ 2 * a * (-1000002) := Int.mul_le_mul_of_nonneg_left (by omega) (by omega)
        omega
      · exact h
    refine ⟨s, hs2, hs1, ?_⟩
    simp only [r_impl_Form_step, red_is a1 aM, hn, Option.bind_some, decide_eq_false hr, decide_eq_false hN, cond_false, Bool.not_false, cond_true]
    rw [w64_in (n := a - b) (by omega), w64_in (n := 2 * a) (by omega), hf]
    rfl
theorem times_swap {p q r s : Int} (hp : p.natAbs ≤ 2300000) (hq : q.natAbs ≤ 2300000) (hr : r.natAbs ≤ 2300000) (hs : s.natAbs ≤ 2300000) : r_impl_Matrix_times (p, q, r, s) (0, -1, 1, 0) = some (q, -p, s, -r) := by
  simp only [r_impl_Matrix_times, sI_eq, Int.mul_zero, Int.mul_one]
  have e : ∀ x : Int, x * -1 = -x := fun x => by omega
  rw [e p, e r, w64_in (n := 0) (by omega), w64_in (n := q) (by omega), w64_in (n := -p) (by omega), w64_in (n := s) (by omega), w64_in (n := -r) (by omega), w64_in (n := 0 + q) (by omega), w64_in (n := -p + 0) (by omega), w64_in (n := 0 + s) (by omega), w64_in (n := -r + 0) (by omega)]
  simp
theorem times_norm {p q r s t : Int} (hp : p.natAbs ≤ 2300000) (hq : q.natAbs ≤ 2300000) (hr : r.natAbs ≤ 2300000) (hs : s.natAbs ≤ 2300000) (ht : t.natAbs ≤ 1000001) : r_impl_Matrix_times (p, q, r, s) (1, t, 0, 1) = some (p, p * t + q, r, r * t + s) := by
  have m1 := abs_mul hp ht
  have m2 := abs_mul hr ht
  simp only [r_impl_Matrix_times, sI_eq, Int.mul_zero, Int.mul_one]
  rw [w64_in (n := 0) (by omega), w64_in (n := q) (by omega), w64_in (n := p) (by omega), w64_in (n := s) (by omega), w64_in (n := r) (by omega), w64_in (n := p * t) (by omega), w64_in (n := r * t) (by omega), w64_in (n := p + 0) (by omega), w64_in (n := p * t + q) (by omega), w64_in (n := r + 0) (by omega), w64_in (n := r * t + s) (by omega)]
  simp
/-- The loops end alike, and the matrix is known. -/
theorem mat_run {A B C : Int} (hA1 : 1 ≤ A) (hA : A ≤ 1000000) (hC1 : 1 ≤ C) (hC : C ≤ 1000000) : ∀ (n : Nat) (a b c d g p q r s : Int), B * B - 4 * A * C = d → RedInv a b c d g → MatInv A B C p q r s a b c → 4 * a + (if -a < b ∧ b ≤ a then 0 else 2) + (if IsRed a b c then 0 else 1) ≤ (n : Int) →
    ∃ m1 m2 m3 m4 a2 b2 c2, r_impl_reduce_L10 n p q r s a b c = some (m1, m2, m3, m4, a2, b2, c2) ∧ RedInv a2 b2 c2 d g ∧ IsRed a2 b2 c2 ∧ MatInv A B C m1 m2 m3 m4 a2 b2 c2
  | 0, a, b, c, d, g, p, q, r, s, hd, h, hv, hm => by
    have := h.a1
    split at hm <;> split at hm <;> omega
  | n + 1, a, b, c, d, g, p, q, r, s, hd, h, hv, hm => by
    unfold r_impl_reduce_L10
    rw [red_is h.a1 h.aM]
    by_cases hr : IsRed a b c
    · refine ⟨p, q, r, s, a, b, c, ?_, h, hr, hv⟩
      simp [hr]
    · obtain ⟨m, a2, b2, c2, h1, h2, h3, h4⟩ := red_step h hr
      have hdS : B * B - 4 * C * A = d := by rw [← hd]; grind
      have bp := ent_bd hd h.neg hC1 hC hv.e1 (by have := h.aM; omega)
      have bq := ent_bd hd h.neg hC1 hC hv.e3 h.cM
      have br := ent_bd (A := C) (C := A) (x := r) (y := p) hdS h.neg hA1 hA (v := a) (by have := hv.e1; grind) (by have := h.aM; omega)
      have bs := ent_bd (A := C) (C := A) (x := s) (y := q) hdS h.neg hA1 hA (v := c) (by have := hv.e3; grind) h.cM
      have e1 : (!decide (IsRed a b c)) = true := by simp [hr]
      have hmeas : 4 * a2 + (if -a2 < b2 ∧ b2 ≤ a2 then 0 else 2) + (if IsRed a2 b2 c2 then 0 else 1) ≤ (n : Int) := by
        rcases h4 with ⟨g1, g2, g3⟩ | ⟨g1, g2⟩ | ⟨g1, g2, g3⟩
        · rw [if_neg g1, if_neg hr] at hm
          rw [if_pos g3]
          split <;> omega
        · rw [if_pos g1, if_neg hr] at hm
          split <;> split <;> omega
        · rw [if_pos g1, if_neg hr] at hm
          rw [if_pos g2.1, if_pos g2]
          omega
      have ha := h.a1
      have hb1 := h.b1
      have hb2 := h.b2
      have haM := h.aM
      have hc1 := h.c1
      have hcM := h.cM
      rcases step_cases h hr with hs | ⟨t, t1, t2, hs⟩
      · rw [hs] at h1
        have hm0 := some_inj h1
        subst hm0
        have hsub := dsc_act_swap (a := a) (b := b) (c := c) (by omega) (by omega) (by omega)
        rw [hsub] at h2
        obtain ⟨ea, hbc⟩ := Prod.mk.inj (some_inj h2)
        obtain ⟨eb, ec⟩ := Prod.mk.inj hbc
        rw [← ea, ← eb, ← ec] at h3 hmeas
        simp only [Option.bind_some, hs, hsub, times_swap bp bq br bs, e1, cond_true]
        exact mat_run hA1 hA hC1 hC n _ _ _ d g _ _ _ _ hd h3 hv.swap hmeas
      · rw [hs] at h1
        have hm0 := some_inj h1
        subst hm0
        have hsub := dsc_act_norm (a := a) (b := b) (c := c) (s := t) (by omega) (by omega) (by omega) (by omega)
        rw [hsub] at h2
        obtain ⟨ea, hbc⟩ := Prod.mk.inj (some_inj h2)
        obtain ⟨eb, ec⟩ := Prod.mk.inj hbc
        rw [← ea, ← eb, ← ec] at h3 hmeas
        simp only [Option.bind_some, hs, hsub, times_norm bp bq br bs (t := t) (by omega), e1, cond_true]
        exact mat_run hA1 hA hC1 hC n _ _ _ d g _ _ _ _ hd h3 (hv.norm t) hmeas
theorem red_small {A B C d x y v a b c : Int} (hd : B * B - 4 * A * C = d) (hC1 : 1 ≤ C) (hC : C ≤ 1000000) (hdis : b * b - 4 * a * c = d) (hred : IsRed a b c) (ha : 1 ≤ a) (hv : A * x * x + B * x * y + C * y * y = v) (hv2 : v = a ∨ v = c) : x.natAbs ≤ 2000 := by
  have h1 := ent_le hd hv
  obtain ⟨⟨b1, b2⟩, hr⟩ := hred
  have hac : a ≤ c := by omega
  have hbb : b * b ≤ a * a := by
    have := abs_mul (x := b) (y := b) (A := a.natAbs) (B := a.natAbs) (by omega) (by omega)
    have h2 : (b * b).natAbs ≤ (a * a).natAbs := by rw [Int.natAbs_mul a a]; exact this
    have h3 := sq_nonneg a
    have h4 := sq_nonneg b
    omega
  have haa : a * a ≤ a * c := Int.mul_le_mul_of_nonneg_left hac (by omega)
  have hD : 3 * (a * c) ≤ -d := by
    have : 4 * a * c = 4 * (a * c) := by rw [Int.mul_assoc]
    omega
  have hxx := sq_nonneg x
  have h5 : 3 * (a * c) * (x * x) ≤ (-d) * (x * x) := Int.mul_le_mul_of_nonneg_right hD hxx
  have h6 : 4 * C * v ≤ 4000000 * v := Int.mul_le_mul_of_nonneg_right (by omega) (by omega)
  have h7 : 3 * (a * c) * (x * x) ≤ 4000000 * v := by omega
  -- divide by v
  have h8 : 3 * (x * x) ≤ 4000000 := by
    rcases Int.lt_or_le 4000000 (3 * (x * x)) with h | h
    · exfalso
      rcases hv2 with rfl | rfl
      · have h9 : v * (3 * (x * x)) ≤ v * (3 * (c * (x * x))) := Int.mul_le_mul_of_nonneg_left (by
          have : 1 * (x * x) ≤ c * (x * x) := Int.mul_le_mul_of_nonneg_right (by omega) hxx
          omega) (by omega)
        have h10 : v * (3 * (c * (x * x))) = 3 * (v * c) * (x * x) := by grind
        have h11 : v * 4000001 ≤ v * (3 * (x * x)) := Int.mul_le_mul_of_nonneg_left (by omega) (by omega)
        omega
      · have h9 : v * (3 * (x * x)) ≤ v * (3 * (a * (x * x))) := Int.mul_le_mul_of_nonneg_left (by
          have : 1 * (x * x) ≤ a * (x * x) := Int.mul_le_mul_of_nonneg_right (by omega) hxx
          omega) (by omega)
        have h10 : v * (3 * (a * (x * x))) = 3 * (a * v) * (x * x) := by grind
        have h11 : v * 4000001 ≤ v * (3 * (x * x)) := Int.mul_le_mul_of_nonneg_left (by omega) (by omega)
        omega
    · exact h
  exact abs_of_sq (N := 1333334) (by omega) (by decide)
/-- A definite form may be reduced. -/
theorem red_of_def {a b c : Int} (h : r_impl_isDefinite (a, b, c) = some true) : ∃ g, RedInv a b c (b * b - 4 * a * c) g ∧ c ≤ 1000000 := by
  have hin : inN a = true ∧ inN b = true ∧ inN c = true := by
    simp only [r_impl_isDefinite, form_val, Option.bind_some] at h
    cases ha : inN a with
    | false => rw [ha] at h; simp at h
    | true =>
      cases hb : inN b with
      | false => rw [ha, hb] at h; simp at h
      | true =>
        cases hc : inN c with
        | false => rw [ha, hb, hc] at h; simp at h
        | true => exact ⟨rfl, rfl, rfl⟩
  obtain ⟨ha, hb, hc⟩ := hin
  have hd := disc_val ha hb hc
  simp only [r_impl_isDefinite, form_val, ha, hb, hc, Bool.and_self, Option.bind_some, cond_true, hd, ltI_eq] at h
  rw [inN_iff] at ha hb hc
  have hneg : b * b - 4 * a * c < 0 := by
    rcases Int.lt_or_le (b * b - 4 * a * c) 0 with h1 | h1
    · exact h1
    · rw [decide_eq_false (by omega)] at h
      cases h
  have hpos : 0 < a := by
    rw [decide_eq_true hneg] at h
    rcases Int.lt_or_le 0 a with h1 | h1
    · exact h1
    · rw [decide_eq_false (by omega)] at h
      cases h
  have hbb := sq_nonneg b
  have hc1 : 1 ≤ c := by
    rcases Int.lt_or_le 0 c with h | h
    · exact h
    · have : 4 * a * c ≤ 4 * a * 0 := Int.mul_le_mul_of_nonneg_left h (by omega)
      omega
  refine ⟨(Int.gcd a (Int.gcd b c) : Int), ⟨by omega, by omega, by omega, by omega, hc1, by omega, rfl, hneg, .inr (by omega), fun k => ?_⟩, by omega⟩
  constructor
  · rintro ⟨u1, u2, u3⟩
    exact Int.dvd_coe_gcd u1 (Int.dvd_coe_gcd u2 u3)
  · intro hk
    have k1 : k ∣ a := Int.dvd_trans hk (Int.gcd_dvd_left ..)
    have k2 : k ∣ (Int.gcd b c : Int) := Int.dvd_trans hk (Int.gcd_dvd_right ..)
    exact ⟨k1, Int.dvd_trans k2 (Int.gcd_dvd_left ..), Int.dvd_trans k2 (Int.gcd_dvd_right ..)⟩
/-- Reducing by the program alone, with the matrix. -/
theorem red_imp {a b c g : Int} (hi : RedInv a b c (b * b - 4 * a * c) g) (hcM : c ≤ 1000000) : ∃ m1 m2 m3 m4 a2 b2 c2, r_impl_reduce (a, b, c) = some ((a2, b2, c2), (m1, m2, m3, m4)) ∧ RedInv a2 b2 c2 (b * b - 4 * a * c) g ∧ IsRed a2 b2 c2 ∧ MatInv a b c m1 m2 m3 m4 a2 b2 c2 ∧ m1.natAbs ≤ 2000 ∧ m2.natAbs ≤ 2000 ∧ m3.natAbs ≤ 2000 ∧ m4.natAbs ≤ 2000 := by
  obtain ⟨m1, m2, m3, m4, a3, b3, c3, q1, q2, q3, q4⟩ := mat_run (B := b) hi.a1 hi.aM hi.c1 hcM FU a b c _ g 1 0 0 1 rfl hi ⟨by grind, by grind, by grind, by decide⟩ (by
    have e : ((FU : Nat) : Int) = 1000000000 := rfl
    rw [e]
    have := hi.aM
    split <;> split <;> omega)
  have k1' : r_impl_reduce (a, b, c) = some ((a3, b3, c3), (m1, m2, m3, m4)) := by
    simp only [r_impl_reduce, r_impl_one, Option.bind_some, q1]
  have hdS : b * b - 4 * c * a = b * b - 4 * a * c := by grind
  have s1 := red_small (A := a) (B := b) (C := c) (x := m1) (y := m3) rfl hi.c1 hcM q2.dis q3 q2.a1 q4.e1 (.inl rfl)
  have s2 := red_small (A := a) (B := b) (C := c) (x := m2) (y := m4) rfl hi.c1 hcM q2.dis q3 q2.a1 q4.e3 (.inr rfl)
  have s3 := red_small (A := c) (B := b) (C := a) (x := m3) (y := m1) (v := a3) hdS hi.a1 hi.aM q2.dis q3 q2.a1 (by have := q4.e1; grind) (.inl rfl)
  have s4 := red_small (A := c) (B := b) (C := a) (x := m4) (y := m2) (v := c3) hdS hi.a1 hi.aM q2.dis q3 q2.a1 (by have := q4.e3; grind) (.inr rfl)
  exact ⟨m1, m2, m3, m4, a3, b3, c3, k1', q2, q3, q4, s1, s2, s3, s4⟩
/-- Reducing, with the matrix. -/
theorem red_full {a b c g : Int} (hi : RedInv a b c (b * b - 4 * a * c) g) (hcM : c ≤ 1000000) : ∃ m1 m2 m3 m4 a2 b2 c2, r_impl_reduce (a, b, c) = some ((a2, b2, c2), (m1, m2, m3, m4)) ∧ r_spec_reReduce (a, b, c) = some ((a2, b2, c2), (m1, m2, m3, m4)) ∧ RedInv a2 b2 c2 (b * b - 4 * a * c) g ∧ IsRed a2 b2 c2 ∧ MatInv a b c m1 m2 m3 m4 a2 b2 c2 ∧ m1.natAbs ≤ 2000 ∧ m2.natAbs ≤ 2000 ∧ m3.natAbs ≤ 2000 ∧ m4.natAbs ≤ 2000 := by
  obtain ⟨m, a2, b2, c2, k1, k2, k3, k4⟩ := red_both hi
  obtain ⟨m1, m2, m3, m4, a3, b3, c3, q1, q2, q3, q4⟩ := mat_run (B := b) hi.a1 hi.aM hi.c1 hcM FU a b c _ g 1 0 0 1 rfl hi ⟨by grind, by grind, by grind, by decide⟩ (by
    have e : ((FU : Nat) : Int) = 1000000000 := rfl
    rw [e]
    have := hi.aM
    split <;> split <;> omega)
  have k1' : r_impl_reduce (a, b, c) = some ((a3, b3, c3), (m1, m2, m3, m4)) := by
    simp only [r_impl_reduce, r_impl_one, Option.bind_some, q1]
  rw [k1] at k1'
  have e := some_inj k1'
  obtain ⟨e1, rfl⟩ := Prod.mk.inj e
  obtain ⟨rfl, e2⟩ := Prod.mk.inj e1
  obtain ⟨rfl, rfl⟩ := Prod.mk.inj e2
  have hdS : b * b - 4 * c * a = b * b - 4 * a * c := by grind
  have s1 := red_small (A := a) (B := b) (C := c) (x := m1) (y := m3) rfl hi.c1 hcM q2.dis q3 q2.a1 q4.e1 (.inl rfl)
  have s2 := red_small (A := a) (B := b) (C := c) (x := m2) (y := m4) rfl hi.c1 hcM q2.dis q3 q2.a1 q4.e3 (.inr rfl)
  have s3 := red_small (A := c) (B := b) (C := a) (x := m3) (y := m1) (v := a2) hdS hi.a1 hi.aM q2.dis q3 q2.a1 (by have := q4.e1; grind) (.inl rfl)
  have s4 := red_small (A := c) (B := b) (C := a) (x := m4) (y := m2) (v := c2) hdS hi.a1 hi.aM q2.dis q3 q2.a1 (by have := q4.e3; grind) (.inr rfl)
  exact ⟨m1, m2, m3, m4, a2, b2, c2, k1, k2, q2, q3, q4, s1, s2, s3, s4⟩
/-- A definite form, reduced both ways, with a small matrix. -/
theorem def_both {f : Int × Int × Int} (h : r_impl_isDefinite f = some true) : ∃ m f2, r_impl_reduce f = some (f2, m) ∧ r_spec_reReduce f = some (f2, m) ∧ inN m.1 = true ∧ inN m.2.1 = true ∧ inN m.2.2.1 = true ∧ inN m.2.2.2 = true ∧
    (-10000000 ≤ f2.1 ∧ f2.1 ≤ 10000000) ∧ (-10000000 ≤ f2.2.1 ∧ f2.2.1 ≤ 10000000) ∧ (-10000000 ≤ f2.2.2 ∧ f2.2.2 ≤ 10000000) ∧ IsRed f2.1 f2.2.1 f2.2.2 ∧ (∃ g, RedInv f2.1 f2.2.1 f2.2.2 (f.2.1 * f.2.1 - 4 * f.1 * f.2.2) g) := by
  obtain ⟨a, b, c⟩ := f
  obtain ⟨g, hi, hcM⟩ := red_of_def h
  obtain ⟨m, a2, b2, c2, k1, k2, k3, k4⟩ := red_both hi
  obtain ⟨m1, m2, m3, m4, a3, b3, c3, q1, q2, q3, q4⟩ := mat_run (B := b) hi.a1 hi.aM hi.c1 hcM FU a b c _ g 1 0 0 1 rfl hi ⟨by grind, by grind, by grind, by decide⟩ (by
    have e : ((FU : Nat) : Int) = 1000000000 := rfl
    rw [e]
    have := hi.aM
    split <;> split <;> omega)
  have k1' : r_impl_reduce (a, b, c) = some ((a3, b3, c3), (m1, m2, m3, m4)) := by
    simp only [r_impl_reduce, r_impl_one, Option.bind_some, q1]
  rw [k1] at k1'
  have e := some_inj k1'
  obtain ⟨e1, rfl⟩ := Prod.mk.inj e
  obtain ⟨rfl, e2⟩ := Prod.mk.inj e1
  obtain ⟨rfl, rfl⟩ := Prod.mk.inj e2
  have hdS : b * b - 4 * c * a = b * b - 4 * a * c := by grind
  have s1 := red_small (A := a) (B := b) (C := c) (x := m1) (y := m3) rfl hi.c1 hcM q2.dis q3 q2.a1 q4.e1 (.inl rfl)
  have s2 := red_small (A := a) (B := b) (C := c) (x := m2) (y := m4) rfl hi.c1 hcM q2.dis q3 q2.a1 q4.e3 (.inr rfl)
  have s3 := red_small (A := c) (B := b) (C := a) (x := m3) (y := m1) (v := a2) hdS hi.a1 hi.aM q2.dis q3 q2.a1 (by have := q4.e1; grind) (.inl rfl)
  have s4 := red_small (A := c) (B := b) (C := a) (x := m4) (y := m2) (v := c2) hdS hi.a1 hi.aM q2.dis q3 q2.a1 (by have := q4.e3; grind) (.inr rfl)
  have r1 := q2.a1
  have r2 := q2.aM
  have r3 := q2.b1
  have r4 := q2.b2
  have r5 := q2.c1
  have r6 := q2.cM
  refine ⟨_, _, k1, k2, inN_iff.2 (by show -1000000 ≤ m1 ∧ m1 ≤ 1000000; omega), inN_iff.2 (by show -1000000 ≤ m2 ∧ m2 ≤ 1000000; omega), inN_iff.2 (by show -1000000 ≤ m3 ∧ m3 ≤ 1000000; omega), inN_iff.2 (by show -1000000 ≤ m4 ∧ m4 ≤ 1000000; omega), by show -10000000 ≤ a2 ∧ a2 ≤ 10000000; omega, by show -10000000 ≤ b2 ∧ b2 ≤ 10000000; omega, by show -10000000 ≤ c2 ∧ c2 ≤ 10000000; omega, q3, g, q2⟩
end Go.Proofs.YtnheekadeflecaaGreat
