/-
  Plain values of the small functions: greatest divisors, absolute values, numbers, primes, discriminants, class forms.
  Conditions: none.
-/
import Derived.Test.YtnheekadeflecaaGreatUpDscEq
namespace Go.Proofs.YtnheekadeflecaaGreat
set_option linter.unusedVariables false
set_option linter.unusedSimpArgs false

theorem abs_val {n : Int} (h : n.natAbs ≤ 9223372036854775806) : r_impl_abs n = some (n.natAbs : Int) := by
  simp only [r_impl_abs, sI_eq, mxI, ltI_eq]
  by_cases h1 : n < -9223372036854775807
  · omega
  · rw [decide_eq_false h1, cond_false, w64_in (by omega)]
    by_cases h2 : n < 0 - n
    · rw [decide_eq_true h2, cond_true]; congr 1; omega
    · rw [decide_eq_false h2, cond_false]; congr 1; omega
theorem sabs_val {n : Int} (h : n.natAbs ≤ 9223372036854775806) : r_spec_l1Abs n = some (n.natAbs : Int) := by
  simp only [r_spec_l1Abs, r_spec_l1Most, Option.bind_some, ltI_eq]
  rw [w64_in (by omega)]
  by_cases h2 : 0 - n < n
  · rw [decide_eq_true h2, cond_true, Option.bind_some]; congr 1; omega
  · rw [decide_eq_false h2, cond_false, Option.bind_some]; congr 1; omega
theorem nz_ne {b : Int} (h : b ≠ 0) : nz b = some () := by
  unfold nz
  rw [eqI_eq]
  have : (b == 0) = false := by rw [beq_eq_false_iff_ne]; exact h
  rw [this]
  rfl
theorem eqI_false {a b : Int} (h : a ≠ b) : eqI a b = false := by rw [eqI_eq, beq_eq_false_iff_ne]; exact h
theorem eqI_true (a : Int) : eqI a a = true := by rw [eqI_eq]; exact beq_self_eq_true a
theorem igcd_step (a b : Int) : Int.gcd b (a.tmod b) = Int.gcd a b := by
  unfold Int.gcd
  rw [Int.natAbs_tmod, Nat.gcd_comm, ← Nat.gcd_rec, Nat.gcd_comm]
theorem gcd_two {x y : Nat} (k : Nat) (hy : 0 < y) (hxy : y < x) (h : x < 2 ^ (k + 1)) : x % y < 2 ^ k := by
  have h1 := Nat.mod_lt x hy
  have h2 := Nat.div_add_mod x y
  have h3 : 1 ≤ x / y := Nat.div_pos (Nat.le_of_lt hxy) hy
  have h4 : y * 1 ≤ y * (x / y) := Nat.mul_le_mul_left y h3
  rw [Nat.pow_succ] at h
  omega
theorem gcd_run : ∀ (k n : Nat) (a b : Int), b.natAbs < 2 ^ k → 2 * k + 1 ≤ n → ∃ r, r_impl_gcd_L5 n a b = some r ∧ r.natAbs = Int.gcd a b
  | k, 0, a, b, _, hn => by omega
  | 0, n + 1, a, b, hb, hn => by
    have : b = 0 := by simp at hb; omega
    subst this
    unfold r_impl_gcd_L5
    rw [eqI_true]
    exact ⟨a, rfl, by simp⟩
  | k + 1, n + 1, a, b, hb, hn => by
    unfold r_impl_gcd_L5
    by_cases h0 : b = 0
    · subst h0
      rw [eqI_true]
      exact ⟨a, rfl, by simp⟩
    · rw [eqI_false h0, nz_ne h0]
      simp only [Bool.not_false, cond_true, Option.bind_some, sI_eq]
      rw [← igcd_step a b]
      match n, hn with
      | n + 1, hn =>
        unfold r_impl_gcd_L5
        by_cases h1 : a.tmod b = 0
        · rw [h1, eqI_true]
          exact ⟨b, rfl, by simp⟩
        · rw [eqI_false h1, nz_ne h1]
          simp only [Bool.not_false, cond_true, Option.bind_some, sI_eq]
          rw [← igcd_step b (a.tmod b)]
          refine gcd_run k n _ _ ?_ (by omega)
          rw [Int.natAbs_tmod]
          have h2 : (a.tmod b).natAbs < b.natAbs := by rw [Int.natAbs_tmod]; exact Nat.mod_lt _ (by omega)
          exact gcd_two k (by omega) h2 hb
theorem FU_succ (k : Nat) (h : k ≤ 1000000) : k ≤ FU := Nat.le_trans h (by decide)
theorem gcd_le {a b : Int} {M : Nat} (ha : a.natAbs ≤ M) (hb : b.natAbs ≤ M) : Int.gcd a b ≤ M := by
  by_cases h : b = 0
  · subst h; simpa using ha
  · have : Int.gcd a b ∣ b.natAbs := Nat.gcd_dvd_right _ _
    exact Nat.le_trans (Nat.le_of_dvd (by omega) this) hb
theorem gcd_val {a b : Int} (ha : a.natAbs ≤ 9223372036854775806) (hb : b.natAbs ≤ 9223372036854775806) : r_impl_gcd a b = some (Int.gcd a b : Int) := by
  obtain ⟨r, h1, h2⟩ := gcd_run 64 FU a b (by omega) (FU_succ 129 (by decide))
  have h3 := gcd_le ha hb
  simp only [r_impl_gcd, h1, Option.bind_some, abs_val (n := r) (by omega), h2]
theorem sgcd_run : ∀ (n : Nat) (a b : Int), r_spec_nuGcd_L7 n a b = r_impl_gcd_L5 n a b
  | 0, a, b => rfl
  | n + 1, a, b => by
    unfold r_spec_nuGcd_L7 r_impl_gcd_L5
    simp only [sI_eq, sgcd_run n]
theorem natAbs_natAbs (a b : Int) : Int.gcd (a.natAbs : Int) (b.natAbs : Int) = Int.gcd a b := by unfold Int.gcd; simp
theorem nn_run : ∀ (n : Nat) (a b r : Int), 0 ≤ a → 0 ≤ b → r_impl_gcd_L5 n a b = some r → 0 ≤ r
  | 0, a, b, r, _, _, h => by cases h
  | n + 1, a, b, r, ha, hb, h => by
    unfold r_impl_gcd_L5 at h
    by_cases h0 : b = 0
    · subst h0
      rw [eqI_true] at h
      have h : some a = some r := h
      injection h with h
      omega
    · rw [eqI_false h0, nz_ne h0] at h
      simp only [Bool.not_false, cond_true, Option.bind_some, sI_eq] at h
      exact nn_run n _ _ _ hb (Int.tmod_nonneg _ ha) h
theorem sgcd_val {a b : Int} (ha : a.natAbs ≤ 9223372036854775806) (hb : b.natAbs ≤ 9223372036854775806) : r_spec_nuGcd a b = some (Int.gcd a b : Int) := by
  obtain ⟨r, h1, h2⟩ := gcd_run 64 FU (a.natAbs : Int) (b.natAbs : Int) (by omega) (FU_succ 129 (by decide))
  have h3 := nn_run _ _ _ _ (by omega) (by omega) h1
  rw [natAbs_natAbs] at h2
  simp only [r_spec_nuGcd, sabs_val ha, sabs_val hb, Option.bind_some, sgcd_run, h1]
  congr 1
  omega
def inN (x : Int) : Bool := leI (-1000000) x && leI x 1000000
theorem inN_iff {x : Int} : inN x = true ↔ -1000000 ≤ x ∧ x ≤ 1000000 := by
  unfold inN
  rw [leI_eq, leI_eq]
  simp
theorem num_run (l : List Int) (hl : l.length < 1000000) : ∀ (n i : Nat), i ≤ l.length → l.length - i < n → r_impl_areNumbers_L3 l n (i : Int) = some (if (l.drop i).all inN then .inl () else .inr false)
  | 0, i, _, h => by omega
  | n + 1, i, hi, h => by
    unfold r_impl_areNumbers_L3
    rw [ltI_eq]
    by_cases h1 : (i : Int) < (l.length : Int)
    · have h2 : i < l.length := by omega
      rw [decide_eq_true h1, cond_true]
      have h3 : getI l (i : Int) = some l[i] := by
        unfold getI
        rw [leI_eq, decide_eq_true (by omega : (0 : Int) ≤ (i : Int)), cond_true]
        simp [h2]
      rw [h3, Option.bind_some, List.drop_eq_getElem_cons h2, List.all_cons]
      simp only [ltI_eq, inN, leI_eq, sI_eq]
      rw [w64_in (by omega)]
      have ih := num_run l hl n (i + 1) (by omega) (by omega)
      rw [show ((i : Int) + 1) = ((i + 1 : Nat) : Int) by omega, ih]
      by_cases h4 : l[i] < -1000000
      · have h6 : ¬ (-1000000 ≤ l[i]) := by omega
        simp [h4, h6]
      · by_cases h5 : 1000000 < l[i]
        · have h6 : ¬ (l[i] ≤ 1000000) := by omega
          simp [h4, h5, h6]
        · have h6 : -1000000 ≤ l[i] := by omega
          have h7 : l[i] ≤ 1000000 := by omega
          simp only [h4, h5, h6, h7, decide_true, decide_false, cond_false, cond_true, Bool.and_true, Bool.true_and]
    · rw [decide_eq_false h1, cond_false, List.drop_eq_nil_of_le (by omega)]
      rfl
theorem num_val (l : List Int) (hl : l.length < 1000000) : r_impl_areNumbers l = some (l.all inN) := by
  have h := num_run l hl FU 0 (Nat.zero_le _) (by have : (1000000 : Nat) ≤ FU := by decide
                                                  omega)
  simp only [r_impl_areNumbers, show (0 : Int) = ((0 : Nat) : Int) from rfl, h, List.drop_zero]
  cases l.all inN <;> rfl
theorem good_val (n : Int) : r_spec_nuGood n = some (inN n) := by
  simp only [r_spec_nuGood, r_spec_l1In, Option.bind_some, inN]
  cases leI (-1000000) n <;> rfl
theorem form_val (f : Int × Int × Int) : r_impl_IsForm f = some (inN f.1 && (inN f.2.1 && inN f.2.2)) := by
  simp only [r_impl_IsForm, num_val _ (show [f.1, f.2.1, f.2.2].length < 1000000 by simp), Option.bind_some, List.all_cons, List.all_nil, Bool.and_true]
theorem sform_val (f : Int × Int × Int) : r_spec_foGood f = some (inN f.1 && (inN f.2.1 && inN f.2.2)) := by
  simp only [r_spec_foGood, good_val, Option.bind_some]
  cases inN f.1 <;> cases inN f.2.1 <;> cases inN f.2.2 <;> rfl
theorem disc_eq : r_spec_foDisc = r_impl_Form_disc := rfl
theorem disc_val {a b c : Int} (ha : inN a = true) (hb : inN b = true) (hc : inN c = true) : r_impl_Form_disc (a, b, c) = some (b * b - 4 * a * c) := by
  rw [inN_iff] at ha hb hc
  have m1 := abs_mul (x := b) (y := b) (A := 1000000) (B := 1000000) (by omega) (by omega)
  have m2 := abs_mul (x := 4 * a) (y := c) (A := 4000000) (B := 1000000) (by omega) (by omega)
  simp only [r_impl_Form_disc, sI_eq]
  rw [w64_abs (n := b * b) (by omega), w64_abs (n := 4 * a) (by omega), w64_abs (n := 4 * a * c) (by omega), w64_abs (by omega)]
theorem def_val (f : Int × Int × Int) : r_spec_foDefinite f = r_impl_isDefinite f := by
  simp only [r_spec_foDefinite, r_impl_isDefinite, form_val, sform_val, disc_eq]
theorem shown_val (f : Int × Int × Int) : r_spec_vaForm f = r_impl_isShownForm f := by
  simp only [r_spec_vaForm, r_impl_isShownForm, def_val, disc_eq]
theorem content_val {a b c : Int} (ha : inN a = true) (hb : inN b = true) (hc : inN c = true) : r_impl_Form_content (a, b, c) = some (Int.gcd a (Int.gcd b c) : Int) := by
  rw [inN_iff] at ha hb hc
  have h := gcd_le (a := b) (b := c) (M := 1000000) (by omega) (by omega)
  simp only [r_impl_Form_content, gcd_val (a := b) (b := c) (by omega) (by omega), Option.bind_some]
  rw [gcd_val (by omega) (by omega)]
  rfl
theorem scontent_val {a b c : Int} (ha : inN a = true) (hb : inN b = true) (hc : inN c = true) : r_spec_foContent (a, b, c) = some (Int.gcd a (Int.gcd b c) : Int) := by
  rw [inN_iff] at ha hb hc
  have h := gcd_le (a := a) (b := b) (M := 1000000) (by omega) (by omega)
  simp only [r_spec_foContent, sgcd_val (a := a) (b := b) (by omega) (by omega), Option.bind_some]
  rw [sgcd_val (by omega) (by omega), Option.bind_some]
  congr 2
  unfold Int.gcd
  simp [Nat.gcd_assoc]
theorem shown_true {a b c : Int} (h : r_impl_isShownForm (a, b, c) = some true) : inN a = true ∧ inN b = true ∧ inN c = true ∧ b * b - 4 * a * c < 0 ∧ -2000 ≤ b * b - 4 * a * c ∧ 0 < a := by
  simp only [r_impl_isShownForm, r_impl_isDefinite, form_val, Option.bind_some] at h
  cases ha : inN a <;> cases hb : inN b <;> cases hc : inN c <;> simp only [ha, hb, hc, Bool.and_true, Bool.and_false, Bool.true_and, Bool.false_and, cond_true, cond_false, Option.bind_some] at h
  all_goals first
    | (exfalso; exact absurd (some_inj h) (by decide))
    | skip
  rw [disc_val ha hb hc] at h
  simp only [Option.bind_some, ltI_eq, leI_eq] at h
  by_cases h1 : b * b - 4 * a * c < 0 <;> by_cases h2 : 0 < a <;> by_cases h3 : -2000 ≤ b * b - 4 * a * c <;> simp [h1, h2, h3] at h
  exact ⟨rfl, rfl, rfl, h1, h3, h2⟩
theorem def_some (f : Int × Int × Int) : ∃ b, r_impl_isDefinite f = some b := by
  simp only [r_impl_isDefinite, form_val, Option.bind_some, r_impl_Form_disc, sI_eq]
  cases (inN f.1 && (inN f.2.1 && inN f.2.2)) <;> exact ⟨_, rfl⟩
theorem shown_some (f : Int × Int × Int) : ∃ b, r_impl_isShownForm f = some b := by
  obtain ⟨b, hb⟩ := def_some f
  simp only [r_impl_isShownForm, hb, Option.bind_some, r_impl_Form_disc, sI_eq]
  cases b <;> exact ⟨_, rfl⟩
/-- Class forms: the same on both sides; what it means. -/
theorem class_val (f : Int × Int × Int) : r_spec_coGood f = r_impl_isClassForm f := by
  simp only [r_spec_coGood, r_impl_isClassForm, shown_val]
  obtain ⟨b, hb⟩ := shown_some f
  rw [hb]
  cases b with
  | false => rfl
  | true =>
    obtain ⟨a, b, c⟩ := f
    obtain ⟨ha, hb, hc, _⟩ := shown_true hb
    simp only [Option.bind_some, cond_true, content_val ha hb hc, scontent_val ha hb hc]
theorem class_some (f : Int × Int × Int) : ∃ b, r_impl_isClassForm f = some b := by
  obtain ⟨b, hb⟩ := shown_some f
  simp only [r_impl_isClassForm, hb, Option.bind_some]
  cases b with
  | false => exact ⟨_, rfl⟩
  | true =>
    obtain ⟨a, b, c⟩ := f
    obtain ⟨ha, hb, hc, _⟩ := shown_true hb
    simp only [Option.bind_some, cond_true, content_val ha hb hc]
    exact ⟨_, rfl⟩
theorem class_true {a b c : Int} (h : r_impl_isClassForm (a, b, c) = some true) : inN a = true ∧ inN b = true ∧ inN c = true ∧ b * b - 4 * a * c < 0 ∧ -2000 ≤ b * b - 4 * a * c ∧ 0 < a ∧ Int.gcd a (Int.gcd b c) = 1 := by
  simp only [r_impl_isClassForm] at h
  obtain ⟨s, hs⟩ := shown_some (a, b, c)
  rw [hs] at h
  cases s with
  | false => exfalso; exact absurd (some_inj h) (by decide)
  | true =>
    obtain ⟨h1, h2, h3, h4, h5, h6⟩ := shown_true hs
    simp only [Option.bind_some, cond_true, content_val h1 h2 h3, eqI_eq] at h
    have h7 := some_inj h
    refine ⟨h1, h2, h3, h4, h5, h6, ?_⟩
    have := eq_of_beq h7
    omega
theorem prime_run (v : Int) : ∀ (n : Nat) (d : Int), r_spec_nuPrime_L4 v n d = r_impl_isPrime_L4 v n d
  | 0, d => rfl
  | n + 1, d => by
    unfold r_spec_nuPrime_L4 r_impl_isPrime_L4
    simp only [sI_eq, prime_run v n]
theorem prime_eq (v : Int) : r_spec_nuPrime v = r_impl_isPrime v := by
  unfold r_spec_nuPrime r_impl_isPrime
  rw [prime_run]
theorem prime_some_run (v : Int) (hv : v ≤ 1000000) : ∀ (n : Nat) (d : Int), 1 ≤ d → d ≤ 1001 → 1002 - d ≤ n → ∃ r, r_impl_isPrime_L4 v n d = some r
  | 0, d, h1, h2, h3 => by omega
  | n + 1, d, h1, h2, h3 => by
    unfold r_impl_isPrime_L4
    have m1 := abs_mul (x := d) (y := d) (A := 1001) (B := 1001) (by omega) (by omega)
    rw [w64_abs (n := d * d) (by omega), leI_eq]
    by_cases h4 : d * d ≤ v
    · have h5 : d ≤ 1000 := by
        rcases Int.lt_or_le 1000 d with h | h
        · have : 1001 * 1001 ≤ d * d := Int.mul_le_mul (by omega) (by omega) (by omega) (by omega)
          omega
        · exact h
      rw [decide_eq_true h4, cond_true, nz_ne (by omega), Option.bind_some]
      cases eqI (Int.tmod v d) 0 with
      | true => exact ⟨_, rfl⟩
      | false =>
        simp only [cond_false, sI_eq]
        rw [w64_in (by omega)]
        exact prime_some_run v hv n (d + 1) (by omega) (by omega) (by omega)
    · rw [decide_eq_false h4, cond_false]
      exact ⟨_, rfl⟩
theorem prime_some (v : Int) (hv : v ≤ 1000000) : ∃ b, r_impl_isPrime v = some b := by
  unfold r_impl_isPrime
  cases ltI v 2 with
  | true => exact ⟨_, rfl⟩
  | false =>
    obtain ⟨r, hr⟩ := prime_some_run v hv FU 2 (by omega) (by omega) (by have : (1002 : Nat) ≤ FU := by decide
                                                                         omega)
    rw [cond_false, hr]
    cases r <;> exact ⟨_, rfl⟩
theorem negdisc_eq (d : Int) : r_spec_reDisc d = r_impl_isNegativeDisc d := by
  simp only [r_spec_reDisc, r_spec_l1In, r_impl_isNegativeDisc, Option.bind_some, dsc_mod]
  cases h : (bif leI (-2000) d then leI d (-3) else false) with
  | false => rfl
  | true =>
    simp only [cond_true]
    rw [dsc_mod_val (by omega) (by omega)]
    simp only [Option.bind_some, ltI_eq, leI_eq]
    congr 1
    simp only [decide_eq_decide]
    omega
theorem negdisc_val (d : Int) : r_impl_isNegativeDisc d = some (decide (-2000 ≤ d ∧ d ≤ -3 ∧ d % 4 ≤ 1)) := by
  simp only [r_impl_isNegativeDisc, leI_eq]
  by_cases h1 : -2000 ≤ d <;> by_cases h2 : d ≤ -3 <;> simp [h1, h2]
  rw [dsc_mod_val (by omega) (by omega)]
  rfl
theorem tmod_far {d m : Int} (h : d.natAbs < m.natAbs) : d.tmod m = d := by
  have := Int.tmod_eq_of_lt (a := d.natAbs) (b := m.natAbs) (by omega) (by omega)
  rcases Int.natAbs_eq d with h1 | h1 <;> rcases Int.natAbs_eq m with h2 | h2
  · rw [h1, h2]; exact this
  · rw [h1, h2, Int.tmod_neg]; exact this
  · rw [h1, h2, Int.neg_tmod, this]
  · rw [h1, h2, Int.tmod_neg, Int.neg_tmod, this]
end Go.Proofs.YtnheekadeflecaaGreat
