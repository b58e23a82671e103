/-
  Plain values of the small functions: greatest divisors, absolute values, numbers, primes, discriminants, class forms.
  Conditions: none.
-/
import Derived.Test.YtgeajejmikaniaaIvDscEq
namespace Go.Proofs.Ytgeajejmikaniaa
set_option linter.unusedVariables false
set_option linter.unusedSimpArgs false

theorem abs_val {n : Int} (h : n.natAbs ≤ 9223372036854775806) : r_impl_abs n = some (n.natAbs : Int) := by
  simp only [r_impl_abs, sI_eq, mxI, ltI_eq]
  by_cases h1 : n < -9223372036854775807
  · omega
  · rw [decide_eq_false h1, cond_false, w64_in (by omega)]
    by_cases h2 : n < 0 - n
    · rw [decide_eq_true h2, cond_true]; congr 1; omega
    · rw [decide_eq_false h2, cond_false]; congr 1; omega
theorem sabs_val {n : Int} (h : n.natAbs ≤ 9223372036854775806) : r_spec_l1Abs n = some (n.natAbs : Int) := by
  simp only [r_spec_l1Abs, r_spec_l1Most, Option.bind_some, ltI_eq]
  rw [w64_in (by omega)]
  by_cases h2 : 0 - n < n
  · rw [decide_eq_true h2, cond_true, Option.bind_some]; congr 1; omega
  · rw [decide_eq_false h2, cond_false, Option.bind_some]; congr 1; omega
theorem nz_ne {b : Int} (h : b ≠ 0) : nz b = some () := by
  unfold nz
  rw [eqI_eq]
  have : (b == 0) = false := by rw [beq_eq_false_iff_ne]; exact h
  rw [this]
  rfl
theorem eqI_false {a b : Int} (h : a ≠ b) : eqI a b = false := by rw [eqI_eq, beq_eq_false_iff_ne]; exact h
theorem eqI_true (a : Int) : eqI a a = true := by rw [eqI_eq]; exact beq_self_eq_true a
theorem igcd_step (a b : Int) : Int.gcd b (a.tmod b) = Int.gcd a b := by
  unfold Int.gcd
  rw [Int.natAbs_tmod, Nat.gcd_comm, ← Nat.gcd_rec, Nat.gcd_comm]
theorem gcd_two {x y : Nat} (k : Nat) (hy : 0 < y) (hxy : y < x) (h : x < 2 ^ (k + 1)) : x % y < 2 ^ k := by
  have h1 := Nat.mod_lt x hy
  have h2 := Nat.div_add_mod x y
  have h3 : 1 ≤ x / y := Nat.div_pos (Nat.le_of_lt hxy) hy
  have h4 : y * 1 ≤ y * (x / y) := Nat.mul_le_mul_left y h3
  rw [Nat.pow_succ] at h
  omega
theorem gcd_run : ∀ (k n : Nat) (a b : Int), b.natAbs < 2 ^ k → 2 * k + 1 ≤ n → ∃ r, r_impl_gcd_L5 n a b = some r ∧ r.natAbs = Int.gcd a b
  | k, 0, a, b, _, hn => by omega
  | 0, n + 1, a, b, hb, hn => by
    have : b = 0 := by simp at hb; omega
    subst this
    unfold r_impl_gcd_L5
    rw [eqI_true]
    exact ⟨a, rfl, by simp⟩
  | k + 1, n + 1, a, b, hb, hn => by
    unfold r_impl_gcd_L5
    by_cases h0 : b = 0
    · subst h0
      rw [eqI_true]
      exact ⟨a, rfl, by simp⟩
    · rw [eqI_false h0, nz_ne h0]
      simp only [Bool.not_false, cond_true, Option.bind_some, sI_eq]
      rw [← igcd_step a b]
      match n, hn with
      | n + 1, hn =>
        unfold r_impl_gcd_L5
        by_cases h1 : a.tmod b = 0
        · rw [h1, eqI_true]
          exact ⟨b, rfl, by simp⟩
        · rw [eqI_false h1, nz_ne h1]
          simp only [Bool.not_false, cond_true, Option.bind_some, sI_eq]
          rw [← igcd_step b (a.tmod b)]
          refine gcd_run k n _ _ ?_ (by omega)
          rw [Int.natAbs_tmod]
          have h2 : (a.tmod b).natAbs < b.natAbs := by rw [Int.natAbs_tmod]; exact Nat.mod_lt _ (by omega)
          exact gcd_two k (by omega) h2 hb
theorem FU_succ (k : Nat) (h : k ≤ 1000000) : k ≤ FU := Nat.le_trans h (by decide)
theorem gcd_le {a b : Int} {M : Nat} (ha : a.natAbs ≤ M) (hb : b.natAbs ≤ M) : Int.gcd a b ≤ M := by
  by_cases h : b = 0
  · subst h; simpa using ha
  · have : Int.gcd a b ∣ b.natAbs := Nat.gcd_dvd_right _ _
    exact Nat.le_trans (Nat.le_of_dvd (by omega) this) hb
theorem gcd_val {a b : Int} (ha : a.natAbs ≤ 9223372036854775806) (hb : b.natAbs ≤ 9223372036854775806) : r_impl_gcd a b = some (Int.gcd a b : Int) := by
  obtain ⟨r, h1, h2⟩ := gcd_run 64 FU a b (by omega) (FU_succ 129 (by decide))
  have h3 := gcd_le ha hb
  simp only [r_impl_gcd, h1, Option.bind_some, abs_val (n := r) (by omega), h2]
theorem sgcd_run : ∀ (n : Nat) (a b : Int), r_spec_nuGcd_L7 n a b = r_impl_gcd_L5 n a b
  | 0, a, b => rfl
  | n + 1, a, b => by
    unfold r_spec_nuGcd_L7 r_impl_gcd_L5
    simp only [sI_eq, sgcd_run n]
theorem natAbs_natAbs (a b : Int) : Int.gcd (a.natAbs : Int) (b.natAbs : Int) = Int.gcd a b := by unfold Int.gcd; simp
theorem nn_run : ∀ (n : Nat) (a b r : Int), 0 ≤ a → 0 ≤ b → r_impl_gcd_L5 n a b = some r → 0 ≤ r
  | 0, a, b, r, _, _, h => by cases h
  | n + 1, a, b, r, ha, hb, h => by
    unfold r_impl_gcd_L5 at h
    by_cases h0 : b = 0
    · subst h0
      rw [eqI_true] at h
      have h : some a = some r := h
      injection h with h
      omega
    · rw [eqI_false h0, nz_ne h0] at h
      simp only [Bool.not_false, cond_true, Option.bind_some, sI_eq] at h
      exact nn_run n _ _ _ hb (Int.tmod_nonneg _ ha) h
theorem sgcd_val {a b : Int} (ha : a.natAbs ≤ 9223372036854775806) (hb : b.natAbs ≤ 9223372036854775806) : r_spec_nuGcd a b = some (Int.gcd a b : Int) := by
  obtain ⟨r, h1, h2⟩ := gcd_run 64 FU (a.natAbs : Int) (b.natAbs : Int) (by omega) (FU_succ 129 (by decide))
  have h3 := nn_run _ _ _ _ (by omega) (by omega) h1
  rw [natAbs_natAbs] at h2
  simp only [r_spec_nuGcd, sabs_val ha, sabs_val hb, Option.bind_some, sgcd_run, h1]
  congr 1
  omega
def inN (x : Int) : Bool := leI (-1000000) x && leI x 1000000
theorem inN_iff {x : Int} : inN x = true ↔ -1000000 ≤ x ∧ x ≤ 1000000 := by
  unfold inN
  rw [leI_eq, leI_eq]
  simp
theorem num_run (l : List Int) (hl : l.length < 1000000) : ∀ (n i : Nat), i ≤ l.length → l.length - i < n → r_impl_areNumbers_L3 l n (i : Int) = some (if (l.drop i).all inN then .inl () else .inr false)
  | 0, i, _, h => by omega
  | n + 1, i, hi, h => by
    unfold r_impl_areNumbers_L3
    rw [ltI_eq]
    by_cases h1 : (i : Int) < (l.length : Int)
    · have h2 : i < l.length := by omega
      rw [decide_eq_true h1, cond_true]
      have h3 : getI l (i : Int) = some l[i] := by
        unfold getI
        rw [leI_eq, decide_eq_true (by omega : (0 : Int) ≤ (i : Int)), cond_true]
        simp [h2]
      rw [h3, Option.bind_some, List.drop_eq_getElem_cons h2, List.all_cons]
      simp only [ltI_eq, inN, leI_eq, sI_eq]
      rw [w64_in (by omega)]
      have ih := num_run l hl n (i + 1) (by omega) (by omega)
      rw [show ((i : Int) + 1) = ((i + 1 : Nat) : Int) by omega, ih]
      by_cases h4 : l[i] < -1000000
      · have h6 : ¬ (-1000000 ≤ l[i]) := by omega
        simp [h4, h6]
      · by_cases h5 : 1000000 < l[i]
        · have h6 : ¬ (l[i] ≤ 1000000) := by omega
          simp [h4, h5, h6]
        · have h6 : -1000000 ≤ l[i] := by omega
          have h7 : l[i] ≤ 1000000 := by omega
          simp only [h4, h5, h6, h7, decide_true, decide_false, cond_false, cond_true, Bool.and_true, Bool.true_and]
    · rw [decide_eq_false h1, cond_false, List.drop_eq_nil_of_le (by omega)]
      rfl
theorem num_val (l : List Int) (hl : l.length < 1000000) : r_impl_areNumbers l = some (l.all inN) := by
  have h := num_run l hl FU 0 (Nat.zero_le _) (by have : (1000000 : Nat) ≤ FU := by decide
                                                  omega)
  simp only [r_impl_areNumbers, show (0 : Int) = ((0 : Nat) : Int) from rfl, h, List.drop_zero]
  cases l.all inN <;> rfl
theorem good_val (n : Int) : r_spec_nuGood n = some (inN n) := by
  simp only [r_spec_nuGood, r_spec_l1In, Option.bind_some, inN]
  cases leI (-1000000) n <;> rfl
theorem form_val (f : Int × Int × Int) : r_impl_IsForm f = some (inN f.1 && (inN f.2.1 && inN f.2.2)) := by
  simp only [r_impl_IsForm, num_val _ (show [f.1, f.2.1, f.2.2].length < 1000000 by simp), Option.bind_some, List.all_cons, List.all_nil, Bool.and_true]
theorem sform_val (f : Int × Int × Int) : r_spec_foGood f = some (inN f.1 && (inN f.2.1 && inN f.2.2)) := by
  simp only [r_spec_foGood, good_val, Option.bind_some]
  cases inN f.1 <;> cases inN f.2.1 <;> cases inN f.2.2 <;> rfl
theorem disc_eq : r_spec_foDisc = r_impl_Form_disc := rfl
theorem disc_val {a b c : Int} (ha : inN a = true) (hb : inN b = true) (hc : inN c = true) : r_impl_Form_disc (a, b, c) = some (b * b - 4 * a * c) := by
  rw [inN_iff] at ha hb hc
  have m1 := abs_mul (x := b) (y := b) (A := 1000000) (B := 1000000) (by omega) (by omega)
  have m2 := abs_mul (x := 4 * a) (y := c) (A := 4000000) (B := 1000000) (by omega) (by omega)
  simp only [r_impl_Form_disc, sI_eq]
  rw [w64_abs (n := b * b) (by omega), w64_abs (n := 4 * a) (by omega), w64_abs (n := 4 * a * c) (by omega), w64_abs (by omega)]
theorem content_val {a b c : Int} (ha : inN a = true) (hb : inN b = true) (hc : inN c = true) : r_impl_Form_content (a, b, c) = some (Int.gcd a (Int.gcd b c) : Int) := by
  rw [inN_iff] at ha hb hc
  have h := gcd_le (a := b) (b := c) (M := 1000000) (by omega) (by omega)
  simp only [r_impl_Form_content, gcd_val (a := b) (b := c) (by omega) (by omega), Option.bind_some]
  rw [gcd_val (by omega) (by omega)]
  rfl
theorem scontent_val {a b c : Int} (ha : inN a = true) (hb : inN b = true) (hc : inN c = true) : r_spec_foContent (a, b, c) = some (Int.gcd a (Int.gcd b c) : Int) := by
  rw [inN_iff] at ha hb hc
  have h := gcd_le (a := a) (b := b) (M := 1000000) (by omega) (by omega)
  simp only [r_spec_foContent, sgcd_val (a := a) (b := b) (by omega) (by omega), Option.bind_some]
  rw [sgcd_val (by omega) (by omega), Option.bind_some]
  congr 2
  unfold Int.gcd
  simp [Nat.gcd_assoc]
theorem tmod_far {d m : Int} (h : d.natAbs < m.natAbs) : d.tmod m = d := by
  have := Int.tmod_eq_of_lt (a := d.natAbs) (b := m.natAbs) (by omega) (by omega)
  rcases Int.natAbs_eq d with h1 | h1 <;> rcases Int.natAbs_eq m with h2 | h2
  · rw [h1, h2]; exact this
  · rw [h1, h2, Int.tmod_neg]; exact this
  · rw [h1, h2, Int.neg_tmod, this]
  · rw [h1, h2, Int.tmod_neg, Int.neg_tmod, this]
end Go.Proofs.Ytgeajejmikaniaa
