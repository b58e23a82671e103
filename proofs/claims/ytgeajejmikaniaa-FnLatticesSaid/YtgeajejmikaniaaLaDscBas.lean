/-
  Plain values of the small functions: greatest divisors, absolute values, numbers, primes, discriminants, class forms.
  Conditions: none.
-/
import Derived.Test.YtgeajejmikaniaaLaDscEq
namespace Go.Proofs.Ytgeajejmikaniaa
set_option linter.unusedVariables false
set_option linter.unusedSimpArgs false

theorem abs_val {n : Int} (h : n.natAbs ≤ 9223372036854775806) : r_impl_abs n = some (n.natAbs : Int) := by
  simp only [r_impl_abs, sI_eq, mxI, ltI_eq]
  by_cases h1 : n < -9223372036854775807
  · omega
  · rw [decide_eq_false h1, cond_false, w64_in (by omega)]
    by_cases h2 : n < 0 - n
    · rw [decide_eq_true h2, cond_true]; congr 1; omega
    · rw [decide_eq_false h2, cond_false]; congr 1; omega
theorem sabs_val {n : Int} (h : n.natAbs ≤ 9223372036854775806) : r_spec_l1Abs n = some (n.natAbs : Int) := by
  simp only [r_spec_l1Abs, r_spec_l1Most, Option.bind_some, ltI_eq]
  rw [w64_in (by omega)]
  by_cases h2 : 0 - n < n
  · rw [decide_eq_true h2, cond_true, Option.bind_some]; congr 1; omega
  · rw [decide_eq_false h2, cond_false, Option.bind_some]; congr 1; omega
theorem nz_ne {b : Int} (h : b ≠ 0) : nz b = some () := by
  unfold nz
  rw [eqI_eq]
  have : (b == 0) = false := by rw [beq_eq_false_iff_ne]; exact h
  rw [this]
  rfl
theorem eqI_false {a b : Int} (h : a ≠ b) : eqI a b = false := by rw [eqI_eq, beq_eq_false_iff_ne]; exact h
theorem eqI_true (a : Int) : eqI a a = true := by rw [eqI_eq]; exact beq_self_eq_true a
theorem igcd_step (a b : Int) : Int.gcd b (a.tmod b) = Int.gcd a b := by
  unfold Int.gcd
  rw [Int.natAbs_tmod, Nat.gcd_comm, ← Nat.gcd_rec, Nat.gcd_comm]
theorem gcd_two {x y : Nat} (k : Nat) (hy : 0 < y) (hxy : y < x) (h : x < 2 ^ (k + 1)) : x % y < 2 ^ k := by
  have h1 := Nat.mod_lt x hy
  have h2 := Nat.div_add_mod x y
  have h3 : 1 ≤ x / y := Nat.div_pos (Nat.le_of_lt hxy) hy
  have h4 : y * 1 ≤ y * (x / y) := Nat.mul_le_mul_left y h3
  rw [Nat.pow_succ] at h
  omega
theorem gcd_run : ∀ (k n : Nat) (a b : Int), b.natAbs < 2 ^ k → 2 * k + 1 ≤ n → ∃ r, r_impl_gcd_L5 n a b = some r ∧ r.natAbs = Int.gcd a b
  | k, 0, a, b, _, hn => by omega
  | 0, n + 1, a, b, hb, hn => by
    have : b = 0 := by simp at hb; omega
    subst this
    unfold r_impl_gcd_L5
    rw [eqI_true]
    exact ⟨a, rfl, by simp⟩
  | k + 1, n + 1, a, b, hb, hn => by
    unfold r_impl_gcd_L5
    by_cases h0 : b = 0
    · subst h0
      rw [eqI_true]
      exact ⟨a, rfl, by simp⟩
    · rw [eqI_false h0, nz_ne h0]
      simp only [Bool.not_false, cond_true, Option.bind_some, sI_eq]
      rw [← igcd_step a b]
      match n, hn with
      | n + 1, hn =>
        unfold r_impl_gcd_L5
        by_cases h1 : a.tmod b = 0
        · rw [h1, eqI_true]
          exact ⟨b, rfl, by simp⟩
        · rw [eqI_false h1, nz_ne h1]
          simp only [Bool.not_false, cond_true, Option.bind_some, sI_eq]
          rw [← igcd_step b (a.tmod b)]
          refine gcd_run k n _ _ ?_ (by omega)
          rw [Int.natAbs_tmod]
          have h2 : (a.tmod b).natAbs < b.natAbs := by rw [Int.natAbs_tmod]; exact Nat.mod_lt _ (by omega)
          exact gcd_two k (by omega) h2 hb
theorem FU_succ (k : Nat) (h : k ≤ 1000000) : k ≤ FU := Nat.le_trans h (by decide)
theorem gcd_le {a b : Int} {M : Nat} (ha : a.natAbs ≤ M) (hb : b.natAbs ≤ M) : Int.gcd a b ≤ M := by
  by_cases h : b = 0
  · subst h; simpa using ha
  · have : Int.gcd a b ∣ b.natAbs := Nat.gcd_dvd_right _ _
    exact Nat.le_trans (Nat.le_of_dvd (by omega) this) hb
theorem gcd_val {a b : Int} (ha : a.natAbs ≤ 9223372036854775806) (hb : b.natAbs ≤ 9223372036854775806) : r_impl_gcd a b = some (Int.gcd a b : Int) := by
  obtain ⟨r, h1, h2⟩ := gcd_run 64 FU a b (by omega) (FU_succ 129 (by decide))
  have h3 := gcd_le ha hb
  simp only [r_impl_gcd, h1, Option.bind_some, abs_val (n := r) (by omega), h2]
theorem sgcd_run : ∀ (n : Nat) (a b : Int), r_spec_nuGcd_L7 n a b = r_impl_gcd_L5 n a b
  | 0, a, b => rfl
  | n + 1, a, b => by
    unfold r_spec_nuGcd_L7 r_impl_gcd_L5
    simp only [sI_eq, sgcd_run n]
theorem natAbs_natAbs (a b : Int) : Int.gcd (a.natAbs : Int) (b.natAbs : Int) = Int.gcd a b := by unfold Int.gcd; simp
theorem nn_run : ∀ (n : Nat) (a b r : Int), 0 ≤ a → 0 ≤ b → r_impl_gcd_L5 n a b = some r → 0 ≤ r
  | 0, a, b, r, _, _, h => by cases h
  | n + 1, a, b, r, ha, hb, h => by
    unfold r_impl_gcd_L5 at h
    by_cases h0 : b = 0
    · subst h0
      rw [eqI_true] at h
      have h : some a = some r := h
      injection h with h
      omega
    · rw [eqI_false h0, nz_ne h0] at h
      simp only [Bool.not_false, cond_true, Option.bind_some, sI_eq] at h
      exact nn_run n _ _ _ hb (Int.tmod_nonneg _ ha) h
theorem sgcd_val {a b : Int} (ha : a.natAbs ≤ 9223372036854775806) (hb : b.natAbs ≤ 9223372036854775806) : r_spec_nuGcd a b = some (Int.gcd a b : Int) := by
  obtain ⟨r, h1, h2⟩ := gcd_run 64 FU (a.natAbs : Int) (b.natAbs : Int) (by omega) (FU_succ 129 (by decide))
  have h3 := nn_run _ _ _ _ (by omega) (by omega) h1
  rw [natAbs_natAbs] at h2
  simp only [r_spec_nuGcd, sabs_val ha, sabs_val hb, Option.bind_some, sgcd_run, h1]
  congr 1
  omega
def inN (x : Int) : Bool := leI (-1000000) x && leI x 1000000
theorem inN_iff {x : Int} : inN x = true ↔ -1000000 ≤ x ∧ x ≤ 1000000 := by
  unfold inN
  rw [leI_eq, leI_eq]
  simp
theorem tmod_far {d m : Int} (h : d.natAbs < m.natAbs) : d.tmod m = d := by
  have := Int.tmod_eq_of_lt (a := d.natAbs) (b := m.natAbs) (by omega) (by omega)
  rcases Int.natAbs_eq d with h1 | h1 <;> rcases Int.natAbs_eq m with h2 | h2
  · rw [h1, h2]; exact this
  · rw [h1, h2, Int.tmod_neg]; exact this
  · rw [h1, h2, Int.neg_tmod, this]
  · rw [h1, h2, Int.tmod_neg, Int.neg_tmod, this]
end Go.Proofs.Ytgeajejmikaniaa
