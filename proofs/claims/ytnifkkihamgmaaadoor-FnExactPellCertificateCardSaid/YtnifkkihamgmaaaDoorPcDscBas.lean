/-
  Plain values of the small functions: greatest divisors, absolute values, numbers, primes, discriminants, class forms.
  Conditions: none.
-/
import Derived.Test.YtnifkkihamgmaaaDoorPcDscEq
namespace Go.Proofs.YtnifkkihamgmaaaDoor
set_option linter.unusedVariables false
set_option linter.unusedSimpArgs false

theorem abs_val {n : Int} (h : n.natAbs ≤ 9223372036854775806) : r_impl_abs n = some (n.natAbs : Int) := by
  simp only [r_impl_abs, sI_eq, mxI, ltI_eq]
  by_cases h1 : n < -9223372036854775807
  · omega
  · rw [decide_eq_false h1, cond_false, w64_in (by omega)]
    by_cases h2 : n < 0 - n
    · rw [decide_eq_true h2, cond_true]; congr 1; omega
    · rw [decide_eq_false h2, cond_false]; congr 1; omega
theorem sabs_val {n : Int} (h : n.natAbs ≤ 9223372036854775806) : r_spec_l1Abs n = some (n.natAbs : Int) := by
  simp only [r_spec_l1Abs, r_spec_l1Most, Option.bind_some, ltI_eq]
  rw [w64_in (by omega)]
  by_cases h2 : 0 - n < n
  · rw [decide_eq_true h2, cond_true, Option.bind_some]; congr 1; omega
  · rw [decide_eq_false h2, cond_false, Option.bind_some]; congr 1; omega
theorem nz_ne {b : Int} (h : b ≠ 0) : nz b = some () := by
  unfold nz
  rw [eqI_eq]
  have : (b == 0) = false := by rw [beq_eq_false_iff_ne]; exact h
  rw [this]
  rfl
theorem eqI_false {a b : Int} (h : a ≠ b) : eqI a b = false := by rw [eqI_eq, beq_eq_false_iff_ne]; exact h
theorem eqI_true (a : Int) : eqI a a = true := by rw [eqI_eq]; exact beq_self_eq_true a
theorem igcd_step (a b : Int) : Int.gcd b (a.tmod b) = Int.gcd a b := by
  unfold Int.gcd
  rw [Int.natAbs_tmod, Nat.gcd_comm, ← Nat.gcd_rec, Nat.gcd_comm]
theorem gcd_two {x y : Nat} (k : Nat) (hy : 0 < y) (hxy : y < x) (h : x < 2 ^ (k + 1)) : x % y < 2 ^ k := by
  have h1 := Nat.mod_lt x hy
  have h2 := Nat.div_add_mod x y
  have h3 : 1 ≤ x / y := Nat.div_pos (Nat.le_of_lt hxy) hy
  have h4 : y * 1 ≤ y * (x / y) := Nat.mul_le_mul_left y h3
  rw [Nat.pow_succ] at h
  omega
theorem FU_succ (k : Nat) (h : k ≤ 1000000) : k ≤ FU := Nat.le_trans h (by decide)
theorem gcd_le {a b : Int} {M : Nat} (ha : a.natAbs ≤ M) (hb : b.natAbs ≤ M) : Int.gcd a b ≤ M := by
  by_cases h : b = 0
  · subst h; simpa using ha
  · have : Int.gcd a b ∣ b.natAbs := Nat.gcd_dvd_right _ _
    exact Nat.le_trans (Nat.le_of_dvd (by omega) this) hb
theorem natAbs_natAbs (a b : Int) : Int.gcd (a.natAbs : Int) (b.natAbs : Int) = Int.gcd a b := by unfold Int.gcd; simp
def inN (x : Int) : Bool := leI (-1000000) x && leI x 1000000
theorem inN_iff {x : Int} : inN x = true ↔ -1000000 ≤ x ∧ x ≤ 1000000 := by
  unfold inN
  rw [leI_eq, leI_eq]
  simp
theorem num_run (l : List Int) (hl : l.length < 1000000) : ∀ (n i : Nat), i ≤ l.length → l.length - i < n → r_impl_areNumbers_L3 l n (i : Int) = some (if (l.drop i).all inN then .inl () else .inr false)
  | 0, i, _, h => by omega
  | n + 1, i, hi, h => by
    unfold r_impl_areNumbers_L3
    rw [ltI_eq]
    by_cases h1 : (i : Int) < (l.length : Int)
    · have h2 : i < l.length := by omega
      rw [decide_eq_true h1, cond_true]
      have h3 : getI l (i : Int) = some l[i] := by
        unfold getI
        rw [leI_eq, decide_eq_true (by omega : (0 : Int) ≤ (i : Int)), cond_true]
        simp [h2]
      rw [h3, Option.bind_some, List.drop_eq_getElem_cons h2, List.all_cons]
      simp only [ltI_eq, inN, leI_eq, sI_eq]
      rw [w64_in (by omega)]
      have ih := num_run l hl n (i + 1) (by omega) (by omega)
      rw [show ((i : Int) + 1) = ((i + 1 : Nat) : Int) by omega, ih]
      by_cases h4 : l[i] < -1000000
      · have h6 : ¬ (-1000000 ≤ l[i]) := by omega
        simp [h4, h6]
      · by_cases h5 : 1000000 < l[i]
        · have h6 : ¬ (l[i] ≤ 1000000) := by omega
          simp [h4, h5, h6]
        · have h6 : -1000000 ≤ l[i] := by omega
          have h7 : l[i] ≤ 1000000 := by omega
          simp only [h4, h5, h6, h7, decide_true, decide_false, cond_false, cond_true, Bool.and_true, Bool.true_and]
    · rw [decide_eq_false h1, cond_false, List.drop_eq_nil_of_le (by omega)]
      rfl
theorem num_val (l : List Int) (hl : l.length < 1000000) : r_impl_areNumbers l = some (l.all inN) := by
  have h := num_run l hl FU 0 (Nat.zero_le _) (by have : (1000000 : Nat) ≤ FU := by decide
                                                  omega)
  simp only [r_impl_areNumbers, show (0 : Int) = ((0 : Nat) : Int) from rfl, h, List.drop_zero]
  cases l.all inN <;> rfl
theorem good_val (n : Int) : r_spec_nuGood n = some (inN n) := by
  simp only [r_spec_nuGood, r_spec_l1In, Option.bind_some, inN]
  cases leI (-1000000) n <;> rfl
theorem sform_val (f : Int × Int × Int) : r_spec_foGood f = some (inN f.1 && (inN f.2.1 && inN f.2.2)) := by
  simp only [r_spec_foGood, good_val, Option.bind_some]
  cases inN f.1 <;> cases inN f.2.1 <;> cases inN f.2.2 <;> rfl
theorem tmod_far {d m : Int} (h : d.natAbs < m.natAbs) : d.tmod m = d := by
  have := Int.tmod_eq_of_lt (a := d.natAbs) (b := m.natAbs) (by omega) (by omega)
  rcases Int.natAbs_eq d with h1 | h1 <;> rcases Int.natAbs_eq m with h2 | h2
  · rw [h1, h2]; exact this
  · rw [h1, h2, Int.tmod_neg]; exact this
  · rw [h1, h2, Int.neg_tmod, this]
  · rw [h1, h2, Int.tmod_neg, Int.neg_tmod, this]
end Go.Proofs.YtnifkkihamgmaaaDoor
