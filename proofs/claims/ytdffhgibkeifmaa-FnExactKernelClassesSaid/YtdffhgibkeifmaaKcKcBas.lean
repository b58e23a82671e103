/-
  Remainders, primes and small discriminants, as plain facts.
  Conditions: none.
-/
import Derived.Test.YtdffhgibkeifmaaKcRaw
namespace Go.Proofs.Ytdffhgibkeifmaa
set_option linter.unusedVariables false
set_option linter.unusedSimpArgs false

theorem dsc_mod (a m : Int) : r_spec_nuMod a m = r_impl_mod a m := by
  simp only [r_spec_nuMod, r_impl_mod, sI_eq]
theorem tmod_neg {a m : Int} (hm : 1 ≤ m) (h : a.tmod m < 0) : a.tmod m + m = a % m := by
  have e := Int.tmod_eq_emod (a := a) (b := m)
  have h1 := Int.emod_nonneg a (b := m) (by omega)
  have h2 := Int.emod_lt_of_pos a (b := m) (by omega)
  split at e <;> omega
theorem tmod_pos {a m : Int} (hm : 1 ≤ m) (h : 0 ≤ a.tmod m) : a.tmod m = a % m := by
  have e := Int.tmod_eq_emod (a := a) (b := m)
  have h1 := Int.emod_nonneg a (b := m) (by omega)
  have h2 := Int.emod_lt_of_pos a (b := m) (by omega)
  split at e <;> omega
theorem dsc_mod_val {a m : Int} (h1 : 1 ≤ m) (h2 : m ≤ 9223372036854775807) : r_impl_mod a m = some (a % m) := by
  have h3 := Int.emod_nonneg a (b := m) (by omega)
  have h4 := Int.emod_lt_of_pos a (b := m) (by omega)
  have hz : nz m = some () := by
    unfold nz
    rw [eqI_eq]
    have : (m == 0) = false := by rw [beq_eq_false_iff_ne]; omega
    rw [this]
    rfl
  simp only [r_impl_mod, hz, Option.bind_some, sI_eq, ltI_eq]
  by_cases h : a.tmod m < 0
  · rw [decide_eq_true h, cond_true, tmod_neg h1 h, w64_in (by omega)]
  · rw [decide_eq_false h, cond_false, tmod_pos h1 (by omega)]
theorem w64_abs {n : Int} (h : n.natAbs ≤ 9223372036854775807) : w64 n = n := w64_in (by omega)
theorem abs_mul {x y : Int} {A B : Nat} (hx : x.natAbs ≤ A) (hy : y.natAbs ≤ B) : (x * y).natAbs ≤ A * B := by
  rw [Int.natAbs_mul]; exact Nat.mul_le_mul hx hy
theorem nz_ne {b : Int} (h : b ≠ 0) : nz b = some () := by
  unfold nz
  rw [eqI_eq]
  have : (b == 0) = false := by rw [beq_eq_false_iff_ne]; exact h
  rw [this]
  rfl
theorem eqI_false {a b : Int} (h : a ≠ b) : eqI a b = false := by rw [eqI_eq, beq_eq_false_iff_ne]; exact h
theorem eqI_true (a : Int) : eqI a a = true := by rw [eqI_eq]; exact beq_self_eq_true a
theorem FU_succ (k : Nat) (h : k ≤ 1000000) : k ≤ FU := Nat.le_trans h (by decide)
def inN (x : Int) : Bool := leI (-1000000) x && leI x 1000000
theorem inN_iff {x : Int} : inN x = true ↔ -1000000 ≤ x ∧ x ≤ 1000000 := by
  unfold inN
  rw [leI_eq, leI_eq]
  simp
theorem num_run (l : List Int) (hl : l.length < 1000000) : ∀ (n i : Nat), i ≤ l.length → l.length - i < n → r_impl_areNumbers_L3 l n (i : Int) = some (if (l.drop i).all inN then .inl () else .inr false)
  | 0, i, _, h => by omega
  | n + 1, i, hi, h => by
    unfold r_impl_areNumbers_L3
    rw [ltI_eq]
    by_cases h1 : (i : Int) < (l.length : Int)
    · have h2 : i < l.length := by omega
      rw [decide_eq_true h1, cond_true]
      have h3 : getI l (i : Int) = some l[i] := by
        unfold getI
        rw [leI_eq, decide_eq_true (by omega : (0 : Int) ≤ (i : Int)), cond_true]
        simp [h2]
      rw [h3, Option.bind_some, List.drop_eq_getElem_cons h2, List.all_cons]
      simp only [ltI_eq, inN, leI_eq, sI_eq]
      rw [w64_in (by omega)]
      have ih := num_run l hl n (i + 1) (by omega) (by omega)
      rw [show ((i : Int) + 1) = ((i + 1 : Nat) : Int) by omega, ih]
      by_cases h4 : l[i] < -1000000
      · have h6 : ¬ (-1000000 ≤ l[i]) := by omega
        simp [h4, h6]
      · by_cases h5 : 1000000 < l[i]
        · have h6 : ¬ (l[i] ≤ 1000000) := by omega
          simp [h4, h5, h6]
        · have h6 : -1000000 ≤ l[i] := by omega
          have h7 : l[i] ≤ 1000000 := by omega
          simp only [h4, h5, h6, h7, decide_true, decide_false, cond_false, cond_true, Bool.and_true, Bool.true_and]
    · rw [decide_eq_false h1, cond_false, List.drop_eq_nil_of_le (by omega)]
      rfl
theorem num_val (l : List Int) (hl : l.length < 1000000) : r_impl_areNumbers l = some (l.all inN) := by
  have h := num_run l hl FU 0 (Nat.zero_le _) (by have : (1000000 : Nat) ≤ FU := by decide
                                                  omega)
  simp only [r_impl_areNumbers, show (0 : Int) = ((0 : Nat) : Int) from rfl, h, List.drop_zero]
  cases l.all inN <;> rfl
theorem prime_run (v : Int) : ∀ (n : Nat) (d : Int), r_spec_nuPrime_L4 v n d = r_impl_isPrime_L4 v n d
  | 0, d => rfl
  | n + 1, d => by
    unfold r_spec_nuPrime_L4 r_impl_isPrime_L4
    simp only [sI_eq, prime_run v n]
theorem prime_eq (v : Int) : r_spec_nuPrime v = r_impl_isPrime v := by
  unfold r_spec_nuPrime r_impl_isPrime
  rw [prime_run]
theorem prime_some_run (v : Int) (hv : v ≤ 1000000) : ∀ (n : Nat) (d : Int), 1 ≤ d → d ≤ 1001 → 1002 - d ≤ n → ∃ r, r_impl_isPrime_L4 v n d = some r
  | 0, d, h1, h2, h3 => by omega
  | n + 1, d, h1, h2, h3 => by
    unfold r_impl_isPrime_L4
    have m1 := abs_mul (x := d) (y := d) (A := 1001) (B := 1001) (by omega) (by omega)
    rw [w64_abs (n := d * d) (by omega), leI_eq]
    by_cases h4 : d * d ≤ v
    · have h5 : d ≤ 1000 := by
        rcases Int.lt_or_le 1000 d with h | h
        · have : 1001 * 1001 ≤ d * d := Int.mul_le_mul (by omega) (by omega) (by omega) (by omega)
          omega
        · exact h
      rw [decide_eq_true h4, cond_true, nz_ne (by omega), Option.bind_some]
      cases eqI (Int.tmod v d) 0 with
      | true => exact ⟨_, rfl⟩
      | false =>
        simp only [cond_false, sI_eq]
        rw [w64_in (by omega)]
        exact prime_some_run v hv n (d + 1) (by omega) (by omega) (by omega)
    · rw [decide_eq_false h4, cond_false]
      exact ⟨_, rfl⟩
theorem prime_some (v : Int) (hv : v ≤ 1000000) : ∃ b, r_impl_isPrime v = some b := by
  unfold r_impl_isPrime
  cases ltI v 2 with
  | true => exact ⟨_, rfl⟩
  | false =>
    obtain ⟨r, hr⟩ := prime_some_run v hv FU 2 (by omega) (by omega) (by have : (1002 : Nat) ≤ FU := by decide
                                                                         omega)
    rw [cond_false, hr]
    cases r <;> exact ⟨_, rfl⟩
theorem negdisc_eq (d : Int) : r_spec_reDisc d = r_impl_isNegativeDisc d := by
  simp only [r_spec_reDisc, r_spec_l1In, r_impl_isNegativeDisc, Option.bind_some, dsc_mod]
  cases h : (bif leI (-2000) d then leI d (-3) else false) with
  | false => rfl
  | true =>
    simp only [cond_true]
    rw [dsc_mod_val (by omega) (by omega)]
    simp only [Option.bind_some, ltI_eq, leI_eq]
    congr 1
    simp only [decide_eq_decide]
    omega
theorem negdisc_val (d : Int) : r_impl_isNegativeDisc d = some (decide (-2000 ≤ d ∧ d ≤ -3 ∧ d % 4 ≤ 1)) := by
  simp only [r_impl_isNegativeDisc, leI_eq]
  by_cases h1 : -2000 ≤ d <;> by_cases h2 : d ≤ -3 <;> simp [h1, h2]
  rw [dsc_mod_val (by omega) (by omega)]
  rfl
end Go.Proofs.Ytdffhgibkeifmaa
