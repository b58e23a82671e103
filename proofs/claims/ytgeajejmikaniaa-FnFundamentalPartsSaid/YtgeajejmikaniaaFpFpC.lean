/-
  Symbols of a discriminant and of its fundamental part; numbers of square roots of a discriminant modulo small primes.
  Conditions: none.
-/
import Derived.Test.YtgeajejmikaniaaFpFpB
namespace Go.Proofs.Ytgeajejmikaniaa
set_option linter.unusedVariables false
set_option linter.unusedSimpArgs false

theorem t2_mul (a b : Int) : t2 (a * b) = t2 a * t2 b := by
  have e2 : (a * b) % 2 = (a % 2) * (b % 2) % 2 := Int.mul_emod a b 2
  have e8 : (a * b) % 8 = (a % 8) * (b % 8) % 8 := Int.mul_emod a b 8
  unfold t2
  have ha : a % 8 = 0 ∨ a % 8 = 1 ∨ a % 8 = 2 ∨ a % 8 = 3 ∨ a % 8 = 4 ∨ a % 8 = 5 ∨ a % 8 = 6 ∨ a % 8 = 7 := by omega
  have hb : b % 8 = 0 ∨ b % 8 = 1 ∨ b % 8 = 2 ∨ b % 8 = 3 ∨ b % 8 = 4 ∨ b % 8 = 5 ∨ b % 8 = 6 ∨ b % 8 = 7 := by omega
  have a2 : a % 2 = a % 8 % 2 := by omega
  have b2 : b % 2 = b % 8 % 2 := by omega
  rw [e2, e8, a2, b2]
  rcases ha with h | h | h | h | h | h | h | h <;> rcases hb with g | g | g | g | g | g | g | g <;> rw [h, g] <;> rfl
theorem KK_num (a b : Int) (n : Nat) : KK (a * b) n = KK a n * KK b n := by
  induction n using Nat.strongRecOn with
  | ind n ih =>
    by_cases h0 : n = 0
    · subst h0; rw [KK_zero, KK_zero, KK_zero]; rfl
    · by_cases hn : n % 2 = 0
      · rw [KK_even _ hn, KK_even _ hn, KK_even _ hn, ih (n / 2) (by omega), t2_mul]
        grind
      · rw [KK_odd _ (by omega), KK_odd _ (by omega), KK_odd _ (by omega), JI_mul (by omega)]
theorem KK_ne (a : Int) (n : Nat) (h1 : 1 ≤ n) : KK a n ≠ 0 ↔ Nat.gcd n a.natAbs = 1 := by
  induction n using Nat.strongRecOn with
  | ind n ih =>
    by_cases hn : n % 2 = 0
    · obtain ⟨m, rfl⟩ : ∃ m, n = 2 * m := ⟨n / 2, by omega⟩
      rw [KK_even _ hn, show 2 * m / 2 = m by omega]
      have ih := ih m (by omega) (by omega)
      by_cases ha : a % 2 = 0
      · have : t2 a = 0 := by unfold t2; rw [if_pos ha]
        rw [this, Int.zero_mul]
        constructor
        · intro h; exact absurd rfl h
        · intro h
          exfalso
          have h2 : 2 ∣ Nat.gcd (2 * m) a.natAbs := Nat.dvd_gcd ⟨m, rfl⟩ (by omega)
          rw [h] at h2
          have := Nat.le_of_dvd (by omega) h2
          omega
      · have ht : t2 a = 1 ∨ t2 a = -1 := by
          unfold t2
          rw [if_neg ha]
          split
          · exact .inr rfl
          · exact .inl rfl
        have hc2 : Nat.Coprime 2 a.natAbs := by
          unfold Nat.Coprime
          rw [Nat.gcd_rec, show a.natAbs % 2 = 1 by omega]
          rfl
        have hg : Nat.gcd (2 * m) a.natAbs = 1 ↔ Nat.gcd m a.natAbs = 1 := by
          constructor
          · intro h; exact Nat.Coprime.coprime_mul_left h
          · intro h; exact Nat.Coprime.mul_left hc2 h
        rw [hg, ← ih]
        rcases ht with h | h <;> rw [h]
        · rw [Int.one_mul]
        · constructor
          · intro h1 h2; rw [h2] at h1; exact h1 rfl
          · intro h1 h2; apply h1; omega
    · have hn : n % 2 = 1 := by omega
      rw [KK_odd _ hn, JI_val hn]
      have hs : sgD a n = 1 ∨ sgD a n = -1 := by
        unfold sgD sg4
        split
        · split
          · exact .inr rfl
          · exact .inl rfl
        · exact .inl rfl
      by_cases hg : Nat.gcd a.natAbs n = 1
      · rw [JJ_pos hg, Nat.gcd_comm]
        constructor
        · intro _; exact hg
        · intro _
          rcases hs with h | h <;> rw [h] <;> split <;> decide
      · rw [JJ_neg hg, Int.mul_zero, Nat.gcd_comm]
        constructor
        · intro h; exact absurd rfl h
        · intro h; exact absurd h hg
theorem KK_fund {e k : Int} {n : Nat} (h1 : 1 ≤ n) : KK (e * (k * k)) n = if Nat.gcd n k.natAbs = 1 then KK e n else 0 := by
  rw [KK_num, KK_num]
  by_cases h : Nat.gcd n k.natAbs = 1
  · rw [if_pos h]
    have hne := (KK_ne k n h1).2 h
    rcases KK_unit k n with g | g | g
    · exact absurd g hne
    · rw [g]; grind
    · rw [g]; grind
  · rw [if_neg h]
    have : KK k n = 0 := by
      rcases Classical.em (KK k n = 0) with g | g
      · exact g
      · exact absurd ((KK_ne k n h1).1 g) h
    rw [this]
    simp
/-! ### Roots -/
def rTT (d : Int) (N : Nat) (b : Int) : Bool := eqI (Int.tmod (b * b - d) (4 * (N : Int))) 0
def rtC (d : Int) (N : Nat) (m : Nat) : Nat := ((List.range m).filter fun b : Nat => rTT d N (b : Int)).length
theorem rts_len {d : Int} {N : Nat} (hd : d.natAbs ≤ 1000000) (hN1 : 1 ≤ N) (hN : N ≤ 100) : ∀ (k fu m : Nat) (acc : List Int), m + k = 2 * N → k < fu → acc.length = rtC d N m → ∃ L, r_impl_rootsOfDiscriminant_L5 d (N : Int) fu (m : Int) acc = some L ∧ L.length = rtC d N (2 * N)
  | k, 0, m, acc, _, hf, _ => by omega
  | 0, fu + 1, m, acc, hm, hf, ha => by
    rw [r_impl_rootsOfDiscriminant_L5, w64_in (n := 2 * (N : Int)) (by omega), ltI_eq, decide_eq_false (by omega), cond_false]
    exact ⟨acc, rfl, by rw [ha, show m = 2 * N by omega]⟩
  | k + 1, fu + 1, m, acc, hm, hf, ha => by
    have hmm := abs_mul (x := (m : Int)) (y := (m : Int)) (A := 200) (B := 200) (by omega) (by omega)
    have hl : rtC d N m ≤ m := by
      unfold rtC
      refine Nat.le_trans (List.length_filter_le _ _) ?_
      rw [List.length_range]
      exact Nat.le_refl m
    have hsucc : rtC d N (m + 1) = rtC d N m + (if rTT d N (m : Int) then 1 else 0) := by
      unfold rtC
      rw [List.range_succ, List.filter_append, List.length_append]
      congr 1
      rw [List.filter_cons]
      cases rTT d N (m : Int) <;> rfl
    rw [r_impl_rootsOfDiscriminant_L5, w64_in (n := 2 * (N : Int)) (by omega), ltI_eq, decide_eq_true (by omega), cond_true, w64_in (n := 4 * (N : Int)) (by omega), nzOk (by omega), w64_abs (n := (m : Int) * m) (by omega), w64_abs (n := (m : Int) * m - d) (by omega)]
    simp only [Option.bind_some, sI_eq, wsucc (show m < 1000000000 by omega)]
    have hT : eqI (Int.tmod ((m : Int) * m - d) (4 * (N : Int))) 0 = rTT d N (m : Int) := rfl
    rw [hT]
    cases h : rTT d N (m : Int) with
    | true =>
      rw [h, if_pos rfl] at hsucc
      rw [cond_true, roomOk (by simp; omega), Option.bind_some]
      exact rts_len hd hN1 hN k fu (m + 1) _ (by omega) (by omega) (by rw [List.length_append, hsucc, ha]; rfl)
    | false =>
      rw [h, if_neg (by simp)] at hsucc
      rw [cond_false]
      exact rts_len hd hN1 hN k fu (m + 1) _ (by omega) (by omega) (by rw [hsucc, ha]; rfl)
/-- The same by residues. -/
def rQQ (r N : Nat) : Nat → Nat → Nat
  | 0, acc => acc
  | m + 1, acc => bif Nat.beq (Nat.mod (Nat.mul m m) (Nat.mul 4 N)) r then rQQ r N m (Nat.succ acc) else rQQ r N m acc
theorem rQQ_eq (r N : Nat) : ∀ (m acc : Nat), rQQ r N m acc = acc + ((List.range m).filter fun b => decide (b * b % (4 * N) = r)).length
  | 0, acc => rfl
  | m + 1, acc => by
    have e : Nat.beq (Nat.mod (Nat.mul m m) (Nat.mul 4 N)) r = decide (m * m % (4 * N) = r) := nbeq _ _
    rw [rQQ, e, List.range_succ, List.filter_append, List.length_append, List.filter_cons]
    cases decide (m * m % (4 * N) = r) with
    | true => rw [cond_true, rQQ_eq r N m]; simp; omega
    | false => rw [cond_false, rQQ_eq r N m]; simp
theorem rtC_eq {d : Int} {N : Nat} (hN : 1 ≤ N) (m : Nat) : rtC d N m = rQQ (d % (4 * (N : Int))).toNat N m 0 := by
  rw [rQQ_eq, Nat.zero_add]
  unfold rtC
  congr 1
  refine List.filter_congr fun b _ => ?_
  unfold rTT
  rw [Bool.eq_iff_iff, tm0 (by omega), decide_eq_true_iff]
  have h0 : (4 * (N : Int)) ≠ 0 := by omega
  have e1 := Int.emod_nonneg d h0
  have hb : (((b * b % (4 * N) : Nat)) : Int) = ((b : Int) * b) % (4 * (N : Int)) := by push_cast; rfl
  constructor
  · intro h
    obtain ⟨c, hc⟩ := h
    have h2 : ((b : Int) * b) % (4 * (N : Int)) = d % (4 * (N : Int)) := by
      rw [show (b : Int) * b = d + 4 * (N : Int) * c by omega, Int.add_mul_emod_self_left]
    omega
  · intro h
    have h2 : ((b : Int) * b) % (4 * (N : Int)) = d % (4 * (N : Int)) := by omega
    exact Int.dvd_of_emod_eq_zero (by rw [Int.sub_emod, h2, Int.sub_self]; rfl)
end Go.Proofs.Ytgeajejmikaniaa
