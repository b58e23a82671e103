/-
  Square roots of whole numbers by floating point: the root of a square below 2 to the power of 53 is exact, and no root fails.
  Conditions: none.
-/
import Derived.Laws.FloatArith
namespace Go.Proofs.YtnifkkihamgmaaaDoor
set_option linter.unusedVariables false
set_option linter.unusedSimpArgs false
open Ieee

theorem rootFrom_spec (n : Nat) : ∀ (t r : Nat), r * r ≤ n → n < (r + 2 ^ t) * (r + 2 ^ t) → Datum.rootFrom n t r * Datum.rootFrom n t r ≤ n ∧ n < (Datum.rootFrom n t r + 1) * (Datum.rootFrom n t r + 1)
  | 0, r, h1, h2 => ⟨h1, h2⟩
  | t + 1, r, h1, h2 => by
    have e1 : r + 1 <<< t = r + 2 ^ t := by rw [Nat.shiftLeft_eq, Nat.one_mul]
    have e2 : r + 2 ^ (t + 1) = (r + 2 ^ t) + 2 ^ t := by rw [Nat.pow_succ]; omega
    unfold Datum.rootFrom
    simp only [e1]
    split
    · rename_i h
      exact rootFrom_spec n t _ h (by rw [e2] at h2; exact h2)
    · rename_i h
      exact rootFrom_spec n t _ h1 (by omega)
theorem log2_eq {n k : Nat} (h1 : 2 ^ k ≤ n) (h2 : n < 2 ^ (k + 1)) : n.log2 = k := by
  have h0 : n ≠ 0 := by have := Nat.two_pow_pos k; omega
  have a := (Nat.le_log2 h0).2 h1
  have b := (Nat.log2_lt h0).2 h2
  omega
theorem fl_le2 {l x B : Nat} (h : l ≤ 1076) (hx : x ≤ 2 * B) : l * B + x ≤ 2047 * B := by
  have h2 : (l + 2) * B ≤ 2047 * B := Nat.mul_le_mul_right _ (by omega)
  rw [Nat.add_mul] at h2
  omega
theorem fl_half (j : Nat) : (2 ^ 53) / 2 ^ (j + 1) = (2 ^ 52) / 2 ^ j := by
  have h : ∀ a : Nat, (a * 2) / 2 ^ (j + 1) = a / 2 ^ j := fun a => by
    rw [Nat.pow_succ, Nat.mul_div_mul_right _ _ (by decide)]
  exact h (2 ^ 52)
theorem fl_pl (l : Nat) : ((l + 1022 : Nat) : Int) - 1074 = (l : Int) - 52 := by omega
/-- The word of n. -/
theorem fl_word {n l : Nat} (hl : n.log2 = l) (h0 : n ≠ 0) (hb : l ≤ 52) : double.nearest false n 0 = (l + 1022) * 2 ^ 52 + n * 2 ^ (52 - l) := by
  have e1 : double.leastPlace = -1074 := by decide
  have e2 : double.binade = 2 ^ 52 := by decide
  have e3 : double.infRung = 2047 * 2 ^ 52 := by decide
  have e4 : ((double.fractionBits : Nat) : Int) = 52 := by decide
  have hn : n * 2 ^ (52 - l) < 2 ^ 53 := by
    have h := (Nat.log2_lt (k := l + 1) h0).1 (by omega)
    have h2 : (2 : Nat) ^ 53 = 2 ^ (l + 1) * 2 ^ (52 - l) := by rw [← Nat.pow_add]; congr 1; omega
    rw [h2]
    exact Nat.mul_lt_mul_of_pos_right h (Nat.two_pow_pos _)
  unfold Format.nearest
  rw [if_neg h0]
  dsimp only
  rw [e1, e2, e3, e4, hl]
  have m1 : max ((0 : Int) + (l : Int) - 52) (-1074) = (l : Int) - 52 := by omega
  rw [m1]
  have m2 : ((0 : Int) - ((l : Int) - 52)).toNat = 52 - l := by omega
  have m3 : ((l : Int) - 52 - 0).toNat = 0 := by omega
  have m4 : ((l : Int) - 52 - -1074).toNat = l + 1022 := by omega
  rw [m2, m3, m4]
  have m5 : Toward.even.cut false (n <<< (52 - l)) 0 = n * 2 ^ (52 - l) := by
    unfold Toward.cut
    rw [Nat.zero_min, Nat.shiftLeft_eq, Nat.shiftLeft_eq]
    simp [Nat.mod_one]
  rw [m5]
  unfold Format.word
  rw [if_neg (by decide), Nat.min_eq_left]
  have p52 : (2 : Nat) ^ 52 = 4503599627370496 := by decide
  have p53 : (2 : Nat) ^ 53 = 9007199254740992 := by decide
  rw [p53] at hn
  rw [p52]
  exact fl_le2 (by omega) (Nat.le_of_lt hn)
/-- A word read: rung c binades and a significand. -/
theorem fl_read {c k : Nat} (h1 : 2 ^ 52 ≤ k) (h2 : k < 2 ^ 53) (hc : c ≤ 2000) : double.read (c * 2 ^ 52 + k) = .number false k ((c : Int) - 1074) := by
  have e1 : double.leastPlace = -1074 := by decide
  have e2 : double.binade = 4503599627370496 := by decide
  have e3 : double.infRung = 2047 * 4503599627370496 := by decide
  have e4 : double.signWeight = 2048 * 4503599627370496 := by decide
  have p52 : (2 : Nat) ^ 52 = 4503599627370496 := by decide
  have p53 : (2 : Nat) ^ 53 = 2 * 4503599627370496 := by decide
  unfold Format.read
  dsimp only
  rw [e1, e2, e3, e4]
  rw [p52] at h1 ⊢
  rw [p53] at h2
  have q0 : c * 4503599627370496 ≤ 2000 * 4503599627370496 := Nat.mul_le_mul_right _ hc
  have q1 : (c * 4503599627370496 + k) / (2048 * 4503599627370496) = 0 := Nat.div_eq_of_lt (by omega)
  have q2 : (c * 4503599627370496 + k) % (2048 * 4503599627370496) = c * 4503599627370496 + k := Nat.mod_eq_of_lt (by omega)
  rw [q1, q2, if_neg (by omega), if_pos (by omega)]
  have q3 : (c * 4503599627370496 + k) / 4503599627370496 = c + 1 := by omega
  have q4 : (c * 4503599627370496 + k) % 4503599627370496 = k - 4503599627370496 := by omega
  rw [q3, q4]
  have q5 : 4503599627370496 + (k - 4503599627370496) = k := by omega
  have q6 : (-1074 : Int) + ((c + 1 - 1 : Nat) : Int) = (c : Int) - 1074 := by omega
  rw [q5, q6]
  rfl
theorem fl_toInt {m j : Nat} (hm : m ≠ 0) (h : m.log2 = 52) (hj : j ≤ 54) : (Datum.number false m (-(j : Int))).toInt .zero = some ((m / 2 ^ j : Nat) : Int) := by
  have e1 : (-(j : Int)).toNat = 0 := by omega
  have e2 : (-(-(j : Int))).toNat = j := by omega
  show some (signed false (Toward.zero.cut false (m <<< (-(j : Int)).toNat) (-(-(j : Int))).toNat) 0) = _
  rw [e1, e2]
  unfold signed
  unfold Toward.cut
  dsimp only
  rw [Nat.shiftLeft_zero, Nat.shiftLeft_zero, h, Nat.min_eq_left (show j ≤ 52 + 2 by omega)]
  simp [Nat.shiftLeft_eq]
theorem fl_last {k : Nat} (hk1 : 28 ≤ k) (hk2 : k ≤ 54) : (double.read ((1076 - k) * 2 ^ 52 + 2 ^ 53)).toInt .zero = some ((2 ^ 53 / 2 ^ (k - 2) : Nat) : Int) := by
  have hz : (1076 - k) * 2 ^ 52 + 2 ^ 53 = (1077 - k) * 2 ^ 52 + 2 ^ 52 := by
    rw [show 1077 - k = (1076 - k) + 1 by omega, Nat.succ_mul, Nat.add_assoc, ← Nat.two_mul, ← Nat.mul_comm (2 ^ 52) 2, ← Nat.pow_succ]
  rw [hz, fl_read (Nat.le_refl _) (Nat.pow_lt_pow_right (by decide) (by decide)) (by omega)]
  have : ((1077 - k : Nat) : Int) - 1074 = -((k - 3 : Nat) : Int) := by omega
  rw [this, fl_toInt (Nat.ne_of_gt (Nat.two_pow_pos _)) (log2_eq (Nat.le_refl _) (Nat.pow_lt_pow_right (by decide) (by decide))) (by omega)]
  rw [show k - 2 = (k - 3) + 1 by omega, fl_half]
theorem fl_write {g k : Nat} (h1 : 2 ^ 55 ≤ g) (h2 : g < 2 ^ 56) (hk1 : 28 ≤ k) (hk2 : k ≤ 54) : ∃ e, e ≤ 1 ∧ (g % 8 = 0 → e = 0) ∧ (double.read (double.nearest false g (-(k : Int) - 1))).toInt .zero = some (((g / 8 + e) / 2 ^ (k - 2) : Nat) : Int) := by
  have e1 : double.leastPlace = -1074 := by decide
  have e2 : double.binade = 2 ^ 52 := by decide
  have e3 : double.infRung = 2047 * 2 ^ 52 := by decide
  have e4 : ((double.fractionBits : Nat) : Int) = 52 := by decide
  have hl : g.log2 = 55 := log2_eq h1 h2
  have h0 : g ≠ 0 := by
    intro h
    rw [h] at h1
    exact absurd h1 (by decide)
  have hc : ∃ e, e ≤ 1 ∧ (g % 8 = 0 → e = 0) ∧ Toward.even.cut false g 3 = g / 8 + e := by
    unfold Toward.cut
    have m0 : (1 : Nat) <<< min 3 (g.log2 + 2) = 8 := by rw [hl]; decide
    rw [m0]
    refine ⟨_, ?_, ?_, rfl⟩
    · exact Bool.toNat_le _
    · intro h
      simp [h]
  obtain ⟨e, he1, he2, hc⟩ := hc
  refine ⟨e, he1, he2, ?_⟩
  have hw : double.nearest false g (-(k : Int) - 1) = (1076 - k) * 2 ^ 52 + (g / 8 + e) := by
    unfold Format.nearest
    rw [if_neg h0]
    dsimp only
    rw [e1, e2, e3, e4, hl]
    have m1 : max (-(k : Int) - 1 + ((55 : Nat) : Int) - 52) (-1074) = 2 - (k : Int) := by omega
    rw [m1]
    have m2 : (-(k : Int) - 1 - (2 - (k : Int))).toNat = 0 := by omega
    have m3 : (2 - (k : Int) - (-(k : Int) - 1)).toNat = 3 := by omega
    have m4 : (2 - (k : Int) - -1074).toNat = 1076 - k := by omega
    rw [m2, m3, m4, Nat.shiftLeft_zero, hc]
    unfold Format.word
    rw [if_neg (by decide), Nat.min_eq_left]
    have p52 : (2 : Nat) ^ 52 = 4503599627370496 := by decide
    have p56 : (2 : Nat) ^ 56 = 16 * 4503599627370496 := by decide
    rw [p56] at h2
    rw [p52]
    exact fl_le2 (Nat.sub_le _ _) (by clear e3 e2 e1 hc hl; omega)
  rw [hw]
  have p52 : (2 : Nat) ^ 52 = 4503599627370496 := by decide
  have p53 : (2 : Nat) ^ 53 = 2 * 4503599627370496 := by decide
  have p55 : (2 : Nat) ^ 55 = 8 * 4503599627370496 := by decide
  have p56 : (2 : Nat) ^ 56 = 16 * 4503599627370496 := by decide
  rw [p55] at h1
  rw [p56] at h2
  by_cases hx : g / 8 + e < 2 ^ 53
  · have ha : 2 ^ 52 ≤ g / 8 + e := by omega
    rw [fl_read ha hx (by omega)]
    have : ((1076 - k : Nat) : Int) - 1074 = -((k - 2 : Nat) : Int) := by omega
    rw [this]
    exact fl_toInt (by rw [p52] at ha; omega) (log2_eq ha hx) (by omega)
  · have hy : g / 8 + e = 2 ^ 53 := by
      omega
    rw [hy]
    exact fl_last hk1 hk2
/-- The square root of a float told by its bits; none: a NaN. -/
def fsqrt (b : Nat) : Option Nat := FloatKind.f64.format.sqrt b
theorem sqrt_ok {n : Nat} (h0 : 1 ≤ n) (hb : n < 2 ^ 53) : ∃ b t : Nat, fsqrt (floatOfInt .f64 (n : Int)) = some b ∧ floatToIntVal .f64 b .i64 = some (t : Int) ∧ t ≤ 134217728 ∧ ∀ s : Nat, s * s = n → t = s := by
  have hn0 : n ≠ 0 := by omega
  obtain ⟨l, hl⟩ : ∃ l, n.log2 = l := ⟨_, rfl⟩
  have hl2 : l ≤ 52 := by have := (Nat.log2_lt hn0).2 hb; omega
  have hlo : 2 ^ l ≤ n := (Nat.le_log2 hn0).1 (by omega)
  have hhi : n < 2 ^ (l + 1) := (Nat.log2_lt hn0).1 (by omega)
  have hw : floatOfInt .f64 (n : Int) = (l + 1022) * 2 ^ 52 + n * 2 ^ (52 - l) := by
    rw [← fl_word hl hn0 hl2]
    show double.nearest (decide ((n : Int) < 0)) (n : Int).natAbs 0 = _
    rw [decide_eq_false (by omega)]
    rfl
  obtain ⟨m, hm⟩ : ∃ m, n * 2 ^ (52 - l) = m := ⟨_, rfl⟩
  have hm1 : 2 ^ 52 ≤ m := by
    rw [← hm, show (2 : Nat) ^ 52 = 2 ^ l * 2 ^ (52 - l) by rw [← Nat.pow_add]; congr 1; omega]
    exact Nat.mul_le_mul_right _ hlo
  have hm2 : m < 2 ^ 53 := by
    rw [← hm, show (2 : Nat) ^ 53 = 2 ^ (l + 1) * 2 ^ (52 - l) by rw [← Nat.pow_add]; congr 1; omega]
    exact Nat.mul_lt_mul_of_pos_right hhi (Nat.two_pow_pos _)
  have hr : double.read (floatOfInt .f64 (n : Int)) = .number false m ((l : Int) - 52) := by
    rw [hw, hm, fl_read hm1 hm2 (Nat.le_trans (Nat.add_le_add_right hl2 _) (by decide)), fl_pl]
  have hml : m.log2 = 52 := log2_eq hm1 hm2
  have hm0 : m ≠ 0 := by
    intro h
    rw [h] at hm1
    exact absurd hm1 (by decide)
  -- how many places
  obtain ⟨k, more, hk, hmo, hk1, hk2⟩ : ∃ k more : Nat, 2 * 54 - 52 + (((l : Int) - 52 - ((2 * 54 - 52 : Nat) : Int)) % 2).toNat = more ∧ 52 - l + more = 2 * k ∧ 28 ≤ k ∧ k ≤ 54 := by
    refine ⟨(52 - l + (2 * 54 - 52 + (((l : Int) - 52 - ((2 * 54 - 52 : Nat) : Int)) % 2).toNat)) / 2, _, rfl, ?_, ?_, ?_⟩ <;> omega
  have hmore : more = 56 ∨ more = 57 := by omega
  obtain ⟨N, hN⟩ : ∃ N, m <<< more = N := ⟨_, rfl⟩
  have hNm : N = m * 2 ^ more := by rw [← hN, Nat.shiftLeft_eq]
  have hN2 : N = n * 2 ^ (2 * k) := by rw [hNm, ← hm, Nat.mul_assoc, ← Nat.pow_add, hmo]
  have hN0 : N ≠ 0 := by
    rw [hN2]
    exact Nat.ne_of_gt (Nat.mul_pos (by omega) (Nat.two_pow_pos _))
  obtain ⟨q, hq⟩ : ∃ q, Datum.rootFrom N (N.log2 / 2 + 1) 0 = q := ⟨_, rfl⟩
  have hsq := rootFrom_spec N (N.log2 / 2 + 1) 0 (by omega) (by
    rw [Nat.zero_add, ← Nat.pow_add]
    refine Nat.lt_of_lt_of_le ((Nat.log2_lt hN0).1 (Nat.lt_succ_self _)) (Nat.pow_le_pow_right (by decide) (by omega)))
  rw [hq] at hsq
  have hNlo : 2 ^ 108 ≤ N := by
    rw [hNm]
    have : (2 : Nat) ^ 108 = 2 ^ 52 * 2 ^ 56 := by decide
    rw [this]
    exact Nat.mul_le_mul hm1 (Nat.pow_le_pow_right (by decide) (by omega))
  have hNhi : N < 2 ^ 110 := by
    rw [hNm]
    have : (2 : Nat) ^ 110 = 2 ^ 53 * 2 ^ 57 := by decide
    rw [this]
    exact Nat.lt_of_lt_of_le (Nat.mul_lt_mul_of_pos_right hm2 (Nat.two_pow_pos _)) (Nat.mul_le_mul_left _ (Nat.pow_le_pow_right (by decide) (by omega)))
  have hq1 : 2 ^ 54 ≤ q := by
    apply Nat.le_of_not_lt
    intro h
    have : (q + 1) * (q + 1) ≤ 2 ^ 54 * 2 ^ 54 := Nat.mul_le_mul h h
    have e : (2 : Nat) ^ 54 * 2 ^ 54 = 2 ^ 108 := by decide
    omega
  have hq2 : q < 2 ^ 55 := by
    apply Nat.lt_of_not_le
    intro h
    have : 2 ^ 55 * 2 ^ 55 ≤ q * q := Nat.mul_le_mul h h
    have e : (2 : Nat) ^ 55 * 2 ^ 55 = 2 ^ 110 := by decide
    omega
  obtain ⟨g, hg⟩ : ∃ g, 2 * q + (q * q != N).toNat = g := ⟨_, rfl⟩
  have hgq : 2 * q ≤ g ∧ g ≤ 2 * q + 1 := by
    have := Bool.toNat_le (q * q != N)
    omega
  have hroot : (Datum.number false m ((l : Int) - 52)).root 54 = some (.number false g (-(k : Int) - 1)) := by
    unfold Datum.root
    simp only [hml]
    rw [if_neg hm0, if_neg (by decide)]
    rw [hk, hN, hq, hg]
    congr 2
    omega
  have p54 : (2 : Nat) ^ 54 = 18014398509481984 := by decide
  have p55 : (2 : Nat) ^ 55 = 36028797018963968 := by decide
  have p56 : (2 : Nat) ^ 56 = 72057594037927936 := by decide
  obtain ⟨e, he1, he2, ht⟩ := fl_write (g := g) (k := k) (by rw [p54] at hq1; rw [p55]; omega) (by rw [p55] at hq2; rw [p56]; omega) hk1 hk2
  obtain ⟨t, hte⟩ : ∃ t : Nat, (g / 8 + e) / 2 ^ (k - 2) = t := ⟨_, rfl⟩
  rw [hte] at ht
  refine ⟨double.nearest false g (-(k : Int) - 1), t, ?_, ?_, ?_, ?_⟩
  · show ((double.read (floatOfInt .f64 (n : Int))).root (52 + 2)).map double.write = _
    rw [hr, hroot]
    rfl
  · have hle : t ≤ 9007199254740992 := by
      rw [← hte]
      refine Nat.le_trans (Nat.div_le_self _ _) ?_
      rw [p55] at hq2
      omega
    unfold floatToIntVal
    show (match (double.read (double.nearest false g (-(k : Int) - 1))).toInt .zero with | some n => if IntKind.i64.min ≤ n ∧ n ≤ IntKind.i64.max then some n else none | none => none) = _
    rw [ht]
    show (if IntKind.i64.min ≤ (t : Int) ∧ (t : Int) ≤ IntKind.i64.max then some (t : Int) else none) = _
    have a1 : IntKind.i64.min = -9223372036854775808 := by decide
    have a2 : IntKind.i64.max = 9223372036854775807 := by decide
    rw [if_pos (by rw [a1, a2]; omega)]
  · rw [← hte]
    have hg8 : g / 8 + e ≤ 9007199254740992 := by
      rw [p55] at hq2
      omega
    refine Nat.le_trans (Nat.div_le_div hg8 (Nat.pow_le_pow_right (show 0 < 2 by decide) (show 26 ≤ k - 2 by omega)) (by decide)) ?_
    decide
  · intro s hs
    have hqs : q = s * 2 ^ k := by
      have hN3 : N = (s * 2 ^ k) * (s * 2 ^ k) := by
        rw [hN2, ← hs, show 2 * k = k + k by omega, Nat.pow_add]
        simp only [Nat.mul_assoc, Nat.mul_left_comm]
      rw [hN3] at hsq
      have h1 : ¬ s * 2 ^ k < q := fun h => by
        have := Nat.mul_self_lt_mul_self h
        omega
      have h2 : ¬ q + 1 ≤ s * 2 ^ k := fun h => by
        have := Nat.mul_le_mul h h
        omega
      omega
    have hgs : g = s * 2 ^ (k - 2) * 8 := by
      have h2 : N = q * q := by
        rw [hqs, hN2, ← hs, show 2 * k = k + k by omega, Nat.pow_add]
        simp only [Nat.mul_assoc, Nat.mul_left_comm]
      have h3 : (q * q != N) = false := by rw [h2]; simp
      rw [← hg, h3, hqs]
      have : (2 : Nat) ^ k = 2 ^ (k - 2) * 4 := by
        rw [show (4 : Nat) = 2 ^ 2 by decide, ← Nat.pow_add]
        congr 1
        omega
      rw [this, Bool.toNat_false, Nat.add_zero]
      rw [show 2 * (s * (2 ^ (k - 2) * 4)) = s * 2 ^ (k - 2) * 8 by rw [← Nat.mul_assoc s]; omega]
    have e0 : e = 0 := he2 (by rw [hgs]; exact Nat.mul_mod_left _ _)
    rw [← hte, e0, hgs, Nat.add_zero, Nat.mul_div_cancel _ (by decide), Nat.mul_div_cancel _ (Nat.two_pow_pos _)]
end Go.Proofs.YtnifkkihamgmaaaDoor
