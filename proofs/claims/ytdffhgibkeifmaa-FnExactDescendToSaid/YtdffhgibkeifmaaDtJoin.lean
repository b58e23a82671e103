/-
  Descending for all primes of a number: the reference and the program give the same form.
  Conditions: none.
-/
import Derived.Test.YtdffhgibkeifmaaDscRed
import Derived.Test.YtdffhgibkeifmaaDtTail
namespace Go.Proofs.Ytdffhgibkeifmaa
set_option linter.unusedVariables false
set_option linter.unusedSimpArgs false

theorem eq3_eq {x y : Fm} (h : eq3 x y = true) : x = y := by
  obtain ⟨a, b, c⟩ := x
  obtain ⟨d, e, f⟩ := y
  simp only [eq3, eqI_eq] at h
  cases h1 : (a == d) <;> cases h2 : (b == e) <;> cases h3 : (c == f) <;> simp [h1, h2, h3] at h
  simp_all
theorem mul_self_nonneg' (b : Int) : 0 ≤ b * b := by
  rcases Int.le_total 0 b with h | h
  · exact Int.mul_nonneg h h
  · exact Int.mul_nonneg_of_nonpos_of_nonpos h h
theorem mul_self_le' {a b : Int} (h1 : -a ≤ b) (h2 : b ≤ a) : b * b ≤ a * a := by
  have h3 : 0 ≤ (a - b) * (a + b) := Int.mul_nonneg (by omega) (by omega)
  have h4 : (a - b) * (a + b) = a * a - b * b := by grind
  omega
/-- The bounds of a reduced form. -/
theorem red_bounds {a b c d g : Int} (h : RedInv a b c d g) (hr : IsRed a b c) (hd : -2000 ≤ d) : a ≤ 25 ∧ a ≤ c ∧ c < a + ((Int.toNat ((2000 + b * b) / (4 * a) - a + 1) : Nat) : Int) := by
  obtain ⟨⟨n1, n2⟩, n3⟩ := hr
  have h1 := mul_self_le' (a := a) (b := b) (by omega) n2
  have hac : a ≤ c := by omega
  have h2 : a * a ≤ a * c := Int.mul_le_mul_of_nonneg_left hac (by have := h.a1; omega)
  have h3 := h.dis
  have e1 : 4 * a * c = 4 * (a * c) := by grind
  have h4 : a * a ≤ 666 := by omega
  refine ⟨?_, hac, ?_⟩
  · rcases Int.lt_or_le 25 a with h5 | h5
    · have : 26 * 26 ≤ a * a := Int.mul_le_mul (by omega) (by omega) (by omega) (by omega)
      omega
    · exact h5
  · have h5 : c ≤ (2000 + b * b) / (4 * a) := by
      rw [Int.le_ediv_iff_mul_le (by have := h.a1; omega)]
      have e2 : c * (4 * a) = 4 * a * c := by grind
      omega
    omega
theorem tchK_at {a b c D : Int} : ∀ (ks : List Int), tchK a b c D ks = true → ∀ k, k ∈ ks → tryK D k = true → eqO (toI (a, b, c) k) (toS (a, b, c) k) = true
  | [], _, p, hp, _ => by simp at hp
  | q :: ps, h, p, hp, ht => by
    unfold tchK at h
    cases h1 : (bif tryK D q then eqO (toI (a, b, c) q) (toS (a, b, c) q) else true) with
    | false => rw [h1] at h; cases h
    | true =>
      rw [h1, cond_true] at h
      rcases List.mem_cons.1 hp with h2 | h2
      · subst h2
        rw [ht] at h1
        exact h1
      · exact tchK_at ps h p h2 ht
theorem tchC_at {a b : Int} : ∀ (n : Nat) (c0 : Int), tchC a b n c0 = true → ∀ c, c0 ≤ c → c < c0 + n → Nat.gcd a.natAbs (Nat.gcd b.natAbs c.natAbs) = 1 → tchK a b c (b * b - 4 * a * c) tKs = true
  | 0, c0, _, c, h1, h2, _ => by simp at h2; omega
  | n + 1, c0, h, c, h1, h2, hg => by
    unfold tchC at h
    cases h3 : (bif Nat.beq (Nat.gcd a.natAbs (Nat.gcd b.natAbs c0.natAbs)) 1 then tchK a b c0 (b * b - 4 * a * c0) tKs else true) with
    | false => rw [h3] at h; cases h
    | true =>
      rw [h3, cond_true, sI_eq] at h
      by_cases h4 : c = c0
      · subst h4
        rw [hg] at h3
        exact h3
      · exact tchC_at n (c0 + 1) h c (by omega) (by push_cast at h2; omega) hg
theorem tchB_at {a : Int} : ∀ (n : Nat) (b0 : Int), tchB a n b0 = true → ∀ b, b0 ≤ b → b < b0 + n → tchC a b (Int.toNat ((2000 + b * b) / (4 * a) - a + 1)) a = true
  | 0, b0, _, b, h1, h2 => by simp at h2; omega
  | n + 1, b0, h, b, h1, h2 => by
    unfold tchB at h
    cases h3 : tchC a b0 (Int.toNat ((2000 + b0 * b0) / (4 * a) - a + 1)) a with
    | false => rw [h3] at h; cases h
    | true =>
      rw [h3, cond_true, sI_eq] at h
      by_cases h4 : b = b0
      · subst h4; exact h3
      · exact tchB_at n (b0 + 1) h b (by omega) (by push_cast at h2; omega)
theorem tTl_all {a : Int} (h1 : 1 ≤ a) (h2 : a ≤ 25) : tchB a (2 * a).toNat (1 - a) = true := by
  have h : a = 1 ∨ a = 2 ∨ a = 3 ∨ a = 4 ∨ a = 5 ∨ a = 6 ∨ a = 7 ∨ a = 8 ∨ a = 9 ∨ a = 10 ∨ a = 11 ∨ a = 12 ∨ a = 13 ∨ a = 14 ∨ a = 15 ∨ a = 16 ∨ a = 17 ∨ a = 18 ∨ a = 19 ∨ a = 20 ∨ a = 21 ∨ a = 22 ∨ a = 23 ∨ a = 24 ∨ a = 25 := by omega
  rcases h with h | h | h | h | h | h | h | h | h | h | h | h | h | h | h | h | h | h | h | h | h | h | h | h | h <;> subst h
  · exact tTl_1
  · exact tTl_2
  · exact tTl_3
  · exact tTl_4
  · exact tTl_5
  · exact tTl_6
  · exact tTl_7
  · exact tTl_8
  · exact tTl_9
  · exact tTl_10
  · exact tTl_11
  · exact tTl_12
  · exact tTl_13
  · exact tTl_14
  · exact tTl_15
  · exact tTl_16
  · exact tTl_17
  · exact tTl_18
  · exact tTl_19
  · exact tTl_20
  · exact tTl_21
  · exact tTl_22
  · exact tTl_23
  · exact tTl_24
  · exact tTl_25
theorem to_both {a b c d k : Int} (h : RedInv a b c d 1) (hr : IsRed a b c) (hd : -2000 ≤ d) (hk1 : 1 ≤ k) (hk2 : k ≤ 25) (hm : d.tmod (k * k) = 0) (hn : r_impl_isNegativeDisc (d.tdiv (k * k)) = some true) :
    ∃ q, toI (a, b, c) k = some q ∧ toS (a, b, c) k = some q := by
  obtain ⟨b1, b2, b3⟩ := red_bounds h hr hd
  have h1 := tTl_all h.a1 b1
  have h2 := tchB_at _ _ h1 b (by have := hr.1.1; omega) (by have := hr.1.2; have := h.a1; omega)
  have hg : Nat.gcd a.natAbs (Nat.gcd b.natAbs c.natAbs) = 1 := by
    have e : Int.gcd a (Int.gcd b c) = Nat.gcd a.natAbs (Nat.gcd b.natAbs c.natAbs) := rfl
    rw [← e]
    have u1 : ((Int.gcd a (Int.gcd b c) : Nat) : Int) ∣ a := Int.gcd_dvd_left _ _
    have u2 : ((Int.gcd a (Int.gcd b c) : Nat) : Int) ∣ (Int.gcd b c : Int) := Int.gcd_dvd_right _ _
    have u3 := Int.dvd_trans u2 (Int.gcd_dvd_left b c)
    have u4 := Int.dvd_trans u2 (Int.gcd_dvd_right b c)
    have u5 := (h.con _).1 ⟨u1, u3, u4⟩
    have u6 := Int.natCast_dvd_natCast.1 (show ((Int.gcd a (Int.gcd b c) : Nat) : Int) ∣ ((1 : Nat) : Int) from u5)
    exact Nat.dvd_one.1 u6
  have h3 := tchC_at _ _ h2 c b2 b3 hg
  have h4 : eqO (toI (a, b, c) k) (toS (a, b, c) k) = true := by
    refine tchK_at tKs h3 k ?_ ?_
    · have h5 : k = 1 ∨ k = 2 ∨ k = 3 ∨ k = 4 ∨ k = 5 ∨ k = 6 ∨ k = 7 ∨ k = 8 ∨ k = 9 ∨ k = 10 ∨ k = 11 ∨ k = 12 ∨ k = 13 ∨ k = 14 ∨ k = 15 ∨ k = 16 ∨ k = 17 ∨ k = 18 ∨ k = 19 ∨ k = 20 ∨ k = 21 ∨ k = 22 ∨ k = 23 ∨ k = 24 ∨ k = 25 := by omega
      simpa [tKs] using h5
    · rw [h.dis]
      unfold tryK
      rw [hm, hn, eqI_true]
      rfl
  cases hx : toI (a, b, c) k with
  | none => rw [hx] at h4; cases hy : toS (a, b, c) k <;> rw [hy] at h4 <;> cases h4
  | some x =>
    cases hy : toS (a, b, c) k with
    | none => rw [hx, hy] at h4; cases h4
    | some y =>
      rw [hx, hy] at h4
      have h5 : x = y := eq3_eq h4
      subst h5
      exact ⟨_, rfl, rfl⟩
theorem eqForm_self (f : Fm) : r_laws_eqForm f f = some true := by simp only [r_laws_eqForm, eqI_true, Bool.not_true, cond_false]
theorem to_false (f : Fm) (k : Int) (h1 : r_spec_DescendTo f k = some ((0, 0, 0), false)) (h2 : r_impl_DescendTo f k = some ((0, 0, 0), false)) : r_laws_FnExactDescendTo f k = some true := by
  simp only [r_laws_FnExactDescendTo, r_laws_toForm, Option.bind_some, h1, h2, eqForm_self]
  rfl
theorem raw_DescendTo (f : Fm) (k : Int) : r_laws_FnExactDescendTo f k = some true := by
  obtain ⟨cb, hcb⟩ := class_some f
  cases cb with
  | false =>
    refine to_false f k ?_ ?_
    · simp only [r_spec_DescendTo, class_val, hcb, Option.bind_some, Bool.not_false, cond_true]
    · simp only [r_impl_DescendTo, hcb, Option.bind_some, Bool.not_false, cond_true]
  | true =>
    obtain ⟨a, b, c⟩ := f
    obtain ⟨ha, hb, hc, hneg, hbig, _, _⟩ := class_true hcb
    by_cases hk : 1 ≤ k ∧ k ≤ 1000
    · obtain ⟨hk1, hk2⟩ := hk
      have m1 := abs_mul (x := k) (y := k) (A := 1000) (B := 1000) (by omega) (by omega)
      have m2 : 1 * 1 ≤ k * k := Int.mul_le_mul hk1 hk1 (by omega) (by omega)
      have e1 : w64 (k * k) = k * k := w64_abs (by omega)
      have e2 : nz (k * k) = some () := nz_ne (by omega)
      have h5 : ((b * b - 4 * a * c).tdiv (k * k)).natAbs ≤ 2000 := by
        rw [Int.natAbs_tdiv]
        exact Nat.le_trans (Nat.div_le_self _ _) (by omega)
      have e3 : w64 ((b * b - 4 * a * c).tdiv (k * k)) = (b * b - 4 * a * c).tdiv (k * k) := w64_abs (by omega)
      have f1 : ltI k 1 = false := by rw [ltI_eq, decide_eq_false (by omega)]
      have f2 : ltI 1000 k = false := by rw [ltI_eq, decide_eq_false (by omega)]
      have f3 : leI 1 k = true := by rw [leI_eq, decide_eq_true hk1]
      have f4 : leI k 1000 = true := by rw [leI_eq, decide_eq_true hk2]
      cases hm : eqI (Int.tmod (b * b - 4 * a * c) (k * k)) 0 with
      | false =>
        refine to_false _ k ?_ ?_
        · simp only [r_spec_DescendTo, class_val, hcb, Option.bind_some, Bool.not_true, cond_false, r_spec_l1In, f3, f4, cond_true, disc_eq, disc_val ha hb hc, e1, e2, hm, Bool.not_false]
        · simp only [r_impl_DescendTo, hcb, Option.bind_some, Bool.not_true, cond_false, f1, f2, cond_true, disc_val ha hb hc, e1, e2, hm, Bool.not_false]
      | true =>
        rw [eqI_eq] at hm
        have hm' := eq_of_beq hm
        cases hn : decide (-2000 ≤ (b * b - 4 * a * c).tdiv (k * k) ∧ (b * b - 4 * a * c).tdiv (k * k) ≤ -3 ∧ (b * b - 4 * a * c).tdiv (k * k) % 4 ≤ 1) with
        | false =>
          refine to_false _ k ?_ ?_
          · simp only [r_spec_DescendTo, class_val, hcb, Option.bind_some, Bool.not_true, cond_false, r_spec_l1In, f3, f4, cond_true, disc_eq, disc_val ha hb hc, e1, e2, eqI_eq, hm, e3, negdisc_eq, negdisc_val, hn, Bool.not_false]
          · simp only [r_impl_DescendTo, hcb, Option.bind_some, Bool.not_true, cond_false, f1, f2, cond_true, disc_val ha hb hc, e1, e2, eqI_eq, hm, e3, negdisc_val, hn, Bool.not_false]
        | true =>
          obtain ⟨m, a2, b2, c2, g1, g2, g3, g4⟩ := red_both (red_of_class hcb)
          have hz3 := of_decide_eq_true hn
          have hk25 : k ≤ 25 := by
            rcases Int.lt_or_le 25 k with h6 | h6
            · exfalso
              have m3 : 26 * 26 ≤ k * k := Int.mul_le_mul (by omega) (by omega) (by omega) (by omega)
              have e1 := Int.tmod_add_tdiv_mul (b * b - 4 * a * c) (k * k)
              rw [hm'] at e1
              have e2 : -((b * b - 4 * a * c).tdiv (k * k)) * (k * k) ≥ 3 * (26 * 26) := Int.mul_le_mul (by omega) m3 (by omega) (by omega)
              have e3 : -((b * b - 4 * a * c).tdiv (k * k)) * (k * k) = -((b * b - 4 * a * c).tdiv (k * k) * (k * k)) := Int.neg_mul _ _
              omega
            · exact h6
          obtain ⟨q, t1, t2⟩ := to_both g3 g4 hbig hk1 hk25 hm' (by rw [negdisc_val, hn])
          unfold toI at t1
          unfold toS at t2
          obtain ⟨l1, u1, u2⟩ := of_bind t1
          obtain ⟨l2, v1, v2⟩ := of_bind t2
          have s1 : r_spec_DescendTo (a, b, c) k = some (q, true) := by
            simp only [r_spec_DescendTo, class_val, hcb, Option.bind_some, Bool.not_true, cond_false, r_spec_l1In, f3, f4, cond_true, disc_eq, disc_val ha hb hc, e1, e2, eqI_eq, hm, e3, negdisc_eq, negdisc_val, hn, Bool.not_false, r_spec_reClass, g2, v1, v2]
          have s2 : r_impl_DescendTo (a, b, c) k = some (q, true) := by
            simp only [r_impl_DescendTo, hcb, Option.bind_some, Bool.not_true, cond_false, f1, f2, cond_true, disc_val ha hb hc, e1, e2, eqI_eq, hm, e3, negdisc_val, hn, Bool.not_false, r_impl_reduced, g1, u1, u2]
          simp only [r_laws_FnExactDescendTo, r_laws_toForm, Option.bind_some, s1, s2, eqForm_self]
          rfl
    · refine to_false _ k ?_ ?_
      · have : (bif leI 1 k then leI k 1000 else false) = false := by
          rw [leI_eq, leI_eq]
          by_cases h1 : 1 ≤ k
          · rw [decide_eq_true h1, decide_eq_false (by omega)]; rfl
          · rw [decide_eq_false h1]; rfl
        simp only [r_spec_DescendTo, class_val, hcb, Option.bind_some, Bool.not_true, cond_false, r_spec_l1In, this, Bool.not_false, cond_true]
      · by_cases h1 : k < 1
        · simp only [r_impl_DescendTo, hcb, Option.bind_some, Bool.not_true, cond_false, ltI_eq, decide_eq_true h1, cond_true]
        · simp only [r_impl_DescendTo, hcb, Option.bind_some, Bool.not_true, cond_false, ltI_eq, decide_eq_false h1, decide_eq_true (show 1000 < k by omega), cond_true]
end Go.Proofs.Ytdffhgibkeifmaa
