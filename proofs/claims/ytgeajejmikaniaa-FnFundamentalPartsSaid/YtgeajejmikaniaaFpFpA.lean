/-
  Fundamental parts of discriminants, both ways, and the product of the prime discriminants.
  Conditions: none.
-/
import Derived.Test.YtgeajejmikaniaaFpDis
namespace Go.Proofs.Ytgeajejmikaniaa
set_option linter.unusedVariables false
set_option linter.unusedSimpArgs false

/-- No square divides it. -/
def SF (s : Int) : Prop := s ≠ 0 ∧ ∀ q : Nat, 2 ≤ q → ¬ ((q * q : Nat) : Int) ∣ s
theorem tm0 {a m : Int} (hm : m ≠ 0) : eqI (Int.tmod a m) 0 = true ↔ m ∣ a := by
  rw [eqI_eq, beq_iff_eq]
  constructor
  · intro h
    exact ⟨a.tdiv m, by have := Int.tmod_add_mul_tdiv a m; omega⟩
  · rintro ⟨c, rfl⟩
    exact Int.mul_tmod_right m c
theorem sf_in {p : Int} (hp2 : 2 ≤ p) (hp : p ≤ 1000) : ∀ (m fu : Nat) (n k : Int), n ≠ 0 → n.natAbs < 2 ^ m → m < fu → 1 ≤ k → k * k * n.natAbs ≤ 1000000 →
    ∃ n' k', r_impl_squareFree_L11 p fu n k = some (n', k') ∧ r_spec_nuFree_L11 p fu n k = some (n', k') ∧ n' * (k' * k') = n * (k * k) ∧ n' ≠ 0 ∧ n' ∣ n ∧ 1 ≤ k' ∧ ¬ (p * p) ∣ n'
  | m, 0, n, k, _, _, h, _, _ => by omega
  | 0, fu + 1, n, k, h0, hm, _, _, _ => by simp at hm; exact absurd hm h0
  | m + 1, fu + 1, n, k, h0, hm, hf, hk, hkn => by
    have hpp := abs_mul (x := p) (y := p) (A := 1000) (B := 1000) (by omega) (by omega)
    have hpos : 4 ≤ p * p := by
      have := Int.mul_le_mul hp2 hp2 (by omega) (by omega)
      omega
    have ew : w64 (p * p) = p * p := w64_abs (by omega)
    rw [r_impl_squareFree_L11, r_spec_nuFree_L11, ew, nzOk (by omega)]
    simp only [Option.bind_some]
    cases hd : eqI (Int.tmod n (p * p)) 0 with
    | false =>
      refine ⟨n, k, rfl, rfl, rfl, h0, Int.dvd_refl n, hk, fun h => ?_⟩
      rw [(tm0 (by omega)).2 h] at hd
      cases hd
    | true =>
      obtain ⟨c, hc⟩ := (tm0 (by omega)).1 hd
      have hq : Int.tdiv n (p * p) = c := by rw [hc, Int.mul_tdiv_cancel_left _ (by omega)]
      have hc0 : c ≠ 0 := fun e => by rw [e, Int.mul_zero] at hc; exact h0 hc
      have hab : n.natAbs = (p * p).natAbs * c.natAbs := by rw [hc]; exact Int.natAbs_mul _ _
      have hpa : ((p * p).natAbs : Int) = p * p := by omega
      have h4 : 4 * c.natAbs ≤ (p * p).natAbs * c.natAbs := Nat.mul_le_mul_right _ (by omega)
      have hp1 : (2 : Nat) ^ (m + 1) = 2 * 2 ^ m := by rw [Nat.pow_succ]; omega
      have hk2 : k * p * (k * p) * (c.natAbs : Int) = k * k * (n.natAbs : Int) := by
        rw [hab]; push_cast
        rw [show ((p * p).natAbs : Int) = p * p from hpa]
        grind
      have hc1 : (1 : Int) ≤ (c.natAbs : Int) := by omega
      have hkp : 1 ≤ k * p := by
        have : 1 * 1 ≤ k * p := Int.mul_le_mul hk (by omega) (by omega) (by omega)
        omega
      have hkpb : k * p ≤ 1000000 := by
        have a1 : k * p * 1 ≤ k * p * (k * p) := Int.mul_le_mul_of_nonneg_left hkp (by omega)
        have a2 : k * p * (k * p) * 1 ≤ k * p * (k * p) * (c.natAbs : Int) := Int.mul_le_mul_of_nonneg_left hc1 (Int.mul_nonneg (by omega) (by omega))
        omega
      have hcb : c.natAbs ≤ 1000000 := by
        have a1 : 1 * (c.natAbs : Int) ≤ k * p * (k * p) * (c.natAbs : Int) := Int.mul_le_mul_of_nonneg_right (by
          have : 1 * 1 ≤ k * p * (k * p) := Int.mul_le_mul hkp hkp (by omega) (by omega)
          omega) (by omega)
        omega
      obtain ⟨n', k', g1, g2, g3, g4, g5, g6, g7⟩ := sf_in hp2 hp m fu c (k * p) hc0 (by omega) (by omega) hkp (by omega)
      simp only [cond_true, Option.bind_some, sI_eq, hq]
      rw [w64_abs (n := c) (by omega), w64_abs (n := k * p) (by omega)]
      refine ⟨n', k', g1, g2, ?_, g4, Int.dvd_trans g5 ⟨p * p, by rw [hc]; grind⟩, g6, g7⟩
      rw [g3, hc]
      grind
theorem sf_out : ∀ (m fu : Nat) (n k p : Int), p + m = 1002 → m < fu → 2 ≤ p → n ≠ 0 → 1 ≤ k → k * k * n.natAbs ≤ 1000000 → (∀ q : Nat, 2 ≤ q → (q : Int) < p → ¬ ((q * q : Nat) : Int) ∣ n) →
    ∃ n' k', r_impl_squareFree_L5 fu n k p = some (n', k') ∧ r_spec_nuFree_L5 fu n k p = some (n', k') ∧ n' * (k' * k') = n * (k * k) ∧ 1 ≤ k' ∧ SF n'
  | m, 0, n, k, p, _, h, _, _, _, _, _ => by omega
  | m, fu + 1, n, k, p, hp, hf, hp2, h0, hk, hkn, hs => by
    have hnb : n.natAbs ≤ 1000000 := by
      have : 1 * (n.natAbs : Int) ≤ k * k * (n.natAbs : Int) := Int.mul_le_mul_of_nonneg_right (by
        have : 1 * 1 ≤ k * k := Int.mul_le_mul hk hk (by omega) (by omega)
        omega) (by omega)
      omega
    have hpp := abs_mul (x := p) (y := p) (A := 1002) (B := 1002) (by omega) (by omega)
    rw [r_impl_squareFree_L5, r_spec_nuFree_L5]
    simp only [abs_val (n := n) (by omega), sabs_val (n := n) (by omega), Option.bind_some]
    rw [w64_abs (n := p * p) (by omega), leI_eq]
    by_cases h : p * p ≤ (n.natAbs : Int)
    · have hp3 : p ≤ 1000 := by
        rcases Int.lt_or_le 1000 p with h1 | h1
        · have : 1001 * 1001 ≤ p * p := Int.mul_le_mul (by omega) (by omega) (by omega) (by omega)
          omega
        · exact h1
      obtain ⟨m', rfl⟩ : ∃ m', m = m' + 1 := ⟨m - 1, by omega⟩
      have hF := FUge
      obtain ⟨n1, k1, g1, g2, g3, g4, g5, g6, g7⟩ := sf_in hp2 hp3 20 FU n k h0 (by omega) (by omega) hk hkn
      rw [decide_eq_true h, cond_true, g1, g2]
      simp only [cond_true, Option.bind_some, sI_eq]
      rw [w64_in (n := p + 1) (by omega)]
      have hk1 : k1 * k1 * (n1.natAbs : Int) = k * k * (n.natAbs : Int) := by
        have e1 : (n1 * (k1 * k1)).natAbs = (n * (k * k)).natAbs := by rw [g3]
        rw [Int.natAbs_mul n1 (k1 * k1), Int.natAbs_mul n (k * k)] at e1
        have e2 : ((k1 * k1).natAbs : Int) = k1 * k1 := by have := sqn k1; omega
        have e3 : ((k * k).natAbs : Int) = k * k := by have := sqn k; omega
        have e4 : ((n1.natAbs * (k1 * k1).natAbs : Nat) : Int) = ((n.natAbs * (k * k).natAbs : Nat) : Int) := by rw [e1]
        push_cast at e4
        rw [show ((k1 * k1).natAbs : Int) = k1 * k1 from e2, show ((k * k).natAbs : Int) = k * k from e3] at e4
        rw [Int.mul_comm, e4, Int.mul_comm]
      obtain ⟨n', k', j1, j2, j3, j4, j5⟩ := sf_out m' fu n1 k1 (p + 1) (by omega) (by omega) (by omega) g4 g6 (by omega) (fun q hq hqp hdv => by
        by_cases e : (q : Int) = p
        · have : ((q * q : Nat) : Int) = p * p := by push_cast; rw [e]
          rw [this] at hdv
          exact g7 hdv
        · exact hs q hq (by omega) (Int.dvd_trans hdv g5))
      exact ⟨n', k', j1, j2, by rw [j3, g3], j4, j5⟩
    · rw [decide_eq_false h, cond_false]
      refine ⟨n, k, rfl, rfl, rfl, hk, h0, fun q hq hdv => ?_⟩
      by_cases hqp : (q : Int) < p
      · exact hs q hq hqp hdv
      · have h5 : p * p ≤ (q : Int) * q := Int.mul_le_mul (by omega) (by omega) (by omega) (by omega)
        have h6 := Int.natAbs_dvd_natAbs.2 hdv
        have h7 := Nat.le_of_dvd (by omega) h6
        rw [Int.natAbs_natCast] at h7
        have : ((q * q : Nat) : Int) = (q : Int) * q := by push_cast; rfl
        omega
theorem sf_val {d : Int} (h0 : d ≠ 0) (hd : d.natAbs ≤ 1000000) : ∃ s k, r_impl_squareFree d = some (s, k) ∧ r_spec_nuFree d = some (s, k) ∧ s * (k * k) = d ∧ 1 ≤ k ∧ SF s := by
  have hF := FUge
  obtain ⟨s, k, g1, g2, g3, g4, g5⟩ := sf_out 1000 FU d 1 2 (by omega) (by omega) (by omega) h0 (by omega) (by omega) (fun q hq hqp => by omega)
  refine ⟨s, k, by simp only [r_impl_squareFree, g1, Option.bind_some], by simp only [r_spec_nuFree, g2, Option.bind_some], by rw [g3]; omega, g4, g5⟩
theorem sf_uni {s t : Int} {k l : Int} (hs : SF s) (ht : SF t) (hk : 1 ≤ k) (hl : 1 ≤ l) (h : s * (k * k) = t * (l * l)) : k = l := by
  have key : ∀ {s t : Int} {a b : Nat}, SF t → 1 ≤ a → Nat.gcd a b = 1 → s.natAbs * (a * a) = t.natAbs * (b * b) → a = 1 := by
    intro s t a b ht ha hg he
    have h1 : a * a ∣ t.natAbs * (b * b) := ⟨s.natAbs, by rw [← he, Nat.mul_comm]⟩
    have hc : Nat.Coprime (a * a) (b * b) := by
      have c1 : Nat.Coprime a b := hg
      have c2 : Nat.Coprime a (b * b) := Nat.Coprime.mul_right c1 c1
      exact Nat.Coprime.mul_left c2 c2
    have h2 : a * a ∣ t.natAbs := hc.dvd_of_dvd_mul_right h1
    rcases Nat.lt_or_ge a 2 with h3 | h3
    · omega
    · exfalso
      refine ht.2 a h3 ?_
      exact Int.natAbs_dvd_natAbs.1 (by rw [Int.natAbs_natCast]; exact h2)
  obtain ⟨K, rfl⟩ := Int.eq_ofNat_of_zero_le (show 0 ≤ k by omega)
  obtain ⟨L, rfl⟩ := Int.eq_ofNat_of_zero_le (show 0 ≤ l by omega)
  have hK : 1 ≤ K := by omega
  have hL : 1 ≤ L := by omega
  have hn : s.natAbs * (K * K) = t.natAbs * (L * L) := by
    have := congrArg Int.natAbs h
    rw [Int.natAbs_mul, Int.natAbs_mul, Int.natAbs_mul, Int.natAbs_mul] at this
    simpa using this
  have hg0 : 0 < Nat.gcd K L := Nat.gcd_pos_of_pos_left _ hK
  obtain ⟨a, ha⟩ := Nat.gcd_dvd_left K L
  obtain ⟨b, hb⟩ := Nat.gcd_dvd_right K L
  have hcop : Nat.gcd a b = 1 := by
    have h5 : Nat.gcd (Nat.gcd K L * a) (Nat.gcd K L * b) = Nat.gcd K L * Nat.gcd a b := Nat.gcd_mul_left _ _ _
    rw [← ha, ← hb] at h5
    have : Nat.gcd K L * 1 = Nat.gcd K L * Nat.gcd a b := by rw [Nat.mul_one]; exact h5
    exact (Nat.eq_of_mul_eq_mul_left hg0 this).symm
  have hab : s.natAbs * (a * a) = t.natAbs * (b * b) := by
    generalize Nat.gcd K L = G at ha hb hg0
    have e1 : s.natAbs * (K * K) = (G * G) * (s.natAbs * (a * a)) := by rw [ha]; grind
    have e2 : t.natAbs * (L * L) = (G * G) * (t.natAbs * (b * b)) := by rw [hb]; grind
    rw [e1, e2] at hn
    exact Nat.eq_of_mul_eq_mul_left (Nat.mul_pos hg0 hg0) hn
  have ha0 : 1 ≤ a := by
    rcases Nat.eq_zero_or_pos a with e | e
    · rw [e, Nat.mul_zero] at ha; omega
    · exact e
  have hb0 : 1 ≤ b := by
    rcases Nat.eq_zero_or_pos b with e | e
    · rw [e, Nat.mul_zero] at hb; omega
    · exact e
  have a1 := key (s := s) (t := t) ht ha0 hcop hab
  have b1 := key (s := t) (t := s) hs hb0 (by rw [Nat.gcd_comm]; exact hcop) hab.symm
  rw [a1, Nat.mul_one] at ha
  rw [b1, Nat.mul_one] at hb
  omega
theorem mod4 (a : Int) : r_impl_mod a 4 = some (a % 4) := mod_emod (by omega) (by omega)
structure Fnd (d e k : Int) : Prop where
  i : r_impl_fundamental d = some (e, k)
  s : r_spec_diSplit d = some (e, k)
  m : e * (k * k) = d
  k1 : 1 ≤ k
  e4 : e % 4 = 0 ∨ e % 4 = 1
  f : r_impl_fundamental e = some (e, 1)
theorem fund_val {d : Int} (h4 : d % 4 = 0 ∨ d % 4 = 1) (h0 : d ≠ 0) (hd : d.natAbs ≤ 1000000) : ∃ e k, Fnd d e k := by
  obtain ⟨s, k, g1, g2, g3, g4, g5⟩ := sf_val h0 hd
  have hs4 : s % 4 ≠ 0 := by
    intro h
    refine g5.2 2 (by omega) ?_
    exact Int.dvd_of_emod_eq_zero h
  have hsb : s.natAbs ≤ 1000000 := by
    have h5 : d.natAbs = s.natAbs * (k * k).natAbs := by rw [← g3]; exact Int.natAbs_mul _ _
    have hkk : 1 ≤ k * k := by
      have : 1 * 1 ≤ k * k := Int.mul_le_mul g4 g4 (by omega) (by omega)
      omega
    have : s.natAbs * 1 ≤ s.natAbs * (k * k).natAbs := Nat.mul_le_mul_left _ (by omega)
    omega
  by_cases h1 : s % 4 = 1
  · refine ⟨s, k, ?_, ?_, g3, g4, .inr h1, ?_⟩
    · simp only [r_impl_fundamental, g1, mod4, h1, Option.bind_some, eqSelf, Bool.not_true, cond_false]
    · simp only [r_spec_diSplit, g2, smod_eq, mod4, h1, Option.bind_some, eqSelf, cond_true]
    · obtain ⟨s', k', j1, j2, j3, j4, j5⟩ := sf_val g5.1 hsb
      have hk' : k' = 1 := sf_uni j5 g5 j4 (by omega) (by rw [j3]; omega)
      subst hk'
      have : s' = s := by omega
      subst this
      simp only [r_impl_fundamental, j1, mod4, h1, Option.bind_some, eqSelf, Bool.not_true, cond_false]
  · have hke : k % 2 = 0 := by
      rcases Int.emod_two_eq k with h | h
      · exact h
      · exfalso
        have e : (k * k) % 4 = 1 := by
          obtain ⟨j, hj⟩ : ∃ j, k = 2 * j + 1 := ⟨k / 2, by omega⟩
          rw [hj, show (2 * j + 1) * (2 * j + 1) = 4 * (j * j + j) + 1 by grind]; omega
        have e2 : d % 4 = (s % 4) * ((k * k) % 4) % 4 := by rw [← g3]; exact Int.mul_emod _ _ _
        rw [e] at e2
        omega
    obtain ⟨j, hj⟩ : ∃ j, k = 2 * j := ⟨k / 2, by omega⟩
    have hj1 : 1 ≤ j := by omega
    have hkb : k ≤ 1000000 := by
      have h5 : d.natAbs = s.natAbs * (k * k).natAbs := by rw [← g3]; exact Int.natAbs_mul _ _
      have h6 : 1 * (k * k).natAbs ≤ s.natAbs * (k * k).natAbs := Nat.mul_le_mul_right _ (by have := g5.1; omega)
      have h7 : k * 1 ≤ k * k := Int.mul_le_mul_of_nonneg_left g4 (by omega)
      omega
    have en : eqI (s % 4) 1 = false := eqNe h1
    have ek : w64 (Int.tdiv k 2) = j := by rw [hj, Int.mul_tdiv_cancel_left _ (by omega), w64_in (by omega)]
    have e4s : w64 (4 * s) = 4 * s := w64_in (by omega)
    have h4sb : (4 * s).natAbs ≤ 1000000 := by
      have h5 : d.natAbs = s.natAbs * (k * k).natAbs := by rw [← g3]; exact Int.natAbs_mul _ _
      have hkk : 4 ≤ k * k := by
        have : 2 * 2 ≤ k * k := Int.mul_le_mul (by omega) (by omega) (by omega) (by omega)
        omega
      have : s.natAbs * 4 ≤ s.natAbs * (k * k).natAbs := Nat.mul_le_mul_left _ (by omega)
      omega
    refine ⟨4 * s, j, ?_, ?_, by rw [← g3, hj]; grind, hj1, .inl (by omega), ?_⟩
    · simp only [r_impl_fundamental, g1, mod4, en, Option.bind_some, Bool.not_false, cond_true, sI_eq, e4s, ek]
    · simp only [r_spec_diSplit, g2, smod_eq, mod4, en, Option.bind_some, cond_false, sI_eq, e4s, ek]
    · obtain ⟨s', k', j1, j2, j3, j4, j5⟩ := sf_val (d := 4 * s) (by have := g5.1; omega) h4sb
      have hk' : k' = 2 := sf_uni j5 g5 j4 (by omega) (by rw [j3]; omega)
      subst hk'
      have : s' = s := by omega
      subst this
      have ek2 : w64 (Int.tdiv 2 2) = 1 := rfl
      simp only [r_impl_fundamental, j1, mod4, en, Option.bind_some, Bool.not_false, cond_true, sI_eq, e4s, ek2]
end Go.Proofs.Ytgeajejmikaniaa
