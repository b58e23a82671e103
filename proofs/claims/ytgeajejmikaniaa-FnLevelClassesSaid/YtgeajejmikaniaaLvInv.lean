/-
  Inverses to a modulus, as the reference works them out.
  Conditions: none.
-/
import Derived.Test.YtgeajejmikaniaaLvDscBas
import Derived.Test.YtgeajejmikaniaaLvCt0
namespace Go.Proofs.Ytgeajejmikaniaa
set_option linter.unusedVariables false
set_option linter.unusedSimpArgs false

theorem euc_bd {b x d y k : Int} (hk : 0 ≤ k) (hy : 1 ≤ y) (M : Int) (h : (x.natAbs : Int) * d + (b.natAbs : Int) * y ≤ M) : ((b - k * x).natAbs : Int) * y + (x.natAbs : Int) * (d - k * y) ≤ M ∧ ((x.natAbs : Int) * (d - k * y) ≥ 0 → ((b - k * x).natAbs : Int) ≤ M) := by
  have h1 : ((b - k * x).natAbs : Int) ≤ (b.natAbs : Int) + k * (x.natAbs : Int) := by
    have h2 : (b - k * x).natAbs ≤ b.natAbs + (k * x).natAbs := Int.natAbs_sub_le b (k * x)
    have h3 : (((k * x).natAbs : Nat) : Int) = k * (x.natAbs : Int) := by
      rw [Int.natAbs_mul, Int.natCast_mul, Int.natAbs_of_nonneg hk]
    omega
  have h4 : ((b - k * x).natAbs : Int) * y ≤ ((b.natAbs : Int) + k * (x.natAbs : Int)) * y := Int.mul_le_mul_of_nonneg_right h1 (by omega)
  have e : ((b.natAbs : Int) + k * (x.natAbs : Int)) * y + (x.natAbs : Int) * (d - k * y) = (x.natAbs : Int) * d + (b.natAbs : Int) * y := by grind
  have h5 : ((b - k * x).natAbs : Int) * 1 ≤ ((b - k * x).natAbs : Int) * y := Int.mul_le_mul_of_nonneg_left hy (by omega)
  constructor
  · omega
  · intro h6; omega
theorem tdiv_q {d y : Int} (hd : 0 ≤ d) (hy : 1 ≤ y) : 0 ≤ Int.tdiv d y ∧ Int.tdiv d y ≤ d ∧ 0 ≤ d - Int.tdiv d y * y ∧ d - Int.tdiv d y * y < y := by
  have h1 := Int.tmod_add_mul_tdiv d y
  have h2 : 0 ≤ d.tmod y ∧ d.tmod y < y := ⟨Int.tmod_nonneg _ hd, Int.tmod_lt_of_pos _ (by omega)⟩
  have h3 := Int.tdiv_nonneg hd (show 0 ≤ y by omega)
  have e : Int.tdiv d y * y = y * Int.tdiv d y := Int.mul_comm _ _
  have h4 : Int.tdiv d y * 1 ≤ Int.tdiv d y * y := Int.mul_le_mul_of_nonneg_left hy h3
  refine ⟨h3, by omega, by omega, by omega⟩
theorem bigk {k x : Int} {K M : Nat} (h1 : k.natAbs ≤ K) (h2 : x.natAbs ≤ M) (hKM : K * M ≤ 9000000000000) : w64 (k * x) = k * x ∧ (k * x).natAbs ≤ K * M := by
  have := abs_mul h1 h2
  exact ⟨w64_abs (by omega), this⟩
theorem tz {z g : Int} (hg : g ≠ 0) : eqI (Int.tmod z g) 0 = decide (g ∣ z) := by
  rw [eqI_eq, Bool.eq_iff_iff, beq_iff_eq, decide_eq_true_iff]
  exact ⟨Int.dvd_of_tmod_eq_zero, Int.tmod_eq_zero_of_dvd⟩
theorem tdv {a b c : Int} (hb : b ≠ 0) (h : b * c = a) : Int.tdiv a b = c := by
  rw [← h, Int.mul_tdiv_cancel_left _ hb]
theorem inv_run {n m : Int} : ∀ (k fu : Nat) (r nx x y : Int), 0 ≤ nx → nx ≤ k → k < fu → 1 ≤ r → r ≤ 100000 → nx ≤ 100000 → (y.natAbs : Int) * r + (x.natAbs : Int) * nx ≤ 100000 → x.natAbs ≤ 100000 → y.natAbs ≤ 100000 → n ∣ r - x * m → n ∣ nx - y * m → (∀ c : Int, c ∣ r → c ∣ nx → c ∣ 1) →
    ∃ z, r_spec_nuInverse_L8 n fu r nx x y = some (1, z) ∧ n ∣ 1 - z * m ∧ z.natAbs ≤ 100000
  | k, 0, r, nx, x, y, _, _, hf, _, _, _, _, _, _, _, _, _ => by omega
  | k, fu + 1, r, nx, x, y, h0, hk, hf, hr, hr2, hn2, hS, hx, hy, d1, d2, hc => by
    rw [r_spec_nuInverse_L8]
    by_cases hz : nx = 0
    · subst hz
      have h1 : r = 1 := Int.eq_one_of_dvd_one (by omega) (hc r ⟨1, by omega⟩ ⟨0, by omega⟩)
      subst h1
      rw [eqSelf, Bool.not_true, cond_false]
      exact ⟨x, rfl, d1, hx⟩
    · have hn1 : 1 ≤ nx := by omega
      obtain ⟨k', rfl⟩ : ∃ k', k = k' + 1 := ⟨k - 1, by omega⟩
      obtain ⟨q0, q1, q2, q3⟩ := tdiv_q (d := r) (y := nx) (by omega) hn1
      obtain ⟨s1, s2⟩ := euc_bd (b := x) (x := y) (d := r) (y := nx) (k := Int.tdiv r nx) q0 hn1 100000 hS
      have s4 := s2 (Int.mul_nonneg (by omega) q2)
      generalize hq : Int.tdiv r nx = q at *
      obtain ⟨w1, w2⟩ := bigk (k := q) (x := nx) (K := 100000) (M := 100000) (by omega) (by omega) (by decide)
      obtain ⟨w3, w4⟩ := bigk (k := q) (x := y) (K := 100000) (M := 100000) (by omega) hy (by decide)
      have hne : (!eqI nx 0) = true := by rw [eqNe hz]; rfl
      rw [hne, cond_true]
      simp only [nzOk hz, Option.bind_some, sI_eq, hq]
      rw [w64_in (n := q) (by omega), w1, w3, w64_in (n := r - q * nx) (by omega), w64_in (n := x - q * y) (by omega)]
      refine inv_run k' fu nx (r - q * nx) y (x - q * y) q2 (by omega) (by omega) hn1 hn2 (by omega) (by omega) hy (by omega) d2 ?_ fun c c1 c2 => hc c ?_ c1
      · obtain ⟨u, hu⟩ := d1
        obtain ⟨v, hv⟩ := d2
        exact ⟨u - q * v, by grind⟩
      · obtain ⟨u, hu⟩ := c1
        obtain ⟨v, hv⟩ := c2
        exact ⟨v + q * u, by grind⟩
theorem inv_val {n m : Int} (hn : 1 ≤ n) (hn2 : n ≤ 100000) (hm : m.natAbs ≤ 100000) (hc : ∀ c : Int, c ∣ n → c ∣ m → c ∣ 1) : ∃ v, r_spec_nuInverse m n = some v ∧ n ∣ 1 - v * m ∧ 0 ≤ v ∧ v < n := by
  have hF := FUge
  have m1 := Int.emod_nonneg m (b := n) (by omega)
  have m2 := Int.emod_lt_of_pos m (b := n) (by omega)
  have em := Int.emod_add_mul_ediv m n
  obtain ⟨z, e1, e2, e3⟩ := inv_run (n := n) (m := m) 100000 FU n (m % n) 0 1 m1 (by omega) (by omega) hn hn2 (by omega) (by simp; omega) (by decide) (by decide) ⟨1, by omega⟩ ⟨-(m / n), by grind⟩ fun c c1 c2 => hc c c1 (by
    obtain ⟨u, hu⟩ := c1
    obtain ⟨v, hv⟩ := c2
    exact ⟨v + u * (m / n), by grind⟩)
  have z1 := Int.emod_nonneg z (b := n) (by omega)
  have z2 := Int.emod_lt_of_pos z (b := n) (by omega)
  have ez := Int.emod_add_mul_ediv z n
  refine ⟨z % n, ?_, ?_, z1, z2⟩
  · simp only [r_spec_nuInverse, dsc_mod, dsc_mod_val hn (show n ≤ 9223372036854775807 by omega), Option.bind_some, e1, eqSelf, Bool.not_true, cond_false]
  · obtain ⟨u, hu⟩ := e2
    exact ⟨u + (z / n) * m, by grind⟩
end Go.Proofs.Ytgeajejmikaniaa
