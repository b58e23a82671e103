/-
  Inverses to a modulus, as the reference works them out.
  Conditions: none.
-/
import Derived.Test.YtgeajejmikaniaaIvDscBas
import Derived.Test.YtgeajejmikaniaaIvCt0
namespace Go.Proofs.Ytgeajejmikaniaa
set_option linter.unusedVariables false
set_option linter.unusedSimpArgs false

theorem euc_bd {b x d y k : Int} (hk : 0 ≤ k) (hy : 1 ≤ y) (M : Int) (h : (x.natAbs : Int) * d + (b.natAbs : Int) * y ≤ M) : ((b - k * x).natAbs : Int) * y + (x.natAbs : Int) * (d - k * y) ≤ M ∧ ((x.natAbs : Int) * (d - k * y) ≥ 0 → ((b - k * x).natAbs : Int) ≤ M) := by
  have h1 : ((b - k * x).natAbs : Int) ≤ (b.natAbs : Int) + k * (x.natAbs : Int) := by
    have h2 : (b - k * x).natAbs ≤ b.natAbs + (k * x).natAbs := Int.natAbs_sub_le b (k * x)
    have h3 : (((k * x).natAbs : Nat) : Int) = k * (x.natAbs : Int) := by
      rw [Int.natAbs_mul, Int.natCast_mul, Int.natAbs_of_nonneg hk]
    omega
  have h4 : ((b - k * x).natAbs : Int) * y ≤ ((b.natAbs : Int) + k * (x.natAbs : Int)) * y := Int.mul_le_mul_of_nonneg_right h1 (by omega)
  have e : ((b.natAbs : Int) + k * (x.natAbs : Int)) * y + (x.natAbs : Int) * (d - k * y) = (x.natAbs : Int) * d + (b.natAbs : Int) * y := by grind
  have h5 : ((b - k * x).natAbs : Int) * 1 ≤ ((b - k * x).natAbs : Int) * y := Int.mul_le_mul_of_nonneg_left hy (by omega)
  constructor
  · omega
  · intro h6; omega
theorem tdiv_q {d y : Int} (hd : 0 ≤ d) (hy : 1 ≤ y) : 0 ≤ Int.tdiv d y ∧ Int.tdiv d y ≤ d ∧ 0 ≤ d - Int.tdiv d y * y ∧ d - Int.tdiv d y * y < y := by
  have h1 := Int.tmod_add_mul_tdiv d y
  have h2 : 0 ≤ d.tmod y ∧ d.tmod y < y := ⟨Int.tmod_nonneg _ hd, Int.tmod_lt_of_pos _ (by omega)⟩
  have h3 := Int.tdiv_nonneg hd (show 0 ≤ y by omega)
  have e : Int.tdiv d y * y = y * Int.tdiv d y := Int.mul_comm _ _
  have h4 : Int.tdiv d y * 1 ≤ Int.tdiv d y * y := Int.mul_le_mul_of_nonneg_left hy h3
  refine ⟨h3, by omega, by omega, by omega⟩
theorem bigk {k x : Int} {K M : Nat} (h1 : k.natAbs ≤ K) (h2 : x.natAbs ≤ M) (hKM : K * M ≤ 9000000000000) : w64 (k * x) = k * x ∧ (k * x).natAbs ≤ K * M := by
  have := abs_mul h1 h2
  exact ⟨w64_abs (by omega), this⟩
theorem tz {z g : Int} (hg : g ≠ 0) : eqI (Int.tmod z g) 0 = decide (g ∣ z) := by
  rw [eqI_eq, Bool.eq_iff_iff, beq_iff_eq, decide_eq_true_iff]
  exact ⟨Int.dvd_of_tmod_eq_zero, Int.tmod_eq_zero_of_dvd⟩
theorem tdv {a b c : Int} (hb : b ≠ 0) (h : b * c = a) : Int.tdiv a b = c := by
  rw [← h, Int.mul_tdiv_cancel_left _ hb]
end Go.Proofs.Ytgeajejmikaniaa
