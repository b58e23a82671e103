/-
  The reference's list of the primitive reduced forms of a negative discriminant: there is one, it holds each of them and no other.
  Conditions: none.
-/
import Derived.Test.YtpfnhgpepgeaiaaPgDscRed
import Derived.Test.YtpfnhgpepgeaiaaPgCt0
namespace Go.Proofs.Ytpfnhgpepgeaiaa
set_option linter.unusedVariables false
set_option linter.unusedSimpArgs false

/-- Whole numbers in a row. -/
def upz : Nat → Int → List Int
  | 0, _ => []
  | f + 1, y => y :: upz f (y + 1)
theorem mem_upz : ∀ (f : Nat) (y z : Int), z ∈ upz f y ↔ y ≤ z ∧ z < y + f
  | 0, y, z => by simp [upz]
  | f + 1, y, z => by
    rw [upz, List.mem_cons, mem_upz f (y + 1) z]
    push_cast
    omega
theorem upz_lt : ∀ (f : Nat) (y : Int), (upz f y).Pairwise (· < ·)
  | 0, y => List.Pairwise.nil
  | f + 1, y => by
    rw [upz, List.pairwise_cons]
    refine ⟨fun z hz => ?_, upz_lt f (y + 1)⟩
    have := (mem_upz f (y + 1) z).1 hz
    omega
theorem upz_len : ∀ (f : Nat) (y : Int), (upz f y).length = f
  | 0, y => rfl
  | f + 1, y => by rw [upz, List.length_cons, upz_len f (y + 1)]

/-- The form with two first coefficients, and whether it is a reduced form of the discriminant. -/
def cfR (d a b : Int) : Int × Int × Int := (a, b, Int.tdiv (b * b - d) (4 * a))
def okR (d : Int) (f : Int × Int × Int) : Bool := eqI (f.2.1 * f.2.1 - 4 * f.1 * f.2.2) d && decide (IsRed f.1 f.2.1 f.2.2)
def rowR (d a : Int) (n : Nat) (b : Int) : List (Int × Int × Int) := ((upz n b).map (cfR d a)).filter (okR d)
theorem rowR_fst {d a b : Int} {n : Nat} {f : Int × Int × Int} (h : f ∈ rowR d a n b) : f.1 = a := by
  unfold rowR at h
  obtain ⟨b', _, hb⟩ := List.mem_map.1 (List.mem_filter.1 h).1
  rw [← hb]; rfl
theorem tdiv_le {x m : Int} (hm : 1 ≤ m) : (Int.tdiv x m).natAbs ≤ x.natAbs := by
  rw [Int.natAbs_tdiv]
  exact Nat.div_le_self _ _
theorem sq_mono {a b : Int} (h0 : 0 ≤ a) (h : a ≤ b) : a * a ≤ b * b := Int.mul_le_mul h h h0 (by omega)
theorem tgcd_run : ∀ (k n : Nat) (a b : Int), 0 ≤ a → 0 ≤ b → b.natAbs < 2 ^ k → 2 * k + 1 ≤ n → ∃ r, r_spec_nuGcd_L7 n a b = some r ∧ r.natAbs = Int.gcd a b ∧ 0 ≤ r
  | k, 0, a, b, _, _, _, hn => by omega
  | 0, n + 1, a, b, ha, hb0, hb, hn => by
    have : b = 0 := by simp at hb; omega
    subst this
    unfold r_spec_nuGcd_L7
    rw [eqI_true]
    exact ⟨a, rfl, by simp, ha⟩
  | k + 1, n + 1, a, b, ha, hb0, hb, hn => by
    unfold r_spec_nuGcd_L7
    by_cases h0 : b = 0
    · subst h0
      rw [eqI_true]
      exact ⟨a, rfl, by simp, ha⟩
    · rw [eqI_false h0, nz_ne h0]
      simp only [Bool.not_false, cond_true, Option.bind_some, sI_eq]
      rw [← igcd_step a b]
      match n, hn with
      | n + 1, hn =>
        unfold r_spec_nuGcd_L7
        by_cases h1 : a.tmod b = 0
        · rw [h1, eqI_true]
          exact ⟨b, rfl, by simp, hb0⟩
        · rw [eqI_false h1, nz_ne h1]
          simp only [Bool.not_false, cond_true, Option.bind_some, sI_eq]
          rw [← igcd_step b (a.tmod b)]
          refine tgcd_run k n _ _ (Int.tmod_nonneg _ ha) (Int.tmod_nonneg _ hb0) ?_ (by omega)
          rw [Int.natAbs_tmod]
          have h2 : (a.tmod b).natAbs < b.natAbs := by rw [Int.natAbs_tmod]; exact Nat.mod_lt _ (by omega)
          exact gcd_two k (by omega) h2 hb
theorem tgcd_val {a b : Int} (ha : a.natAbs ≤ 9223372036854775806) (hb : b.natAbs ≤ 9223372036854775806) : r_spec_nuGcd a b = some (Int.gcd a b : Int) := by
  obtain ⟨r, h1, h2, h3⟩ := tgcd_run 64 FU (a.natAbs : Int) (b.natAbs : Int) (by omega) (by omega) (by omega) (FU_succ 129 (by decide))
  rw [natAbs_natAbs] at h2
  simp only [r_spec_nuGcd, sabs_val ha, sabs_val hb, Option.bind_some, h1]
  congr 1
  omega
/-- A primitive reduced form of the discriminant. -/
def PrR (d : Int) (f : Int × Int × Int) : Prop := 1 ≤ f.1 ∧ IsRed f.1 f.2.1 f.2.2 ∧ f.2.1 * f.2.1 - 4 * f.1 * f.2.2 = d ∧ Int.gcd f.1 (Int.gcd f.2.1 f.2.2) = 1
theorem red_sq {a b c d : Int} (ha : 1 ≤ a) (h : IsRed a b c) (hd : b * b - 4 * a * c = d) : 3 * a * a ≤ -d := by
  have h1 : b * b ≤ a * a := by
    obtain ⟨⟨h2, h3⟩, _⟩ := h
    rcases Int.le_total 0 b with h4 | h4
    · exact sq_mono h4 h3
    · have := sq_mono (a := -b) (b := a) (by omega) (by omega)
      have e : (-b) * (-b) = b * b := by grind
      omega
  have h5 : a ≤ c := by
    obtain ⟨_, h6⟩ := h
    omega
  have h7 : 4 * a * a ≤ 4 * a * c := Int.mul_le_mul_of_nonneg_left h5 (by omega)
  have e : 4 * a * a = 4 * (a * a) := by grind
  have e2 : 3 * a * a = 3 * (a * a) := by grind
  omega
theorem row_mem {d : Int} {f : Int × Int × Int} (hd1 : -2000 ≤ d) (hd2 : d ≤ -3) : (1 ≤ f.1 ∧ 3 * f.1 * f.1 ≤ -d ∧ f ∈ rowR d f.1 (2 * f.1).toNat (1 - f.1)) ↔ (1 ≤ f.1 ∧ IsRed f.1 f.2.1 f.2.2 ∧ f.2.1 * f.2.1 - 4 * f.1 * f.2.2 = d) := by
  obtain ⟨a, b, c⟩ := f
  unfold rowR
  rw [List.mem_filter, List.mem_map]
  constructor
  · rintro ⟨h1, h2, ⟨b', h3, h4⟩, h5⟩
    unfold okR at h5
    rw [Bool.and_eq_true, decide_eq_true_eq, eqI_eq, beq_iff_eq] at h5
    exact ⟨h1, h5.2, h5.1⟩
  · rintro ⟨h1, h2, h3⟩
    have h1' : 1 ≤ a := h1
    have h2' : IsRed a b c := h2
    have h3' : b * b - 4 * a * c = d := h3
    refine ⟨h1, red_sq h1' h2' h3', ⟨b, (mem_upz _ _ _).2 ⟨?_, ?_⟩, ?_⟩, ?_⟩
    · obtain ⟨⟨h4, h5⟩, _⟩ := h2'
      show 1 - a ≤ b
      omega
    · obtain ⟨⟨h4, h5⟩, _⟩ := h2'
      show b < 1 - a + ((2 * a).toNat : Int)
      omega
    · unfold cfR
      have e : b * b - d = 4 * a * c := by omega
      show (a, b, Int.tdiv (b * b - d) (4 * a)) = (a, b, c)
      rw [e, Int.mul_tdiv_cancel_left _ (by omega)]
    · unfold okR
      rw [Bool.and_eq_true, decide_eq_true_eq, eqI_eq, beq_iff_eq]
      exact ⟨h3, h2⟩
theorem prin_red {d : Int} (hd1 : -2000 ≤ d) (hd2 : d ≤ -3) (h4 : d % 4 ≤ 1) : PrR d (1, d % 2, (d % 2 - d) / 4) := by
  have e : (d % 2) * (d % 2) = d % 2 := by
    rcases (by omega : d % 2 = 0 ∨ d % 2 = 1) with h | h <;> rw [h] <;> rfl
  refine ⟨Int.le_refl 1, ⟨⟨?_, ?_⟩, ?_⟩, ?_, ?_⟩
  · show -1 < d % 2; omega
  · show d % 2 ≤ 1; omega
  · show 1 < (d % 2 - d) / 4 ∨ (1 = (d % 2 - d) / 4 ∧ 0 ≤ d % 2)
    omega
  · show d % 2 * (d % 2) - 4 * 1 * ((d % 2 - d) / 4) = d
    rw [e]
    omega
  · simp
end Go.Proofs.Ytpfnhgpepgeaiaa
