import Derived.Test.YtdffhgibkeifmaaForm
import Derived.Test.YtdffhgibkeifmaaSym
namespace Go.Proofs.Ytdffhgibkeifmaa
open Go.RowKit
set_option linter.unusedSimpArgs false
set_option linter.unusedVariables false

theorem i64w (n : Int) (h : -9000000000000000000 ≤ n ∧ n ≤ 9000000000000000000) : IntKind.i64.wrap n = n := IntWalk.i64_in n (by omega)
theorem w64 (n : Int) (h : -9000000000000000000 ≤ n ∧ n ≤ 9000000000000000000) : wrap64 n = n := IntWalk.wrap64_in n (by omega)

theorem spec_nuPrime (n : Int) (w : World) (h : n ≤ 1000000000000) :
    Calls Try.prog 98 #[.int .i64 n] w fun e w' => e = .returned (.bool (isPrimeB n)) ∧ w = w' := by
  by_cases h2 : n < 2
  · go_enter Try.func98, Try.ntmps98
    go_wp2
    go_ret
    exact ⟨ret_bool (by simp [isPrimeB]; omega), rfl⟩
  · obtain ⟨N, rfl⟩ := Int.eq_ofNat_of_zero_le (show 0 ≤ n by omega)
    go_enter Try.func98, Try.ntmps98
    go_wp2
    go_loopg [3] N (fun k d wr => w = wr ∧ ∃ D : Nat, d = .int .i64 D ∧ 2 ≤ D ∧ D ≤ 1000001 ∧ N < D + k ∧ Hid (isPrimeB N = primeLoop k D N))
    case atStart => exact ⟨rfl, 2, rfl, by omega, by omega, by omega, by show isPrimeB N = _; simp [isPrimeB]; omega⟩
    case round =>
      obtain ⟨rfl, D, rfl, hD2, hDm, hk, hH⟩ := hrel
      have hdd : (D : Int) * D ≤ 1000001 * 1000001 := sq_le hDm
      have hd0 : (0 : Int) ≤ (D : Int) * D := sq_nonneg D
      go_wp2
      · go_ret
        exact ⟨ret_bool (by rw [hH.out]; exact (primeLoop_no (by assumption) (by assumption) hk).symm), rfl⟩
      · have hle : (D : Int) * D ≤ (N : Int) := by assumption
        have hD' : D ≤ 1000000 := sq_lt hle h
        go_roundg (gk - 1)
        case measure => exact prime_gk hle hk
        case rel => exact ⟨rfl, D + 1, by go_num, by omega, by omega, by omega, by show _ = _; rw [hH.out]; exact primeLoop_on hle (by assumption) hk⟩
      · go_ret
        exact ⟨ret_bool (by rw [hH.out]; exact (primeLoop_end (by assumption)).symm), rfl⟩

def odPrimeB (p : Int) : Bool := decide (2 ≤ p ∧ p ≤ 1000) && isPrimeB p
theorem odPrime_bd {k : Int} (h : odPrimeB k = true) : 2 ≤ k ∧ k ≤ 1000 ∧ isPrimeB k = true := by
  simp [odPrimeB] at h
  exact ⟨h.1.1, h.1.2, h.2⟩
theorem prime_ge {k : Int} (hp : isPrimeB k = true) : 2 ≤ k := by
  simp [isPrimeB] at hp
  exact hp.1
theorem numB_of {k : Int} (h1 : 2 ≤ k) (h2 : k ≤ 1000) : numB k = true := numB_iff.2 ⟨by omega, by omega⟩

theorem spec_odPrime (p : Int) (w : World) :
    Calls Try.prog 55 #[.int .i64 p] w fun e w' => e = .returned (.bool (odPrimeB p)) ∧ w = w' := by
  by_cases h : 2 ≤ p ∧ p ≤ 1000
  · have e : odPrimeB p = isPrimeB p := by simp [odPrimeB, h]
    rw [e]
    obtain ⟨h1, h2⟩ := h
    clear e
    cases hp : isPrimeB p
    all_goals
      go_enter Try.func55, Try.ntmps55
      go_wp2_with (first | (go_at_call 83; (with_reducible refine (spec_l1In_yes _ _ _ _ (by omega) (by omega)).mono ?_); rintro e w' ⟨rfl, rfl⟩) | (go_at_call 98; (with_reducible refine (spec_nuPrime _ _ (by omega)).mono ?_); rintro e w' ⟨rfl, rfl⟩))
      go_ret
      exact ⟨rfl, rfl⟩
  · have e : odPrimeB p = false := by simp [odPrimeB]; omega
    rw [e]
    clear e
    go_enter Try.func55, Try.ntmps55
    go_wp2_with (go_at_call 83; (with_reducible refine (spec_l1In_no _ _ _ _ (by assumption)).mono ?_); rintro e w' ⟨rfl, rfl⟩)
    go_ret
    exact ⟨rfl, rfl⟩

/-- d and its product with the square of the prime p are negative discriminants. -/
def riseB (d p : Int) : Bool := discB d && (odPrimeB p && discB (d * p * p))
theorem rise_w {d p : Int} (h : discB d = true) (h1 : 2 ≤ p) (h2 : p ≤ 2000) : -4000000 ≤ d * p ∧ d * p ≤ 0 ∧ -8000000000 ≤ d * p * p ∧ d * p * p ≤ 0 := by
  obtain ⟨d1, d2, d3⟩ := discB_iff.1 h
  have e1 := mul_bd (a := d) (A := 2000) (b := p) (B := 2000) (by omega) (by omega) (by omega) (by omega)
  have e2 : d * p ≤ 0 := Int.mul_nonpos_of_nonpos_of_nonneg (by omega) (by omega)
  have e3 := mul_bd (a := d * p) (A := 4000000) (b := p) (B := 2000) (by omega) (by omega) (by omega) (by omega)
  have e4 : d * p * p ≤ 0 := Int.mul_nonpos_of_nonpos_of_nonneg e2 (by omega)
  omega
theorem rise_small {d p : Int} (h : riseB d p = true) : 2 ≤ p ∧ p ≤ 25 ∧ -2000 ≤ d ∧ d ≤ -3 ∧ isPrimeB p = true ∧ discB d = true ∧ discB (d * p * p) = true := by
  simp only [riseB, Bool.and_eq_true] at h
  obtain ⟨h1, h2, h3⟩ := h
  obtain ⟨p1, p2, p3⟩ := odPrime_bd h2
  obtain ⟨d1, d2, d3⟩ := discB_iff.1 h1
  obtain ⟨e1, e2, e3⟩ := discB_iff.1 h3
  refine ⟨p1, ?_, d1, d2, p3, h1, h3⟩
  rcases Int.lt_or_le 25 p with h | h
  · exfalso
    have a1 : d * p ≤ -3 * p := Int.mul_le_mul_of_nonneg_right d2 (by omega)
    have a2 : d * p * p ≤ -3 * p * p := Int.mul_le_mul_of_nonneg_right a1 (by omega)
    have a3 : -3 * p * p ≤ -78 * p := Int.mul_le_mul_of_nonneg_right (by omega) (by omega)
    omega
  · exact h

theorem spec_odUp (d p : Int) (w : World) :
    Calls Try.prog 74 #[.int .i64 d, .int .i64 p] w fun e w' => e = .returned (.bool (riseB d p)) ∧ w = w' := by
  unfold riseB
  cases h1 : discB d
  · go_enter Try.func74, Try.ntmps74
    go_wp2_with (go_at_call 49; (with_reducible refine (spec_reDisc _ _).mono ?_); rintro e w' ⟨rfl, rfl⟩)
    go_ret
    exact ⟨rfl, rfl⟩
  · cases h2 : odPrimeB p
    · go_enter Try.func74, Try.ntmps74
      go_wp2_with (first | (go_at_call 49; (with_reducible refine (spec_reDisc _ _).mono ?_); rintro e w' ⟨rfl, rfl⟩) | (go_at_call 55; (with_reducible refine (spec_odPrime _ _).mono ?_); rintro e w' ⟨rfl, rfl⟩))
      go_ret
      exact ⟨rfl, rfl⟩
    · obtain ⟨p1, p2, p3⟩ := odPrime_bd h2
      obtain ⟨e1, e2, e3, e4⟩ := rise_w h1 p1 (by omega)
      clear p3
      go_enter Try.func74, Try.ntmps74
      go_wp2_with (first | (go_at_call 49; (with_reducible refine (spec_reDisc _ _).mono ?_); rintro e w' ⟨rfl, rfl⟩) | (go_at_call 55; (with_reducible refine (spec_odPrime _ _).mono ?_); rintro e w' ⟨rfl, rfl⟩))
      go_ret
      exact ⟨rfl, rfl⟩

def riseI (d p : Int) : Bool := (numB p && isPrimeB p) && (decide (p ≤ 2000) && discB (d * p * p))
theorem riseI_eq {d p : Int} (h : discB d = true) : riseI d p = riseB d p := by
  rw [Bool.eq_iff_iff]
  constructor
  · intro h1
    simp only [riseI, Bool.and_eq_true, decide_eq_true_eq] at h1
    obtain ⟨⟨a1, a2⟩, a3, a4⟩ := h1
    have p2 := prime_ge a2
    obtain ⟨d1, d2, d3⟩ := discB_iff.1 h
    obtain ⟨e1, e2, e3⟩ := discB_iff.1 a4
    have hp : p ≤ 1000 := by
      rcases Int.lt_or_le 1000 p with h5 | h5
      · exfalso
        have b1 : d * p ≤ -3 * p := Int.mul_le_mul_of_nonneg_right d2 (by omega)
        have b2 : d * p * p ≤ -3 * p * p := Int.mul_le_mul_of_nonneg_right b1 (by omega)
        have b3 : -3 * p * p ≤ -3000 * p := Int.mul_le_mul_of_nonneg_right (by omega) (by omega)
        omega
      · exact h5
    simp [riseB, odPrimeB, h, a2, a4, p2, hp]
  · intro h1
    obtain ⟨b1, b2, b3, b4, b5, b6, b7⟩ := rise_small h1
    simp [riseI, numB_of b1 (by omega), b5, b7]
    omega

theorem impl_canRise (d p : Int) (w : World) (hd : discB d = true) :
    Calls Try.prog 76 #[.int .i64 d, .int .i64 p] w fun e w' => e = .returned (.bool (riseB d p)) ∧ Below w.heap.size w w' := by
  rw [← riseI_eq hd]
  unfold riseI
  cases h1 : (numB p && isPrimeB p)
  · go_enter Try.func76, Try.ntmps76
    go_wp2_with (go_at_call 62; (with_reducible refine (impl_IsPrime _ _).mono ?_); rintro e w1 ⟨rfl, hb1⟩; obtain ⟨hc1, hf1, hz1⟩ := bcell hb1; (try simp at hz1); (try have hl1_0 : w.heap.size < w1.heap.size := by omega); (try have hl1_1 : w.heap.size + 1 < w1.heap.size := by omega); (try have hl1_2 : w.heap.size + 1 + 1 < w1.heap.size := by omega); (try have hl1_3 : w.heap.size + 1 + 1 + 1 < w1.heap.size := by omega); (try have hl1_4 : w.heap.size + 1 + 1 + 1 + 1 < w1.heap.size := by omega))
    go_ret
    refine ⟨rfl, ?_⟩
    repeat (first | exact Below.refl _ _ | assumption | refine Below.setCell ?_ (by first | omega | (simp; done) | (simp; omega)) _ | refine Below.alloc ?_ (by first | omega | (simp; done) | (simp; omega)) _ | refine Below.drew ?_ | refine below_drewN ?_ _ | refine Below.trans ?_ (Below.mono (by assumption) (by first | omega | (simp; done) | (simp; omega))))
  · by_cases h2 : p ≤ 2000
    · have p2 := prime_ge (Bool.and_eq_true_iff.1 h1).2
      obtain ⟨e1, e2, e3, e4⟩ := rise_w hd p2 h2
      go_enter Try.func76, Try.ntmps76
      go_wp2_with (first | (go_at_call 62; (with_reducible refine (impl_IsPrime _ _).mono ?_); rintro e w1 ⟨rfl, hb1⟩; obtain ⟨hc1, hf1, hz1⟩ := bcell hb1; (try simp at hz1); (try have hl1_0 : w.heap.size < w1.heap.size := by omega); (try have hl1_1 : w.heap.size + 1 < w1.heap.size := by omega); (try have hl1_2 : w.heap.size + 1 + 1 < w1.heap.size := by omega); (try have hl1_3 : w.heap.size + 1 + 1 + 1 < w1.heap.size := by omega); (try have hl1_4 : w.heap.size + 1 + 1 + 1 + 1 < w1.heap.size := by omega)) | (go_at_call 71; (with_reducible refine (impl_isNegativeDisc _ _).mono ?_); rintro e w' ⟨rfl, rfl⟩))
      go_ret
      refine ⟨ret_bool (by simp [h2]), ?_⟩
      repeat (first | exact Below.refl _ _ | assumption | refine Below.setCell ?_ (by first | omega | (simp; done) | (simp; omega)) _ | refine Below.alloc ?_ (by first | omega | (simp; done) | (simp; omega)) _ | refine Below.drew ?_ | refine below_drewN ?_ _ | refine Below.trans ?_ (Below.mono (by assumption) (by first | omega | (simp; done) | (simp; omega))))
    · go_enter Try.func76, Try.ntmps76
      go_wp2_with (go_at_call 62; (with_reducible refine (impl_IsPrime _ _).mono ?_); rintro e w1 ⟨rfl, hb1⟩; obtain ⟨hc1, hf1, hz1⟩ := bcell hb1; (try simp at hz1); (try have hl1_0 : w.heap.size < w1.heap.size := by omega); (try have hl1_1 : w.heap.size + 1 < w1.heap.size := by omega); (try have hl1_2 : w.heap.size + 1 + 1 < w1.heap.size := by omega); (try have hl1_3 : w.heap.size + 1 + 1 + 1 < w1.heap.size := by omega); (try have hl1_4 : w.heap.size + 1 + 1 + 1 + 1 < w1.heap.size := by omega))
      go_ret
      refine ⟨ret_bool (by simp; intro h; omega), ?_⟩
      repeat (first | exact Below.refl _ _ | assumption | refine Below.setCell ?_ (by first | omega | (simp; done) | (simp; omega)) _ | refine Below.alloc ?_ (by first | omega | (simp; done) | (simp; omega)) _ | refine Below.drew ?_ | refine below_drewN ?_ _ | refine Below.trans ?_ (Below.mono (by assumption) (by first | omega | (simp; done) | (simp; omega))))

end Go.Proofs.Ytdffhgibkeifmaa
