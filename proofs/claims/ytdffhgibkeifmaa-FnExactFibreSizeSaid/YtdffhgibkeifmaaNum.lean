import Derived.Test.YtdffhgibkeifmaaRows
import Derived.WalkKit
import Derived.WalkLawsBesides
import Derived.WalkSpells
import Derived.Lib.Hide
import Derived.BigQuiet
import Derived.Deep.QuietTactic
import Derived.Deep.LoopGhost
import Derived.Outline
import Derived.Below
namespace Go.Proofs.Ytdffhgibkeifmaa
open Go.RowKit
set_option linter.unusedSimpArgs false
set_option linter.unusedVariables false
theorem ret_int {k : IntKind} {a b : Int} (h : a = b) : Ending.returned (.int k a) = .returned (.int k b) := by rw [h]
theorem ret_bool {a b : Bool} (h : a = b) : Ending.returned (.bool a) = .returned (.bool b) := by rw [h]

theorem wrap64_bmod (n : Int) : wrap64 n = Int.bmod n 18446744073709551616 := by
  unfold wrap64 Int.bmod
  simp only []
  split <;> omega
theorem wr_add_l (a b : Int) : wrap64 (wrap64 a + b) = wrap64 (a + b) := by simp only [wrap64_bmod, Int.bmod_add_bmod]
theorem wr_add_r (a b : Int) : wrap64 (a + wrap64 b) = wrap64 (a + b) := by simp only [wrap64_bmod, Int.add_bmod_bmod]
theorem wr_sub_l (a b : Int) : wrap64 (wrap64 a - b) = wrap64 (a - b) := by simp only [wrap64_bmod, Int.bmod_sub_bmod]
theorem wr_sub_r (a b : Int) : wrap64 (a - wrap64 b) = wrap64 (a - b) := by simp only [wrap64_bmod, Int.sub_bmod_bmod]
theorem wr_mul_l (a b : Int) : wrap64 (wrap64 a * b) = wrap64 (a * b) := by simp only [wrap64_bmod, Int.bmod_mul_bmod]
theorem wr_mul_r (a b : Int) : wrap64 (a * wrap64 b) = wrap64 (a * b) := by simp only [wrap64_bmod, Int.mul_bmod_bmod]
theorem wr_neg (a : Int) : wrap64 (-wrap64 a) = wrap64 (-a) := by
  rw [← Int.zero_sub, wr_sub_r, Int.zero_sub]
theorem wr_wr (a : Int) : wrap64 (wrap64 a) = wrap64 a := by simp only [wrap64_bmod, Int.bmod_bmod]

theorem bcell {W w1 : World} (hb : Below W.heap.size W w1) : (∀ b o, b < W.heap.size → w1.cell? ⟨b, o, none⟩ = W.cell? ⟨b, o, none⟩) ∧ (∀ b o, b < W.heap.size → w1.frozen? ⟨b, o, none⟩ = W.frozen? ⟨b, o, none⟩) ∧ W.heap.size ≤ w1.heap.size :=
  ⟨fun b o h => hb.cell (p := ⟨b, o, none⟩) h, fun b o h => hb.frozen (p := ⟨b, o, none⟩) h, hb.size⟩
theorem below_drewN {B : Nat} {a w : World} (h : Below B a w) (n : Nat) : Below B a (w.drewN n) := ⟨h.os, h.tape, h.output, h.size, h.block⟩

theorem below_of_same {P : Program} {f : FuncId} {args : Array Value} {w : World} {v : Value} (h : Calls P f args w fun e w' => e = .returned v ∧ w = w') : Calls P f args w fun e w' => e = .returned v ∧ Below w.heap.size w w' :=
  h.mono fun _ _ ⟨h1, h2⟩ => ⟨h1, h2 ▸ Below.refl _ _⟩
theorem below_of_quiet {P : Program} {f : FuncId} {args : Array Value} {w : World} {v : Value} (h : Calls P f args w fun e w' => e = .returned v ∧ ∃ n, w' = w.drewN n) : Calls P f args w fun e w' => e = .returned v ∧ Below w.heap.size w w' :=
  h.mono fun _ _ ⟨h1, n, h2⟩ => ⟨h1, h2 ▸ below_drewN (Below.refl _ _) n⟩

def primeLoop : Nat → Nat → Nat → Bool
  | 0, _, _ => true
  | k + 1, d, n => if d * d ≤ n then (if n % d = 0 then false else primeLoop k (d + 1) n) else true
def isPrimeB (n : Int) : Bool := decide (2 ≤ n) && primeLoop n.toNat 2 n.toNat

theorem sq_le {D M : Nat} (h : D ≤ M) : (D : Int) * D ≤ M * M := by
  have := Nat.mul_le_mul h h
  exact_mod_cast this
theorem sq_nonneg (D : Nat) : (0 : Int) ≤ (D : Int) * D := by exact_mod_cast Nat.zero_le (D * D)
theorem sq_lt {D N : Nat} (h : (D : Int) * D ≤ N) (hN : (N : Int) ≤ 1000000000000) : D ≤ 1000000 := by
  have h1 : D * D ≤ N := by exact_mod_cast h
  have h2 : N ≤ 1000000000000 := by omega
  rcases Nat.lt_or_ge 1000000 D with h3 | h3
  · have := Nat.mul_le_mul h3 h3
    omega
  · exact h3
theorem prime_gk {D N k : Nat} (h : (D : Int) * D ≤ N) (hk : N < D + k) : k - 1 < k := by
  have h1 : D * D ≤ N := by exact_mod_cast h
  have h2 : D ≤ D * D ∨ D = 0 := by
    rcases Nat.eq_zero_or_pos D with h0 | h0
    · exact .inr h0
    · exact .inl (Nat.le_mul_of_pos_left D h0)
  omega
theorem primeLoop_no {D N k : Nat} (h : (D : Int) * D ≤ N) (hz : ((N : Int) % D == 0) = true) (hk : N < D + k) : primeLoop k D N = false := by
  have h1 : D * D ≤ N := by exact_mod_cast h
  have h2 : N % D = 0 := by
    have := beq_iff_eq.1 hz
    exact_mod_cast this
  have h3 := prime_gk h hk
  match k, h3 with
  | k + 1, _ => simp [primeLoop, h1, h2]
theorem primeLoop_on {D N k : Nat} (h : (D : Int) * D ≤ N) (hz : ((N : Int) % D == 0) = false) (hk : N < D + k) : primeLoop k D N = primeLoop (k - 1) (D + 1) N := by
  have h1 : D * D ≤ N := by exact_mod_cast h
  have h2 : ¬ N % D = 0 := by
    intro h2
    have h3 : (N : Int) % D = 0 := by exact_mod_cast h2
    simp [h3] at hz
  have h3 := prime_gk h hk
  match k, h3 with
  | k + 1, _ => simp [primeLoop, h1, h2]
theorem primeLoop_end {D N k : Nat} (h : (N : Int) < (D : Int) * D) : primeLoop k D N = true := by
  have h1 : ¬ D * D ≤ N := by
    have : N < D * D := by exact_mod_cast h
    omega
  cases k <;> simp [primeLoop, h1]

theorem impl_isPrime (n : Int) (w : World) (h : n ≤ 1000000000000) :
    Calls Try.prog 105 #[.int .i64 n] w fun e w' => e = .returned (.bool (isPrimeB n)) ∧ w = w' := by
  by_cases h2 : n < 2
  · go_enter Try.func105, Try.ntmps105
    go_wp2
    go_ret
    exact ⟨ret_bool (by simp [isPrimeB]; omega), rfl⟩
  · obtain ⟨N, rfl⟩ := Int.eq_ofNat_of_zero_le (show 0 ≤ n by omega)
    go_enter Try.func105, Try.ntmps105
    go_wp2
    go_loopg [3] N (fun k d wr => w = wr ∧ ∃ D : Nat, d = .int .i64 D ∧ 2 ≤ D ∧ D ≤ 1000001 ∧ N < D + k ∧ Hid (isPrimeB N = primeLoop k D N))
    case atStart => exact ⟨rfl, 2, rfl, by omega, by omega, by omega, by show isPrimeB N = _; simp [isPrimeB]; omega⟩
    case round =>
      obtain ⟨rfl, D, rfl, hD2, hDm, hk, hH⟩ := hrel
      have hdd : (D : Int) * D ≤ 1000001 * 1000001 := sq_le hDm
      have hd0 : (0 : Int) ≤ (D : Int) * D := sq_nonneg D
      go_wp2
      · go_ret
        exact ⟨ret_bool (by rw [hH.out]; exact (primeLoop_no (by assumption) (by assumption) hk).symm), rfl⟩
      · have hle : (D : Int) * D ≤ (N : Int) := by assumption
        have hD' : D ≤ 1000000 := sq_lt hle h
        go_roundg (gk - 1)
        case measure => exact prime_gk hle hk
        case rel => exact ⟨rfl, D + 1, by go_num, by omega, by omega, by omega, by show _ = _; rw [hH.out]; exact primeLoop_on hle (by assumption) hk⟩
      · go_ret
        exact ⟨ret_bool (by rw [hH.out]; exact (primeLoop_end (by assumption)).symm), rfl⟩

theorem impl_abs (n : Int) (w : World) (h1 : -9223372036854775807 ≤ n) (h2 : n ≤ 9223372036854775807) :
    Calls Try.prog 117 #[.int .i64 n] w fun e w' => e = .returned (.int .i64 (n.natAbs : Int)) ∧ w = w' := by
  go_enter Try.func117, Try.ntmps117
  go_wp2
  all_goals go_ret
  all_goals exact ⟨ret_int (by omega), rfl⟩

theorem spec_l1Most (a b : Int) (w : World) :
    Calls Try.prog 142 #[.int .i64 a, .int .i64 b] w fun e w' => e = .returned (.int .i64 (max a b)) ∧ w = w' := by
  go_enter Try.func142, Try.ntmps142
  go_wp2
  all_goals go_ret
  all_goals exact ⟨ret_int (by omega), rfl⟩

theorem spec_l1Abs (n : Int) (w : World) (h1 : -9223372036854775807 ≤ n) (h2 : n ≤ 9223372036854775807) :
    Calls Try.prog 148 #[.int .i64 n] w fun e w' => e = .returned (.int .i64 (n.natAbs : Int)) ∧ w = w' := by
  go_enter Try.func148, Try.ntmps148
  go_wp2_with (go_at_call 142; refine (spec_l1Most _ _ _).mono ?_; rintro e w' ⟨rfl, rfl⟩)
  go_ret
  exact ⟨ret_int (by omega), rfl⟩

theorem gcd_step (X Y : Int) : Int.gcd X Y = Int.gcd Y (X.tmod Y) := by
  rw [Int.gcd_comm X Y]
  show Nat.gcd _ _ = Nat.gcd _ _
  rw [Int.natAbs_tmod, Nat.gcd_rec, Nat.gcd_comm]
theorem tmod_lt_abs (X Y : Int) (h : Y ≠ 0) : (X.tmod Y).natAbs < Y.natAbs := by
  rw [Int.natAbs_tmod]
  exact Nat.mod_lt _ (by omega)
theorem tmod_le_abs (X Y : Int) : (X.tmod Y).natAbs ≤ X.natAbs := by
  rw [Int.natAbs_tmod]
  exact Nat.mod_le _ _
theorem gcd_le_abs (a b : Int) (hb : -1000000000000000000 ≤ a ∧ a ≤ 1000000000000000000) (hb' : -1000000000000000000 ≤ b ∧ b ≤ 1000000000000000000) : (Int.gcd a b : Int) ≤ 1000000000000000000 := by
  rcases Classical.em (a = 0) with h | h
  · subst h
    simp
    omega
  · have := Nat.le_of_dvd (by omega) (Nat.gcd_dvd_left a.natAbs b.natAbs)
    show ((Nat.gcd a.natAbs b.natAbs : Nat) : Int) ≤ _
    omega

theorem impl_gcd (a b : Int) (w : World) (ha1 : -1000000000000000000 ≤ a) (ha2 : a ≤ 1000000000000000000) (hb1 : -1000000000000000000 ≤ b) (hb2 : b ≤ 1000000000000000000) :
    Calls Try.prog 137 #[.int .i64 a, .int .i64 b] w fun e w' => e = .returned (.int .i64 (Int.gcd a b : Int)) ∧ ∃ n, w' = w.drewN n := by
  go_enter Try.func137, Try.ntmps137
  go_wp2
  go_loopg [0, 1] b.natAbs (fun k x y wr => (∃ n, wr = w.drewN n) ∧ ∃ X Y : Int, x = .int .i64 X ∧ y = .int .i64 Y ∧ k = Y.natAbs ∧ -1000000000000000000 ≤ X ∧ X ≤ 1000000000000000000 ∧ -1000000000000000000 ≤ Y ∧ Y ≤ 1000000000000000000 ∧ Hid (Int.gcd a b = Int.gcd X Y))
  case atStart => exact ⟨⟨0, rfl⟩, a, b, rfl, rfl, rfl, ha1, ha2, hb1, hb2, rfl⟩
  case round =>
    obtain ⟨⟨n, rfl⟩, X, Y, rfl, rfl, hk, hx1, hx2, hy1, hy2, hH⟩ := hrel
    have Hk := Lib.hid hk
    clear hk
    by_cases hY : Y = 0
    · have e : (Y != 0) = false := by simp [hY]
      have HY := Lib.hid hY
      clear hY
      go_wp2_with (go_at_call 117; refine (impl_abs _ _ (by omega) (by omega)).mono ?_; rintro e w' ⟨rfl, rfl⟩)
      go_ret
      refine ⟨ret_int ?_, n, rfl⟩
      have h1 := hH.out
      rw [HY.out] at h1
      simp at h1 ⊢
      exact congrArg _ h1.symm
    · have e : (Y != 0) = true := by simp [hY]
      have b1 := tmod_lt_abs X Y hY
      have b2 := tmod_le_abs X Y
      go_wp2_with fail
      go_quiet (fail)
      go_wp2_with fail
      go_roundg (X.tmod Y).natAbs
      case measure => rw [Hk.out]; exact b1
      case rel => exact ⟨⟨_, by first | rfl | exact World.drewN_drewN _ _ _⟩, Y, X.tmod Y, rfl, rfl, rfl, by omega, by omega, by omega, by omega, by show _ = _; rw [hH.out, gcd_step]⟩

theorem spec_nuGcd (a b : Int) (w : World) (ha1 : -1000000000000000000 ≤ a) (ha2 : a ≤ 1000000000000000000) (hb1 : -1000000000000000000 ≤ b) (hb2 : b ≤ 1000000000000000000) :
    Calls Try.prog 135 #[.int .i64 a, .int .i64 b] w fun e w' => e = .returned (.int .i64 (Int.gcd a b : Int)) ∧ ∃ n, w' = w.drewN n := by
  go_enter Try.func135, Try.ntmps135
  go_wp2_with (go_at_call 148; (with_reducible refine (spec_l1Abs _ _ (by omega) (by omega)).mono ?_); rintro e w' ⟨rfl, rfl⟩)
  go_loopg [0, 1] b.natAbs (fun k x y wr => (∃ n, wr = w.drewN n) ∧ ∃ X Y : Int, x = .int .i64 X ∧ y = .int .i64 Y ∧ k = Y.natAbs ∧ 0 ≤ X ∧ X ≤ 1000000000000000000 ∧ 0 ≤ Y ∧ Y ≤ 1000000000000000000 ∧ Hid (Int.gcd a b = Int.gcd X Y))
  case atStart => exact ⟨⟨0, rfl⟩, a.natAbs, b.natAbs, rfl, rfl, by simp, by omega, by omega, by omega, by omega, by show _ = _; simp [Int.gcd]⟩
  case round =>
    obtain ⟨⟨n, rfl⟩, X, Y, rfl, rfl, hk, hx1, hx2, hy1, hy2, hH⟩ := hrel
    have Hk := Lib.hid hk
    clear hk
    by_cases hY : Y = 0
    · have e : (Y != 0) = false := by simp [hY]
      have HY := Lib.hid hY
      clear hY
      go_wp2_with fail
      go_ret
      refine ⟨ret_int ?_, n, rfl⟩
      have h1 := hH.out
      rw [HY.out, Int.gcd_zero_right] at h1
      omega
    · have e : (Y != 0) = true := by simp [hY]
      have b1 := tmod_lt_abs X Y hY
      have b2 := tmod_le_abs X Y
      have b3 : X.tmod Y = X % Y := Int.tmod_eq_emod_of_nonneg hx1
      have b4 := Int.emod_nonneg X (b := Y) (by omega)
      have b5 := Int.emod_lt_of_pos X (b := Y) (by omega)
      rw [b3] at b1 b2
      have hs := gcd_step X Y
      rw [b3] at hs
      have Hs := Lib.hid hs
      clear b3 hs
      go_wp2_with fail
      go_quiet (fail)
      go_wp2_with fail
      go_roundg (X % Y).natAbs
      case measure => rw [Hk.out]; exact b1
      case rel => exact ⟨⟨_, by first | rfl | exact World.drewN_drewN _ _ _⟩, Y, X % Y, rfl, rfl, rfl, by omega, by omega, by omega, by omega, by show _ = _; rw [hH.out, Hs.out]⟩

def discB (d : Int) : Bool := decide (-2000 ≤ d ∧ d ≤ -3 ∧ d % 4 ≤ 1)
theorem discB_iff {d : Int} : discB d = true ↔ (-2000 ≤ d ∧ d ≤ -3 ∧ d % 4 ≤ 1) := by simp [discB]
theorem discB_not {d : Int} : discB d = false ↔ ¬ (-2000 ≤ d ∧ d ≤ -3 ∧ d % 4 ≤ 1) := by simp [discB]
theorem tmod_neg {a m : Int} (hm : 1 ≤ m) (h : a.tmod m < 0) : a.tmod m + m = a % m := by
  have e := Int.tmod_eq_emod (a := a) (b := m)
  have h1 := Int.emod_nonneg a (b := m) (by omega)
  have h2 := Int.emod_lt_of_pos a (b := m) (by omega)
  split at e <;> omega
theorem tmod_pos {a m : Int} (hm : 1 ≤ m) (h : 0 ≤ a.tmod m) : a.tmod m = a % m := by
  have e := Int.tmod_eq_emod (a := a) (b := m)
  have h1 := Int.emod_nonneg a (b := m) (by omega)
  have h2 := Int.emod_lt_of_pos a (b := m) (by omega)
  split at e <;> omega
theorem tmod_bd {a m : Int} (hm : 1 ≤ m) : -m < a.tmod m ∧ a.tmod m < m :=
  ⟨Int.lt_tmod_of_pos a (by omega), Int.tmod_lt_of_pos a (by omega)⟩

theorem impl_mod (a m : Int) (w : World) (h1 : 1 ≤ m) (h2 : m ≤ 9223372036854775807) :
    Calls Try.prog 113 #[.int .i64 a, .int .i64 m] w fun e w' => e = .returned (.int .i64 (a % m)) ∧ w = w' := by
  obtain ⟨hb1, hb2⟩ := tmod_bd (a := a) h1
  go_enter Try.func113, Try.ntmps113
  go_wp2
  all_goals go_ret
  · exact ⟨ret_int (tmod_neg h1 (by assumption)), rfl⟩
  · exact ⟨ret_int (tmod_pos h1 (by assumption)), rfl⟩

theorem spec_nuMod (a m : Int) (w : World) (h1 : 1 ≤ m) (h2 : m ≤ 9223372036854775807) :
    Calls Try.prog 93 #[.int .i64 a, .int .i64 m] w fun e w' => e = .returned (.int .i64 (a % m)) ∧ w = w' := by
  obtain ⟨hb1, hb2⟩ := tmod_bd (a := a) h1
  go_enter Try.func93, Try.ntmps93
  go_wp2
  all_goals go_ret
  · exact ⟨ret_int (tmod_neg h1 (by assumption)), rfl⟩
  · exact ⟨ret_int (tmod_pos h1 (by assumption)), rfl⟩

theorem spec_l1In_yes (a m n : Int) (w : World) (h1 : m ≤ a) (h2 : a ≤ n) :
    Calls Try.prog 83 #[.int .i64 a, .int .i64 m, .int .i64 n] w fun e w' => e = .returned (.bool true) ∧ w = w' := by
  go_enter Try.func83, Try.ntmps83
  go_wp2
  go_ret
  exact ⟨rfl, rfl⟩

theorem spec_l1In_no (a m n : Int) (w : World) (h : ¬ (m ≤ a ∧ a ≤ n)) :
    Calls Try.prog 83 #[.int .i64 a, .int .i64 m, .int .i64 n] w fun e w' => e = .returned (.bool false) ∧ w = w' := by
  rcases Int.lt_or_le a m with h1 | h1
  · clear h
    go_enter Try.func83, Try.ntmps83
    go_wp2
    go_ret
    exact ⟨rfl, rfl⟩
  · have h2 : ¬ a ≤ n := by omega
    clear h
    go_enter Try.func83, Try.ntmps83
    go_wp2
    go_ret
    exact ⟨rfl, rfl⟩

theorem spec_reDisc (d : Int) (w : World) :
    Calls Try.prog 49 #[.int .i64 d] w fun e w' => e = .returned (.bool (discB d)) ∧ w = w' := by
  by_cases hd : -2000 ≤ d ∧ d ≤ -3
  · by_cases h4 : d % 4 ≤ 1
    · rw [discB_iff.2 ⟨hd.1, hd.2, h4⟩]
      obtain ⟨h1, h2⟩ := hd
      go_enter Try.func49, Try.ntmps49
      go_wp2_with (first | (go_at_call 83; (with_reducible refine (spec_l1In_yes _ _ _ _ (by omega) (by omega)).mono ?_); rintro e w' ⟨rfl, rfl⟩) | (go_at_call 93; (with_reducible refine (spec_nuMod _ _ _ (by omega) (by omega)).mono ?_); rintro e w' ⟨rfl, rfl⟩))
      go_ret
      exact ⟨ret_bool (by first | (simp; done) | (simp; omega)), rfl⟩
    · rw [discB_not.2 (by omega)]
      obtain ⟨h1, h2⟩ := hd
      go_enter Try.func49, Try.ntmps49
      go_wp2_with (first | (go_at_call 83; (with_reducible refine (spec_l1In_yes _ _ _ _ (by omega) (by omega)).mono ?_); rintro e w' ⟨rfl, rfl⟩) | (go_at_call 93; (with_reducible refine (spec_nuMod _ _ _ (by omega) (by omega)).mono ?_); rintro e w' ⟨rfl, rfl⟩))
      go_ret
      exact ⟨ret_bool (by first | (simp; done) | (simp; omega)), rfl⟩
  · rw [discB_not.2 (by omega)]
    go_enter Try.func49, Try.ntmps49
    go_wp2_with (go_at_call 83; (with_reducible refine (spec_l1In_no _ _ _ _ (by assumption)).mono ?_); rintro e w' ⟨rfl, rfl⟩)
    go_ret
    exact ⟨rfl, rfl⟩

theorem impl_isNegativeDisc (d : Int) (w : World) :
    Calls Try.prog 71 #[.int .i64 d] w fun e w' => e = .returned (.bool (discB d)) ∧ w = w' := by
  by_cases h1 : -2000 ≤ d
  · by_cases h2 : d ≤ -3
    · by_cases h4 : d % 4 ≤ 1
      · rw [discB_iff.2 ⟨h1, h2, h4⟩]
        go_enter Try.func71, Try.ntmps71
        go_wp2_with (go_at_call 113; (with_reducible refine (impl_mod _ _ _ (by omega) (by omega)).mono ?_); rintro e w' ⟨rfl, rfl⟩)
        go_ret
        exact ⟨ret_bool (by first | (simp; done) | (simp; omega)), rfl⟩
      · rw [discB_not.2 (by omega)]
        go_enter Try.func71, Try.ntmps71
        go_wp2_with (go_at_call 113; (with_reducible refine (impl_mod _ _ _ (by omega) (by omega)).mono ?_); rintro e w' ⟨rfl, rfl⟩)
        go_ret
        exact ⟨ret_bool (by first | (simp; done) | (simp; omega)), rfl⟩
    · rw [discB_not.2 (by omega)]
      go_enter Try.func71, Try.ntmps71
      go_wp2_with fail
      go_ret
      exact ⟨rfl, rfl⟩
  · rw [discB_not.2 (by omega)]
    go_enter Try.func71, Try.ntmps71
    go_wp2_with fail
    go_ret
    exact ⟨rfl, rfl⟩

def unitsOf (d : Int) : Int := if d = -3 then 6 else if d = -4 then 4 else 2

theorem spec_reUnits (d : Int) (w : World) :
    Calls Try.prog 94 #[.int .i64 d] w fun e w' => e = .returned (.int .i64 (unitsOf d)) ∧ w = w' := by
  by_cases h1 : d = -3
  · subst h1
    go_enter Try.func94, Try.ntmps94
    go_wp2
    go_ret
    exact ⟨rfl, rfl⟩
  · by_cases h2 : d = -4
    · subst h2
      go_enter Try.func94, Try.ntmps94
      go_wp2
      go_ret
      exact ⟨rfl, rfl⟩
    · go_enter Try.func94, Try.ntmps94
      go_wp2
      go_ret
      exact ⟨ret_int (by simp [unitsOf, h1, h2]), rfl⟩

theorem impl_AutomorphCount (d : Int) (w : World) :
    Calls Try.prog 51 #[.int .i64 d] w fun e w' => e = .returned (.tuple #[.int .i64 (if discB d then unitsOf d else 0), .bool (discB d)]) ∧ w = w' := by
  cases hd : discB d
  · go_enter Try.func51, Try.ntmps51
    go_wp2_with (go_at_call 71; (with_reducible refine (impl_isNegativeDisc _ _).mono ?_); rintro e w' ⟨rfl, rfl⟩)
    go_ret2
    exact ⟨rfl, rfl⟩
  · by_cases h1 : d = -3
    · subst h1
      go_enter Try.func51, Try.ntmps51
      go_wp2_with (go_at_call 71; (with_reducible refine (impl_isNegativeDisc _ _).mono ?_); rintro e w' ⟨rfl, rfl⟩)
      go_ret2
      exact ⟨rfl, rfl⟩
    · by_cases h2 : d = -4
      · subst h2
        go_enter Try.func51, Try.ntmps51
        go_wp2_with (go_at_call 71; (with_reducible refine (impl_isNegativeDisc _ _).mono ?_); rintro e w' ⟨rfl, rfl⟩)
        go_ret2
        exact ⟨rfl, rfl⟩
      · go_enter Try.func51, Try.ntmps51
        go_wp2_with (go_at_call 71; (with_reducible refine (impl_isNegativeDisc _ _).mono ?_); rintro e w' ⟨rfl, rfl⟩)
        go_ret2
        exact ⟨by simp [unitsOf, h1, h2], rfl⟩

end Go.Proofs.Ytdffhgibkeifmaa
