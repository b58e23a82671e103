import Derived.Test.YtdffhgibkeifmaaNum
namespace Go.Proofs.Ytdffhgibkeifmaa
open Go.RowKit
set_option linter.unusedSimpArgs false
set_option linter.unusedVariables false

theorem ret_two {a a2 b b2 : Int} (h : a = a2) (h2 : b = b2) : Ending.returned (.tuple #[.int .i64 a, .int .i64 b]) = .returned (.tuple #[.int .i64 a2, .int .i64 b2]) := by rw [h, h2]

def sfIn : Nat → Nat → Int → Int → Int × Int
  | 0, _, n, k => (n, k)
  | f + 1, D, n, k => if n.tmod ((D : Int) * D) = 0 then sfIn f D (n.tdiv ((D : Int) * D)) (wrap64 (k * D)) else (n, k)
def sfOut : Nat → Nat → Int → Int → Int × Int
  | 0, _, n, k => (n, k)
  | f + 1, D, n, k => if (D : Int) * D ≤ (n.natAbs : Int) then sfOut f (D + 1) (sfIn n.natAbs D n k).1 (sfIn n.natAbs D n k).2 else (n, k)
theorem tdiv_facts {n : Int} {D : Nat} (hn : n ≠ 0) (hD : 2 ≤ D) (h : n.tmod ((D : Int) * D) = 0) : n.tdiv ((D : Int) * D) ≠ 0 ∧ (n.tdiv ((D : Int) * D)).natAbs < n.natAbs := by
  have e : n = (D : Int) * D * n.tdiv ((D : Int) * D) := by
    have := Int.mul_tdiv_add_tmod n ((D : Int) * D)
    rw [h] at this
    omega
  have h0 : n.tdiv ((D : Int) * D) ≠ 0 := by
    intro h0
    rw [h0] at e
    simp at e
    exact hn e
  refine ⟨h0, ?_⟩
  have e2 : n.natAbs = D * D * (n.tdiv ((D : Int) * D)).natAbs := by
    conv => lhs; rw [e]
    rw [Int.natAbs_mul, Int.natAbs_mul]
    simp
  have h4 : 2 * 2 ≤ D * D := Nat.mul_le_mul hD hD
  have h5 : 4 * (n.tdiv ((D : Int) * D)).natAbs ≤ D * D * (n.tdiv ((D : Int) * D)).natAbs := Nat.mul_le_mul_right _ h4
  omega
theorem sq_1000 {K : Nat} {n : Int} (h : (K : Int) * K ≤ n) (hn : n ≤ 1000000) : K ≤ 1000 := by
  rcases Nat.lt_or_ge 1000 K with h3 | h3
  · have := Nat.mul_le_mul h3 h3
    have h4 : ((1000 + 1 : Nat) : Int) * ((1000 + 1 : Nat) : Int) ≤ (K : Int) * K := by exact_mod_cast this
    omega
  · exact h3
theorem sq_ge4 {K : Nat} (h : 2 ≤ K) : (4 : Int) ≤ (K : Int) * K := by
  have := Nat.mul_le_mul h h
  exact_mod_cast this

theorem impl_squareFree (n : Int) (w : World) (h0 : n ≠ 0) (h1 : -1000000 ≤ n) (h2 : n ≤ 1000000) :
    Calls Try.prog 114 #[.int .i64 n] w fun e w' => e = .returned (.tuple #[.int .i64 (sfOut 1000 2 n 1).1, .int .i64 (sfOut 1000 2 n 1).2]) ∧ w = w' := by
  have h0' := Lib.hid h0
  clear h0
  go_enter Try.func114, Try.ntmps114
  go_wp2
  go_loopg [0, 4, 5] 1000 (fun f nn kk pp wr => w = wr ∧ ∃ (N K : Int) (D : Nat), nn = .int .i64 N ∧ kk = .int .i64 K ∧ pp = .int .i64 D ∧ 2 ≤ D ∧ D ≤ 1001 ∧ 1002 ≤ D + f ∧ -1000000 ≤ N ∧ N ≤ 1000000 ∧ Hid (N ≠ 0 ∧ sfOut 1000 2 n 1 = sfOut f D N K))
  case atStart => exact ⟨rfl, n, 1, 2, rfl, rfl, rfl, by omega, by omega, by omega, h1, h2, by exact ⟨h0'.out, rfl⟩⟩
  case round =>
    obtain ⟨rfl, N, K, D, rfl, rfl, rfl, hD2, hDm, hf, hN1, hN2, hH⟩ := hrel
    have hdd : (D : Int) * D ≤ 1001 * 1001 := sq_le hDm
    have hd4 := sq_ge4 hD2
    by_cases hle : (D : Int) * D ≤ (N.natAbs : Int)
    · have hD' : D ≤ 1000 := sq_1000 hle (by omega)
      obtain ⟨f, rfl⟩ : ∃ f, gk = f + 1 := ⟨gk - 1, by omega⟩
      have HS : Hid (sfOut 1000 2 n 1 = sfOut f (D + 1) (sfIn N.natAbs D N K).1 (sfIn N.natAbs D N K).2) := by
        show _ = _
        rw [hH.out.2]
        simp only [sfOut, if_pos hle]
      have hN0 : Hid (N ≠ 0) := hH.out.1
      clear hH
      go_wp2_with (go_at_call 117; (with_reducible refine (impl_abs _ _ (by omega) (by omega)).mono ?_); rintro e w' ⟨rfl, rfl⟩)
      go_loopg [0, 4] N.natAbs (fun g nn kk wr => w = wr ∧ ∃ (N2 K2 : Int), nn = .int .i64 N2 ∧ kk = .int .i64 K2 ∧ N2.natAbs ≤ g ∧ -1000000 ≤ N2 ∧ N2 ≤ 1000000 ∧ Hid (N2 ≠ 0 ∧ sfIn N.natAbs D N K = sfIn g D N2 K2))
      case atStart => exact ⟨rfl, N, K, rfl, rfl, by omega, hN1, hN2, by exact ⟨hN0.out, rfl⟩⟩
      case round =>
        obtain ⟨rfl, N2, K2, rfl, rfl, hg, hM1, hM2, hG⟩ := hrel
        obtain ⟨g, rfl⟩ : ∃ g, gk = g + 1 := ⟨gk - 1, by have := hG.out.1; omega⟩
        by_cases hz : N2.tmod ((D : Int) * D) = 0
        · obtain ⟨t1, t2⟩ := tdiv_facts hG.out.1 hD2 hz
          have hzb : (N2.tmod ((D : Int) * D) == 0) = true := by simp [hz]
          have HZ := Lib.hid hz
          have HT := Lib.hid t1
          clear hz t1
          go_wp2_with fail
          go_roundg g
          case measure => omega
          case rel => exact ⟨rfl, N2.tdiv ((D : Int) * D), wrap64 (K2 * D), rfl, rfl, by omega, by omega, by omega, by exact ⟨HT.out, by rw [hG.out.2]; simp only [sfIn, if_pos HZ.out]⟩⟩
        · have hzb : (N2.tmod ((D : Int) * D) == 0) = false := by simp [hz]
          have HZ := Lib.hid hz
          clear hz
          go_wp2_with fail
          go_roundg f
          case measure => omega
          case rel => exact ⟨rfl, N2, K2, D + 1, rfl, rfl, by go_num, by omega, by omega, by omega, hM1, hM2, by exact ⟨hG.out.1, by rw [HS.out, hG.out.2]; simp only [sfIn, if_neg HZ.out]⟩⟩
    · have HS : Hid (sfOut 1000 2 n 1 = (N, K)) := by
        show _ = _
        rw [hH.out.2]
        cases gk with
        | zero => rfl
        | succ f => simp only [sfOut, if_neg hle]
      have hnb : decide ((D : Int) * D ≤ (N.natAbs : Int)) = false := by simpa using hle
      clear hle hH
      go_wp2_with (go_at_call 117; (with_reducible refine (impl_abs _ _ (by omega) (by omega)).mono ?_); rintro e w' ⟨rfl, rfl⟩)
      go_ret2
      exact ⟨by rw [HS.out]; rfl, rfl⟩

def fundE (d : Int) : Int := if (sfOut 1000 2 d 1).1 % 4 = 1 then (sfOut 1000 2 d 1).1 else wrap64 (4 * (sfOut 1000 2 d 1).1)
def fundK (d : Int) : Int := if (sfOut 1000 2 d 1).1 % 4 = 1 then (sfOut 1000 2 d 1).2 else wrap64 ((sfOut 1000 2 d 1).2.tdiv 2)

theorem impl_fundamental (n : Int) (w : World) (h0 : n ≠ 0) (h1 : -1000000 ≤ n) (h2 : n ≤ 1000000) :
    Calls Try.prog 72 #[.int .i64 n] w fun e w' => e = .returned (.tuple #[.int .i64 (fundE n), .int .i64 (fundK n)]) ∧ w = w' := by
  have h3 := impl_squareFree n w h0 h1 h2
  unfold fundE fundK
  generalize (sfOut 1000 2 n 1).1 = s at *
  generalize (sfOut 1000 2 n 1).2 = k at *
  have H3 := Lib.hid h3
  clear h3 h0 h1 h2
  by_cases hs : s % 4 = 1
  · have hb : (s % 4 != 1) = false := by simp [hs]
    have HS := Lib.hid hs
    clear hs
    go_enter Try.func72, Try.ntmps72
    go_wp2_with (first | (go_at_call 114; (with_reducible refine (H3.out).mono ?_); rintro e w' ⟨rfl, rfl⟩) | (go_at_call 113; (with_reducible refine (impl_mod _ _ _ (by omega) (by omega)).mono ?_); rintro e w' ⟨rfl, rfl⟩))
    go_ret2
    exact ⟨ret_two (by first | rfl | exact (if_pos HS.out).symm) (by first | rfl | exact (if_pos HS.out).symm), rfl⟩
  · have hb : (s % 4 != 1) = true := by simp [hs]
    have HS := Lib.hid hs
    clear hs
    go_enter Try.func72, Try.ntmps72
    go_wp2_with (first | (go_at_call 114; (with_reducible refine (H3.out).mono ?_); rintro e w' ⟨rfl, rfl⟩) | (go_at_call 113; (with_reducible refine (impl_mod _ _ _ (by omega) (by omega)).mono ?_); rintro e w' ⟨rfl, rfl⟩))
    go_ret2
    exact ⟨ret_two (by first | rfl | exact (if_neg HS.out).symm) (by first | rfl | exact (if_neg HS.out).symm), rfl⟩

end Go.Proofs.Ytdffhgibkeifmaa
