/-
  The program's IsDescent returns what the reference's returns, for all arguments.
  Conditions: none.
-/
import Derived.Test.YtdffhgibkeifmaaForm
import Derived.Test.YtdffhgibkeifmaaEq
import Derived.Lib.QuietBelow
import Derived.ProofKit
import Derived.OpenShut
import Derived.ShutString
import Derived.Lib.SmallJoins
namespace Go.Proofs.Ytdffhgibkeifmaa
open Go.RowKit Go.Sort
set_option linter.unusedSimpArgs false
set_option linter.unusedVariables false
attribute [local go_sem ↓] form_eql form_neq

theorem spec_nuPrime (n : Int) (w : World) (h : n ≤ 1000000000000) :
    Calls Try.prog 98 #[.int .i64 n] w fun e w' => e = .returned (.bool (isPrimeB n)) ∧ w = w' := by
  by_cases h2 : n < 2
  · go_enter Try.func98, Try.ntmps98
    go_wp2
    go_ret
    exact ⟨ret_bool (by simp [isPrimeB]; omega), rfl⟩
  · obtain ⟨N, rfl⟩ := Int.eq_ofNat_of_zero_le (show 0 ≤ n by omega)
    go_enter Try.func98, Try.ntmps98
    go_wp2
    go_loopg [3] N (fun k d wr => w = wr ∧ ∃ D : Nat, d = .int .i64 D ∧ 2 ≤ D ∧ D ≤ 1000001 ∧ N < D + k ∧ Hid (isPrimeB N = primeLoop k D N))
    case atStart => exact ⟨rfl, 2, rfl, by omega, by omega, by omega, by show isPrimeB N = _; simp [isPrimeB]; omega⟩
    case round =>
      obtain ⟨rfl, D, rfl, hD2, hDm, hk, hH⟩ := hrel
      have hdd : (D : Int) * D ≤ 1000001 * 1000001 := sq_le hDm
      have hd0 : (0 : Int) ≤ (D : Int) * D := sq_nonneg D
      go_wp2
      · go_ret
        exact ⟨ret_bool (by rw [hH.out]; exact (primeLoop_no (by assumption) (by assumption) hk).symm), rfl⟩
      · have hle : (D : Int) * D ≤ (N : Int) := by assumption
        have hD' : D ≤ 1000000 := sq_lt hle h
        go_roundg (gk - 1)
        case measure => exact prime_gk hle hk
        case rel => exact ⟨rfl, D + 1, by go_num, by omega, by omega, by omega, by show _ = _; rw [hH.out]; exact primeLoop_on hle (by assumption) hk⟩
      · go_ret
        exact ⟨ret_bool (by rw [hH.out]; exact (primeLoop_end (by assumption)).symm), rfl⟩

def odPrimeB (p : Int) : Bool := decide (2 ≤ p ∧ p ≤ 1000) && isPrimeB p

theorem spec_odPrime (p : Int) (w : World) :
    Calls Try.prog 55 #[.int .i64 p] w fun e w' => e = .returned (.bool (odPrimeB p)) ∧ w = w' := by
  by_cases h : 2 ≤ p ∧ p ≤ 1000
  · have e : odPrimeB p = isPrimeB p := by simp [odPrimeB, h]
    rw [e]
    obtain ⟨h1, h2⟩ := h
    clear e
    cases hp : isPrimeB p
    all_goals
      go_enter Try.func55, Try.ntmps55
      go_wp2_with (first | (go_at_call 83; (with_reducible refine (spec_l1In_yes _ _ _ _ (by omega) (by omega)).mono ?_); rintro e w' ⟨rfl, rfl⟩) | (go_at_call 98; (with_reducible refine (spec_nuPrime _ _ (by omega)).mono ?_); rintro e w' ⟨rfl, rfl⟩))
      go_ret
      exact ⟨rfl, rfl⟩
  · have e : odPrimeB p = false := by simp [odPrimeB]; omega
    rw [e]
    clear e
    go_enter Try.func55, Try.ntmps55
    go_wp2_with (go_at_call 83; (with_reducible refine (spec_l1In_no _ _ _ _ (by assumption)).mono ?_); rintro e w' ⟨rfl, rfl⟩)
    go_ret
    exact ⟨rfl, rfl⟩

def descOK (a b c a2 b2 c2 p q r s k : Int) : Bool := classB a b c && (classB a2 b2 c2 && (odPrimeB k && ((dsc a b c == dsc a2 b2 c2 * k * k) && matB p q r s)))
def descYes (a b c a2 b2 c2 p q r s k : Int) : Bool := (p * s - q * r == k) && ((fAt a2 b2 c2 p r == a) && ((fPol a2 b2 c2 p r q s == b) && (fAt a2 b2 c2 q s == c)))

theorem class_bd {a b c : Int} (h : classB a b c = true) : formB a b c = true ∧ -2000 ≤ dsc a b c ∧ dsc a b c < 0 := by
  obtain ⟨h1, h2⟩ := classB_iff.1 h
  obtain ⟨h3, h4, h5, h6⟩ := shownB_iff.1 h1
  exact ⟨h3, h6, h4⟩
theorem i64w (n : Int) (h : -9000000000000000000 ≤ n ∧ n ≤ 9000000000000000000) : IntKind.i64.wrap n = n := IntWalk.i64_in n (by omega)
theorem w64 (n : Int) (h : -9000000000000000000 ≤ n ∧ n ≤ 9000000000000000000) : wrap64 n = n := IntWalk.wrap64_in n (by omega)
theorem disc_pp {D k : Int} (h1 : -2000 ≤ D) (h2 : D ≤ 0) (k1 : -1000000 ≤ k) (k2 : k ≤ 1000000) : IntKind.i64.wrap (D * k) = D * k ∧ IntKind.i64.wrap (D * k * k) = D * k * k := by
  have e1 := mul_bd (A := 2000) (by omega) (by omega) k1 k2
  have e2 := mul_bd (A := 2000000000) (a := D * k) (by omega) (by omega) k1 k2
  exact ⟨i64w _ (by omega), i64w _ (by omega)⟩
theorem det_w {p q r s : Int} (h : matB p q r s = true) : wrap64 (p * s - q * r) = p * s - q * r := by
  obtain ⟨⟨p1, p2⟩, ⟨q1, q2⟩, ⟨r1, r2⟩, s1, s2⟩ := matB_iff.1 h
  have e1 := mul_bd p1 p2 s1 s2
  have e2 := mul_bd q1 q2 r1 r2
  exact w64 _ (by omega)
theorem mul3_bd {a x y A X Y : Int} (a1 : -A ≤ a) (a2 : a ≤ A) (x1 : -X ≤ x) (x2 : x ≤ X) (y1 : -Y ≤ y) (y2 : y ≤ Y) : -(A * X * Y) ≤ a * x * y ∧ a * x * y ≤ A * X * Y := by
  obtain ⟨e1, e2⟩ := mul_bd a1 a2 x1 x2
  exact mul_bd e1 e2 y1 y2
theorem fAt_bd {a b c x y : Int} (h : formB a b c = true) (x1 : -1000000 ≤ x) (x2 : x ≤ 1000000) (y1 : -1000000 ≤ y) (y2 : y ≤ 1000000) : -3000000000000000000 ≤ fAt a b c x y ∧ fAt a b c x y ≤ 3000000000000000000 := by
  obtain ⟨⟨a1, a2⟩, ⟨b1, b2⟩, c1, c2⟩ := formB_iff.1 h
  have e1 := mul3_bd a1 a2 x1 x2 x1 x2
  have e2 := mul3_bd b1 b2 x1 x2 y1 y2
  have e3 := mul3_bd c1 c2 y1 y2 y1 y2
  unfold fAt
  omega
theorem fPol_bd {a b c x y u v : Int} (h : formB a b c = true) (x1 : -1000000 ≤ x) (x2 : x ≤ 1000000) (y1 : -1000000 ≤ y) (y2 : y ≤ 1000000) (u1 : -1000000 ≤ u) (u2 : u ≤ 1000000) (v1 : -1000000 ≤ v) (v2 : v ≤ 1000000) : -6000000000000000000 ≤ fPol a b c x y u v ∧ fPol a b c x y u v ≤ 6000000000000000000 := by
  obtain ⟨⟨a1, a2⟩, ⟨b1, b2⟩, c1, c2⟩ := formB_iff.1 h
  have e1 := mul3_bd (a := 2 * a) (A := 2000000) (by omega) (by omega) x1 x2 u1 u2
  have e2 := mul_bd x1 x2 v1 v2
  have e3 := mul_bd y1 y2 u1 u2
  have e4 := mul_bd b1 b2 (b := x * v + y * u) (B := 2000000000000) (by omega) (by omega)
  have e5 := mul3_bd (a := 2 * c) (A := 2000000) (by omega) (by omega) y1 y2 v1 v2
  unfold fPol
  omega
theorem act_w {a b c p q r s : Int} (h : formB a b c = true) (hm : matB p q r s = true) : wrap64 (fAt a b c p r) = fAt a b c p r ∧ wrap64 (fPol a b c p r q s) = fPol a b c p r q s ∧ wrap64 (fAt a b c q s) = fAt a b c q s := by
  obtain ⟨⟨p1, p2⟩, ⟨q1, q2⟩, ⟨r1, r2⟩, s1, s2⟩ := matB_iff.1 hm
  have e1 := fAt_bd h p1 p2 r1 r2
  have e2 := fAt_bd h q1 q2 s1 s2
  have e3 := fPol_bd h p1 p2 r1 r2 q1 q2 s1 s2
  exact ⟨w64 _ (by omega), w64 _ (by omega), w64 _ (by omega)⟩

set_option maxHeartbeats 1000000 in
theorem spec_IsDescent_1 (a b c a2 b2 c2 p q r s k : Int) (w : World) (h1 : classB a b c = true) (h2 : classB a2 b2 c2 = true) (h3 : odPrimeB k = true) (h4 : (dsc a b c != dsc a2 b2 c2 * k * k) = false) (h5 : matB p q r s = true) (k1 : -1000000 ≤ k) (k2 : k ≤ 1000000) :
    Calls Try.prog 21 #[.agg #[.int .i64 a, .int .i64 b, .int .i64 c], .agg #[.int .i64 a2, .int .i64 b2, .int .i64 c2], .agg #[.int .i64 p, .int .i64 q, .int .i64 r, .int .i64 s], .int .i64 k] w fun e w' => e = .returned (.tuple #[.bool (descYes a b c a2 b2 c2 p q r s k), .bool true]) ∧ Below w.heap.size w w' := by
  obtain ⟨f1, d1, d2⟩ := class_bd h1
  obtain ⟨f2, d3, d4⟩ := class_bd h2
  have x1 := wrap_dsc f1
  have x2 := wrap_dsc f2
  obtain ⟨x3, x4⟩ := disc_pp d3 (by omega) k1 k2
  have x5 := det_w h5
  obtain ⟨x6, x7, x8⟩ := act_w f2 h5
  clear d1 d2 d3 d4 k1 k2
  unfold descYes
  cases y1 : (p * s - q * r == k)
  · go_enter Try.func21, Try.ntmps21
    go_wp2_with fail
    have hs0_1 : w.heap.size < w.heap.size + 1 := (by omega); have hs0_2 : w.heap.size < w.heap.size + 1 + 1 := (by omega); have hs1_2 : w.heap.size + 1 < w.heap.size + 1 + 1 := (by omega); have hs0_3 : w.heap.size < w.heap.size + 1 + 1 + 1 := (by omega); have hs1_3 : w.heap.size + 1 < w.heap.size + 1 + 1 + 1 := (by omega); have hs2_3 : w.heap.size + 1 + 1 < w.heap.size + 1 + 1 + 1 := (by omega); generalize hWW : World.alloc _ _ = W; have hbW : Below w.heap.size w W := (by subst hWW; repeat (first | exact Below.refl _ _ | assumption | refine Below.setCell ?_ (by first | omega | (simp; done) | (simp; omega)) _ | refine Below.alloc ?_ (by first | omega | (simp; done) | (simp; omega)) _ | refine Below.drew ?_ | refine below_drewN ?_ _ | refine Below.trans ?_ (Below.mono (by assumption) (by first | omega | (simp; done) | (simp; omega))))); have hzW : w.heap.size + 3 ≤ W.heap.size := (by subst hWW; simp); have hcW_0_0 : W.cell? ⟨w.heap.size, 0, none⟩ = some (.int .i64 a) := (by subst hWW; simp [go_sem, hs0_1, hs0_2, hs1_2, hs0_3, hs1_3, hs2_3]); have hcW_0_1 : W.cell? ⟨w.heap.size, 1, none⟩ = some (.int .i64 b) := (by subst hWW; simp [go_sem, hs0_1, hs0_2, hs1_2, hs0_3, hs1_3, hs2_3]); have hcW_0_2 : W.cell? ⟨w.heap.size, 2, none⟩ = some (.int .i64 c) := (by subst hWW; simp [go_sem, hs0_1, hs0_2, hs1_2, hs0_3, hs1_3, hs2_3]); have hcW_1_0 : W.cell? ⟨w.heap.size + 1, 0, none⟩ = some (.int .i64 a2) := (by subst hWW; simp [go_sem, hs0_1, hs0_2, hs1_2, hs0_3, hs1_3, hs2_3]); have hcW_1_1 : W.cell? ⟨w.heap.size + 1, 1, none⟩ = some (.int .i64 b2) := (by subst hWW; simp [go_sem, hs0_1, hs0_2, hs1_2, hs0_3, hs1_3, hs2_3]); have hcW_1_2 : W.cell? ⟨w.heap.size + 1, 2, none⟩ = some (.int .i64 c2) := (by subst hWW; simp [go_sem, hs0_1, hs0_2, hs1_2, hs0_3, hs1_3, hs2_3]); have hcW_2_0 : W.cell? ⟨w.heap.size + 1 + 1, 0, none⟩ = some (.int .i64 p) := (by subst hWW; simp [go_sem, hs0_1, hs0_2, hs1_2, hs0_3, hs1_3, hs2_3]); have hcW_2_1 : W.cell? ⟨w.heap.size + 1 + 1, 1, none⟩ = some (.int .i64 q) := (by subst hWW; simp [go_sem, hs0_1, hs0_2, hs1_2, hs0_3, hs1_3, hs2_3]); have hcW_2_2 : W.cell? ⟨w.heap.size + 1 + 1, 2, none⟩ = some (.int .i64 r) := (by subst hWW; simp [go_sem, hs0_1, hs0_2, hs1_2, hs0_3, hs1_3, hs2_3]); have hcW_2_3 : W.cell? ⟨w.heap.size + 1 + 1, 3, none⟩ = some (.int .i64 s) := (by subst hWW; simp [go_sem, hs0_1, hs0_2, hs1_2, hs0_3, hs1_3, hs2_3]); clear hWW hs0_1 hs0_2 hs1_2 hs0_3 hs1_3 hs2_3
    have kW_0_0 : ∀ d os, (grow (redrawn W d) os).cell? ⟨w.heap.size, 0, none⟩ = some (.int .i64 a) := cell_regrown hcW_0_0
    have kW_0_1 : ∀ d os, (grow (redrawn W d) os).cell? ⟨w.heap.size, 1, none⟩ = some (.int .i64 b) := cell_regrown hcW_0_1
    have kW_0_2 : ∀ d os, (grow (redrawn W d) os).cell? ⟨w.heap.size, 2, none⟩ = some (.int .i64 c) := cell_regrown hcW_0_2
    have kW_1_0 : ∀ d os, (grow (redrawn W d) os).cell? ⟨w.heap.size + 1, 0, none⟩ = some (.int .i64 a2) := cell_regrown hcW_1_0
    have kW_1_1 : ∀ d os, (grow (redrawn W d) os).cell? ⟨w.heap.size + 1, 1, none⟩ = some (.int .i64 b2) := cell_regrown hcW_1_1
    have kW_1_2 : ∀ d os, (grow (redrawn W d) os).cell? ⟨w.heap.size + 1, 2, none⟩ = some (.int .i64 c2) := cell_regrown hcW_1_2
    have kW_2_0 : ∀ d os, (grow (redrawn W d) os).cell? ⟨w.heap.size + 1 + 1, 0, none⟩ = some (.int .i64 p) := cell_regrown hcW_2_0
    have kW_2_1 : ∀ d os, (grow (redrawn W d) os).cell? ⟨w.heap.size + 1 + 1, 1, none⟩ = some (.int .i64 q) := cell_regrown hcW_2_1
    have kW_2_2 : ∀ d os, (grow (redrawn W d) os).cell? ⟨w.heap.size + 1 + 1, 2, none⟩ = some (.int .i64 r) := cell_regrown hcW_2_2
    have kW_2_3 : ∀ d os, (grow (redrawn W d) os).cell? ⟨w.heap.size + 1 + 1, 3, none⟩ = some (.int .i64 s) := cell_regrown hcW_2_3
    refine wp_region_quiet_below (by kernel_rfl) (by kernel_rfl) ?_
    repeat (first | go_big_quiet_step (first | (go_at_call 54; exact Calls.regrown_of (spec_coGood _ _ _ _)) | (go_at_call 55; exact Calls.regrown_of (below_of_same (spec_odPrime _ _))) | (go_at_call 56; exact Calls.regrown_of (spec_foDisc _ _ _ _)) | (go_at_call 57; exact Calls.regrown_of (spec_foMatrix _ _ _ _ _))) | quiet_step (first | (go_at_call 54; exact Calls.regrown_of (spec_coGood _ _ _ _)) | (go_at_call 55; exact Calls.regrown_of (below_of_same (spec_odPrime _ _))) | (go_at_call 56; exact Calls.regrown_of (spec_foDisc _ _ _ _)) | (go_at_call 57; exact Calls.regrown_of (spec_foMatrix _ _ _ _ _))))
    refine wpQuiet_nil ?_
    intro _ hw'
    obtain ⟨pq, hw''⟩ := hw'
    subst hw''
    have hbW1 := below_regrown W pq.d pq.os
    have hcW1_0_0 := kW_0_0 pq.d pq.os
    have hcW1_0_1 := kW_0_1 pq.d pq.os
    have hcW1_0_2 := kW_0_2 pq.d pq.os
    have hcW1_1_0 := kW_1_0 pq.d pq.os
    have hcW1_1_1 := kW_1_1 pq.d pq.os
    have hcW1_1_2 := kW_1_2 pq.d pq.os
    have hcW1_2_0 := kW_2_0 pq.d pq.os
    have hcW1_2_1 := kW_2_1 pq.d pq.os
    have hcW1_2_2 := kW_2_2 pq.d pq.os
    have hcW1_2_3 := kW_2_3 pq.d pq.os
    clear kW_0_0 kW_0_1 kW_0_2 kW_1_0 kW_1_1 kW_1_2 kW_2_0 kW_2_1 kW_2_2 kW_2_3
    generalize grow (redrawn W pq.d) pq.os = W1 at *
    have hzW1 := hbW1.size
    go_wp2_with fail
    have kW1_0_0 : ∀ d os, (grow (redrawn W1 d) os).cell? ⟨w.heap.size, 0, none⟩ = some (.int .i64 a) := cell_regrown hcW1_0_0
    have kW1_0_1 : ∀ d os, (grow (redrawn W1 d) os).cell? ⟨w.heap.size, 1, none⟩ = some (.int .i64 b) := cell_regrown hcW1_0_1
    have kW1_0_2 : ∀ d os, (grow (redrawn W1 d) os).cell? ⟨w.heap.size, 2, none⟩ = some (.int .i64 c) := cell_regrown hcW1_0_2
    have kW1_1_0 : ∀ d os, (grow (redrawn W1 d) os).cell? ⟨w.heap.size + 1, 0, none⟩ = some (.int .i64 a2) := cell_regrown hcW1_1_0
    have kW1_1_1 : ∀ d os, (grow (redrawn W1 d) os).cell? ⟨w.heap.size + 1, 1, none⟩ = some (.int .i64 b2) := cell_regrown hcW1_1_1
    have kW1_1_2 : ∀ d os, (grow (redrawn W1 d) os).cell? ⟨w.heap.size + 1, 2, none⟩ = some (.int .i64 c2) := cell_regrown hcW1_1_2
    have kW1_2_0 : ∀ d os, (grow (redrawn W1 d) os).cell? ⟨w.heap.size + 1 + 1, 0, none⟩ = some (.int .i64 p) := cell_regrown hcW1_2_0
    have kW1_2_1 : ∀ d os, (grow (redrawn W1 d) os).cell? ⟨w.heap.size + 1 + 1, 1, none⟩ = some (.int .i64 q) := cell_regrown hcW1_2_1
    have kW1_2_2 : ∀ d os, (grow (redrawn W1 d) os).cell? ⟨w.heap.size + 1 + 1, 2, none⟩ = some (.int .i64 r) := cell_regrown hcW1_2_2
    have kW1_2_3 : ∀ d os, (grow (redrawn W1 d) os).cell? ⟨w.heap.size + 1 + 1, 3, none⟩ = some (.int .i64 s) := cell_regrown hcW1_2_3
    refine wp_region_quiet_below (by kernel_rfl) (by kernel_rfl) ?_
    repeat (first | go_big_quiet_step (first | (go_at_call 58; exact Calls.regrown_of (spec_foDet _ _ _ _ _)) | (go_at_call 59; exact Calls.regrown_of (spec_foAct _ _ _ _ _ _ _ _))) | quiet_step (first | (go_at_call 58; exact Calls.regrown_of (spec_foDet _ _ _ _ _)) | (go_at_call 59; exact Calls.regrown_of (spec_foAct _ _ _ _ _ _ _ _))))
    refine wpQuiet_nil ?_
    intro _ hw'
    obtain ⟨pq, hw''⟩ := hw'
    subst hw''
    have hbW2 := below_regrown W1 pq.d pq.os
    have hcW2_0_0 := kW1_0_0 pq.d pq.os
    have hcW2_0_1 := kW1_0_1 pq.d pq.os
    have hcW2_0_2 := kW1_0_2 pq.d pq.os
    have hcW2_1_0 := kW1_1_0 pq.d pq.os
    have hcW2_1_1 := kW1_1_1 pq.d pq.os
    have hcW2_1_2 := kW1_1_2 pq.d pq.os
    have hcW2_2_0 := kW1_2_0 pq.d pq.os
    have hcW2_2_1 := kW1_2_1 pq.d pq.os
    have hcW2_2_2 := kW1_2_2 pq.d pq.os
    have hcW2_2_3 := kW1_2_3 pq.d pq.os
    clear kW1_0_0 kW1_0_1 kW1_0_2 kW1_1_0 kW1_1_1 kW1_1_2 kW1_2_0 kW1_2_1 kW1_2_2 kW1_2_3
    generalize grow (redrawn W1 pq.d) pq.os = W2 at *
    have hzW2 := hbW2.size
    go_wp2_with fail
    go_ret2
    refine ⟨rfl, ?_⟩
    repeat (first | exact Below.refl _ _ | assumption | refine Below.setCell ?_ (by first | omega | (simp; done) | (simp; omega)) _ | refine Below.alloc ?_ (by first | omega | (simp; done) | (simp; omega)) _ | refine Below.drew ?_ | refine below_drewN ?_ _ | refine Below.trans ?_ (Below.mono (by assumption) (by first | omega | (simp; done) | (simp; omega))))
  · go_enter Try.func21, Try.ntmps21
    go_wp2_with fail
    have hs0_1 : w.heap.size < w.heap.size + 1 := (by omega); have hs0_2 : w.heap.size < w.heap.size + 1 + 1 := (by omega); have hs1_2 : w.heap.size + 1 < w.heap.size + 1 + 1 := (by omega); have hs0_3 : w.heap.size < w.heap.size + 1 + 1 + 1 := (by omega); have hs1_3 : w.heap.size + 1 < w.heap.size + 1 + 1 + 1 := (by omega); have hs2_3 : w.heap.size + 1 + 1 < w.heap.size + 1 + 1 + 1 := (by omega); generalize hWW : World.alloc _ _ = W; have hbW : Below w.heap.size w W := (by subst hWW; repeat (first | exact Below.refl _ _ | assumption | refine Below.setCell ?_ (by first | omega | (simp; done) | (simp; omega)) _ | refine Below.alloc ?_ (by first | omega | (simp; done) | (simp; omega)) _ | refine Below.drew ?_ | refine below_drewN ?_ _ | refine Below.trans ?_ (Below.mono (by assumption) (by first | omega | (simp; done) | (simp; omega))))); have hzW : w.heap.size + 3 ≤ W.heap.size := (by subst hWW; simp); have hcW_0_0 : W.cell? ⟨w.heap.size, 0, none⟩ = some (.int .i64 a) := (by subst hWW; simp [go_sem, hs0_1, hs0_2, hs1_2, hs0_3, hs1_3, hs2_3]); have hcW_0_1 : W.cell? ⟨w.heap.size, 1, none⟩ = some (.int .i64 b) := (by subst hWW; simp [go_sem, hs0_1, hs0_2, hs1_2, hs0_3, hs1_3, hs2_3]); have hcW_0_2 : W.cell? ⟨w.heap.size, 2, none⟩ = some (.int .i64 c) := (by subst hWW; simp [go_sem, hs0_1, hs0_2, hs1_2, hs0_3, hs1_3, hs2_3]); have hcW_1_0 : W.cell? ⟨w.heap.size + 1, 0, none⟩ = some (.int .i64 a2) := (by subst hWW; simp [go_sem, hs0_1, hs0_2, hs1_2, hs0_3, hs1_3, hs2_3]); have hcW_1_1 : W.cell? ⟨w.heap.size + 1, 1, none⟩ = some (.int .i64 b2) := (by subst hWW; simp [go_sem, hs0_1, hs0_2, hs1_2, hs0_3, hs1_3, hs2_3]); have hcW_1_2 : W.cell? ⟨w.heap.size + 1, 2, none⟩ = some (.int .i64 c2) := (by subst hWW; simp [go_sem, hs0_1, hs0_2, hs1_2, hs0_3, hs1_3, hs2_3]); have hcW_2_0 : W.cell? ⟨w.heap.size + 1 + 1, 0, none⟩ = some (.int .i64 p) := (by subst hWW; simp [go_sem, hs0_1, hs0_2, hs1_2, hs0_3, hs1_3, hs2_3]); have hcW_2_1 : W.cell? ⟨w.heap.size + 1 + 1, 1, none⟩ = some (.int .i64 q) := (by subst hWW; simp [go_sem, hs0_1, hs0_2, hs1_2, hs0_3, hs1_3, hs2_3]); have hcW_2_2 : W.cell? ⟨w.heap.size + 1 + 1, 2, none⟩ = some (.int .i64 r) := (by subst hWW; simp [go_sem, hs0_1, hs0_2, hs1_2, hs0_3, hs1_3, hs2_3]); have hcW_2_3 : W.cell? ⟨w.heap.size + 1 + 1, 3, none⟩ = some (.int .i64 s) := (by subst hWW; simp [go_sem, hs0_1, hs0_2, hs1_2, hs0_3, hs1_3, hs2_3]); clear hWW hs0_1 hs0_2 hs1_2 hs0_3 hs1_3 hs2_3
    have kW_0_0 : ∀ d os, (grow (redrawn W d) os).cell? ⟨w.heap.size, 0, none⟩ = some (.int .i64 a) := cell_regrown hcW_0_0
    have kW_0_1 : ∀ d os, (grow (redrawn W d) os).cell? ⟨w.heap.size, 1, none⟩ = some (.int .i64 b) := cell_regrown hcW_0_1
    have kW_0_2 : ∀ d os, (grow (redrawn W d) os).cell? ⟨w.heap.size, 2, none⟩ = some (.int .i64 c) := cell_regrown hcW_0_2
    have kW_1_0 : ∀ d os, (grow (redrawn W d) os).cell? ⟨w.heap.size + 1, 0, none⟩ = some (.int .i64 a2) := cell_regrown hcW_1_0
    have kW_1_1 : ∀ d os, (grow (redrawn W d) os).cell? ⟨w.heap.size + 1, 1, none⟩ = some (.int .i64 b2) := cell_regrown hcW_1_1
    have kW_1_2 : ∀ d os, (grow (redrawn W d) os).cell? ⟨w.heap.size + 1, 2, none⟩ = some (.int .i64 c2) := cell_regrown hcW_1_2
    have kW_2_0 : ∀ d os, (grow (redrawn W d) os).cell? ⟨w.heap.size + 1 + 1, 0, none⟩ = some (.int .i64 p) := cell_regrown hcW_2_0
    have kW_2_1 : ∀ d os, (grow (redrawn W d) os).cell? ⟨w.heap.size + 1 + 1, 1, none⟩ = some (.int .i64 q) := cell_regrown hcW_2_1
    have kW_2_2 : ∀ d os, (grow (redrawn W d) os).cell? ⟨w.heap.size + 1 + 1, 2, none⟩ = some (.int .i64 r) := cell_regrown hcW_2_2
    have kW_2_3 : ∀ d os, (grow (redrawn W d) os).cell? ⟨w.heap.size + 1 + 1, 3, none⟩ = some (.int .i64 s) := cell_regrown hcW_2_3
    refine wp_region_quiet_below (by kernel_rfl) (by kernel_rfl) ?_
    repeat (first | go_big_quiet_step (first | (go_at_call 54; exact Calls.regrown_of (spec_coGood _ _ _ _)) | (go_at_call 55; exact Calls.regrown_of (below_of_same (spec_odPrime _ _))) | (go_at_call 56; exact Calls.regrown_of (spec_foDisc _ _ _ _)) | (go_at_call 57; exact Calls.regrown_of (spec_foMatrix _ _ _ _ _))) | quiet_step (first | (go_at_call 54; exact Calls.regrown_of (spec_coGood _ _ _ _)) | (go_at_call 55; exact Calls.regrown_of (below_of_same (spec_odPrime _ _))) | (go_at_call 56; exact Calls.regrown_of (spec_foDisc _ _ _ _)) | (go_at_call 57; exact Calls.regrown_of (spec_foMatrix _ _ _ _ _))))
    refine wpQuiet_nil ?_
    intro _ hw'
    obtain ⟨pq, hw''⟩ := hw'
    subst hw''
    have hbW1 := below_regrown W pq.d pq.os
    have hcW1_0_0 := kW_0_0 pq.d pq.os
    have hcW1_0_1 := kW_0_1 pq.d pq.os
    have hcW1_0_2 := kW_0_2 pq.d pq.os
    have hcW1_1_0 := kW_1_0 pq.d pq.os
    have hcW1_1_1 := kW_1_1 pq.d pq.os
    have hcW1_1_2 := kW_1_2 pq.d pq.os
    have hcW1_2_0 := kW_2_0 pq.d pq.os
    have hcW1_2_1 := kW_2_1 pq.d pq.os
    have hcW1_2_2 := kW_2_2 pq.d pq.os
    have hcW1_2_3 := kW_2_3 pq.d pq.os
    clear kW_0_0 kW_0_1 kW_0_2 kW_1_0 kW_1_1 kW_1_2 kW_2_0 kW_2_1 kW_2_2 kW_2_3
    generalize grow (redrawn W pq.d) pq.os = W1 at *
    have hzW1 := hbW1.size
    go_wp2_with fail
    have kW1_0_0 : ∀ d os, (grow (redrawn W1 d) os).cell? ⟨w.heap.size, 0, none⟩ = some (.int .i64 a) := cell_regrown hcW1_0_0
    have kW1_0_1 : ∀ d os, (grow (redrawn W1 d) os).cell? ⟨w.heap.size, 1, none⟩ = some (.int .i64 b) := cell_regrown hcW1_0_1
    have kW1_0_2 : ∀ d os, (grow (redrawn W1 d) os).cell? ⟨w.heap.size, 2, none⟩ = some (.int .i64 c) := cell_regrown hcW1_0_2
    have kW1_1_0 : ∀ d os, (grow (redrawn W1 d) os).cell? ⟨w.heap.size + 1, 0, none⟩ = some (.int .i64 a2) := cell_regrown hcW1_1_0
    have kW1_1_1 : ∀ d os, (grow (redrawn W1 d) os).cell? ⟨w.heap.size + 1, 1, none⟩ = some (.int .i64 b2) := cell_regrown hcW1_1_1
    have kW1_1_2 : ∀ d os, (grow (redrawn W1 d) os).cell? ⟨w.heap.size + 1, 2, none⟩ = some (.int .i64 c2) := cell_regrown hcW1_1_2
    have kW1_2_0 : ∀ d os, (grow (redrawn W1 d) os).cell? ⟨w.heap.size + 1 + 1, 0, none⟩ = some (.int .i64 p) := cell_regrown hcW1_2_0
    have kW1_2_1 : ∀ d os, (grow (redrawn W1 d) os).cell? ⟨w.heap.size + 1 + 1, 1, none⟩ = some (.int .i64 q) := cell_regrown hcW1_2_1
    have kW1_2_2 : ∀ d os, (grow (redrawn W1 d) os).cell? ⟨w.heap.size + 1 + 1, 2, none⟩ = some (.int .i64 r) := cell_regrown hcW1_2_2
    have kW1_2_3 : ∀ d os, (grow (redrawn W1 d) os).cell? ⟨w.heap.size + 1 + 1, 3, none⟩ = some (.int .i64 s) := cell_regrown hcW1_2_3
    refine wp_region_quiet_below (by kernel_rfl) (by kernel_rfl) ?_
    repeat (first | go_big_quiet_step (first | (go_at_call 58; exact Calls.regrown_of (spec_foDet _ _ _ _ _)) | (go_at_call 59; exact Calls.regrown_of (spec_foAct _ _ _ _ _ _ _ _))) | quiet_step (first | (go_at_call 58; exact Calls.regrown_of (spec_foDet _ _ _ _ _)) | (go_at_call 59; exact Calls.regrown_of (spec_foAct _ _ _ _ _ _ _ _))))
    refine wpQuiet_nil ?_
    intro _ hw'
    obtain ⟨pq, hw''⟩ := hw'
    subst hw''
    have hbW2 := below_regrown W1 pq.d pq.os
    have hcW2_0_0 := kW1_0_0 pq.d pq.os
    have hcW2_0_1 := kW1_0_1 pq.d pq.os
    have hcW2_0_2 := kW1_0_2 pq.d pq.os
    have hcW2_1_0 := kW1_1_0 pq.d pq.os
    have hcW2_1_1 := kW1_1_1 pq.d pq.os
    have hcW2_1_2 := kW1_1_2 pq.d pq.os
    have hcW2_2_0 := kW1_2_0 pq.d pq.os
    have hcW2_2_1 := kW1_2_1 pq.d pq.os
    have hcW2_2_2 := kW1_2_2 pq.d pq.os
    have hcW2_2_3 := kW1_2_3 pq.d pq.os
    clear kW1_0_0 kW1_0_1 kW1_0_2 kW1_1_0 kW1_1_1 kW1_1_2 kW1_2_0 kW1_2_1 kW1_2_2 kW1_2_3
    generalize grow (redrawn W1 pq.d) pq.os = W2 at *
    have hzW2 := hbW2.size
    go_wp2_with fail
    go_ret2
    refine ⟨rfl, ?_⟩
    repeat (first | exact Below.refl _ _ | assumption | refine Below.setCell ?_ (by first | omega | (simp; done) | (simp; omega)) _ | refine Below.alloc ?_ (by first | omega | (simp; done) | (simp; omega)) _ | refine Below.drew ?_ | refine below_drewN ?_ _ | refine Below.trans ?_ (Below.mono (by assumption) (by first | omega | (simp; done) | (simp; omega))))

set_option maxHeartbeats 1000000 in
theorem spec_IsDescent_f1 (a b c a2 b2 c2 p q r s k : Int) (w : World) (h1 : classB a b c = false) :
    Calls Try.prog 21 #[.agg #[.int .i64 a, .int .i64 b, .int .i64 c], .agg #[.int .i64 a2, .int .i64 b2, .int .i64 c2], .agg #[.int .i64 p, .int .i64 q, .int .i64 r, .int .i64 s], .int .i64 k] w fun e w' => e = .returned (.tuple #[.bool false, .bool false]) ∧ Below w.heap.size w w' := by
  go_enter Try.func21, Try.ntmps21
  go_wp2_with fail
  have hs0_1 : w.heap.size < w.heap.size + 1 := (by omega); have hs0_2 : w.heap.size < w.heap.size + 1 + 1 := (by omega); have hs1_2 : w.heap.size + 1 < w.heap.size + 1 + 1 := (by omega); have hs0_3 : w.heap.size < w.heap.size + 1 + 1 + 1 := (by omega); have hs1_3 : w.heap.size + 1 < w.heap.size + 1 + 1 + 1 := (by omega); have hs2_3 : w.heap.size + 1 + 1 < w.heap.size + 1 + 1 + 1 := (by omega); generalize hWW : World.alloc _ _ = W; have hbW : Below w.heap.size w W := (by subst hWW; repeat (first | exact Below.refl _ _ | assumption | refine Below.setCell ?_ (by first | omega | (simp; done) | (simp; omega)) _ | refine Below.alloc ?_ (by first | omega | (simp; done) | (simp; omega)) _ | refine Below.drew ?_ | refine below_drewN ?_ _ | refine Below.trans ?_ (Below.mono (by assumption) (by first | omega | (simp; done) | (simp; omega))))); have hzW : w.heap.size + 3 ≤ W.heap.size := (by subst hWW; simp); have hcW_0_0 : W.cell? ⟨w.heap.size, 0, none⟩ = some (.int .i64 a) := (by subst hWW; simp [go_sem, hs0_1, hs0_2, hs1_2, hs0_3, hs1_3, hs2_3]); have hcW_0_1 : W.cell? ⟨w.heap.size, 1, none⟩ = some (.int .i64 b) := (by subst hWW; simp [go_sem, hs0_1, hs0_2, hs1_2, hs0_3, hs1_3, hs2_3]); have hcW_0_2 : W.cell? ⟨w.heap.size, 2, none⟩ = some (.int .i64 c) := (by subst hWW; simp [go_sem, hs0_1, hs0_2, hs1_2, hs0_3, hs1_3, hs2_3]); have hcW_1_0 : W.cell? ⟨w.heap.size + 1, 0, none⟩ = some (.int .i64 a2) := (by subst hWW; simp [go_sem, hs0_1, hs0_2, hs1_2, hs0_3, hs1_3, hs2_3]); have hcW_1_1 : W.cell? ⟨w.heap.size + 1, 1, none⟩ = some (.int .i64 b2) := (by subst hWW; simp [go_sem, hs0_1, hs0_2, hs1_2, hs0_3, hs1_3, hs2_3]); have hcW_1_2 : W.cell? ⟨w.heap.size + 1, 2, none⟩ = some (.int .i64 c2) := (by subst hWW; simp [go_sem, hs0_1, hs0_2, hs1_2, hs0_3, hs1_3, hs2_3]); have hcW_2_0 : W.cell? ⟨w.heap.size + 1 + 1, 0, none⟩ = some (.int .i64 p) := (by subst hWW; simp [go_sem, hs0_1, hs0_2, hs1_2, hs0_3, hs1_3, hs2_3]); have hcW_2_1 : W.cell? ⟨w.heap.size + 1 + 1, 1, none⟩ = some (.int .i64 q) := (by subst hWW; simp [go_sem, hs0_1, hs0_2, hs1_2, hs0_3, hs1_3, hs2_3]); have hcW_2_2 : W.cell? ⟨w.heap.size + 1 + 1, 2, none⟩ = some (.int .i64 r) := (by subst hWW; simp [go_sem, hs0_1, hs0_2, hs1_2, hs0_3, hs1_3, hs2_3]); have hcW_2_3 : W.cell? ⟨w.heap.size + 1 + 1, 3, none⟩ = some (.int .i64 s) := (by subst hWW; simp [go_sem, hs0_1, hs0_2, hs1_2, hs0_3, hs1_3, hs2_3]); clear hWW hs0_1 hs0_2 hs1_2 hs0_3 hs1_3 hs2_3
  have kW_0_0 : ∀ d os, (grow (redrawn W d) os).cell? ⟨w.heap.size, 0, none⟩ = some (.int .i64 a) := cell_regrown hcW_0_0
  have kW_0_1 : ∀ d os, (grow (redrawn W d) os).cell? ⟨w.heap.size, 1, none⟩ = some (.int .i64 b) := cell_regrown hcW_0_1
  have kW_0_2 : ∀ d os, (grow (redrawn W d) os).cell? ⟨w.heap.size, 2, none⟩ = some (.int .i64 c) := cell_regrown hcW_0_2
  have kW_1_0 : ∀ d os, (grow (redrawn W d) os).cell? ⟨w.heap.size + 1, 0, none⟩ = some (.int .i64 a2) := cell_regrown hcW_1_0
  have kW_1_1 : ∀ d os, (grow (redrawn W d) os).cell? ⟨w.heap.size + 1, 1, none⟩ = some (.int .i64 b2) := cell_regrown hcW_1_1
  have kW_1_2 : ∀ d os, (grow (redrawn W d) os).cell? ⟨w.heap.size + 1, 2, none⟩ = some (.int .i64 c2) := cell_regrown hcW_1_2
  have kW_2_0 : ∀ d os, (grow (redrawn W d) os).cell? ⟨w.heap.size + 1 + 1, 0, none⟩ = some (.int .i64 p) := cell_regrown hcW_2_0
  have kW_2_1 : ∀ d os, (grow (redrawn W d) os).cell? ⟨w.heap.size + 1 + 1, 1, none⟩ = some (.int .i64 q) := cell_regrown hcW_2_1
  have kW_2_2 : ∀ d os, (grow (redrawn W d) os).cell? ⟨w.heap.size + 1 + 1, 2, none⟩ = some (.int .i64 r) := cell_regrown hcW_2_2
  have kW_2_3 : ∀ d os, (grow (redrawn W d) os).cell? ⟨w.heap.size + 1 + 1, 3, none⟩ = some (.int .i64 s) := cell_regrown hcW_2_3
  refine wp_region_quiet_below (by kernel_rfl) (by kernel_rfl) ?_
  repeat (first | go_big_quiet_step (first | (go_at_call 54; exact Calls.regrown_of (spec_coGood _ _ _ _)) | (go_at_call 55; exact Calls.regrown_of (below_of_same (spec_odPrime _ _))) | (go_at_call 56; exact Calls.regrown_of (spec_foDisc _ _ _ _)) | (go_at_call 57; exact Calls.regrown_of (spec_foMatrix _ _ _ _ _))) | quiet_step (first | (go_at_call 54; exact Calls.regrown_of (spec_coGood _ _ _ _)) | (go_at_call 55; exact Calls.regrown_of (below_of_same (spec_odPrime _ _))) | (go_at_call 56; exact Calls.regrown_of (spec_foDisc _ _ _ _)) | (go_at_call 57; exact Calls.regrown_of (spec_foMatrix _ _ _ _ _))))
  refine wpQuiet_nil ?_
  intro _ hw'
  obtain ⟨pq, hw''⟩ := hw'
  subst hw''
  have hbW1 := below_regrown W pq.d pq.os
  have hcW1_0_0 := kW_0_0 pq.d pq.os
  have hcW1_0_1 := kW_0_1 pq.d pq.os
  have hcW1_0_2 := kW_0_2 pq.d pq.os
  have hcW1_1_0 := kW_1_0 pq.d pq.os
  have hcW1_1_1 := kW_1_1 pq.d pq.os
  have hcW1_1_2 := kW_1_2 pq.d pq.os
  have hcW1_2_0 := kW_2_0 pq.d pq.os
  have hcW1_2_1 := kW_2_1 pq.d pq.os
  have hcW1_2_2 := kW_2_2 pq.d pq.os
  have hcW1_2_3 := kW_2_3 pq.d pq.os
  clear kW_0_0 kW_0_1 kW_0_2 kW_1_0 kW_1_1 kW_1_2 kW_2_0 kW_2_1 kW_2_2 kW_2_3
  generalize grow (redrawn W pq.d) pq.os = W1 at *
  have hzW1 := hbW1.size
  go_wp2_with fail
  go_ret2
  refine ⟨rfl, ?_⟩
  repeat (first | exact Below.refl _ _ | assumption | refine Below.setCell ?_ (by first | omega | (simp; done) | (simp; omega)) _ | refine Below.alloc ?_ (by first | omega | (simp; done) | (simp; omega)) _ | refine Below.drew ?_ | refine below_drewN ?_ _ | refine Below.trans ?_ (Below.mono (by assumption) (by first | omega | (simp; done) | (simp; omega))))

set_option maxHeartbeats 1000000 in
theorem spec_IsDescent_f2 (a b c a2 b2 c2 p q r s k : Int) (w : World) (h1 : classB a b c = true) (h2 : classB a2 b2 c2 = false) :
    Calls Try.prog 21 #[.agg #[.int .i64 a, .int .i64 b, .int .i64 c], .agg #[.int .i64 a2, .int .i64 b2, .int .i64 c2], .agg #[.int .i64 p, .int .i64 q, .int .i64 r, .int .i64 s], .int .i64 k] w fun e w' => e = .returned (.tuple #[.bool false, .bool false]) ∧ Below w.heap.size w w' := by
  go_enter Try.func21, Try.ntmps21
  go_wp2_with fail
  have hs0_1 : w.heap.size < w.heap.size + 1 := (by omega); have hs0_2 : w.heap.size < w.heap.size + 1 + 1 := (by omega); have hs1_2 : w.heap.size + 1 < w.heap.size + 1 + 1 := (by omega); have hs0_3 : w.heap.size < w.heap.size + 1 + 1 + 1 := (by omega); have hs1_3 : w.heap.size + 1 < w.heap.size + 1 + 1 + 1 := (by omega); have hs2_3 : w.heap.size + 1 + 1 < w.heap.size + 1 + 1 + 1 := (by omega); generalize hWW : World.alloc _ _ = W; have hbW : Below w.heap.size w W := (by subst hWW; repeat (first | exact Below.refl _ _ | assumption | refine Below.setCell ?_ (by first | omega | (simp; done) | (simp; omega)) _ | refine Below.alloc ?_ (by first | omega | (simp; done) | (simp; omega)) _ | refine Below.drew ?_ | refine below_drewN ?_ _ | refine Below.trans ?_ (Below.mono (by assumption) (by first | omega | (simp; done) | (simp; omega))))); have hzW : w.heap.size + 3 ≤ W.heap.size := (by subst hWW; simp); have hcW_0_0 : W.cell? ⟨w.heap.size, 0, none⟩ = some (.int .i64 a) := (by subst hWW; simp [go_sem, hs0_1, hs0_2, hs1_2, hs0_3, hs1_3, hs2_3]); have hcW_0_1 : W.cell? ⟨w.heap.size, 1, none⟩ = some (.int .i64 b) := (by subst hWW; simp [go_sem, hs0_1, hs0_2, hs1_2, hs0_3, hs1_3, hs2_3]); have hcW_0_2 : W.cell? ⟨w.heap.size, 2, none⟩ = some (.int .i64 c) := (by subst hWW; simp [go_sem, hs0_1, hs0_2, hs1_2, hs0_3, hs1_3, hs2_3]); have hcW_1_0 : W.cell? ⟨w.heap.size + 1, 0, none⟩ = some (.int .i64 a2) := (by subst hWW; simp [go_sem, hs0_1, hs0_2, hs1_2, hs0_3, hs1_3, hs2_3]); have hcW_1_1 : W.cell? ⟨w.heap.size + 1, 1, none⟩ = some (.int .i64 b2) := (by subst hWW; simp [go_sem, hs0_1, hs0_2, hs1_2, hs0_3, hs1_3, hs2_3]); have hcW_1_2 : W.cell? ⟨w.heap.size + 1, 2, none⟩ = some (.int .i64 c2) := (by subst hWW; simp [go_sem, hs0_1, hs0_2, hs1_2, hs0_3, hs1_3, hs2_3]); have hcW_2_0 : W.cell? ⟨w.heap.size + 1 + 1, 0, none⟩ = some (.int .i64 p) := (by subst hWW; simp [go_sem, hs0_1, hs0_2, hs1_2, hs0_3, hs1_3, hs2_3]); have hcW_2_1 : W.cell? ⟨w.heap.size + 1 + 1, 1, none⟩ = some (.int .i64 q) := (by subst hWW; simp [go_sem, hs0_1, hs0_2, hs1_2, hs0_3, hs1_3, hs2_3]); have hcW_2_2 : W.cell? ⟨w.heap.size + 1 + 1, 2, none⟩ = some (.int .i64 r) := (by subst hWW; simp [go_sem, hs0_1, hs0_2, hs1_2, hs0_3, hs1_3, hs2_3]); have hcW_2_3 : W.cell? ⟨w.heap.size + 1 + 1, 3, none⟩ = some (.int .i64 s) := (by subst hWW; simp [go_sem, hs0_1, hs0_2, hs1_2, hs0_3, hs1_3, hs2_3]); clear hWW hs0_1 hs0_2 hs1_2 hs0_3 hs1_3 hs2_3
  have kW_0_0 : ∀ d os, (grow (redrawn W d) os).cell? ⟨w.heap.size, 0, none⟩ = some (.int .i64 a) := cell_regrown hcW_0_0
  have kW_0_1 : ∀ d os, (grow (redrawn W d) os).cell? ⟨w.heap.size, 1, none⟩ = some (.int .i64 b) := cell_regrown hcW_0_1
  have kW_0_2 : ∀ d os, (grow (redrawn W d) os).cell? ⟨w.heap.size, 2, none⟩ = some (.int .i64 c) := cell_regrown hcW_0_2
  have kW_1_0 : ∀ d os, (grow (redrawn W d) os).cell? ⟨w.heap.size + 1, 0, none⟩ = some (.int .i64 a2) := cell_regrown hcW_1_0
  have kW_1_1 : ∀ d os, (grow (redrawn W d) os).cell? ⟨w.heap.size + 1, 1, none⟩ = some (.int .i64 b2) := cell_regrown hcW_1_1
  have kW_1_2 : ∀ d os, (grow (redrawn W d) os).cell? ⟨w.heap.size + 1, 2, none⟩ = some (.int .i64 c2) := cell_regrown hcW_1_2
  have kW_2_0 : ∀ d os, (grow (redrawn W d) os).cell? ⟨w.heap.size + 1 + 1, 0, none⟩ = some (.int .i64 p) := cell_regrown hcW_2_0
  have kW_2_1 : ∀ d os, (grow (redrawn W d) os).cell? ⟨w.heap.size + 1 + 1, 1, none⟩ = some (.int .i64 q) := cell_regrown hcW_2_1
  have kW_2_2 : ∀ d os, (grow (redrawn W d) os).cell? ⟨w.heap.size + 1 + 1, 2, none⟩ = some (.int .i64 r) := cell_regrown hcW_2_2
  have kW_2_3 : ∀ d os, (grow (redrawn W d) os).cell? ⟨w.heap.size + 1 + 1, 3, none⟩ = some (.int .i64 s) := cell_regrown hcW_2_3
  refine wp_region_quiet_below (by kernel_rfl) (by kernel_rfl) ?_
  repeat (first | go_big_quiet_step (first | (go_at_call 54; exact Calls.regrown_of (spec_coGood _ _ _ _)) | (go_at_call 55; exact Calls.regrown_of (below_of_same (spec_odPrime _ _))) | (go_at_call 56; exact Calls.regrown_of (spec_foDisc _ _ _ _)) | (go_at_call 57; exact Calls.regrown_of (spec_foMatrix _ _ _ _ _))) | quiet_step (first | (go_at_call 54; exact Calls.regrown_of (spec_coGood _ _ _ _)) | (go_at_call 55; exact Calls.regrown_of (below_of_same (spec_odPrime _ _))) | (go_at_call 56; exact Calls.regrown_of (spec_foDisc _ _ _ _)) | (go_at_call 57; exact Calls.regrown_of (spec_foMatrix _ _ _ _ _))))
  refine wpQuiet_nil ?_
  intro _ hw'
  obtain ⟨pq, hw''⟩ := hw'
  subst hw''
  have hbW1 := below_regrown W pq.d pq.os
  have hcW1_0_0 := kW_0_0 pq.d pq.os
  have hcW1_0_1 := kW_0_1 pq.d pq.os
  have hcW1_0_2 := kW_0_2 pq.d pq.os
  have hcW1_1_0 := kW_1_0 pq.d pq.os
  have hcW1_1_1 := kW_1_1 pq.d pq.os
  have hcW1_1_2 := kW_1_2 pq.d pq.os
  have hcW1_2_0 := kW_2_0 pq.d pq.os
  have hcW1_2_1 := kW_2_1 pq.d pq.os
  have hcW1_2_2 := kW_2_2 pq.d pq.os
  have hcW1_2_3 := kW_2_3 pq.d pq.os
  clear kW_0_0 kW_0_1 kW_0_2 kW_1_0 kW_1_1 kW_1_2 kW_2_0 kW_2_1 kW_2_2 kW_2_3
  generalize grow (redrawn W pq.d) pq.os = W1 at *
  have hzW1 := hbW1.size
  go_wp2_with fail
  go_ret2
  refine ⟨rfl, ?_⟩
  repeat (first | exact Below.refl _ _ | assumption | refine Below.setCell ?_ (by first | omega | (simp; done) | (simp; omega)) _ | refine Below.alloc ?_ (by first | omega | (simp; done) | (simp; omega)) _ | refine Below.drew ?_ | refine below_drewN ?_ _ | refine Below.trans ?_ (Below.mono (by assumption) (by first | omega | (simp; done) | (simp; omega))))

set_option maxHeartbeats 1000000 in
theorem spec_IsDescent_f3 (a b c a2 b2 c2 p q r s k : Int) (w : World) (h1 : classB a b c = true) (h2 : classB a2 b2 c2 = true) (h3 : odPrimeB k = false) :
    Calls Try.prog 21 #[.agg #[.int .i64 a, .int .i64 b, .int .i64 c], .agg #[.int .i64 a2, .int .i64 b2, .int .i64 c2], .agg #[.int .i64 p, .int .i64 q, .int .i64 r, .int .i64 s], .int .i64 k] w fun e w' => e = .returned (.tuple #[.bool false, .bool false]) ∧ Below w.heap.size w w' := by
  go_enter Try.func21, Try.ntmps21
  go_wp2_with fail
  have hs0_1 : w.heap.size < w.heap.size + 1 := (by omega); have hs0_2 : w.heap.size < w.heap.size + 1 + 1 := (by omega); have hs1_2 : w.heap.size + 1 < w.heap.size + 1 + 1 := (by omega); have hs0_3 : w.heap.size < w.heap.size + 1 + 1 + 1 := (by omega); have hs1_3 : w.heap.size + 1 < w.heap.size + 1 + 1 + 1 := (by omega); have hs2_3 : w.heap.size + 1 + 1 < w.heap.size + 1 + 1 + 1 := (by omega); generalize hWW : World.alloc _ _ = W; have hbW : Below w.heap.size w W := (by subst hWW; repeat (first | exact Below.refl _ _ | assumption | refine Below.setCell ?_ (by first | omega | (simp; done) | (simp; omega)) _ | refine Below.alloc ?_ (by first | omega | (simp; done) | (simp; omega)) _ | refine Below.drew ?_ | refine below_drewN ?_ _ | refine Below.trans ?_ (Below.mono (by assumption) (by first | omega | (simp; done) | (simp; omega))))); have hzW : w.heap.size + 3 ≤ W.heap.size := (by subst hWW; simp); have hcW_0_0 : W.cell? ⟨w.heap.size, 0, none⟩ = some (.int .i64 a) := (by subst hWW; simp [go_sem, hs0_1, hs0_2, hs1_2, hs0_3, hs1_3, hs2_3]); have hcW_0_1 : W.cell? ⟨w.heap.size, 1, none⟩ = some (.int .i64 b) := (by subst hWW; simp [go_sem, hs0_1, hs0_2, hs1_2, hs0_3, hs1_3, hs2_3]); have hcW_0_2 : W.cell? ⟨w.heap.size, 2, none⟩ = some (.int .i64 c) := (by subst hWW; simp [go_sem, hs0_1, hs0_2, hs1_2, hs0_3, hs1_3, hs2_3]); have hcW_1_0 : W.cell? ⟨w.heap.size + 1, 0, none⟩ = some (.int .i64 a2) := (by subst hWW; simp [go_sem, hs0_1, hs0_2, hs1_2, hs0_3, hs1_3, hs2_3]); have hcW_1_1 : W.cell? ⟨w.heap.size + 1, 1, none⟩ = some (.int .i64 b2) := (by subst hWW; simp [go_sem, hs0_1, hs0_2, hs1_2, hs0_3, hs1_3, hs2_3]); have hcW_1_2 : W.cell? ⟨w.heap.size + 1, 2, none⟩ = some (.int .i64 c2) := (by subst hWW; simp [go_sem, hs0_1, hs0_2, hs1_2, hs0_3, hs1_3, hs2_3]); have hcW_2_0 : W.cell? ⟨w.heap.size + 1 + 1, 0, none⟩ = some (.int .i64 p) := (by subst hWW; simp [go_sem, hs0_1, hs0_2, hs1_2, hs0_3, hs1_3, hs2_3]); have hcW_2_1 : W.cell? ⟨w.heap.size + 1 + 1, 1, none⟩ = some (.int .i64 q) := (by subst hWW; simp [go_sem, hs0_1, hs0_2, hs1_2, hs0_3, hs1_3, hs2_3]); have hcW_2_2 : W.cell? ⟨w.heap.size + 1 + 1, 2, none⟩ = some (.int .i64 r) := (by subst hWW; simp [go_sem, hs0_1, hs0_2, hs1_2, hs0_3, hs1_3, hs2_3]); have hcW_2_3 : W.cell? ⟨w.heap.size + 1 + 1, 3, none⟩ = some (.int .i64 s) := (by subst hWW; simp [go_sem, hs0_1, hs0_2, hs1_2, hs0_3, hs1_3, hs2_3]); clear hWW hs0_1 hs0_2 hs1_2 hs0_3 hs1_3 hs2_3
  have kW_0_0 : ∀ d os, (grow (redrawn W d) os).cell? ⟨w.heap.size, 0, none⟩ = some (.int .i64 a) := cell_regrown hcW_0_0
  have kW_0_1 : ∀ d os, (grow (redrawn W d) os).cell? ⟨w.heap.size, 1, none⟩ = some (.int .i64 b) := cell_regrown hcW_0_1
  have kW_0_2 : ∀ d os, (grow (redrawn W d) os).cell? ⟨w.heap.size, 2, none⟩ = some (.int .i64 c) := cell_regrown hcW_0_2
  have kW_1_0 : ∀ d os, (grow (redrawn W d) os).cell? ⟨w.heap.size + 1, 0, none⟩ = some (.int .i64 a2) := cell_regrown hcW_1_0
  have kW_1_1 : ∀ d os, (grow (redrawn W d) os).cell? ⟨w.heap.size + 1, 1, none⟩ = some (.int .i64 b2) := cell_regrown hcW_1_1
  have kW_1_2 : ∀ d os, (grow (redrawn W d) os).cell? ⟨w.heap.size + 1, 2, none⟩ = some (.int .i64 c2) := cell_regrown hcW_1_2
  have kW_2_0 : ∀ d os, (grow (redrawn W d) os).cell? ⟨w.heap.size + 1 + 1, 0, none⟩ = some (.int .i64 p) := cell_regrown hcW_2_0
  have kW_2_1 : ∀ d os, (grow (redrawn W d) os).cell? ⟨w.heap.size + 1 + 1, 1, none⟩ = some (.int .i64 q) := cell_regrown hcW_2_1
  have kW_2_2 : ∀ d os, (grow (redrawn W d) os).cell? ⟨w.heap.size + 1 + 1, 2, none⟩ = some (.int .i64 r) := cell_regrown hcW_2_2
  have kW_2_3 : ∀ d os, (grow (redrawn W d) os).cell? ⟨w.heap.size + 1 + 1, 3, none⟩ = some (.int .i64 s) := cell_regrown hcW_2_3
  refine wp_region_quiet_below (by kernel_rfl) (by kernel_rfl) ?_
  repeat (first | go_big_quiet_step (first | (go_at_call 54; exact Calls.regrown_of (spec_coGood _ _ _ _)) | (go_at_call 55; exact Calls.regrown_of (below_of_same (spec_odPrime _ _))) | (go_at_call 56; exact Calls.regrown_of (spec_foDisc _ _ _ _)) | (go_at_call 57; exact Calls.regrown_of (spec_foMatrix _ _ _ _ _))) | quiet_step (first | (go_at_call 54; exact Calls.regrown_of (spec_coGood _ _ _ _)) | (go_at_call 55; exact Calls.regrown_of (below_of_same (spec_odPrime _ _))) | (go_at_call 56; exact Calls.regrown_of (spec_foDisc _ _ _ _)) | (go_at_call 57; exact Calls.regrown_of (spec_foMatrix _ _ _ _ _))))
  refine wpQuiet_nil ?_
  intro _ hw'
  obtain ⟨pq, hw''⟩ := hw'
  subst hw''
  have hbW1 := below_regrown W pq.d pq.os
  have hcW1_0_0 := kW_0_0 pq.d pq.os
  have hcW1_0_1 := kW_0_1 pq.d pq.os
  have hcW1_0_2 := kW_0_2 pq.d pq.os
  have hcW1_1_0 := kW_1_0 pq.d pq.os
  have hcW1_1_1 := kW_1_1 pq.d pq.os
  have hcW1_1_2 := kW_1_2 pq.d pq.os
  have hcW1_2_0 := kW_2_0 pq.d pq.os
  have hcW1_2_1 := kW_2_1 pq.d pq.os
  have hcW1_2_2 := kW_2_2 pq.d pq.os
  have hcW1_2_3 := kW_2_3 pq.d pq.os
  clear kW_0_0 kW_0_1 kW_0_2 kW_1_0 kW_1_1 kW_1_2 kW_2_0 kW_2_1 kW_2_2 kW_2_3
  generalize grow (redrawn W pq.d) pq.os = W1 at *
  have hzW1 := hbW1.size
  go_wp2_with fail
  go_ret2
  refine ⟨rfl, ?_⟩
  repeat (first | exact Below.refl _ _ | assumption | refine Below.setCell ?_ (by first | omega | (simp; done) | (simp; omega)) _ | refine Below.alloc ?_ (by first | omega | (simp; done) | (simp; omega)) _ | refine Below.drew ?_ | refine below_drewN ?_ _ | refine Below.trans ?_ (Below.mono (by assumption) (by first | omega | (simp; done) | (simp; omega))))

set_option maxHeartbeats 1000000 in
theorem spec_IsDescent_f4 (a b c a2 b2 c2 p q r s k : Int) (w : World) (h1 : classB a b c = true) (h2 : classB a2 b2 c2 = true) (h3 : odPrimeB k = true) (h4 : (dsc a b c != dsc a2 b2 c2 * k * k) = true) (k1 : -1000000 ≤ k) (k2 : k ≤ 1000000) :
    Calls Try.prog 21 #[.agg #[.int .i64 a, .int .i64 b, .int .i64 c], .agg #[.int .i64 a2, .int .i64 b2, .int .i64 c2], .agg #[.int .i64 p, .int .i64 q, .int .i64 r, .int .i64 s], .int .i64 k] w fun e w' => e = .returned (.tuple #[.bool false, .bool false]) ∧ Below w.heap.size w w' := by
  obtain ⟨f1, d1, d2⟩ := class_bd h1
  obtain ⟨f2, d3, d4⟩ := class_bd h2
  have x1 := wrap_dsc f1
  have x2 := wrap_dsc f2
  obtain ⟨x3, x4⟩ := disc_pp d3 (by omega) k1 k2
  clear d1 d2 d3 d4 k1 k2
  go_enter Try.func21, Try.ntmps21
  go_wp2_with fail
  have hs0_1 : w.heap.size < w.heap.size + 1 := (by omega); have hs0_2 : w.heap.size < w.heap.size + 1 + 1 := (by omega); have hs1_2 : w.heap.size + 1 < w.heap.size + 1 + 1 := (by omega); have hs0_3 : w.heap.size < w.heap.size + 1 + 1 + 1 := (by omega); have hs1_3 : w.heap.size + 1 < w.heap.size + 1 + 1 + 1 := (by omega); have hs2_3 : w.heap.size + 1 + 1 < w.heap.size + 1 + 1 + 1 := (by omega); generalize hWW : World.alloc _ _ = W; have hbW : Below w.heap.size w W := (by subst hWW; repeat (first | exact Below.refl _ _ | assumption | refine Below.setCell ?_ (by first | omega | (simp; done) | (simp; omega)) _ | refine Below.alloc ?_ (by first | omega | (simp; done) | (simp; omega)) _ | refine Below.drew ?_ | refine below_drewN ?_ _ | refine Below.trans ?_ (Below.mono (by assumption) (by first | omega | (simp; done) | (simp; omega))))); have hzW : w.heap.size + 3 ≤ W.heap.size := (by subst hWW; simp); have hcW_0_0 : W.cell? ⟨w.heap.size, 0, none⟩ = some (.int .i64 a) := (by subst hWW; simp [go_sem, hs0_1, hs0_2, hs1_2, hs0_3, hs1_3, hs2_3]); have hcW_0_1 : W.cell? ⟨w.heap.size, 1, none⟩ = some (.int .i64 b) := (by subst hWW; simp [go_sem, hs0_1, hs0_2, hs1_2, hs0_3, hs1_3, hs2_3]); have hcW_0_2 : W.cell? ⟨w.heap.size, 2, none⟩ = some (.int .i64 c) := (by subst hWW; simp [go_sem, hs0_1, hs0_2, hs1_2, hs0_3, hs1_3, hs2_3]); have hcW_1_0 : W.cell? ⟨w.heap.size + 1, 0, none⟩ = some (.int .i64 a2) := (by subst hWW; simp [go_sem, hs0_1, hs0_2, hs1_2, hs0_3, hs1_3, hs2_3]); have hcW_1_1 : W.cell? ⟨w.heap.size + 1, 1, none⟩ = some (.int .i64 b2) := (by subst hWW; simp [go_sem, hs0_1, hs0_2, hs1_2, hs0_3, hs1_3, hs2_3]); have hcW_1_2 : W.cell? ⟨w.heap.size + 1, 2, none⟩ = some (.int .i64 c2) := (by subst hWW; simp [go_sem, hs0_1, hs0_2, hs1_2, hs0_3, hs1_3, hs2_3]); have hcW_2_0 : W.cell? ⟨w.heap.size + 1 + 1, 0, none⟩ = some (.int .i64 p) := (by subst hWW; simp [go_sem, hs0_1, hs0_2, hs1_2, hs0_3, hs1_3, hs2_3]); have hcW_2_1 : W.cell? ⟨w.heap.size + 1 + 1, 1, none⟩ = some (.int .i64 q) := (by subst hWW; simp [go_sem, hs0_1, hs0_2, hs1_2, hs0_3, hs1_3, hs2_3]); have hcW_2_2 : W.cell? ⟨w.heap.size + 1 + 1, 2, none⟩ = some (.int .i64 r) := (by subst hWW; simp [go_sem, hs0_1, hs0_2, hs1_2, hs0_3, hs1_3, hs2_3]); have hcW_2_3 : W.cell? ⟨w.heap.size + 1 + 1, 3, none⟩ = some (.int .i64 s) := (by subst hWW; simp [go_sem, hs0_1, hs0_2, hs1_2, hs0_3, hs1_3, hs2_3]); clear hWW hs0_1 hs0_2 hs1_2 hs0_3 hs1_3 hs2_3
  have kW_0_0 : ∀ d os, (grow (redrawn W d) os).cell? ⟨w.heap.size, 0, none⟩ = some (.int .i64 a) := cell_regrown hcW_0_0
  have kW_0_1 : ∀ d os, (grow (redrawn W d) os).cell? ⟨w.heap.size, 1, none⟩ = some (.int .i64 b) := cell_regrown hcW_0_1
  have kW_0_2 : ∀ d os, (grow (redrawn W d) os).cell? ⟨w.heap.size, 2, none⟩ = some (.int .i64 c) := cell_regrown hcW_0_2
  have kW_1_0 : ∀ d os, (grow (redrawn W d) os).cell? ⟨w.heap.size + 1, 0, none⟩ = some (.int .i64 a2) := cell_regrown hcW_1_0
  have kW_1_1 : ∀ d os, (grow (redrawn W d) os).cell? ⟨w.heap.size + 1, 1, none⟩ = some (.int .i64 b2) := cell_regrown hcW_1_1
  have kW_1_2 : ∀ d os, (grow (redrawn W d) os).cell? ⟨w.heap.size + 1, 2, none⟩ = some (.int .i64 c2) := cell_regrown hcW_1_2
  have kW_2_0 : ∀ d os, (grow (redrawn W d) os).cell? ⟨w.heap.size + 1 + 1, 0, none⟩ = some (.int .i64 p) := cell_regrown hcW_2_0
  have kW_2_1 : ∀ d os, (grow (redrawn W d) os).cell? ⟨w.heap.size + 1 + 1, 1, none⟩ = some (.int .i64 q) := cell_regrown hcW_2_1
  have kW_2_2 : ∀ d os, (grow (redrawn W d) os).cell? ⟨w.heap.size + 1 + 1, 2, none⟩ = some (.int .i64 r) := cell_regrown hcW_2_2
  have kW_2_3 : ∀ d os, (grow (redrawn W d) os).cell? ⟨w.heap.size + 1 + 1, 3, none⟩ = some (.int .i64 s) := cell_regrown hcW_2_3
  refine wp_region_quiet_below (by kernel_rfl) (by kernel_rfl) ?_
  repeat (first | go_big_quiet_step (first | (go_at_call 54; exact Calls.regrown_of (spec_coGood _ _ _ _)) | (go_at_call 55; exact Calls.regrown_of (below_of_same (spec_odPrime _ _))) | (go_at_call 56; exact Calls.regrown_of (spec_foDisc _ _ _ _)) | (go_at_call 57; exact Calls.regrown_of (spec_foMatrix _ _ _ _ _))) | quiet_step (first | (go_at_call 54; exact Calls.regrown_of (spec_coGood _ _ _ _)) | (go_at_call 55; exact Calls.regrown_of (below_of_same (spec_odPrime _ _))) | (go_at_call 56; exact Calls.regrown_of (spec_foDisc _ _ _ _)) | (go_at_call 57; exact Calls.regrown_of (spec_foMatrix _ _ _ _ _))))
  refine wpQuiet_nil ?_
  intro _ hw'
  obtain ⟨pq, hw''⟩ := hw'
  subst hw''
  have hbW1 := below_regrown W pq.d pq.os
  have hcW1_0_0 := kW_0_0 pq.d pq.os
  have hcW1_0_1 := kW_0_1 pq.d pq.os
  have hcW1_0_2 := kW_0_2 pq.d pq.os
  have hcW1_1_0 := kW_1_0 pq.d pq.os
  have hcW1_1_1 := kW_1_1 pq.d pq.os
  have hcW1_1_2 := kW_1_2 pq.d pq.os
  have hcW1_2_0 := kW_2_0 pq.d pq.os
  have hcW1_2_1 := kW_2_1 pq.d pq.os
  have hcW1_2_2 := kW_2_2 pq.d pq.os
  have hcW1_2_3 := kW_2_3 pq.d pq.os
  clear kW_0_0 kW_0_1 kW_0_2 kW_1_0 kW_1_1 kW_1_2 kW_2_0 kW_2_1 kW_2_2 kW_2_3
  generalize grow (redrawn W pq.d) pq.os = W1 at *
  have hzW1 := hbW1.size
  go_wp2_with fail
  go_ret2
  refine ⟨rfl, ?_⟩
  repeat (first | exact Below.refl _ _ | assumption | refine Below.setCell ?_ (by first | omega | (simp; done) | (simp; omega)) _ | refine Below.alloc ?_ (by first | omega | (simp; done) | (simp; omega)) _ | refine Below.drew ?_ | refine below_drewN ?_ _ | refine Below.trans ?_ (Below.mono (by assumption) (by first | omega | (simp; done) | (simp; omega))))

set_option maxHeartbeats 1000000 in
theorem spec_IsDescent_f5 (a b c a2 b2 c2 p q r s k : Int) (w : World) (h1 : classB a b c = true) (h2 : classB a2 b2 c2 = true) (h3 : odPrimeB k = true) (h4 : (dsc a b c != dsc a2 b2 c2 * k * k) = false) (h5 : matB p q r s = false) (k1 : -1000000 ≤ k) (k2 : k ≤ 1000000) :
    Calls Try.prog 21 #[.agg #[.int .i64 a, .int .i64 b, .int .i64 c], .agg #[.int .i64 a2, .int .i64 b2, .int .i64 c2], .agg #[.int .i64 p, .int .i64 q, .int .i64 r, .int .i64 s], .int .i64 k] w fun e w' => e = .returned (.tuple #[.bool false, .bool false]) ∧ Below w.heap.size w w' := by
  obtain ⟨f1, d1, d2⟩ := class_bd h1
  obtain ⟨f2, d3, d4⟩ := class_bd h2
  have x1 := wrap_dsc f1
  have x2 := wrap_dsc f2
  obtain ⟨x3, x4⟩ := disc_pp d3 (by omega) k1 k2
  clear d1 d2 d3 d4 k1 k2
  go_enter Try.func21, Try.ntmps21
  go_wp2_with fail
  have hs0_1 : w.heap.size < w.heap.size + 1 := (by omega); have hs0_2 : w.heap.size < w.heap.size + 1 + 1 := (by omega); have hs1_2 : w.heap.size + 1 < w.heap.size + 1 + 1 := (by omega); have hs0_3 : w.heap.size < w.heap.size + 1 + 1 + 1 := (by omega); have hs1_3 : w.heap.size + 1 < w.heap.size + 1 + 1 + 1 := (by omega); have hs2_3 : w.heap.size + 1 + 1 < w.heap.size + 1 + 1 + 1 := (by omega); generalize hWW : World.alloc _ _ = W; have hbW : Below w.heap.size w W := (by subst hWW; repeat (first | exact Below.refl _ _ | assumption | refine Below.setCell ?_ (by first | omega | (simp; done) | (simp; omega)) _ | refine Below.alloc ?_ (by first | omega | (simp; done) | (simp; omega)) _ | refine Below.drew ?_ | refine below_drewN ?_ _ | refine Below.trans ?_ (Below.mono (by assumption) (by first | omega | (simp; done) | (simp; omega))))); have hzW : w.heap.size + 3 ≤ W.heap.size := (by subst hWW; simp); have hcW_0_0 : W.cell? ⟨w.heap.size, 0, none⟩ = some (.int .i64 a) := (by subst hWW; simp [go_sem, hs0_1, hs0_2, hs1_2, hs0_3, hs1_3, hs2_3]); have hcW_0_1 : W.cell? ⟨w.heap.size, 1, none⟩ = some (.int .i64 b) := (by subst hWW; simp [go_sem, hs0_1, hs0_2, hs1_2, hs0_3, hs1_3, hs2_3]); have hcW_0_2 : W.cell? ⟨w.heap.size, 2, none⟩ = some (.int .i64 c) := (by subst hWW; simp [go_sem, hs0_1, hs0_2, hs1_2, hs0_3, hs1_3, hs2_3]); have hcW_1_0 : W.cell? ⟨w.heap.size + 1, 0, none⟩ = some (.int .i64 a2) := (by subst hWW; simp [go_sem, hs0_1, hs0_2, hs1_2, hs0_3, hs1_3, hs2_3]); have hcW_1_1 : W.cell? ⟨w.heap.size + 1, 1, none⟩ = some (.int .i64 b2) := (by subst hWW; simp [go_sem, hs0_1, hs0_2, hs1_2, hs0_3, hs1_3, hs2_3]); have hcW_1_2 : W.cell? ⟨w.heap.size + 1, 2, none⟩ = some (.int .i64 c2) := (by subst hWW; simp [go_sem, hs0_1, hs0_2, hs1_2, hs0_3, hs1_3, hs2_3]); have hcW_2_0 : W.cell? ⟨w.heap.size + 1 + 1, 0, none⟩ = some (.int .i64 p) := (by subst hWW; simp [go_sem, hs0_1, hs0_2, hs1_2, hs0_3, hs1_3, hs2_3]); have hcW_2_1 : W.cell? ⟨w.heap.size + 1 + 1, 1, none⟩ = some (.int .i64 q) := (by subst hWW; simp [go_sem, hs0_1, hs0_2, hs1_2, hs0_3, hs1_3, hs2_3]); have hcW_2_2 : W.cell? ⟨w.heap.size + 1 + 1, 2, none⟩ = some (.int .i64 r) := (by subst hWW; simp [go_sem, hs0_1, hs0_2, hs1_2, hs0_3, hs1_3, hs2_3]); have hcW_2_3 : W.cell? ⟨w.heap.size + 1 + 1, 3, none⟩ = some (.int .i64 s) := (by subst hWW; simp [go_sem, hs0_1, hs0_2, hs1_2, hs0_3, hs1_3, hs2_3]); clear hWW hs0_1 hs0_2 hs1_2 hs0_3 hs1_3 hs2_3
  have kW_0_0 : ∀ d os, (grow (redrawn W d) os).cell? ⟨w.heap.size, 0, none⟩ = some (.int .i64 a) := cell_regrown hcW_0_0
  have kW_0_1 : ∀ d os, (grow (redrawn W d) os).cell? ⟨w.heap.size, 1, none⟩ = some (.int .i64 b) := cell_regrown hcW_0_1
  have kW_0_2 : ∀ d os, (grow (redrawn W d) os).cell? ⟨w.heap.size, 2, none⟩ = some (.int .i64 c) := cell_regrown hcW_0_2
  have kW_1_0 : ∀ d os, (grow (redrawn W d) os).cell? ⟨w.heap.size + 1, 0, none⟩ = some (.int .i64 a2) := cell_regrown hcW_1_0
  have kW_1_1 : ∀ d os, (grow (redrawn W d) os).cell? ⟨w.heap.size + 1, 1, none⟩ = some (.int .i64 b2) := cell_regrown hcW_1_1
  have kW_1_2 : ∀ d os, (grow (redrawn W d) os).cell? ⟨w.heap.size + 1, 2, none⟩ = some (.int .i64 c2) := cell_regrown hcW_1_2
  have kW_2_0 : ∀ d os, (grow (redrawn W d) os).cell? ⟨w.heap.size + 1 + 1, 0, none⟩ = some (.int .i64 p) := cell_regrown hcW_2_0
  have kW_2_1 : ∀ d os, (grow (redrawn W d) os).cell? ⟨w.heap.size + 1 + 1, 1, none⟩ = some (.int .i64 q) := cell_regrown hcW_2_1
  have kW_2_2 : ∀ d os, (grow (redrawn W d) os).cell? ⟨w.heap.size + 1 + 1, 2, none⟩ = some (.int .i64 r) := cell_regrown hcW_2_2
  have kW_2_3 : ∀ d os, (grow (redrawn W d) os).cell? ⟨w.heap.size + 1 + 1, 3, none⟩ = some (.int .i64 s) := cell_regrown hcW_2_3
  refine wp_region_quiet_below (by kernel_rfl) (by kernel_rfl) ?_
  repeat (first | go_big_quiet_step (first | (go_at_call 54; exact Calls.regrown_of (spec_coGood _ _ _ _)) | (go_at_call 55; exact Calls.regrown_of (below_of_same (spec_odPrime _ _))) | (go_at_call 56; exact Calls.regrown_of (spec_foDisc _ _ _ _)) | (go_at_call 57; exact Calls.regrown_of (spec_foMatrix _ _ _ _ _))) | quiet_step (first | (go_at_call 54; exact Calls.regrown_of (spec_coGood _ _ _ _)) | (go_at_call 55; exact Calls.regrown_of (below_of_same (spec_odPrime _ _))) | (go_at_call 56; exact Calls.regrown_of (spec_foDisc _ _ _ _)) | (go_at_call 57; exact Calls.regrown_of (spec_foMatrix _ _ _ _ _))))
  refine wpQuiet_nil ?_
  intro _ hw'
  obtain ⟨pq, hw''⟩ := hw'
  subst hw''
  have hbW1 := below_regrown W pq.d pq.os
  have hcW1_0_0 := kW_0_0 pq.d pq.os
  have hcW1_0_1 := kW_0_1 pq.d pq.os
  have hcW1_0_2 := kW_0_2 pq.d pq.os
  have hcW1_1_0 := kW_1_0 pq.d pq.os
  have hcW1_1_1 := kW_1_1 pq.d pq.os
  have hcW1_1_2 := kW_1_2 pq.d pq.os
  have hcW1_2_0 := kW_2_0 pq.d pq.os
  have hcW1_2_1 := kW_2_1 pq.d pq.os
  have hcW1_2_2 := kW_2_2 pq.d pq.os
  have hcW1_2_3 := kW_2_3 pq.d pq.os
  clear kW_0_0 kW_0_1 kW_0_2 kW_1_0 kW_1_1 kW_1_2 kW_2_0 kW_2_1 kW_2_2 kW_2_3
  generalize grow (redrawn W pq.d) pq.os = W1 at *
  have hzW1 := hbW1.size
  go_wp2_with fail
  go_ret2
  refine ⟨rfl, ?_⟩
  repeat (first | exact Below.refl _ _ | assumption | refine Below.setCell ?_ (by first | omega | (simp; done) | (simp; omega)) _ | refine Below.alloc ?_ (by first | omega | (simp; done) | (simp; omega)) _ | refine Below.drew ?_ | refine below_drewN ?_ _ | refine Below.trans ?_ (Below.mono (by assumption) (by first | omega | (simp; done) | (simp; omega))))

set_option maxHeartbeats 1000000 in
theorem impl_IsDescent_1 (a b c a2 b2 c2 p q r s k : Int) (w : World) (h1 : classB a b c = true) (h2 : classB a2 b2 c2 = true) (h3 : (numB k && isPrimeB k) = true) (h4 : (dsc a b c != dsc a2 b2 c2 * k * k) = false) (h5 : matB p q r s = true) (k1 : -1000000 ≤ k) (k2 : k ≤ 1000000) :
    Calls Try.prog 24 #[.agg #[.int .i64 a, .int .i64 b, .int .i64 c], .agg #[.int .i64 a2, .int .i64 b2, .int .i64 c2], .agg #[.int .i64 p, .int .i64 q, .int .i64 r, .int .i64 s], .int .i64 k] w fun e w' => e = .returned (.tuple #[.bool (descYes a b c a2 b2 c2 p q r s k), .bool true]) ∧ Below w.heap.size w w' := by
  obtain ⟨f1, d1, d2⟩ := class_bd h1
  obtain ⟨f2, d3, d4⟩ := class_bd h2
  have x1 := wrap_dsc f1
  have x2 := wrap_dsc f2
  obtain ⟨x3, x4⟩ := disc_pp d3 (by omega) k1 k2
  have x5 := det_w h5
  obtain ⟨x6, x7, x8⟩ := act_w f2 h5
  clear d1 d2 d3 d4 k1 k2
  unfold descYes
  cases y1 : (p * s - q * r == k)
  · go_enter Try.func24, Try.ntmps24
    go_wp2_with fail
    have hs0_1 : w.heap.size < w.heap.size + 1 := (by omega); have hs0_2 : w.heap.size < w.heap.size + 1 + 1 := (by omega); have hs1_2 : w.heap.size + 1 < w.heap.size + 1 + 1 := (by omega); have hs0_3 : w.heap.size < w.heap.size + 1 + 1 + 1 := (by omega); have hs1_3 : w.heap.size + 1 < w.heap.size + 1 + 1 + 1 := (by omega); have hs2_3 : w.heap.size + 1 + 1 < w.heap.size + 1 + 1 + 1 := (by omega); generalize hWW : World.alloc _ _ = W; have hbW : Below w.heap.size w W := (by subst hWW; repeat (first | exact Below.refl _ _ | assumption | refine Below.setCell ?_ (by first | omega | (simp; done) | (simp; omega)) _ | refine Below.alloc ?_ (by first | omega | (simp; done) | (simp; omega)) _ | refine Below.drew ?_ | refine below_drewN ?_ _ | refine Below.trans ?_ (Below.mono (by assumption) (by first | omega | (simp; done) | (simp; omega))))); have hzW : w.heap.size + 3 ≤ W.heap.size := (by subst hWW; simp); have hcW_0_0 : W.cell? ⟨w.heap.size, 0, none⟩ = some (.int .i64 a) := (by subst hWW; simp [go_sem, hs0_1, hs0_2, hs1_2, hs0_3, hs1_3, hs2_3]); have hcW_0_1 : W.cell? ⟨w.heap.size, 1, none⟩ = some (.int .i64 b) := (by subst hWW; simp [go_sem, hs0_1, hs0_2, hs1_2, hs0_3, hs1_3, hs2_3]); have hcW_0_2 : W.cell? ⟨w.heap.size, 2, none⟩ = some (.int .i64 c) := (by subst hWW; simp [go_sem, hs0_1, hs0_2, hs1_2, hs0_3, hs1_3, hs2_3]); have hcW_1_0 : W.cell? ⟨w.heap.size + 1, 0, none⟩ = some (.int .i64 a2) := (by subst hWW; simp [go_sem, hs0_1, hs0_2, hs1_2, hs0_3, hs1_3, hs2_3]); have hcW_1_1 : W.cell? ⟨w.heap.size + 1, 1, none⟩ = some (.int .i64 b2) := (by subst hWW; simp [go_sem, hs0_1, hs0_2, hs1_2, hs0_3, hs1_3, hs2_3]); have hcW_1_2 : W.cell? ⟨w.heap.size + 1, 2, none⟩ = some (.int .i64 c2) := (by subst hWW; simp [go_sem, hs0_1, hs0_2, hs1_2, hs0_3, hs1_3, hs2_3]); have hcW_2_0 : W.cell? ⟨w.heap.size + 1 + 1, 0, none⟩ = some (.int .i64 p) := (by subst hWW; simp [go_sem, hs0_1, hs0_2, hs1_2, hs0_3, hs1_3, hs2_3]); have hcW_2_1 : W.cell? ⟨w.heap.size + 1 + 1, 1, none⟩ = some (.int .i64 q) := (by subst hWW; simp [go_sem, hs0_1, hs0_2, hs1_2, hs0_3, hs1_3, hs2_3]); have hcW_2_2 : W.cell? ⟨w.heap.size + 1 + 1, 2, none⟩ = some (.int .i64 r) := (by subst hWW; simp [go_sem, hs0_1, hs0_2, hs1_2, hs0_3, hs1_3, hs2_3]); have hcW_2_3 : W.cell? ⟨w.heap.size + 1 + 1, 3, none⟩ = some (.int .i64 s) := (by subst hWW; simp [go_sem, hs0_1, hs0_2, hs1_2, hs0_3, hs1_3, hs2_3]); clear hWW hs0_1 hs0_2 hs1_2 hs0_3 hs1_3 hs2_3
    have kW_0_0 : ∀ d os, (grow (redrawn W d) os).cell? ⟨w.heap.size, 0, none⟩ = some (.int .i64 a) := cell_regrown hcW_0_0
    have kW_0_1 : ∀ d os, (grow (redrawn W d) os).cell? ⟨w.heap.size, 1, none⟩ = some (.int .i64 b) := cell_regrown hcW_0_1
    have kW_0_2 : ∀ d os, (grow (redrawn W d) os).cell? ⟨w.heap.size, 2, none⟩ = some (.int .i64 c) := cell_regrown hcW_0_2
    have kW_1_0 : ∀ d os, (grow (redrawn W d) os).cell? ⟨w.heap.size + 1, 0, none⟩ = some (.int .i64 a2) := cell_regrown hcW_1_0
    have kW_1_1 : ∀ d os, (grow (redrawn W d) os).cell? ⟨w.heap.size + 1, 1, none⟩ = some (.int .i64 b2) := cell_regrown hcW_1_1
    have kW_1_2 : ∀ d os, (grow (redrawn W d) os).cell? ⟨w.heap.size + 1, 2, none⟩ = some (.int .i64 c2) := cell_regrown hcW_1_2
    have kW_2_0 : ∀ d os, (grow (redrawn W d) os).cell? ⟨w.heap.size + 1 + 1, 0, none⟩ = some (.int .i64 p) := cell_regrown hcW_2_0
    have kW_2_1 : ∀ d os, (grow (redrawn W d) os).cell? ⟨w.heap.size + 1 + 1, 1, none⟩ = some (.int .i64 q) := cell_regrown hcW_2_1
    have kW_2_2 : ∀ d os, (grow (redrawn W d) os).cell? ⟨w.heap.size + 1 + 1, 2, none⟩ = some (.int .i64 r) := cell_regrown hcW_2_2
    have kW_2_3 : ∀ d os, (grow (redrawn W d) os).cell? ⟨w.heap.size + 1 + 1, 3, none⟩ = some (.int .i64 s) := cell_regrown hcW_2_3
    refine wp_region_quiet_below (by kernel_rfl) (by kernel_rfl) ?_
    repeat (first | go_big_quiet_step (first | (go_at_call 60; exact Calls.regrown_of (impl_isClassForm _ _ _ _)) | (go_at_call 62; exact Calls.regrown_of (impl_IsPrime _ _)) | (go_at_call 63; exact Calls.regrown_of (impl_Form_disc _ _ _ _)) | (go_at_call 61; exact Calls.regrown_of (impl_IsMatrix _ _ _ _ _))) | quiet_step (first | (go_at_call 60; exact Calls.regrown_of (impl_isClassForm _ _ _ _)) | (go_at_call 62; exact Calls.regrown_of (impl_IsPrime _ _)) | (go_at_call 63; exact Calls.regrown_of (impl_Form_disc _ _ _ _)) | (go_at_call 61; exact Calls.regrown_of (impl_IsMatrix _ _ _ _ _))))
    refine wpQuiet_nil ?_
    intro _ hw'
    obtain ⟨pq, hw''⟩ := hw'
    subst hw''
    have hbW1 := below_regrown W pq.d pq.os
    have hcW1_0_0 := kW_0_0 pq.d pq.os
    have hcW1_0_1 := kW_0_1 pq.d pq.os
    have hcW1_0_2 := kW_0_2 pq.d pq.os
    have hcW1_1_0 := kW_1_0 pq.d pq.os
    have hcW1_1_1 := kW_1_1 pq.d pq.os
    have hcW1_1_2 := kW_1_2 pq.d pq.os
    have hcW1_2_0 := kW_2_0 pq.d pq.os
    have hcW1_2_1 := kW_2_1 pq.d pq.os
    have hcW1_2_2 := kW_2_2 pq.d pq.os
    have hcW1_2_3 := kW_2_3 pq.d pq.os
    clear kW_0_0 kW_0_1 kW_0_2 kW_1_0 kW_1_1 kW_1_2 kW_2_0 kW_2_1 kW_2_2 kW_2_3
    generalize grow (redrawn W pq.d) pq.os = W1 at *
    have hzW1 := hbW1.size
    go_wp2_with fail
    have kW1_0_0 : ∀ d os, (grow (redrawn W1 d) os).cell? ⟨w.heap.size, 0, none⟩ = some (.int .i64 a) := cell_regrown hcW1_0_0
    have kW1_0_1 : ∀ d os, (grow (redrawn W1 d) os).cell? ⟨w.heap.size, 1, none⟩ = some (.int .i64 b) := cell_regrown hcW1_0_1
    have kW1_0_2 : ∀ d os, (grow (redrawn W1 d) os).cell? ⟨w.heap.size, 2, none⟩ = some (.int .i64 c) := cell_regrown hcW1_0_2
    have kW1_1_0 : ∀ d os, (grow (redrawn W1 d) os).cell? ⟨w.heap.size + 1, 0, none⟩ = some (.int .i64 a2) := cell_regrown hcW1_1_0
    have kW1_1_1 : ∀ d os, (grow (redrawn W1 d) os).cell? ⟨w.heap.size + 1, 1, none⟩ = some (.int .i64 b2) := cell_regrown hcW1_1_1
    have kW1_1_2 : ∀ d os, (grow (redrawn W1 d) os).cell? ⟨w.heap.size + 1, 2, none⟩ = some (.int .i64 c2) := cell_regrown hcW1_1_2
    have kW1_2_0 : ∀ d os, (grow (redrawn W1 d) os).cell? ⟨w.heap.size + 1 + 1, 0, none⟩ = some (.int .i64 p) := cell_regrown hcW1_2_0
    have kW1_2_1 : ∀ d os, (grow (redrawn W1 d) os).cell? ⟨w.heap.size + 1 + 1, 1, none⟩ = some (.int .i64 q) := cell_regrown hcW1_2_1
    have kW1_2_2 : ∀ d os, (grow (redrawn W1 d) os).cell? ⟨w.heap.size + 1 + 1, 2, none⟩ = some (.int .i64 r) := cell_regrown hcW1_2_2
    have kW1_2_3 : ∀ d os, (grow (redrawn W1 d) os).cell? ⟨w.heap.size + 1 + 1, 3, none⟩ = some (.int .i64 s) := cell_regrown hcW1_2_3
    refine wp_region_quiet_below (by kernel_rfl) (by kernel_rfl) ?_
    repeat (first | go_big_quiet_step (first | (go_at_call 64; exact Calls.regrown_of (impl_Matrix_det _ _ _ _ _)) | (go_at_call 65; exact Calls.regrown_of (impl_Form_substitute _ _ _ _ _ _ _ _))) | quiet_step (first | (go_at_call 64; exact Calls.regrown_of (impl_Matrix_det _ _ _ _ _)) | (go_at_call 65; exact Calls.regrown_of (impl_Form_substitute _ _ _ _ _ _ _ _))))
    refine wpQuiet_nil ?_
    intro _ hw'
    obtain ⟨pq, hw''⟩ := hw'
    subst hw''
    have hbW2 := below_regrown W1 pq.d pq.os
    have hcW2_0_0 := kW1_0_0 pq.d pq.os
    have hcW2_0_1 := kW1_0_1 pq.d pq.os
    have hcW2_0_2 := kW1_0_2 pq.d pq.os
    have hcW2_1_0 := kW1_1_0 pq.d pq.os
    have hcW2_1_1 := kW1_1_1 pq.d pq.os
    have hcW2_1_2 := kW1_1_2 pq.d pq.os
    have hcW2_2_0 := kW1_2_0 pq.d pq.os
    have hcW2_2_1 := kW1_2_1 pq.d pq.os
    have hcW2_2_2 := kW1_2_2 pq.d pq.os
    have hcW2_2_3 := kW1_2_3 pq.d pq.os
    clear kW1_0_0 kW1_0_1 kW1_0_2 kW1_1_0 kW1_1_1 kW1_1_2 kW1_2_0 kW1_2_1 kW1_2_2 kW1_2_3
    generalize grow (redrawn W1 pq.d) pq.os = W2 at *
    have hzW2 := hbW2.size
    go_wp2_with fail
    go_ret2
    refine ⟨rfl, ?_⟩
    repeat (first | exact Below.refl _ _ | assumption | refine Below.setCell ?_ (by first | omega | (simp; done) | (simp; omega)) _ | refine Below.alloc ?_ (by first | omega | (simp; done) | (simp; omega)) _ | refine Below.drew ?_ | refine below_drewN ?_ _ | refine Below.trans ?_ (Below.mono (by assumption) (by first | omega | (simp; done) | (simp; omega))))
  · go_enter Try.func24, Try.ntmps24
    go_wp2_with fail
    have hs0_1 : w.heap.size < w.heap.size + 1 := (by omega); have hs0_2 : w.heap.size < w.heap.size + 1 + 1 := (by omega); have hs1_2 : w.heap.size + 1 < w.heap.size + 1 + 1 := (by omega); have hs0_3 : w.heap.size < w.heap.size + 1 + 1 + 1 := (by omega); have hs1_3 : w.heap.size + 1 < w.heap.size + 1 + 1 + 1 := (by omega); have hs2_3 : w.heap.size + 1 + 1 < w.heap.size + 1 + 1 + 1 := (by omega); generalize hWW : World.alloc _ _ = W; have hbW : Below w.heap.size w W := (by subst hWW; repeat (first | exact Below.refl _ _ | assumption | refine Below.setCell ?_ (by first | omega | (simp; done) | (simp; omega)) _ | refine Below.alloc ?_ (by first | omega | (simp; done) | (simp; omega)) _ | refine Below.drew ?_ | refine below_drewN ?_ _ | refine Below.trans ?_ (Below.mono (by assumption) (by first | omega | (simp; done) | (simp; omega))))); have hzW : w.heap.size + 3 ≤ W.heap.size := (by subst hWW; simp); have hcW_0_0 : W.cell? ⟨w.heap.size, 0, none⟩ = some (.int .i64 a) := (by subst hWW; simp [go_sem, hs0_1, hs0_2, hs1_2, hs0_3, hs1_3, hs2_3]); have hcW_0_1 : W.cell? ⟨w.heap.size, 1, none⟩ = some (.int .i64 b) := (by subst hWW; simp [go_sem, hs0_1, hs0_2, hs1_2, hs0_3, hs1_3, hs2_3]); have hcW_0_2 : W.cell? ⟨w.heap.size, 2, none⟩ = some (.int .i64 c) := (by subst hWW; simp [go_sem, hs0_1, hs0_2, hs1_2, hs0_3, hs1_3, hs2_3]); have hcW_1_0 : W.cell? ⟨w.heap.size + 1, 0, none⟩ = some (.int .i64 a2) := (by subst hWW; simp [go_sem, hs0_1, hs0_2, hs1_2, hs0_3, hs1_3, hs2_3]); have hcW_1_1 : W.cell? ⟨w.heap.size + 1, 1, none⟩ = some (.int .i64 b2) := (by subst hWW; simp [go_sem, hs0_1, hs0_2, hs1_2, hs0_3, hs1_3, hs2_3]); have hcW_1_2 : W.cell? ⟨w.heap.size + 1, 2, none⟩ = some (.int .i64 c2) := (by subst hWW; simp [go_sem, hs0_1, hs0_2, hs1_2, hs0_3, hs1_3, hs2_3]); have hcW_2_0 : W.cell? ⟨w.heap.size + 1 + 1, 0, none⟩ = some (.int .i64 p) := (by subst hWW; simp [go_sem, hs0_1, hs0_2, hs1_2, hs0_3, hs1_3, hs2_3]); have hcW_2_1 : W.cell? ⟨w.heap.size + 1 + 1, 1, none⟩ = some (.int .i64 q) := (by subst hWW; simp [go_sem, hs0_1, hs0_2, hs1_2, hs0_3, hs1_3, hs2_3]); have hcW_2_2 : W.cell? ⟨w.heap.size + 1 + 1, 2, none⟩ = some (.int .i64 r) := (by subst hWW; simp [go_sem, hs0_1, hs0_2, hs1_2, hs0_3, hs1_3, hs2_3]); have hcW_2_3 : W.cell? ⟨w.heap.size + 1 + 1, 3, none⟩ = some (.int .i64 s) := (by subst hWW; simp [go_sem, hs0_1, hs0_2, hs1_2, hs0_3, hs1_3, hs2_3]); clear hWW hs0_1 hs0_2 hs1_2 hs0_3 hs1_3 hs2_3
    have kW_0_0 : ∀ d os, (grow (redrawn W d) os).cell? ⟨w.heap.size, 0, none⟩ = some (.int .i64 a) := cell_regrown hcW_0_0
    have kW_0_1 : ∀ d os, (grow (redrawn W d) os).cell? ⟨w.heap.size, 1, none⟩ = some (.int .i64 b) := cell_regrown hcW_0_1
    have kW_0_2 : ∀ d os, (grow (redrawn W d) os).cell? ⟨w.heap.size, 2, none⟩ = some (.int .i64 c) := cell_regrown hcW_0_2
    have kW_1_0 : ∀ d os, (grow (redrawn W d) os).cell? ⟨w.heap.size + 1, 0, none⟩ = some (.int .i64 a2) := cell_regrown hcW_1_0
    have kW_1_1 : ∀ d os, (grow (redrawn W d) os).cell? ⟨w.heap.size + 1, 1, none⟩ = some (.int .i64 b2) := cell_regrown hcW_1_1
    have kW_1_2 : ∀ d os, (grow (redrawn W d) os).cell? ⟨w.heap.size + 1, 2, none⟩ = some (.int .i64 c2) := cell_regrown hcW_1_2
    have kW_2_0 : ∀ d os, (grow (redrawn W d) os).cell? ⟨w.heap.size + 1 + 1, 0, none⟩ = some (.int .i64 p) := cell_regrown hcW_2_0
    have kW_2_1 : ∀ d os, (grow (redrawn W d) os).cell? ⟨w.heap.size + 1 + 1, 1, none⟩ = some (.int .i64 q) := cell_regrown hcW_2_1
    have kW_2_2 : ∀ d os, (grow (redrawn W d) os).cell? ⟨w.heap.size + 1 + 1, 2, none⟩ = some (.int .i64 r) := cell_regrown hcW_2_2
    have kW_2_3 : ∀ d os, (grow (redrawn W d) os).cell? ⟨w.heap.size + 1 + 1, 3, none⟩ = some (.int .i64 s) := cell_regrown hcW_2_3
    refine wp_region_quiet_below (by kernel_rfl) (by kernel_rfl) ?_
    repeat (first | go_big_quiet_step (first | (go_at_call 60; exact Calls.regrown_of (impl_isClassForm _ _ _ _)) | (go_at_call 62; exact Calls.regrown_of (impl_IsPrime _ _)) | (go_at_call 63; exact Calls.regrown_of (impl_Form_disc _ _ _ _)) | (go_at_call 61; exact Calls.regrown_of (impl_IsMatrix _ _ _ _ _))) | quiet_step (first | (go_at_call 60; exact Calls.regrown_of (impl_isClassForm _ _ _ _)) | (go_at_call 62; exact Calls.regrown_of (impl_IsPrime _ _)) | (go_at_call 63; exact Calls.regrown_of (impl_Form_disc _ _ _ _)) | (go_at_call 61; exact Calls.regrown_of (impl_IsMatrix _ _ _ _ _))))
    refine wpQuiet_nil ?_
    intro _ hw'
    obtain ⟨pq, hw''⟩ := hw'
    subst hw''
    have hbW1 := below_regrown W pq.d pq.os
    have hcW1_0_0 := kW_0_0 pq.d pq.os
    have hcW1_0_1 := kW_0_1 pq.d pq.os
    have hcW1_0_2 := kW_0_2 pq.d pq.os
    have hcW1_1_0 := kW_1_0 pq.d pq.os
    have hcW1_1_1 := kW_1_1 pq.d pq.os
    have hcW1_1_2 := kW_1_2 pq.d pq.os
    have hcW1_2_0 := kW_2_0 pq.d pq.os
    have hcW1_2_1 := kW_2_1 pq.d pq.os
    have hcW1_2_2 := kW_2_2 pq.d pq.os
    have hcW1_2_3 := kW_2_3 pq.d pq.os
    clear kW_0_0 kW_0_1 kW_0_2 kW_1_0 kW_1_1 kW_1_2 kW_2_0 kW_2_1 kW_2_2 kW_2_3
    generalize grow (redrawn W pq.d) pq.os = W1 at *
    have hzW1 := hbW1.size
    go_wp2_with fail
    have kW1_0_0 : ∀ d os, (grow (redrawn W1 d) os).cell? ⟨w.heap.size, 0, none⟩ = some (.int .i64 a) := cell_regrown hcW1_0_0
    have kW1_0_1 : ∀ d os, (grow (redrawn W1 d) os).cell? ⟨w.heap.size, 1, none⟩ = some (.int .i64 b) := cell_regrown hcW1_0_1
    have kW1_0_2 : ∀ d os, (grow (redrawn W1 d) os).cell? ⟨w.heap.size, 2, none⟩ = some (.int .i64 c) := cell_regrown hcW1_0_2
    have kW1_1_0 : ∀ d os, (grow (redrawn W1 d) os).cell? ⟨w.heap.size + 1, 0, none⟩ = some (.int .i64 a2) := cell_regrown hcW1_1_0
    have kW1_1_1 : ∀ d os, (grow (redrawn W1 d) os).cell? ⟨w.heap.size + 1, 1, none⟩ = some (.int .i64 b2) := cell_regrown hcW1_1_1
    have kW1_1_2 : ∀ d os, (grow (redrawn W1 d) os).cell? ⟨w.heap.size + 1, 2, none⟩ = some (.int .i64 c2) := cell_regrown hcW1_1_2
    have kW1_2_0 : ∀ d os, (grow (redrawn W1 d) os).cell? ⟨w.heap.size + 1 + 1, 0, none⟩ = some (.int .i64 p) := cell_regrown hcW1_2_0
    have kW1_2_1 : ∀ d os, (grow (redrawn W1 d) os).cell? ⟨w.heap.size + 1 + 1, 1, none⟩ = some (.int .i64 q) := cell_regrown hcW1_2_1
    have kW1_2_2 : ∀ d os, (grow (redrawn W1 d) os).cell? ⟨w.heap.size + 1 + 1, 2, none⟩ = some (.int .i64 r) := cell_regrown hcW1_2_2
    have kW1_2_3 : ∀ d os, (grow (redrawn W1 d) os).cell? ⟨w.heap.size + 1 + 1, 3, none⟩ = some (.int .i64 s) := cell_regrown hcW1_2_3
    refine wp_region_quiet_below (by kernel_rfl) (by kernel_rfl) ?_
    repeat (first | go_big_quiet_step (first | (go_at_call 64; exact Calls.regrown_of (impl_Matrix_det _ _ _ _ _)) | (go_at_call 65; exact Calls.regrown_of (impl_Form_substitute _ _ _ _ _ _ _ _))) | quiet_step (first | (go_at_call 64; exact Calls.regrown_of (impl_Matrix_det _ _ _ _ _)) | (go_at_call 65; exact Calls.regrown_of (impl_Form_substitute _ _ _ _ _ _ _ _))))
    refine wpQuiet_nil ?_
    intro _ hw'
    obtain ⟨pq, hw''⟩ := hw'
    subst hw''
    have hbW2 := below_regrown W1 pq.d pq.os
    have hcW2_0_0 := kW1_0_0 pq.d pq.os
    have hcW2_0_1 := kW1_0_1 pq.d pq.os
    have hcW2_0_2 := kW1_0_2 pq.d pq.os
    have hcW2_1_0 := kW1_1_0 pq.d pq.os
    have hcW2_1_1 := kW1_1_1 pq.d pq.os
    have hcW2_1_2 := kW1_1_2 pq.d pq.os
    have hcW2_2_0 := kW1_2_0 pq.d pq.os
    have hcW2_2_1 := kW1_2_1 pq.d pq.os
    have hcW2_2_2 := kW1_2_2 pq.d pq.os
    have hcW2_2_3 := kW1_2_3 pq.d pq.os
    clear kW1_0_0 kW1_0_1 kW1_0_2 kW1_1_0 kW1_1_1 kW1_1_2 kW1_2_0 kW1_2_1 kW1_2_2 kW1_2_3
    generalize grow (redrawn W1 pq.d) pq.os = W2 at *
    have hzW2 := hbW2.size
    go_wp2_with fail
    go_ret2
    refine ⟨rfl, ?_⟩
    repeat (first | exact Below.refl _ _ | assumption | refine Below.setCell ?_ (by first | omega | (simp; done) | (simp; omega)) _ | refine Below.alloc ?_ (by first | omega | (simp; done) | (simp; omega)) _ | refine Below.drew ?_ | refine below_drewN ?_ _ | refine Below.trans ?_ (Below.mono (by assumption) (by first | omega | (simp; done) | (simp; omega))))

set_option maxHeartbeats 1000000 in
theorem impl_IsDescent_f1 (a b c a2 b2 c2 p q r s k : Int) (w : World) (h1 : classB a b c = false) :
    Calls Try.prog 24 #[.agg #[.int .i64 a, .int .i64 b, .int .i64 c], .agg #[.int .i64 a2, .int .i64 b2, .int .i64 c2], .agg #[.int .i64 p, .int .i64 q, .int .i64 r, .int .i64 s], .int .i64 k] w fun e w' => e = .returned (.tuple #[.bool false, .bool false]) ∧ Below w.heap.size w w' := by
  go_enter Try.func24, Try.ntmps24
  go_wp2_with fail
  have hs0_1 : w.heap.size < w.heap.size + 1 := (by omega); have hs0_2 : w.heap.size < w.heap.size + 1 + 1 := (by omega); have hs1_2 : w.heap.size + 1 < w.heap.size + 1 + 1 := (by omega); have hs0_3 : w.heap.size < w.heap.size + 1 + 1 + 1 := (by omega); have hs1_3 : w.heap.size + 1 < w.heap.size + 1 + 1 + 1 := (by omega); have hs2_3 : w.heap.size + 1 + 1 < w.heap.size + 1 + 1 + 1 := (by omega); generalize hWW : World.alloc _ _ = W; have hbW : Below w.heap.size w W := (by subst hWW; repeat (first | exact Below.refl _ _ | assumption | refine Below.setCell ?_ (by first | omega | (simp; done) | (simp; omega)) _ | refine Below.alloc ?_ (by first | omega | (simp; done) | (simp; omega)) _ | refine Below.drew ?_ | refine below_drewN ?_ _ | refine Below.trans ?_ (Below.mono (by assumption) (by first | omega | (simp; done) | (simp; omega))))); have hzW : w.heap.size + 3 ≤ W.heap.size := (by subst hWW; simp); have hcW_0_0 : W.cell? ⟨w.heap.size, 0, none⟩ = some (.int .i64 a) := (by subst hWW; simp [go_sem, hs0_1, hs0_2, hs1_2, hs0_3, hs1_3, hs2_3]); have hcW_0_1 : W.cell? ⟨w.heap.size, 1, none⟩ = some (.int .i64 b) := (by subst hWW; simp [go_sem, hs0_1, hs0_2, hs1_2, hs0_3, hs1_3, hs2_3]); have hcW_0_2 : W.cell? ⟨w.heap.size, 2, none⟩ = some (.int .i64 c) := (by subst hWW; simp [go_sem, hs0_1, hs0_2, hs1_2, hs0_3, hs1_3, hs2_3]); have hcW_1_0 : W.cell? ⟨w.heap.size + 1, 0, none⟩ = some (.int .i64 a2) := (by subst hWW; simp [go_sem, hs0_1, hs0_2, hs1_2, hs0_3, hs1_3, hs2_3]); have hcW_1_1 : W.cell? ⟨w.heap.size + 1, 1, none⟩ = some (.int .i64 b2) := (by subst hWW; simp [go_sem, hs0_1, hs0_2, hs1_2, hs0_3, hs1_3, hs2_3]); have hcW_1_2 : W.cell? ⟨w.heap.size + 1, 2, none⟩ = some (.int .i64 c2) := (by subst hWW; simp [go_sem, hs0_1, hs0_2, hs1_2, hs0_3, hs1_3, hs2_3]); have hcW_2_0 : W.cell? ⟨w.heap.size + 1 + 1, 0, none⟩ = some (.int .i64 p) := (by subst hWW; simp [go_sem, hs0_1, hs0_2, hs1_2, hs0_3, hs1_3, hs2_3]); have hcW_2_1 : W.cell? ⟨w.heap.size + 1 + 1, 1, none⟩ = some (.int .i64 q) := (by subst hWW; simp [go_sem, hs0_1, hs0_2, hs1_2, hs0_3, hs1_3, hs2_3]); have hcW_2_2 : W.cell? ⟨w.heap.size + 1 + 1, 2, none⟩ = some (.int .i64 r) := (by subst hWW; simp [go_sem, hs0_1, hs0_2, hs1_2, hs0_3, hs1_3, hs2_3]); have hcW_2_3 : W.cell? ⟨w.heap.size + 1 + 1, 3, none⟩ = some (.int .i64 s) := (by subst hWW; simp [go_sem, hs0_1, hs0_2, hs1_2, hs0_3, hs1_3, hs2_3]); clear hWW hs0_1 hs0_2 hs1_2 hs0_3 hs1_3 hs2_3
  have kW_0_0 : ∀ d os, (grow (redrawn W d) os).cell? ⟨w.heap.size, 0, none⟩ = some (.int .i64 a) := cell_regrown hcW_0_0
  have kW_0_1 : ∀ d os, (grow (redrawn W d) os).cell? ⟨w.heap.size, 1, none⟩ = some (.int .i64 b) := cell_regrown hcW_0_1
  have kW_0_2 : ∀ d os, (grow (redrawn W d) os).cell? ⟨w.heap.size, 2, none⟩ = some (.int .i64 c) := cell_regrown hcW_0_2
  have kW_1_0 : ∀ d os, (grow (redrawn W d) os).cell? ⟨w.heap.size + 1, 0, none⟩ = some (.int .i64 a2) := cell_regrown hcW_1_0
  have kW_1_1 : ∀ d os, (grow (redrawn W d) os).cell? ⟨w.heap.size + 1, 1, none⟩ = some (.int .i64 b2) := cell_regrown hcW_1_1
  have kW_1_2 : ∀ d os, (grow (redrawn W d) os).cell? ⟨w.heap.size + 1, 2, none⟩ = some (.int .i64 c2) := cell_regrown hcW_1_2
  have kW_2_0 : ∀ d os, (grow (redrawn W d) os).cell? ⟨w.heap.size + 1 + 1, 0, none⟩ = some (.int .i64 p) := cell_regrown hcW_2_0
  have kW_2_1 : ∀ d os, (grow (redrawn W d) os).cell? ⟨w.heap.size + 1 + 1, 1, none⟩ = some (.int .i64 q) := cell_regrown hcW_2_1
  have kW_2_2 : ∀ d os, (grow (redrawn W d) os).cell? ⟨w.heap.size + 1 + 1, 2, none⟩ = some (.int .i64 r) := cell_regrown hcW_2_2
  have kW_2_3 : ∀ d os, (grow (redrawn W d) os).cell? ⟨w.heap.size + 1 + 1, 3, none⟩ = some (.int .i64 s) := cell_regrown hcW_2_3
  refine wp_region_quiet_below (by kernel_rfl) (by kernel_rfl) ?_
  repeat (first | go_big_quiet_step (first | (go_at_call 60; exact Calls.regrown_of (impl_isClassForm _ _ _ _)) | (go_at_call 62; exact Calls.regrown_of (impl_IsPrime _ _)) | (go_at_call 63; exact Calls.regrown_of (impl_Form_disc _ _ _ _)) | (go_at_call 61; exact Calls.regrown_of (impl_IsMatrix _ _ _ _ _))) | quiet_step (first | (go_at_call 60; exact Calls.regrown_of (impl_isClassForm _ _ _ _)) | (go_at_call 62; exact Calls.regrown_of (impl_IsPrime _ _)) | (go_at_call 63; exact Calls.regrown_of (impl_Form_disc _ _ _ _)) | (go_at_call 61; exact Calls.regrown_of (impl_IsMatrix _ _ _ _ _))))
  refine wpQuiet_nil ?_
  intro _ hw'
  obtain ⟨pq, hw''⟩ := hw'
  subst hw''
  have hbW1 := below_regrown W pq.d pq.os
  have hcW1_0_0 := kW_0_0 pq.d pq.os
  have hcW1_0_1 := kW_0_1 pq.d pq.os
  have hcW1_0_2 := kW_0_2 pq.d pq.os
  have hcW1_1_0 := kW_1_0 pq.d pq.os
  have hcW1_1_1 := kW_1_1 pq.d pq.os
  have hcW1_1_2 := kW_1_2 pq.d pq.os
  have hcW1_2_0 := kW_2_0 pq.d pq.os
  have hcW1_2_1 := kW_2_1 pq.d pq.os
  have hcW1_2_2 := kW_2_2 pq.d pq.os
  have hcW1_2_3 := kW_2_3 pq.d pq.os
  clear kW_0_0 kW_0_1 kW_0_2 kW_1_0 kW_1_1 kW_1_2 kW_2_0 kW_2_1 kW_2_2 kW_2_3
  generalize grow (redrawn W pq.d) pq.os = W1 at *
  have hzW1 := hbW1.size
  go_wp2_with fail
  go_ret2
  refine ⟨rfl, ?_⟩
  repeat (first | exact Below.refl _ _ | assumption | refine Below.setCell ?_ (by first | omega | (simp; done) | (simp; omega)) _ | refine Below.alloc ?_ (by first | omega | (simp; done) | (simp; omega)) _ | refine Below.drew ?_ | refine below_drewN ?_ _ | refine Below.trans ?_ (Below.mono (by assumption) (by first | omega | (simp; done) | (simp; omega))))

set_option maxHeartbeats 1000000 in
theorem impl_IsDescent_f2 (a b c a2 b2 c2 p q r s k : Int) (w : World) (h1 : classB a b c = true) (h2 : classB a2 b2 c2 = false) :
    Calls Try.prog 24 #[.agg #[.int .i64 a, .int .i64 b, .int .i64 c], .agg #[.int .i64 a2, .int .i64 b2, .int .i64 c2], .agg #[.int .i64 p, .int .i64 q, .int .i64 r, .int .i64 s], .int .i64 k] w fun e w' => e = .returned (.tuple #[.bool false, .bool false]) ∧ Below w.heap.size w w' := by
  go_enter Try.func24, Try.ntmps24
  go_wp2_with fail
  have hs0_1 : w.heap.size < w.heap.size + 1 := (by omega); have hs0_2 : w.heap.size < w.heap.size + 1 + 1 := (by omega); have hs1_2 : w.heap.size + 1 < w.heap.size + 1 + 1 := (by omega); have hs0_3 : w.heap.size < w.heap.size + 1 + 1 + 1 := (by omega); have hs1_3 : w.heap.size + 1 < w.heap.size + 1 + 1 + 1 := (by omega); have hs2_3 : w.heap.size + 1 + 1 < w.heap.size + 1 + 1 + 1 := (by omega); generalize hWW : World.alloc _ _ = W; have hbW : Below w.heap.size w W := (by subst hWW; repeat (first | exact Below.refl _ _ | assumption | refine Below.setCell ?_ (by first | omega | (simp; done) | (simp; omega)) _ | refine Below.alloc ?_ (by first | omega | (simp; done) | (simp; omega)) _ | refine Below.drew ?_ | refine below_drewN ?_ _ | refine Below.trans ?_ (Below.mono (by assumption) (by first | omega | (simp; done) | (simp; omega))))); have hzW : w.heap.size + 3 ≤ W.heap.size := (by subst hWW; simp); have hcW_0_0 : W.cell? ⟨w.heap.size, 0, none⟩ = some (.int .i64 a) := (by subst hWW; simp [go_sem, hs0_1, hs0_2, hs1_2, hs0_3, hs1_3, hs2_3]); have hcW_0_1 : W.cell? ⟨w.heap.size, 1, none⟩ = some (.int .i64 b) := (by subst hWW; simp [go_sem, hs0_1, hs0_2, hs1_2, hs0_3, hs1_3, hs2_3]); have hcW_0_2 : W.cell? ⟨w.heap.size, 2, none⟩ = some (.int .i64 c) := (by subst hWW; simp [go_sem, hs0_1, hs0_2, hs1_2, hs0_3, hs1_3, hs2_3]); have hcW_1_0 : W.cell? ⟨w.heap.size + 1, 0, none⟩ = some (.int .i64 a2) := (by subst hWW; simp [go_sem, hs0_1, hs0_2, hs1_2, hs0_3, hs1_3, hs2_3]); have hcW_1_1 : W.cell? ⟨w.heap.size + 1, 1, none⟩ = some (.int .i64 b2) := (by subst hWW; simp [go_sem, hs0_1, hs0_2, hs1_2, hs0_3, hs1_3, hs2_3]); have hcW_1_2 : W.cell? ⟨w.heap.size + 1, 2, none⟩ = some (.int .i64 c2) := (by subst hWW; simp [go_sem, hs0_1, hs0_2, hs1_2, hs0_3, hs1_3, hs2_3]); have hcW_2_0 : W.cell? ⟨w.heap.size + 1 + 1, 0, none⟩ = some (.int .i64 p) := (by subst hWW; simp [go_sem, hs0_1, hs0_2, hs1_2, hs0_3, hs1_3, hs2_3]); have hcW_2_1 : W.cell? ⟨w.heap.size + 1 + 1, 1, none⟩ = some (.int .i64 q) := (by subst hWW; simp [go_sem, hs0_1, hs0_2, hs1_2, hs0_3, hs1_3, hs2_3]); have hcW_2_2 : W.cell? ⟨w.heap.size + 1 + 1, 2, none⟩ = some (.int .i64 r) := (by subst hWW; simp [go_sem, hs0_1, hs0_2, hs1_2, hs0_3, hs1_3, hs2_3]); have hcW_2_3 : W.cell? ⟨w.heap.size + 1 + 1, 3, none⟩ = some (.int .i64 s) := (by subst hWW; simp [go_sem, hs0_1, hs0_2, hs1_2, hs0_3, hs1_3, hs2_3]); clear hWW hs0_1 hs0_2 hs1_2 hs0_3 hs1_3 hs2_3
  have kW_0_0 : ∀ d os, (grow (redrawn W d) os).cell? ⟨w.heap.size, 0, none⟩ = some (.int .i64 a) := cell_regrown hcW_0_0
  have kW_0_1 : ∀ d os, (grow (redrawn W d) os).cell? ⟨w.heap.size, 1, none⟩ = some (.int .i64 b) := cell_regrown hcW_0_1
  have kW_0_2 : ∀ d os, (grow (redrawn W d) os).cell? ⟨w.heap.size, 2, none⟩ = some (.int .i64 c) := cell_regrown hcW_0_2
  have kW_1_0 : ∀ d os, (grow (redrawn W d) os).cell? ⟨w.heap.size + 1, 0, none⟩ = some (.int .i64 a2) := cell_regrown hcW_1_0
  have kW_1_1 : ∀ d os, (grow (redrawn W d) os).cell? ⟨w.heap.size + 1, 1, none⟩ = some (.int .i64 b2) := cell_regrown hcW_1_1
  have kW_1_2 : ∀ d os, (grow (redrawn W d) os).cell? ⟨w.heap.size + 1, 2, none⟩ = some (.int .i64 c2) := cell_regrown hcW_1_2
  have kW_2_0 : ∀ d os, (grow (redrawn W d) os).cell? ⟨w.heap.size + 1 + 1, 0, none⟩ = some (.int .i64 p) := cell_regrown hcW_2_0
  have kW_2_1 : ∀ d os, (grow (redrawn W d) os).cell? ⟨w.heap.size + 1 + 1, 1, none⟩ = some (.int .i64 q) := cell_regrown hcW_2_1
  have kW_2_2 : ∀ d os, (grow (redrawn W d) os).cell? ⟨w.heap.size + 1 + 1, 2, none⟩ = some (.int .i64 r) := cell_regrown hcW_2_2
  have kW_2_3 : ∀ d os, (grow (redrawn W d) os).cell? ⟨w.heap.size + 1 + 1, 3, none⟩ = some (.int .i64 s) := cell_regrown hcW_2_3
  refine wp_region_quiet_below (by kernel_rfl) (by kernel_rfl) ?_
  repeat (first | go_big_quiet_step (first | (go_at_call 60; exact Calls.regrown_of (impl_isClassForm _ _ _ _)) | (go_at_call 62; exact Calls.regrown_of (impl_IsPrime _ _)) | (go_at_call 63; exact Calls.regrown_of (impl_Form_disc _ _ _ _)) | (go_at_call 61; exact Calls.regrown_of (impl_IsMatrix _ _ _ _ _))) | quiet_step (first | (go_at_call 60; exact Calls.regrown_of (impl_isClassForm _ _ _ _)) | (go_at_call 62; exact Calls.regrown_of (impl_IsPrime _ _)) | (go_at_call 63; exact Calls.regrown_of (impl_Form_disc _ _ _ _)) | (go_at_call 61; exact Calls.regrown_of (impl_IsMatrix _ _ _ _ _))))
  refine wpQuiet_nil ?_
  intro _ hw'
  obtain ⟨pq, hw''⟩ := hw'
  subst hw''
  have hbW1 := below_regrown W pq.d pq.os
  have hcW1_0_0 := kW_0_0 pq.d pq.os
  have hcW1_0_1 := kW_0_1 pq.d pq.os
  have hcW1_0_2 := kW_0_2 pq.d pq.os
  have hcW1_1_0 := kW_1_0 pq.d pq.os
  have hcW1_1_1 := kW_1_1 pq.d pq.os
  have hcW1_1_2 := kW_1_2 pq.d pq.os
  have hcW1_2_0 := kW_2_0 pq.d pq.os
  have hcW1_2_1 := kW_2_1 pq.d pq.os
  have hcW1_2_2 := kW_2_2 pq.d pq.os
  have hcW1_2_3 := kW_2_3 pq.d pq.os
  clear kW_0_0 kW_0_1 kW_0_2 kW_1_0 kW_1_1 kW_1_2 kW_2_0 kW_2_1 kW_2_2 kW_2_3
  generalize grow (redrawn W pq.d) pq.os = W1 at *
  have hzW1 := hbW1.size
  go_wp2_with fail
  go_ret2
  refine ⟨rfl, ?_⟩
  repeat (first | exact Below.refl _ _ | assumption | refine Below.setCell ?_ (by first | omega | (simp; done) | (simp; omega)) _ | refine Below.alloc ?_ (by first | omega | (simp; done) | (simp; omega)) _ | refine Below.drew ?_ | refine below_drewN ?_ _ | refine Below.trans ?_ (Below.mono (by assumption) (by first | omega | (simp; done) | (simp; omega))))

set_option maxHeartbeats 1000000 in
theorem impl_IsDescent_f3 (a b c a2 b2 c2 p q r s k : Int) (w : World) (h1 : classB a b c = true) (h2 : classB a2 b2 c2 = true) (h5 : matB p q r s = false) :
    Calls Try.prog 24 #[.agg #[.int .i64 a, .int .i64 b, .int .i64 c], .agg #[.int .i64 a2, .int .i64 b2, .int .i64 c2], .agg #[.int .i64 p, .int .i64 q, .int .i64 r, .int .i64 s], .int .i64 k] w fun e w' => e = .returned (.tuple #[.bool false, .bool false]) ∧ Below w.heap.size w w' := by
  go_enter Try.func24, Try.ntmps24
  go_wp2_with fail
  have hs0_1 : w.heap.size < w.heap.size + 1 := (by omega); have hs0_2 : w.heap.size < w.heap.size + 1 + 1 := (by omega); have hs1_2 : w.heap.size + 1 < w.heap.size + 1 + 1 := (by omega); have hs0_3 : w.heap.size < w.heap.size + 1 + 1 + 1 := (by omega); have hs1_3 : w.heap.size + 1 < w.heap.size + 1 + 1 + 1 := (by omega); have hs2_3 : w.heap.size + 1 + 1 < w.heap.size + 1 + 1 + 1 := (by omega); generalize hWW : World.alloc _ _ = W; have hbW : Below w.heap.size w W := (by subst hWW; repeat (first | exact Below.refl _ _ | assumption | refine Below.setCell ?_ (by first | omega | (simp; done) | (simp; omega)) _ | refine Below.alloc ?_ (by first | omega | (simp; done) | (simp; omega)) _ | refine Below.drew ?_ | refine below_drewN ?_ _ | refine Below.trans ?_ (Below.mono (by assumption) (by first | omega | (simp; done) | (simp; omega))))); have hzW : w.heap.size + 3 ≤ W.heap.size := (by subst hWW; simp); have hcW_0_0 : W.cell? ⟨w.heap.size, 0, none⟩ = some (.int .i64 a) := (by subst hWW; simp [go_sem, hs0_1, hs0_2, hs1_2, hs0_3, hs1_3, hs2_3]); have hcW_0_1 : W.cell? ⟨w.heap.size, 1, none⟩ = some (.int .i64 b) := (by subst hWW; simp [go_sem, hs0_1, hs0_2, hs1_2, hs0_3, hs1_3, hs2_3]); have hcW_0_2 : W.cell? ⟨w.heap.size, 2, none⟩ = some (.int .i64 c) := (by subst hWW; simp [go_sem, hs0_1, hs0_2, hs1_2, hs0_3, hs1_3, hs2_3]); have hcW_1_0 : W.cell? ⟨w.heap.size + 1, 0, none⟩ = some (.int .i64 a2) := (by subst hWW; simp [go_sem, hs0_1, hs0_2, hs1_2, hs0_3, hs1_3, hs2_3]); have hcW_1_1 : W.cell? ⟨w.heap.size + 1, 1, none⟩ = some (.int .i64 b2) := (by subst hWW; simp [go_sem, hs0_1, hs0_2, hs1_2, hs0_3, hs1_3, hs2_3]); have hcW_1_2 : W.cell? ⟨w.heap.size + 1, 2, none⟩ = some (.int .i64 c2) := (by subst hWW; simp [go_sem, hs0_1, hs0_2, hs1_2, hs0_3, hs1_3, hs2_3]); have hcW_2_0 : W.cell? ⟨w.heap.size + 1 + 1, 0, none⟩ = some (.int .i64 p) := (by subst hWW; simp [go_sem, hs0_1, hs0_2, hs1_2, hs0_3, hs1_3, hs2_3]); have hcW_2_1 : W.cell? ⟨w.heap.size + 1 + 1, 1, none⟩ = some (.int .i64 q) := (by subst hWW; simp [go_sem, hs0_1, hs0_2, hs1_2, hs0_3, hs1_3, hs2_3]); have hcW_2_2 : W.cell? ⟨w.heap.size + 1 + 1, 2, none⟩ = some (.int .i64 r) := (by subst hWW; simp [go_sem, hs0_1, hs0_2, hs1_2, hs0_3, hs1_3, hs2_3]); have hcW_2_3 : W.cell? ⟨w.heap.size + 1 + 1, 3, none⟩ = some (.int .i64 s) := (by subst hWW; simp [go_sem, hs0_1, hs0_2, hs1_2, hs0_3, hs1_3, hs2_3]); clear hWW hs0_1 hs0_2 hs1_2 hs0_3 hs1_3 hs2_3
  have kW_0_0 : ∀ d os, (grow (redrawn W d) os).cell? ⟨w.heap.size, 0, none⟩ = some (.int .i64 a) := cell_regrown hcW_0_0
  have kW_0_1 : ∀ d os, (grow (redrawn W d) os).cell? ⟨w.heap.size, 1, none⟩ = some (.int .i64 b) := cell_regrown hcW_0_1
  have kW_0_2 : ∀ d os, (grow (redrawn W d) os).cell? ⟨w.heap.size, 2, none⟩ = some (.int .i64 c) := cell_regrown hcW_0_2
  have kW_1_0 : ∀ d os, (grow (redrawn W d) os).cell? ⟨w.heap.size + 1, 0, none⟩ = some (.int .i64 a2) := cell_regrown hcW_1_0
  have kW_1_1 : ∀ d os, (grow (redrawn W d) os).cell? ⟨w.heap.size + 1, 1, none⟩ = some (.int .i64 b2) := cell_regrown hcW_1_1
  have kW_1_2 : ∀ d os, (grow (redrawn W d) os).cell? ⟨w.heap.size + 1, 2, none⟩ = some (.int .i64 c2) := cell_regrown hcW_1_2
  have kW_2_0 : ∀ d os, (grow (redrawn W d) os).cell? ⟨w.heap.size + 1 + 1, 0, none⟩ = some (.int .i64 p) := cell_regrown hcW_2_0
  have kW_2_1 : ∀ d os, (grow (redrawn W d) os).cell? ⟨w.heap.size + 1 + 1, 1, none⟩ = some (.int .i64 q) := cell_regrown hcW_2_1
  have kW_2_2 : ∀ d os, (grow (redrawn W d) os).cell? ⟨w.heap.size + 1 + 1, 2, none⟩ = some (.int .i64 r) := cell_regrown hcW_2_2
  have kW_2_3 : ∀ d os, (grow (redrawn W d) os).cell? ⟨w.heap.size + 1 + 1, 3, none⟩ = some (.int .i64 s) := cell_regrown hcW_2_3
  refine wp_region_quiet_below (by kernel_rfl) (by kernel_rfl) ?_
  repeat (first | go_big_quiet_step (first | (go_at_call 60; exact Calls.regrown_of (impl_isClassForm _ _ _ _)) | (go_at_call 62; exact Calls.regrown_of (impl_IsPrime _ _)) | (go_at_call 63; exact Calls.regrown_of (impl_Form_disc _ _ _ _)) | (go_at_call 61; exact Calls.regrown_of (impl_IsMatrix _ _ _ _ _))) | quiet_step (first | (go_at_call 60; exact Calls.regrown_of (impl_isClassForm _ _ _ _)) | (go_at_call 62; exact Calls.regrown_of (impl_IsPrime _ _)) | (go_at_call 63; exact Calls.regrown_of (impl_Form_disc _ _ _ _)) | (go_at_call 61; exact Calls.regrown_of (impl_IsMatrix _ _ _ _ _))))
  refine wpQuiet_nil ?_
  intro _ hw'
  obtain ⟨pq, hw''⟩ := hw'
  subst hw''
  have hbW1 := below_regrown W pq.d pq.os
  have hcW1_0_0 := kW_0_0 pq.d pq.os
  have hcW1_0_1 := kW_0_1 pq.d pq.os
  have hcW1_0_2 := kW_0_2 pq.d pq.os
  have hcW1_1_0 := kW_1_0 pq.d pq.os
  have hcW1_1_1 := kW_1_1 pq.d pq.os
  have hcW1_1_2 := kW_1_2 pq.d pq.os
  have hcW1_2_0 := kW_2_0 pq.d pq.os
  have hcW1_2_1 := kW_2_1 pq.d pq.os
  have hcW1_2_2 := kW_2_2 pq.d pq.os
  have hcW1_2_3 := kW_2_3 pq.d pq.os
  clear kW_0_0 kW_0_1 kW_0_2 kW_1_0 kW_1_1 kW_1_2 kW_2_0 kW_2_1 kW_2_2 kW_2_3
  generalize grow (redrawn W pq.d) pq.os = W1 at *
  have hzW1 := hbW1.size
  go_wp2_with fail
  go_ret2
  refine ⟨rfl, ?_⟩
  repeat (first | exact Below.refl _ _ | assumption | refine Below.setCell ?_ (by first | omega | (simp; done) | (simp; omega)) _ | refine Below.alloc ?_ (by first | omega | (simp; done) | (simp; omega)) _ | refine Below.drew ?_ | refine below_drewN ?_ _ | refine Below.trans ?_ (Below.mono (by assumption) (by first | omega | (simp; done) | (simp; omega))))

set_option maxHeartbeats 1000000 in
theorem impl_IsDescent_f4 (a b c a2 b2 c2 p q r s k : Int) (w : World) (h1 : classB a b c = true) (h2 : classB a2 b2 c2 = true) (h5 : matB p q r s = true) (h3 : (numB k && isPrimeB k) = false) :
    Calls Try.prog 24 #[.agg #[.int .i64 a, .int .i64 b, .int .i64 c], .agg #[.int .i64 a2, .int .i64 b2, .int .i64 c2], .agg #[.int .i64 p, .int .i64 q, .int .i64 r, .int .i64 s], .int .i64 k] w fun e w' => e = .returned (.tuple #[.bool false, .bool false]) ∧ Below w.heap.size w w' := by
  go_enter Try.func24, Try.ntmps24
  go_wp2_with fail
  have hs0_1 : w.heap.size < w.heap.size + 1 := (by omega); have hs0_2 : w.heap.size < w.heap.size + 1 + 1 := (by omega); have hs1_2 : w.heap.size + 1 < w.heap.size + 1 + 1 := (by omega); have hs0_3 : w.heap.size < w.heap.size + 1 + 1 + 1 := (by omega); have hs1_3 : w.heap.size + 1 < w.heap.size + 1 + 1 + 1 := (by omega); have hs2_3 : w.heap.size + 1 + 1 < w.heap.size + 1 + 1 + 1 := (by omega); generalize hWW : World.alloc _ _ = W; have hbW : Below w.heap.size w W := (by subst hWW; repeat (first | exact Below.refl _ _ | assumption | refine Below.setCell ?_ (by first | omega | (simp; done) | (simp; omega)) _ | refine Below.alloc ?_ (by first | omega | (simp; done) | (simp; omega)) _ | refine Below.drew ?_ | refine below_drewN ?_ _ | refine Below.trans ?_ (Below.mono (by assumption) (by first | omega | (simp; done) | (simp; omega))))); have hzW : w.heap.size + 3 ≤ W.heap.size := (by subst hWW; simp); have hcW_0_0 : W.cell? ⟨w.heap.size, 0, none⟩ = some (.int .i64 a) := (by subst hWW; simp [go_sem, hs0_1, hs0_2, hs1_2, hs0_3, hs1_3, hs2_3]); have hcW_0_1 : W.cell? ⟨w.heap.size, 1, none⟩ = some (.int .i64 b) := (by subst hWW; simp [go_sem, hs0_1, hs0_2, hs1_2, hs0_3, hs1_3, hs2_3]); have hcW_0_2 : W.cell? ⟨w.heap.size, 2, none⟩ = some (.int .i64 c) := (by subst hWW; simp [go_sem, hs0_1, hs0_2, hs1_2, hs0_3, hs1_3, hs2_3]); have hcW_1_0 : W.cell? ⟨w.heap.size + 1, 0, none⟩ = some (.int .i64 a2) := (by subst hWW; simp [go_sem, hs0_1, hs0_2, hs1_2, hs0_3, hs1_3, hs2_3]); have hcW_1_1 : W.cell? ⟨w.heap.size + 1, 1, none⟩ = some (.int .i64 b2) := (by subst hWW; simp [go_sem, hs0_1, hs0_2, hs1_2, hs0_3, hs1_3, hs2_3]); have hcW_1_2 : W.cell? ⟨w.heap.size + 1, 2, none⟩ = some (.int .i64 c2) := (by subst hWW; simp [go_sem, hs0_1, hs0_2, hs1_2, hs0_3, hs1_3, hs2_3]); have hcW_2_0 : W.cell? ⟨w.heap.size + 1 + 1, 0, none⟩ = some (.int .i64 p) := (by subst hWW; simp [go_sem, hs0_1, hs0_2, hs1_2, hs0_3, hs1_3, hs2_3]); have hcW_2_1 : W.cell? ⟨w.heap.size + 1 + 1, 1, none⟩ = some (.int .i64 q) := (by subst hWW; simp [go_sem, hs0_1, hs0_2, hs1_2, hs0_3, hs1_3, hs2_3]); have hcW_2_2 : W.cell? ⟨w.heap.size + 1 + 1, 2, none⟩ = some (.int .i64 r) := (by subst hWW; simp [go_sem, hs0_1, hs0_2, hs1_2, hs0_3, hs1_3, hs2_3]); have hcW_2_3 : W.cell? ⟨w.heap.size + 1 + 1, 3, none⟩ = some (.int .i64 s) := (by subst hWW; simp [go_sem, hs0_1, hs0_2, hs1_2, hs0_3, hs1_3, hs2_3]); clear hWW hs0_1 hs0_2 hs1_2 hs0_3 hs1_3 hs2_3
  have kW_0_0 : ∀ d os, (grow (redrawn W d) os).cell? ⟨w.heap.size, 0, none⟩ = some (.int .i64 a) := cell_regrown hcW_0_0
  have kW_0_1 : ∀ d os, (grow (redrawn W d) os).cell? ⟨w.heap.size, 1, none⟩ = some (.int .i64 b) := cell_regrown hcW_0_1
  have kW_0_2 : ∀ d os, (grow (redrawn W d) os).cell? ⟨w.heap.size, 2, none⟩ = some (.int .i64 c) := cell_regrown hcW_0_2
  have kW_1_0 : ∀ d os, (grow (redrawn W d) os).cell? ⟨w.heap.size + 1, 0, none⟩ = some (.int .i64 a2) := cell_regrown hcW_1_0
  have kW_1_1 : ∀ d os, (grow (redrawn W d) os).cell? ⟨w.heap.size + 1, 1, none⟩ = some (.int .i64 b2) := cell_regrown hcW_1_1
  have kW_1_2 : ∀ d os, (grow (redrawn W d) os).cell? ⟨w.heap.size + 1, 2, none⟩ = some (.int .i64 c2) := cell_regrown hcW_1_2
  have kW_2_0 : ∀ d os, (grow (redrawn W d) os).cell? ⟨w.heap.size + 1 + 1, 0, none⟩ = some (.int .i64 p) := cell_regrown hcW_2_0
  have kW_2_1 : ∀ d os, (grow (redrawn W d) os).cell? ⟨w.heap.size + 1 + 1, 1, none⟩ = some (.int .i64 q) := cell_regrown hcW_2_1
  have kW_2_2 : ∀ d os, (grow (redrawn W d) os).cell? ⟨w.heap.size + 1 + 1, 2, none⟩ = some (.int .i64 r) := cell_regrown hcW_2_2
  have kW_2_3 : ∀ d os, (grow (redrawn W d) os).cell? ⟨w.heap.size + 1 + 1, 3, none⟩ = some (.int .i64 s) := cell_regrown hcW_2_3
  refine wp_region_quiet_below (by kernel_rfl) (by kernel_rfl) ?_
  repeat (first | go_big_quiet_step (first | (go_at_call 60; exact Calls.regrown_of (impl_isClassForm _ _ _ _)) | (go_at_call 62; exact Calls.regrown_of (impl_IsPrime _ _)) | (go_at_call 63; exact Calls.regrown_of (impl_Form_disc _ _ _ _)) | (go_at_call 61; exact Calls.regrown_of (impl_IsMatrix _ _ _ _ _))) | quiet_step (first | (go_at_call 60; exact Calls.regrown_of (impl_isClassForm _ _ _ _)) | (go_at_call 62; exact Calls.regrown_of (impl_IsPrime _ _)) | (go_at_call 63; exact Calls.regrown_of (impl_Form_disc _ _ _ _)) | (go_at_call 61; exact Calls.regrown_of (impl_IsMatrix _ _ _ _ _))))
  refine wpQuiet_nil ?_
  intro _ hw'
  obtain ⟨pq, hw''⟩ := hw'
  subst hw''
  have hbW1 := below_regrown W pq.d pq.os
  have hcW1_0_0 := kW_0_0 pq.d pq.os
  have hcW1_0_1 := kW_0_1 pq.d pq.os
  have hcW1_0_2 := kW_0_2 pq.d pq.os
  have hcW1_1_0 := kW_1_0 pq.d pq.os
  have hcW1_1_1 := kW_1_1 pq.d pq.os
  have hcW1_1_2 := kW_1_2 pq.d pq.os
  have hcW1_2_0 := kW_2_0 pq.d pq.os
  have hcW1_2_1 := kW_2_1 pq.d pq.os
  have hcW1_2_2 := kW_2_2 pq.d pq.os
  have hcW1_2_3 := kW_2_3 pq.d pq.os
  clear kW_0_0 kW_0_1 kW_0_2 kW_1_0 kW_1_1 kW_1_2 kW_2_0 kW_2_1 kW_2_2 kW_2_3
  generalize grow (redrawn W pq.d) pq.os = W1 at *
  have hzW1 := hbW1.size
  go_wp2_with fail
  go_ret2
  refine ⟨rfl, ?_⟩
  repeat (first | exact Below.refl _ _ | assumption | refine Below.setCell ?_ (by first | omega | (simp; done) | (simp; omega)) _ | refine Below.alloc ?_ (by first | omega | (simp; done) | (simp; omega)) _ | refine Below.drew ?_ | refine below_drewN ?_ _ | refine Below.trans ?_ (Below.mono (by assumption) (by first | omega | (simp; done) | (simp; omega))))

set_option maxHeartbeats 1000000 in
theorem impl_IsDescent_f5 (a b c a2 b2 c2 p q r s k : Int) (w : World) (h1 : classB a b c = true) (h2 : classB a2 b2 c2 = true) (h5 : matB p q r s = true) (h3 : (numB k && isPrimeB k) = true) (h4 : (dsc a b c != dsc a2 b2 c2 * k * k) = true) (k1 : -1000000 ≤ k) (k2 : k ≤ 1000000) :
    Calls Try.prog 24 #[.agg #[.int .i64 a, .int .i64 b, .int .i64 c], .agg #[.int .i64 a2, .int .i64 b2, .int .i64 c2], .agg #[.int .i64 p, .int .i64 q, .int .i64 r, .int .i64 s], .int .i64 k] w fun e w' => e = .returned (.tuple #[.bool false, .bool false]) ∧ Below w.heap.size w w' := by
  obtain ⟨f1, d1, d2⟩ := class_bd h1
  obtain ⟨f2, d3, d4⟩ := class_bd h2
  have x1 := wrap_dsc f1
  have x2 := wrap_dsc f2
  obtain ⟨x3, x4⟩ := disc_pp d3 (by omega) k1 k2
  clear d1 d2 d3 d4 k1 k2
  go_enter Try.func24, Try.ntmps24
  go_wp2_with fail
  have hs0_1 : w.heap.size < w.heap.size + 1 := (by omega); have hs0_2 : w.heap.size < w.heap.size + 1 + 1 := (by omega); have hs1_2 : w.heap.size + 1 < w.heap.size + 1 + 1 := (by omega); have hs0_3 : w.heap.size < w.heap.size + 1 + 1 + 1 := (by omega); have hs1_3 : w.heap.size + 1 < w.heap.size + 1 + 1 + 1 := (by omega); have hs2_3 : w.heap.size + 1 + 1 < w.heap.size + 1 + 1 + 1 := (by omega); generalize hWW : World.alloc _ _ = W; have hbW : Below w.heap.size w W := (by subst hWW; repeat (first | exact Below.refl _ _ | assumption | refine Below.setCell ?_ (by first | omega | (simp; done) | (simp; omega)) _ | refine Below.alloc ?_ (by first | omega | (simp; done) | (simp; omega)) _ | refine Below.drew ?_ | refine below_drewN ?_ _ | refine Below.trans ?_ (Below.mono (by assumption) (by first | omega | (simp; done) | (simp; omega))))); have hzW : w.heap.size + 3 ≤ W.heap.size := (by subst hWW; simp); have hcW_0_0 : W.cell? ⟨w.heap.size, 0, none⟩ = some (.int .i64 a) := (by subst hWW; simp [go_sem, hs0_1, hs0_2, hs1_2, hs0_3, hs1_3, hs2_3]); have hcW_0_1 : W.cell? ⟨w.heap.size, 1, none⟩ = some (.int .i64 b) := (by subst hWW; simp [go_sem, hs0_1, hs0_2, hs1_2, hs0_3, hs1_3, hs2_3]); have hcW_0_2 : W.cell? ⟨w.heap.size, 2, none⟩ = some (.int .i64 c) := (by subst hWW; simp [go_sem, hs0_1, hs0_2, hs1_2, hs0_3, hs1_3, hs2_3]); have hcW_1_0 : W.cell? ⟨w.heap.size + 1, 0, none⟩ = some (.int .i64 a2) := (by subst hWW; simp [go_sem, hs0_1, hs0_2, hs1_2, hs0_3, hs1_3, hs2_3]); have hcW_1_1 : W.cell? ⟨w.heap.size + 1, 1, none⟩ = some (.int .i64 b2) := (by subst hWW; simp [go_sem, hs0_1, hs0_2, hs1_2, hs0_3, hs1_3, hs2_3]); have hcW_1_2 : W.cell? ⟨w.heap.size + 1, 2, none⟩ = some (.int .i64 c2) := (by subst hWW; simp [go_sem, hs0_1, hs0_2, hs1_2, hs0_3, hs1_3, hs2_3]); have hcW_2_0 : W.cell? ⟨w.heap.size + 1 + 1, 0, none⟩ = some (.int .i64 p) := (by subst hWW; simp [go_sem, hs0_1, hs0_2, hs1_2, hs0_3, hs1_3, hs2_3]); have hcW_2_1 : W.cell? ⟨w.heap.size + 1 + 1, 1, none⟩ = some (.int .i64 q) := (by subst hWW; simp [go_sem, hs0_1, hs0_2, hs1_2, hs0_3, hs1_3, hs2_3]); have hcW_2_2 : W.cell? ⟨w.heap.size + 1 + 1, 2, none⟩ = some (.int .i64 r) := (by subst hWW; simp [go_sem, hs0_1, hs0_2, hs1_2, hs0_3, hs1_3, hs2_3]); have hcW_2_3 : W.cell? ⟨w.heap.size + 1 + 1, 3, none⟩ = some (.int .i64 s) := (by subst hWW; simp [go_sem, hs0_1, hs0_2, hs1_2, hs0_3, hs1_3, hs2_3]); clear hWW hs0_1 hs0_2 hs1_2 hs0_3 hs1_3 hs2_3
  have kW_0_0 : ∀ d os, (grow (redrawn W d) os).cell? ⟨w.heap.size, 0, none⟩ = some (.int .i64 a) := cell_regrown hcW_0_0
  have kW_0_1 : ∀ d os, (grow (redrawn W d) os).cell? ⟨w.heap.size, 1, none⟩ = some (.int .i64 b) := cell_regrown hcW_0_1
  have kW_0_2 : ∀ d os, (grow (redrawn W d) os).cell? ⟨w.heap.size, 2, none⟩ = some (.int .i64 c) := cell_regrown hcW_0_2
  have kW_1_0 : ∀ d os, (grow (redrawn W d) os).cell? ⟨w.heap.size + 1, 0, none⟩ = some (.int .i64 a2) := cell_regrown hcW_1_0
  have kW_1_1 : ∀ d os, (grow (redrawn W d) os).cell? ⟨w.heap.size + 1, 1, none⟩ = some (.int .i64 b2) := cell_regrown hcW_1_1
  have kW_1_2 : ∀ d os, (grow (redrawn W d) os).cell? ⟨w.heap.size + 1, 2, none⟩ = some (.int .i64 c2) := cell_regrown hcW_1_2
  have kW_2_0 : ∀ d os, (grow (redrawn W d) os).cell? ⟨w.heap.size + 1 + 1, 0, none⟩ = some (.int .i64 p) := cell_regrown hcW_2_0
  have kW_2_1 : ∀ d os, (grow (redrawn W d) os).cell? ⟨w.heap.size + 1 + 1, 1, none⟩ = some (.int .i64 q) := cell_regrown hcW_2_1
  have kW_2_2 : ∀ d os, (grow (redrawn W d) os).cell? ⟨w.heap.size + 1 + 1, 2, none⟩ = some (.int .i64 r) := cell_regrown hcW_2_2
  have kW_2_3 : ∀ d os, (grow (redrawn W d) os).cell? ⟨w.heap.size + 1 + 1, 3, none⟩ = some (.int .i64 s) := cell_regrown hcW_2_3
  refine wp_region_quiet_below (by kernel_rfl) (by kernel_rfl) ?_
  repeat (first | go_big_quiet_step (first | (go_at_call 60; exact Calls.regrown_of (impl_isClassForm _ _ _ _)) | (go_at_call 62; exact Calls.regrown_of (impl_IsPrime _ _)) | (go_at_call 63; exact Calls.regrown_of (impl_Form_disc _ _ _ _)) | (go_at_call 61; exact Calls.regrown_of (impl_IsMatrix _ _ _ _ _))) | quiet_step (first | (go_at_call 60; exact Calls.regrown_of (impl_isClassForm _ _ _ _)) | (go_at_call 62; exact Calls.regrown_of (impl_IsPrime _ _)) | (go_at_call 63; exact Calls.regrown_of (impl_Form_disc _ _ _ _)) | (go_at_call 61; exact Calls.regrown_of (impl_IsMatrix _ _ _ _ _))))
  refine wpQuiet_nil ?_
  intro _ hw'
  obtain ⟨pq, hw''⟩ := hw'
  subst hw''
  have hbW1 := below_regrown W pq.d pq.os
  have hcW1_0_0 := kW_0_0 pq.d pq.os
  have hcW1_0_1 := kW_0_1 pq.d pq.os
  have hcW1_0_2 := kW_0_2 pq.d pq.os
  have hcW1_1_0 := kW_1_0 pq.d pq.os
  have hcW1_1_1 := kW_1_1 pq.d pq.os
  have hcW1_1_2 := kW_1_2 pq.d pq.os
  have hcW1_2_0 := kW_2_0 pq.d pq.os
  have hcW1_2_1 := kW_2_1 pq.d pq.os
  have hcW1_2_2 := kW_2_2 pq.d pq.os
  have hcW1_2_3 := kW_2_3 pq.d pq.os
  clear kW_0_0 kW_0_1 kW_0_2 kW_1_0 kW_1_1 kW_1_2 kW_2_0 kW_2_1 kW_2_2 kW_2_3
  generalize grow (redrawn W pq.d) pq.os = W1 at *
  have hzW1 := hbW1.size
  go_wp2_with fail
  go_ret2
  refine ⟨rfl, ?_⟩
  repeat (first | exact Below.refl _ _ | assumption | refine Below.setCell ?_ (by first | omega | (simp; done) | (simp; omega)) _ | refine Below.alloc ?_ (by first | omega | (simp; done) | (simp; omega)) _ | refine Below.drew ?_ | refine below_drewN ?_ _ | refine Below.trans ?_ (Below.mono (by assumption) (by first | omega | (simp; done) | (simp; omega))))

theorem odPrime_bd {k : Int} (h : odPrimeB k = true) : 2 ≤ k ∧ k ≤ 1000 ∧ isPrimeB k = true := by
  simp [odPrimeB] at h
  exact ⟨h.1.1, h.1.2, h.2⟩
theorem odPrime_of {k D E : Int} (hn : numB k = true) (hp : isPrimeB k = true) (hD : D = E * k * k) (d1 : -2000 ≤ D) (e2 : E < 0) : odPrimeB k = true := by
  have h2 : 2 ≤ k := by
    simp [isPrimeB] at hp
    exact hp.1
  have h3 : k ≤ 1000 := by
    rcases Int.lt_or_le 1000 k with h | h
    · exfalso
      have e1 : E * k ≤ -1 * k := Int.mul_le_mul_of_nonneg_right (by omega) (by omega)
      have e3 : E * k * k ≤ -k * k := Int.mul_le_mul_of_nonneg_right (by omega) (by omega)
      have e4 : -k * k ≤ -1000 * k := Int.mul_le_mul_of_nonneg_right (by omega) (by omega)
      omega
    · exact h
  simp [odPrimeB, h2, h3, hp]
theorem numB_of {k : Int} (h1 : 2 ≤ k) (h2 : k ≤ 1000) : numB k = true := numB_iff.2 ⟨by omega, by omega⟩
theorem tup_eq {e : Ending} {x y : Bool} {P : Prop} (hx : x = false) (h : e = .returned (.tuple #[.bool false, .bool false]) ∧ P) (y' : y = y) : e = .returned (.tuple #[.bool (x && y), .bool x]) ∧ P := by
  subst hx
  exact h

theorem spec_IsDescent (a b c a2 b2 c2 p q r s k : Int) (w : World) :
    Calls Try.prog 21 #[.agg #[.int .i64 a, .int .i64 b, .int .i64 c], .agg #[.int .i64 a2, .int .i64 b2, .int .i64 c2], .agg #[.int .i64 p, .int .i64 q, .int .i64 r, .int .i64 s], .int .i64 k] w fun e w' => e = .returned (.tuple #[.bool (descOK a b c a2 b2 c2 p q r s k && descYes a b c a2 b2 c2 p q r s k), .bool (descOK a b c a2 b2 c2 p q r s k)]) ∧ Below w.heap.size w w' := by
  cases h1 : classB a b c
  · exact (spec_IsDescent_f1 a b c a2 b2 c2 p q r s k w h1).mono fun _ _ h => tup_eq (by simp [descOK, h1]) h rfl
  · cases h2 : classB a2 b2 c2
    · exact (spec_IsDescent_f2 a b c a2 b2 c2 p q r s k w h1 h2).mono fun _ _ h => tup_eq (by simp [descOK, h2]) h rfl
    · cases h3 : odPrimeB k
      · exact (spec_IsDescent_f3 a b c a2 b2 c2 p q r s k w h1 h2 h3).mono fun _ _ h => tup_eq (by simp [descOK, h3]) h rfl
      · obtain ⟨k1, k2, k3⟩ := odPrime_bd h3
        cases h4 : (dsc a b c != dsc a2 b2 c2 * k * k)
        · cases h5 : matB p q r s
          · exact (spec_IsDescent_f5 a b c a2 b2 c2 p q r s k w h1 h2 h3 h4 h5 (by omega) (by omega)).mono fun _ _ h => tup_eq (by simp [descOK, h5]) h rfl
          · have hok : descOK a b c a2 b2 c2 p q r s k = true := by simp [descOK, h1, h2, h3, h5]; simpa using h4
            rw [hok, Bool.true_and]
            exact spec_IsDescent_1 a b c a2 b2 c2 p q r s k w h1 h2 h3 h4 h5 (by omega) (by omega)
        · exact (spec_IsDescent_f4 a b c a2 b2 c2 p q r s k w h1 h2 h3 h4 (by omega) (by omega)).mono fun _ _ h => tup_eq (by simp [descOK]; intro _ _ _ h6; simp [h6] at h4) h rfl

theorem impl_IsDescent (a b c a2 b2 c2 p q r s k : Int) (w : World) :
    Calls Try.prog 24 #[.agg #[.int .i64 a, .int .i64 b, .int .i64 c], .agg #[.int .i64 a2, .int .i64 b2, .int .i64 c2], .agg #[.int .i64 p, .int .i64 q, .int .i64 r, .int .i64 s], .int .i64 k] w fun e w' => e = .returned (.tuple #[.bool (descOK a b c a2 b2 c2 p q r s k && descYes a b c a2 b2 c2 p q r s k), .bool (descOK a b c a2 b2 c2 p q r s k)]) ∧ Below w.heap.size w w' := by
  cases h1 : classB a b c
  · exact (impl_IsDescent_f1 a b c a2 b2 c2 p q r s k w h1).mono fun _ _ h => tup_eq (by simp [descOK, h1]) h rfl
  · cases h2 : classB a2 b2 c2
    · exact (impl_IsDescent_f2 a b c a2 b2 c2 p q r s k w h1 h2).mono fun _ _ h => tup_eq (by simp [descOK, h2]) h rfl
    · cases h5 : matB p q r s
      · exact (impl_IsDescent_f3 a b c a2 b2 c2 p q r s k w h1 h2 h5).mono fun _ _ h => tup_eq (by simp [descOK, h5]) h rfl
      · cases h3 : (numB k && isPrimeB k)
        · refine (impl_IsDescent_f4 a b c a2 b2 c2 p q r s k w h1 h2 h5 h3).mono fun _ _ h => tup_eq ?_ h rfl
          cases h6 : odPrimeB k
          · simp [descOK, h6]
          · obtain ⟨k1, k2, k3⟩ := odPrime_bd h6
            rw [numB_of k1 k2, k3] at h3
            cases h3
        · obtain ⟨k1, k2⟩ := Bool.and_eq_true_iff.1 h3
          have k3 := numB_iff.1 k1
          cases h4 : (dsc a b c != dsc a2 b2 c2 * k * k)
          · have h6 : odPrimeB k = true := odPrime_of k1 k2 (by simpa using h4) (class_bd h1).2.1 (class_bd h2).2.2
            have hok : descOK a b c a2 b2 c2 p q r s k = true := by simp [descOK, h1, h2, h6, h5]; simpa using h4
            rw [hok, Bool.true_and]
            exact impl_IsDescent_1 a b c a2 b2 c2 p q r s k w h1 h2 h3 h4 h5 (by omega) (by omega)
          · exact (impl_IsDescent_f5 a b c a2 b2 c2 p q r s k w h1 h2 h5 h3 h4 (by omega) (by omega)).mono fun _ _ h => tup_eq (by simp [descOK]; intro _ _ _ h6; simp [h6] at h4) h rfl

theorem law_IsDescent (a b c a2 b2 c2 p q r s k : Int) (w : World) :
    Calls Try.prog 5 #[.agg #[.int .i64 a, .int .i64 b, .int .i64 c], .agg #[.int .i64 a2, .int .i64 b2, .int .i64 c2], .agg #[.int .i64 p, .int .i64 q, .int .i64 r, .int .i64 s], .int .i64 k] w fun e w' => e = .returned (.bool true) ∧ Below w.heap.size w w' := by
  cases y1 : descOK a b c a2 b2 c2 p q r s k <;> cases y2 : descYes a b c a2 b2 c2 p q r s k
  all_goals
    go_enter Try.func5, Try.ntmps5
    go_wp2_with fail
    have hs0_1 : w.heap.size < w.heap.size + 1 := (by omega); have hs0_2 : w.heap.size < w.heap.size + 1 + 1 := (by omega); have hs1_2 : w.heap.size + 1 < w.heap.size + 1 + 1 := (by omega); have hs0_3 : w.heap.size < w.heap.size + 1 + 1 + 1 := (by omega); have hs1_3 : w.heap.size + 1 < w.heap.size + 1 + 1 + 1 := (by omega); have hs2_3 : w.heap.size + 1 + 1 < w.heap.size + 1 + 1 + 1 := (by omega); generalize hWW : World.alloc _ _ = W; have hbW : Below w.heap.size w W := (by subst hWW; repeat (first | exact Below.refl _ _ | assumption | refine Below.setCell ?_ (by first | omega | (simp; done) | (simp; omega)) _ | refine Below.alloc ?_ (by first | omega | (simp; done) | (simp; omega)) _ | refine Below.drew ?_ | refine below_drewN ?_ _ | refine Below.trans ?_ (Below.mono (by assumption) (by first | omega | (simp; done) | (simp; omega))))); have hzW : w.heap.size + 3 ≤ W.heap.size := (by subst hWW; simp); have hcW_0_0 : W.cell? ⟨w.heap.size, 0, none⟩ = some (.int .i64 a) := (by subst hWW; simp [go_sem, hs0_1, hs0_2, hs1_2, hs0_3, hs1_3, hs2_3]); have hcW_0_1 : W.cell? ⟨w.heap.size, 1, none⟩ = some (.int .i64 b) := (by subst hWW; simp [go_sem, hs0_1, hs0_2, hs1_2, hs0_3, hs1_3, hs2_3]); have hcW_0_2 : W.cell? ⟨w.heap.size, 2, none⟩ = some (.int .i64 c) := (by subst hWW; simp [go_sem, hs0_1, hs0_2, hs1_2, hs0_3, hs1_3, hs2_3]); have hcW_1_0 : W.cell? ⟨w.heap.size + 1, 0, none⟩ = some (.int .i64 a2) := (by subst hWW; simp [go_sem, hs0_1, hs0_2, hs1_2, hs0_3, hs1_3, hs2_3]); have hcW_1_1 : W.cell? ⟨w.heap.size + 1, 1, none⟩ = some (.int .i64 b2) := (by subst hWW; simp [go_sem, hs0_1, hs0_2, hs1_2, hs0_3, hs1_3, hs2_3]); have hcW_1_2 : W.cell? ⟨w.heap.size + 1, 2, none⟩ = some (.int .i64 c2) := (by subst hWW; simp [go_sem, hs0_1, hs0_2, hs1_2, hs0_3, hs1_3, hs2_3]); have hcW_2_0 : W.cell? ⟨w.heap.size + 1 + 1, 0, none⟩ = some (.int .i64 p) := (by subst hWW; simp [go_sem, hs0_1, hs0_2, hs1_2, hs0_3, hs1_3, hs2_3]); have hcW_2_1 : W.cell? ⟨w.heap.size + 1 + 1, 1, none⟩ = some (.int .i64 q) := (by subst hWW; simp [go_sem, hs0_1, hs0_2, hs1_2, hs0_3, hs1_3, hs2_3]); have hcW_2_2 : W.cell? ⟨w.heap.size + 1 + 1, 2, none⟩ = some (.int .i64 r) := (by subst hWW; simp [go_sem, hs0_1, hs0_2, hs1_2, hs0_3, hs1_3, hs2_3]); have hcW_2_3 : W.cell? ⟨w.heap.size + 1 + 1, 3, none⟩ = some (.int .i64 s) := (by subst hWW; simp [go_sem, hs0_1, hs0_2, hs1_2, hs0_3, hs1_3, hs2_3]); clear hWW hs0_1 hs0_2 hs1_2 hs0_3 hs1_3 hs2_3
    have kW_0_0 : ∀ d os, (grow (redrawn W d) os).cell? ⟨w.heap.size, 0, none⟩ = some (.int .i64 a) := cell_regrown hcW_0_0
    have kW_0_1 : ∀ d os, (grow (redrawn W d) os).cell? ⟨w.heap.size, 1, none⟩ = some (.int .i64 b) := cell_regrown hcW_0_1
    have kW_0_2 : ∀ d os, (grow (redrawn W d) os).cell? ⟨w.heap.size, 2, none⟩ = some (.int .i64 c) := cell_regrown hcW_0_2
    have kW_1_0 : ∀ d os, (grow (redrawn W d) os).cell? ⟨w.heap.size + 1, 0, none⟩ = some (.int .i64 a2) := cell_regrown hcW_1_0
    have kW_1_1 : ∀ d os, (grow (redrawn W d) os).cell? ⟨w.heap.size + 1, 1, none⟩ = some (.int .i64 b2) := cell_regrown hcW_1_1
    have kW_1_2 : ∀ d os, (grow (redrawn W d) os).cell? ⟨w.heap.size + 1, 2, none⟩ = some (.int .i64 c2) := cell_regrown hcW_1_2
    have kW_2_0 : ∀ d os, (grow (redrawn W d) os).cell? ⟨w.heap.size + 1 + 1, 0, none⟩ = some (.int .i64 p) := cell_regrown hcW_2_0
    have kW_2_1 : ∀ d os, (grow (redrawn W d) os).cell? ⟨w.heap.size + 1 + 1, 1, none⟩ = some (.int .i64 q) := cell_regrown hcW_2_1
    have kW_2_2 : ∀ d os, (grow (redrawn W d) os).cell? ⟨w.heap.size + 1 + 1, 2, none⟩ = some (.int .i64 r) := cell_regrown hcW_2_2
    have kW_2_3 : ∀ d os, (grow (redrawn W d) os).cell? ⟨w.heap.size + 1 + 1, 3, none⟩ = some (.int .i64 s) := cell_regrown hcW_2_3
    refine wp_region_quiet_below (by kernel_rfl) (by kernel_rfl) ?_
    repeat (first | go_big_quiet_step (first | (go_at_call 22; exact Calls.regrown_of (laws_toForm _ _ _ _)) | (go_at_call 23; exact Calls.regrown_of (laws_toMatrix _ _ _ _ _)) | (go_at_call 21; exact Calls.regrown_of (spec_IsDescent _ _ _ _ _ _ _ _ _ _ _ _))) | quiet_step (first | (go_at_call 22; exact Calls.regrown_of (laws_toForm _ _ _ _)) | (go_at_call 23; exact Calls.regrown_of (laws_toMatrix _ _ _ _ _)) | (go_at_call 21; exact Calls.regrown_of (spec_IsDescent _ _ _ _ _ _ _ _ _ _ _ _))))
    refine wpQuiet_nil ?_
    intro _ hw'
    obtain ⟨pq, hw''⟩ := hw'
    subst hw''
    have hbW1 := below_regrown W pq.d pq.os
    have hcW1_0_0 := kW_0_0 pq.d pq.os
    have hcW1_0_1 := kW_0_1 pq.d pq.os
    have hcW1_0_2 := kW_0_2 pq.d pq.os
    have hcW1_1_0 := kW_1_0 pq.d pq.os
    have hcW1_1_1 := kW_1_1 pq.d pq.os
    have hcW1_1_2 := kW_1_2 pq.d pq.os
    have hcW1_2_0 := kW_2_0 pq.d pq.os
    have hcW1_2_1 := kW_2_1 pq.d pq.os
    have hcW1_2_2 := kW_2_2 pq.d pq.os
    have hcW1_2_3 := kW_2_3 pq.d pq.os
    clear kW_0_0 kW_0_1 kW_0_2 kW_1_0 kW_1_1 kW_1_2 kW_2_0 kW_2_1 kW_2_2 kW_2_3
    generalize grow (redrawn W pq.d) pq.os = W1 at *
    have hzW1 := hbW1.size
    go_wp2_with fail
    have kW1_0_0 : ∀ d os, (grow (redrawn W1 d) os).cell? ⟨w.heap.size, 0, none⟩ = some (.int .i64 a) := cell_regrown hcW1_0_0
    have kW1_0_1 : ∀ d os, (grow (redrawn W1 d) os).cell? ⟨w.heap.size, 1, none⟩ = some (.int .i64 b) := cell_regrown hcW1_0_1
    have kW1_0_2 : ∀ d os, (grow (redrawn W1 d) os).cell? ⟨w.heap.size, 2, none⟩ = some (.int .i64 c) := cell_regrown hcW1_0_2
    have kW1_1_0 : ∀ d os, (grow (redrawn W1 d) os).cell? ⟨w.heap.size + 1, 0, none⟩ = some (.int .i64 a2) := cell_regrown hcW1_1_0
    have kW1_1_1 : ∀ d os, (grow (redrawn W1 d) os).cell? ⟨w.heap.size + 1, 1, none⟩ = some (.int .i64 b2) := cell_regrown hcW1_1_1
    have kW1_1_2 : ∀ d os, (grow (redrawn W1 d) os).cell? ⟨w.heap.size + 1, 2, none⟩ = some (.int .i64 c2) := cell_regrown hcW1_1_2
    have kW1_2_0 : ∀ d os, (grow (redrawn W1 d) os).cell? ⟨w.heap.size + 1 + 1, 0, none⟩ = some (.int .i64 p) := cell_regrown hcW1_2_0
    have kW1_2_1 : ∀ d os, (grow (redrawn W1 d) os).cell? ⟨w.heap.size + 1 + 1, 1, none⟩ = some (.int .i64 q) := cell_regrown hcW1_2_1
    have kW1_2_2 : ∀ d os, (grow (redrawn W1 d) os).cell? ⟨w.heap.size + 1 + 1, 2, none⟩ = some (.int .i64 r) := cell_regrown hcW1_2_2
    have kW1_2_3 : ∀ d os, (grow (redrawn W1 d) os).cell? ⟨w.heap.size + 1 + 1, 3, none⟩ = some (.int .i64 s) := cell_regrown hcW1_2_3
    refine wp_region_quiet_below (by kernel_rfl) (by kernel_rfl) ?_
    repeat (first | go_big_quiet_step (first | (go_at_call 22; exact Calls.regrown_of (laws_toForm _ _ _ _)) | (go_at_call 23; exact Calls.regrown_of (laws_toMatrix _ _ _ _ _)) | (go_at_call 24; exact Calls.regrown_of (impl_IsDescent _ _ _ _ _ _ _ _ _ _ _ _))) | quiet_step (first | (go_at_call 22; exact Calls.regrown_of (laws_toForm _ _ _ _)) | (go_at_call 23; exact Calls.regrown_of (laws_toMatrix _ _ _ _ _)) | (go_at_call 24; exact Calls.regrown_of (impl_IsDescent _ _ _ _ _ _ _ _ _ _ _ _))))
    refine wpQuiet_nil ?_
    intro _ hw'
    obtain ⟨pq, hw''⟩ := hw'
    subst hw''
    have hbW2 := below_regrown W1 pq.d pq.os
    have hcW2_0_0 := kW1_0_0 pq.d pq.os
    have hcW2_0_1 := kW1_0_1 pq.d pq.os
    have hcW2_0_2 := kW1_0_2 pq.d pq.os
    have hcW2_1_0 := kW1_1_0 pq.d pq.os
    have hcW2_1_1 := kW1_1_1 pq.d pq.os
    have hcW2_1_2 := kW1_1_2 pq.d pq.os
    have hcW2_2_0 := kW1_2_0 pq.d pq.os
    have hcW2_2_1 := kW1_2_1 pq.d pq.os
    have hcW2_2_2 := kW1_2_2 pq.d pq.os
    have hcW2_2_3 := kW1_2_3 pq.d pq.os
    clear kW1_0_0 kW1_0_1 kW1_0_2 kW1_1_0 kW1_1_1 kW1_1_2 kW1_2_0 kW1_2_1 kW1_2_2 kW1_2_3
    generalize grow (redrawn W1 pq.d) pq.os = W2 at *
    have hzW2 := hbW2.size
    go_wp2_with fail
    go_ret
    refine ⟨rfl, ?_⟩
    repeat (first | exact Below.refl _ _ | assumption | refine Below.setCell ?_ (by first | omega | (simp; done) | (simp; omega)) _ | refine Below.alloc ?_ (by first | omega | (simp; done) | (simp; omega)) _ | refine Below.drew ?_ | refine below_drewN ?_ _ | refine Below.trans ?_ (Below.mono (by assumption) (by first | omega | (simp; done) | (simp; omega))))

namespace fnExactIsDescent
open Go.ChangeShapes Go.WideShapes Go.ChangeAt Go.RowKit Go.Joins
open Go.ChangeMaps (open_string shut_string)
theorem own : ownKnob Try.prog.godebug = none := by kernel_rfl
theorem laidOut : laidOutB Try.prog = true := by kernel_rfl
set_option maxRecDepth 100000 in
theorem lifted (os : Os) (started : os.Started) (H : Type) (enc : TypeId × Value → H) :
    ReturnsInHanded {} Try.checked os 5 .any (Rows.fnExactIsDescentSpec.pre6 enc Try.prog Try.f5 Rows.fnExactIsDescentRow.domain false) (Rows.fnExactIsDescentSpec.post enc Try.prog Try.f5 false true false false) := by
  refine returnsInHanded_of_change (C := Try.checked) own started (by kernel_rfl) Try.func5
    (ChangeSpec.witness6 (enc := enc) (C := Try.checked) false ⟨#[], #[.agg #[.int .i64 0, .int .i64 0, .int .i64 0], .agg #[.int .i64 0, .int .i64 0, .int .i64 0], .agg #[.int .i64 0, .int .i64 0, .int .i64 0, .int .i64 0], .int .i64 0], []⟩ 8 (by kernel_rfl) (by kernel_rfl) (by kernel_rfl) (by kernel_rfl)) ?_
  intro W base args ds gs before hval0 hW hcnd _
  have hval : ∀ (j : Nat) t v, Try.f5.params[j]? = some t → args[j]? = some v → Value.okWide Try.prog W .any base t v := hval0
  have hW' := hW
  obtain ⟨p, q, hA0, hV, rfl, hfz, hnd⟩ := hW
  have hA : DataW.TrodAll enc Try.prog W 0 (fun _ => true) true Try.f5.params.toList args.toList ds p := hA0
  rw [Try.params5] at hA hval
  obtain ⟨v0, vs0, d0, ds0, p0, q0, hargs, rfl, rfl, h0, r0⟩ := trodAll_cons hA
  obtain ⟨v1, vs1, d1, ds1, p1, q1, rfl, rfl, rfl, h1, r1⟩ := trodAll_cons r0
  obtain ⟨v2, vs2, d2, ds2, p2, q2, rfl, rfl, rfl, h2, r2⟩ := trodAll_cons r1
  obtain ⟨v3, vs3, d3, ds3, p3, q3, rfl, rfl, rfl, h3, r3⟩ := trodAll_cons r2
  obtain ⟨rfl, rfl, rfl⟩ := trodAll_nil r3
  obtain rfl : args = #[v0, v1, v2, v3] := by cases args; simp_all
  obtain ⟨rfl, rfl⟩ := trodVars_none hV
  have k0 := h0
  have lt0 : ∀ x ∈ p0, x.block < W.heap.size := by obtain ⟨m, hm⟩ := k0; exact DataW.trod_lt m _ _ _ hm
  obtain ⟨c0_0, c0_1, c0_2, y0_0, y0_1, y0_2, m0, rfl, _, _, hy0_0, hy0_1, hy0_2⟩ := open_agg3 Try.underlying31 (by kernel_rfl) (by kernel_rfl) (hval 0 31 v0 rfl rfl) h0
  obtain ⟨a0_0, e0_0, _, w0_0⟩ := DataW.trod_int Try.underlying3 hy0_0
  obtain rfl : c0_0 = .int .i64 a0_0 := by simpa using e0_0
  obtain ⟨a0_1, e0_1, _, w0_1⟩ := DataW.trod_int Try.underlying3 hy0_1
  obtain rfl : c0_1 = .int .i64 a0_1 := by simpa using e0_1
  obtain ⟨a0_2, e0_2, _, w0_2⟩ := DataW.trod_int Try.underlying3 hy0_2
  obtain rfl : c0_2 = .int .i64 a0_2 := by simpa using e0_2
  have k1 := h1
  have lt1 : ∀ x ∈ p1, x.block < W.heap.size := by obtain ⟨m, hm⟩ := k1; exact DataW.trod_lt m _ _ _ hm
  obtain ⟨c1_0, c1_1, c1_2, y1_0, y1_1, y1_2, m1, rfl, _, _, hy1_0, hy1_1, hy1_2⟩ := open_agg3 Try.underlying31 (by kernel_rfl) (by kernel_rfl) (hval 1 31 v1 rfl rfl) h1
  obtain ⟨a1_0, e1_0, _, w1_0⟩ := DataW.trod_int Try.underlying3 hy1_0
  obtain rfl : c1_0 = .int .i64 a1_0 := by simpa using e1_0
  obtain ⟨a1_1, e1_1, _, w1_1⟩ := DataW.trod_int Try.underlying3 hy1_1
  obtain rfl : c1_1 = .int .i64 a1_1 := by simpa using e1_1
  obtain ⟨a1_2, e1_2, _, w1_2⟩ := DataW.trod_int Try.underlying3 hy1_2
  obtain rfl : c1_2 = .int .i64 a1_2 := by simpa using e1_2
  have k2 := h2
  have lt2 : ∀ x ∈ p2, x.block < W.heap.size := by obtain ⟨m, hm⟩ := k2; exact DataW.trod_lt m _ _ _ hm
  obtain ⟨c2_0, c2_1, c2_2, c2_3, y2_0, y2_1, y2_2, y2_3, m2, rfl, _, _, hy2_0, hy2_1, hy2_2, hy2_3⟩ := open_agg4 Try.underlying33 (by kernel_rfl) (by kernel_rfl) (hval 2 33 v2 rfl rfl) h2
  obtain ⟨a2_0, e2_0, _, w2_0⟩ := DataW.trod_int Try.underlying3 hy2_0
  obtain rfl : c2_0 = .int .i64 a2_0 := by simpa using e2_0
  obtain ⟨a2_1, e2_1, _, w2_1⟩ := DataW.trod_int Try.underlying3 hy2_1
  obtain rfl : c2_1 = .int .i64 a2_1 := by simpa using e2_1
  obtain ⟨a2_2, e2_2, _, w2_2⟩ := DataW.trod_int Try.underlying3 hy2_2
  obtain rfl : c2_2 = .int .i64 a2_2 := by simpa using e2_2
  obtain ⟨a2_3, e2_3, _, w2_3⟩ := DataW.trod_int Try.underlying3 hy2_3
  obtain rfl : c2_3 = .int .i64 a2_3 := by simpa using e2_3
  have k3 := h3
  have lt3 : ∀ x ∈ p3, x.block < W.heap.size := by obtain ⟨m, hm⟩ := k3; exact DataW.trod_lt m _ _ _ hm
  obtain ⟨a3, rfl, _, _, w3⟩ := open_int Try.underlying3 (hval 3 3 v3 rfl rfl) h3
  clear hA0 hval0
  refine (law_IsDescent a0_0 a0_1 a0_2 a1_0 a1_1 a1_2 a2_0 a2_1 a2_2 a2_3 a3 W).mono fun e W' ⟨he, bel⟩ => ?_
  subst he
  exact ⟨_, rfl, _, _, _, [], _, [], hW', trodAll_mk1 (shut_bool Try.underlying4 _), (trodAll_cons_mk (Below.trod laidOut (by kernel_rfl) (of_decide_eq_true (by kernel_rfl)) k0 bel lt0) (trodAll_cons_mk (Below.trod laidOut (by kernel_rfl) (of_decide_eq_true (by kernel_rfl)) k1 bel lt1) (trodAll_cons_mk (Below.trod laidOut (by kernel_rfl) (of_decide_eq_true (by kernel_rfl)) k2 bel lt2) (trodAll_cons_mk (Below.trod laidOut (by kernel_rfl) (of_decide_eq_true (by kernel_rfl)) k3 bel lt3) trodAll_mk0)))), rfl, bel.frame _, fun h => by cases h⟩
theorem over : Rows.fnExactIsDescentRow.holds Try.pinned (OpenSpec.ofChange Rows.fnExactIsDescentSpec) :=
  OpenClaim.holds_of_wide 5 Try.f5 rfl rfl rfl rfl rfl rfl rfl ⟨rfl, rfl, rfl, rfl, rfl⟩ rfl rfl rfl rfl rfl (by kernel_rfl) Try.func5 (by kernel_rfl)
    (of_decide_eq_true (by kernel_rfl)) (by unfold Func.isWrapper; first | (rw [if_pos (by decide +kernel)]; kernel_rfl) | (rw [if_neg (by decide +kernel)]; exact ⟨rfl, rfl⟩))
    (fun os started H enc _ => lifted os started H enc)
theorem proved : Rows.FnExactIsDescentSaid := over
#print axioms proved
end fnExactIsDescent

end Go.Proofs.Ytdffhgibkeifmaa
