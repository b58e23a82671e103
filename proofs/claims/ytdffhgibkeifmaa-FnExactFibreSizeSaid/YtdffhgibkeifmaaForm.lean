import Derived.Test.YtdffhgibkeifmaaNum
import Derived.Below
import Derived.Deep.RegionHeld3
import Derived.Deep.DrawnRows
import Derived.Deep.DeepMust
import Derived.WalkSmall
import Derived.Laws.Rows
namespace Go.Proofs.Ytdffhgibkeifmaa
open Go.RowKit
set_option linter.unusedSimpArgs false
set_option linter.unusedVariables false

theorem heap_new {w : World} {o : Obj} {b : Nat} (h : w.heap.size = b) : (w.alloc o).heap[b]? = some o := by
  subst h
  exact heap_alloc_new w o

def numB (n : Int) : Bool := decide (-1000000 ≤ n ∧ n ≤ 1000000)

theorem numB_iff {n : Int} : numB n = true ↔ -1000000 ≤ n ∧ n ≤ 1000000 := by simp [numB]
theorem numB_not {n : Int} : numB n = false ↔ ¬ (-1000000 ≤ n ∧ n ≤ 1000000) := by simp [numB]
theorem all_step {xs : List Int} {i : Nat} (hi : i < xs.length) : (xs.drop i).all numB = (numB xs[i] && (xs.drop (i + 1)).all numB) := by
  rw [List.drop_eq_getElem_cons hi, List.all_cons]

theorem impl_areNumbers (xs : List Int) (b T c : Nat) (m : Nat × Nat) (w : World) (hl : xs.length ≤ 1000) (hb : w.heap[b]? = some (.cells (xs.map (Value.int .i64)).toArray T m)) :
    Calls Try.prog 104 #[.slice (some ⟨b, 0, none⟩) xs.length c] w fun e w' => e = .returned (.bool (xs.all numB)) ∧ w = w' := by
  have Hb := Lib.hid hb
  clear hb
  go_enter Try.func104, Try.ntmps104
  go_wp2
  go_loopg [7] xs.length (fun k ix wr => w = wr ∧ ∃ i : Nat, ix = .int .i64 i ∧ i + k = xs.length ∧ Hid (xs.all numB = (xs.drop i).all numB))
  case atStart => exact ⟨rfl, 0, rfl, by omega, rfl⟩
  case round =>
    obtain ⟨rfl, i, rfl, hk, hH⟩ := hrel
    by_cases hi : i < xs.length
    · have hc : w.cell? ⟨b, i, none⟩ = some (.int .i64 (xs[i]'hi)) := by
        simp [World.cell?, Hb.out, hi]
      have Hk := Lib.hid hk
      clear hk
      go_wp2
      · go_ret
        exact ⟨ret_bool (by rw [hH.out, all_step hi, numB_not.2 (by omega)]; rfl), rfl⟩
      · go_roundg (gk - 1)
        case measure => have := Hk.out; omega
        case rel => exact ⟨rfl, i + 1, by go_num, by have := Hk.out; omega, by show _ = _; rw [hH.out, all_step hi, numB_iff.2 (by omega)]; rfl⟩
      · go_ret
        exact ⟨ret_bool (by rw [hH.out, all_step hi, numB_not.2 (by omega)]; rfl), rfl⟩
    · have Hk := Lib.hid hk
      clear hk
      go_wp2
      go_ret
      exact ⟨ret_bool (by rw [hH.out, List.drop_eq_nil_of_le (by omega)]; rfl), rfl⟩

theorem impl_areNumbers1 (a : Int) (b T c : Nat) (m : Nat × Nat) (w : World) (hb : w.heap[b]? = some (.cells #[.int .i64 a] T m)) :
    Calls Try.prog 104 #[.slice (some ⟨b, 0, none⟩) 1 c] w fun e w' => e = .returned (.bool (numB a)) ∧ w = w' := by
  have h := impl_areNumbers [a] b T c m w (by simp) hb
  simpa using h

theorem impl_areNumbers3 (a a2 a3 : Int) (b T c : Nat) (m : Nat × Nat) (w : World) (hb : w.heap[b]? = some (.cells #[.int .i64 a, .int .i64 a2, .int .i64 a3] T m)) :
    Calls Try.prog 104 #[.slice (some ⟨b, 0, none⟩) 3 c] w fun e w' => e = .returned (.bool (numB a && (numB a2 && numB a3))) ∧ w = w' := by
  have h := impl_areNumbers [a, a2, a3] b T c m w (by simp) hb
  simpa using h

theorem impl_areNumbers4 (a a2 a3 a4 : Int) (b T c : Nat) (m : Nat × Nat) (w : World) (hb : w.heap[b]? = some (.cells #[.int .i64 a, .int .i64 a2, .int .i64 a3, .int .i64 a4] T m)) :
    Calls Try.prog 104 #[.slice (some ⟨b, 0, none⟩) 4 c] w fun e w' => e = .returned (.bool (numB a && (numB a2 && (numB a3 && numB a4)))) ∧ w = w' := by
  have h := impl_areNumbers [a, a2, a3, a4] b T c m w (by simp) hb
  simpa using h

theorem spec_nuGood (n : Int) (w : World) :
    Calls Try.prog 99 #[.int .i64 n] w fun e w' => e = .returned (.bool (numB n)) ∧ w = w' := by
  by_cases h : -1000000 ≤ n ∧ n ≤ 1000000
  · rw [numB_iff.2 h]
    obtain ⟨h1, h2⟩ := h
    go_enter Try.func99, Try.ntmps99
    go_wp2
    go_ret
    exact ⟨rfl, rfl⟩
  · rw [numB_not.2 h]
    rcases Int.lt_or_le n (-1000000) with h1 | h1
    · clear h
      go_enter Try.func99, Try.ntmps99
      go_wp2
      go_ret
      exact ⟨rfl, rfl⟩
    · have h2 : ¬ n ≤ 1000000 := by omega
      clear h
      go_enter Try.func99, Try.ntmps99
      go_wp2
      go_ret
      exact ⟨rfl, rfl⟩

theorem impl_IsPrime (n : Int) (w : World) :
    Calls Try.prog 62 #[.int .i64 n] w fun e w' => e = .returned (.bool (numB n && isPrimeB n)) ∧ Below w.heap.size w w' := by
  cases hn : numB n
  · go_enter Try.func62, Try.ntmps62
    go_wp2_with (go_at_call 104; (with_reducible refine (impl_areNumbers1 _ _ _ _ _ _ (heap_new (by simp))).mono ?_); rintro e w' ⟨rfl, rfl⟩)
    go_ret
    refine ⟨rfl, ?_⟩
    repeat (first | exact Below.refl _ _ | assumption | refine Below.setCell ?_ (by first | omega | (simp; done) | (simp; omega)) _ | refine Below.alloc ?_ (by first | omega | (simp; done) | (simp; omega)) _ | refine Below.drew ?_ | refine below_drewN ?_ _ | refine Below.trans ?_ (Below.mono (by assumption) (by first | omega | (simp; done) | (simp; omega))))
  · have h := numB_iff.1 hn
    obtain ⟨h1, h2⟩ := h
    go_enter Try.func62, Try.ntmps62
    go_wp2_with (first | (go_at_call 104; (with_reducible refine (impl_areNumbers1 _ _ _ _ _ _ (heap_new (by simp))).mono ?_); rintro e w' ⟨rfl, rfl⟩) | (go_at_call 105; (with_reducible refine (impl_isPrime _ _ (by omega)).mono ?_); rintro e w' ⟨rfl, rfl⟩))
    go_ret
    refine ⟨rfl, ?_⟩
    repeat (first | exact Below.refl _ _ | assumption | refine Below.setCell ?_ (by first | omega | (simp; done) | (simp; omega)) _ | refine Below.alloc ?_ (by first | omega | (simp; done) | (simp; omega)) _ | refine Below.drew ?_ | refine below_drewN ?_ _ | refine Below.trans ?_ (Below.mono (by assumption) (by first | omega | (simp; done) | (simp; omega))))

def formB (a b c : Int) : Bool := decide ((-1000000 ≤ a ∧ a ≤ 1000000) ∧ (-1000000 ≤ b ∧ b ≤ 1000000) ∧ -1000000 ≤ c ∧ c ≤ 1000000)
theorem formB_iff {a b c : Int} : formB a b c = true ↔ (-1000000 ≤ a ∧ a ≤ 1000000) ∧ (-1000000 ≤ b ∧ b ≤ 1000000) ∧ -1000000 ≤ c ∧ c ≤ 1000000 := by simp [formB]
theorem formB_eq (a b c : Int) : formB a b c = (numB a && (numB b && numB c)) := by rw [Bool.eq_iff_iff]; simp [formB, numB]
def matB (a b c d : Int) : Bool := decide ((-1000000 ≤ a ∧ a ≤ 1000000) ∧ (-1000000 ≤ b ∧ b ≤ 1000000) ∧ (-1000000 ≤ c ∧ c ≤ 1000000) ∧ -1000000 ≤ d ∧ d ≤ 1000000)
theorem matB_iff {a b c d : Int} : matB a b c d = true ↔ (-1000000 ≤ a ∧ a ≤ 1000000) ∧ (-1000000 ≤ b ∧ b ≤ 1000000) ∧ (-1000000 ≤ c ∧ c ≤ 1000000) ∧ -1000000 ≤ d ∧ d ≤ 1000000 := by simp [matB]
theorem matB_eq (a b c d : Int) : matB a b c d = (numB a && (numB b && (numB c && numB d))) := by rw [Bool.eq_iff_iff]; simp [matB, numB]
def dsc (a b c : Int) : Int := b * b - 4 * a * c
def fAt (a b c x y : Int) : Int := a * x * x + b * x * y + c * y * y
def fPol (a b c x y u v : Int) : Int := 2 * a * x * u + b * (x * v + y * u) + 2 * c * y * v
theorem mul_bd {a b A B : Int} (h1 : -A ≤ a) (h2 : a ≤ A) (h3 : -B ≤ b) (h4 : b ≤ B) : -(A * B) ≤ a * b ∧ a * b ≤ A * B := by
  have hA : 0 ≤ A := by omega
  have hB : 0 ≤ B := by omega
  have e : (a * b).natAbs ≤ (A * B).natAbs := by
    rw [Int.natAbs_mul, Int.natAbs_mul]
    exact Nat.mul_le_mul (by omega) (by omega)
  have e2 : 0 ≤ A * B := Int.mul_nonneg hA hB
  omega
theorem dsc_bd {a b c : Int} (h : formB a b c = true) : -5000000000000 ≤ dsc a b c ∧ dsc a b c ≤ 5000000000000 := by
  obtain ⟨⟨a1, a2⟩, ⟨b1, b2⟩, c1, c2⟩ := formB_iff.1 h
  have e1 := mul_bd b1 b2 b1 b2
  have e2 := mul_bd (a := 4 * a) (A := 4000000) (by omega) (by omega) c1 c2
  unfold dsc
  omega
theorem wrap_dsc {a b c : Int} (h : formB a b c = true) : wrap64 (dsc a b c) = dsc a b c := by
  have := dsc_bd h
  exact IntWalk.wrap64_in _ (by omega)

theorem spec_foDisc (a b c : Int) (w : World) :
    Calls Try.prog 56 #[.agg #[.int .i64 a, .int .i64 b, .int .i64 c]] w fun e w' => e = .returned (.int .i64 (wrap64 (dsc a b c))) ∧ Below w.heap.size w w' := by
  go_enter Try.func56, Try.ntmps56
  go_wp2
  go_ret
  refine ⟨ret_int (by unfold dsc; simp only [wr_add_l, wr_add_r, wr_sub_l, wr_sub_r, wr_mul_l, wr_mul_r, wr_neg, wr_wr]), ?_⟩
  repeat (first | exact Below.refl _ _ | assumption | refine Below.setCell ?_ (by first | omega | (simp; done) | (simp; omega)) _ | refine Below.alloc ?_ (by first | omega | (simp; done) | (simp; omega)) _ | refine Below.drew ?_ | refine below_drewN ?_ _ | refine Below.trans ?_ (Below.mono (by assumption) (by first | omega | (simp; done) | (simp; omega))))

theorem impl_Form_disc (a b c : Int) (w : World) :
    Calls Try.prog 63 #[.agg #[.int .i64 a, .int .i64 b, .int .i64 c]] w fun e w' => e = .returned (.int .i64 (wrap64 (dsc a b c))) ∧ Below w.heap.size w w' := by
  go_enter Try.func63, Try.ntmps63
  go_wp2
  go_ret
  refine ⟨ret_int (by unfold dsc; simp only [wr_add_l, wr_add_r, wr_sub_l, wr_sub_r, wr_mul_l, wr_mul_r, wr_neg, wr_wr]), ?_⟩
  repeat (first | exact Below.refl _ _ | assumption | refine Below.setCell ?_ (by first | omega | (simp; done) | (simp; omega)) _ | refine Below.alloc ?_ (by first | omega | (simp; done) | (simp; omega)) _ | refine Below.drew ?_ | refine below_drewN ?_ _ | refine Below.trans ?_ (Below.mono (by assumption) (by first | omega | (simp; done) | (simp; omega))))

theorem spec_foDet (p q r s : Int) (w : World) :
    Calls Try.prog 58 #[.agg #[.int .i64 p, .int .i64 q, .int .i64 r, .int .i64 s]] w fun e w' => e = .returned (.int .i64 (wrap64 (p * s - q * r))) ∧ Below w.heap.size w w' := by
  go_enter Try.func58, Try.ntmps58
  go_wp2
  go_ret
  refine ⟨ret_int (by simp only [wr_add_l, wr_add_r, wr_sub_l, wr_sub_r, wr_mul_l, wr_mul_r, wr_neg, wr_wr]), ?_⟩
  repeat (first | exact Below.refl _ _ | assumption | refine Below.setCell ?_ (by first | omega | (simp; done) | (simp; omega)) _ | refine Below.alloc ?_ (by first | omega | (simp; done) | (simp; omega)) _ | refine Below.drew ?_ | refine below_drewN ?_ _ | refine Below.trans ?_ (Below.mono (by assumption) (by first | omega | (simp; done) | (simp; omega))))

theorem impl_Matrix_det (p q r s : Int) (w : World) :
    Calls Try.prog 64 #[.agg #[.int .i64 p, .int .i64 q, .int .i64 r, .int .i64 s]] w fun e w' => e = .returned (.int .i64 (wrap64 (p * s - q * r))) ∧ Below w.heap.size w w' := by
  go_enter Try.func64, Try.ntmps64
  go_wp2
  go_ret
  refine ⟨ret_int (by simp only [wr_add_l, wr_add_r, wr_sub_l, wr_sub_r, wr_mul_l, wr_mul_r, wr_neg, wr_wr]), ?_⟩
  repeat (first | exact Below.refl _ _ | assumption | refine Below.setCell ?_ (by first | omega | (simp; done) | (simp; omega)) _ | refine Below.alloc ?_ (by first | omega | (simp; done) | (simp; omega)) _ | refine Below.drew ?_ | refine below_drewN ?_ _ | refine Below.trans ?_ (Below.mono (by assumption) (by first | omega | (simp; done) | (simp; omega))))

theorem spec_foValue (a b c x y : Int) (w : World) :
    Calls Try.prog 100 #[.agg #[.int .i64 a, .int .i64 b, .int .i64 c], .int .i64 x, .int .i64 y] w fun e w' => e = .returned (.int .i64 (wrap64 (fAt a b c x y))) ∧ Below w.heap.size w w' := by
  go_enter Try.func100, Try.ntmps100
  go_wp2
  go_ret
  refine ⟨ret_int (by unfold fAt; simp only [wr_add_l, wr_add_r, wr_sub_l, wr_sub_r, wr_mul_l, wr_mul_r, wr_neg, wr_wr]), ?_⟩
  repeat (first | exact Below.refl _ _ | assumption | refine Below.setCell ?_ (by first | omega | (simp; done) | (simp; omega)) _ | refine Below.alloc ?_ (by first | omega | (simp; done) | (simp; omega)) _ | refine Below.drew ?_ | refine below_drewN ?_ _ | refine Below.trans ?_ (Below.mono (by assumption) (by first | omega | (simp; done) | (simp; omega))))

theorem impl_Form_at (a b c x y : Int) (w : World) :
    Calls Try.prog 106 #[.agg #[.int .i64 a, .int .i64 b, .int .i64 c], .int .i64 x, .int .i64 y] w fun e w' => e = .returned (.int .i64 (wrap64 (fAt a b c x y))) ∧ Below w.heap.size w w' := by
  go_enter Try.func106, Try.ntmps106
  go_wp2
  go_ret
  refine ⟨ret_int (by unfold fAt; simp only [wr_add_l, wr_add_r, wr_sub_l, wr_sub_r, wr_mul_l, wr_mul_r, wr_neg, wr_wr]), ?_⟩
  repeat (first | exact Below.refl _ _ | assumption | refine Below.setCell ?_ (by first | omega | (simp; done) | (simp; omega)) _ | refine Below.alloc ?_ (by first | omega | (simp; done) | (simp; omega)) _ | refine Below.drew ?_ | refine below_drewN ?_ _ | refine Below.trans ?_ (Below.mono (by assumption) (by first | omega | (simp; done) | (simp; omega))))

theorem spec_foPolar (a b c x y u v : Int) (w : World) :
    Calls Try.prog 101 #[.agg #[.int .i64 a, .int .i64 b, .int .i64 c], .int .i64 x, .int .i64 y, .int .i64 u, .int .i64 v] w fun e w' => e = .returned (.int .i64 (wrap64 (fPol a b c x y u v))) ∧ Below w.heap.size w w' := by
  go_enter Try.func101, Try.ntmps101
  go_wp2
  go_ret
  refine ⟨ret_int (by unfold fPol; simp only [wr_add_l, wr_add_r, wr_sub_l, wr_sub_r, wr_mul_l, wr_mul_r, wr_neg, wr_wr]), ?_⟩
  repeat (first | exact Below.refl _ _ | assumption | refine Below.setCell ?_ (by first | omega | (simp; done) | (simp; omega)) _ | refine Below.alloc ?_ (by first | omega | (simp; done) | (simp; omega)) _ | refine Below.drew ?_ | refine below_drewN ?_ _ | refine Below.trans ?_ (Below.mono (by assumption) (by first | omega | (simp; done) | (simp; omega))))

theorem impl_Form_polar (a b c x y u v : Int) (w : World) :
    Calls Try.prog 107 #[.agg #[.int .i64 a, .int .i64 b, .int .i64 c], .int .i64 x, .int .i64 y, .int .i64 u, .int .i64 v] w fun e w' => e = .returned (.int .i64 (wrap64 (fPol a b c x y u v))) ∧ Below w.heap.size w w' := by
  go_enter Try.func107, Try.ntmps107
  go_wp2
  go_ret
  refine ⟨ret_int (by unfold fPol; simp only [wr_add_l, wr_add_r, wr_sub_l, wr_sub_r, wr_mul_l, wr_mul_r, wr_neg, wr_wr]), ?_⟩
  repeat (first | exact Below.refl _ _ | assumption | refine Below.setCell ?_ (by first | omega | (simp; done) | (simp; omega)) _ | refine Below.alloc ?_ (by first | omega | (simp; done) | (simp; omega)) _ | refine Below.drew ?_ | refine below_drewN ?_ _ | refine Below.trans ?_ (Below.mono (by assumption) (by first | omega | (simp; done) | (simp; omega))))

theorem spec_foMul (p q r s p2 q2 r2 s2 : Int) (w : World) :
    Calls Try.prog 123 #[.agg #[.int .i64 p, .int .i64 q, .int .i64 r, .int .i64 s], .agg #[.int .i64 p2, .int .i64 q2, .int .i64 r2, .int .i64 s2]] w fun e w' => e = .returned (.agg #[.int .i64 (wrap64 (p * p2 + q * r2)), .int .i64 (wrap64 (p * q2 + q * s2)), .int .i64 (wrap64 (r * p2 + s * r2)), .int .i64 (wrap64 (r * q2 + s * s2))]) ∧ Below w.heap.size w w' := by
  go_enter Try.func123, Try.ntmps123
  go_wp2
  simp only [wr_add_l, wr_add_r, wr_sub_l, wr_sub_r, wr_mul_l, wr_mul_r, wr_neg, wr_wr]
  refine bodyPost_ret (v := .agg #[.int .i64 (wrap64 (p * p2 + q * r2)), .int .i64 (wrap64 (p * q2 + q * s2)), .int .i64 (wrap64 (r * p2 + s * r2)), .int .i64 (wrap64 (r * q2 + s * s2))]) (by simp [results, Try.results123, go_sem, *]) rfl ?_
  refine ⟨rfl, ?_⟩
  repeat (first | exact Below.refl _ _ | assumption | refine Below.setCell ?_ (by first | omega | (simp; done) | (simp; omega)) _ | refine Below.alloc ?_ (by first | omega | (simp; done) | (simp; omega)) _ | refine Below.drew ?_ | refine below_drewN ?_ _ | refine Below.trans ?_ (Below.mono (by assumption) (by first | omega | (simp; done) | (simp; omega))))

theorem impl_Matrix_times (p q r s p2 q2 r2 s2 : Int) (w : World) :
    Calls Try.prog 130 #[.agg #[.int .i64 p, .int .i64 q, .int .i64 r, .int .i64 s], .agg #[.int .i64 p2, .int .i64 q2, .int .i64 r2, .int .i64 s2]] w fun e w' => e = .returned (.agg #[.int .i64 (wrap64 (p * p2 + q * r2)), .int .i64 (wrap64 (p * q2 + q * s2)), .int .i64 (wrap64 (r * p2 + s * r2)), .int .i64 (wrap64 (r * q2 + s * s2))]) ∧ Below w.heap.size w w' := by
  go_enter Try.func130, Try.ntmps130
  go_wp2
  simp only [wr_add_l, wr_add_r, wr_sub_l, wr_sub_r, wr_mul_l, wr_mul_r, wr_neg, wr_wr]
  refine bodyPost_ret (v := .agg #[.int .i64 (wrap64 (p * p2 + q * r2)), .int .i64 (wrap64 (p * q2 + q * s2)), .int .i64 (wrap64 (r * p2 + s * r2)), .int .i64 (wrap64 (r * q2 + s * s2))]) (by simp [results, Try.results130, go_sem, *]) rfl ?_
  refine ⟨rfl, ?_⟩
  repeat (first | exact Below.refl _ _ | assumption | refine Below.setCell ?_ (by first | omega | (simp; done) | (simp; omega)) _ | refine Below.alloc ?_ (by first | omega | (simp; done) | (simp; omega)) _ | refine Below.drew ?_ | refine below_drewN ?_ _ | refine Below.trans ?_ (Below.mono (by assumption) (by first | omega | (simp; done) | (simp; omega))))

theorem spec_foInverse (p q r s : Int) (w : World) :
    Calls Try.prog 125 #[.agg #[.int .i64 p, .int .i64 q, .int .i64 r, .int .i64 s]] w fun e w' => e = .returned (.agg #[.int .i64 (wrap64 ((p * s - q * r) * s)), .int .i64 (wrap64 (-(p * s - q * r) * q)), .int .i64 (wrap64 (-(p * s - q * r) * r)), .int .i64 (wrap64 ((p * s - q * r) * p))]) ∧ Below w.heap.size w w' := by
  go_enter Try.func125, Try.ntmps125
  go_wp2_with (go_at_call 58; (with_reducible refine (spec_foDet _ _ _ _ _).mono ?_); rintro e w1 ⟨rfl, hb1⟩; obtain ⟨hc1, hf1, hz1⟩ := bcell hb1; (try simp at hz1); (try have hl1_0 : w.heap.size < w1.heap.size := by omega); (try have hl1_1 : w.heap.size + 1 < w1.heap.size := by omega); (try have hl1_2 : w.heap.size + 1 + 1 < w1.heap.size := by omega); (try have hl1_3 : w.heap.size + 1 + 1 + 1 < w1.heap.size := by omega); (try have hl1_4 : w.heap.size + 1 + 1 + 1 + 1 < w1.heap.size := by omega))
  simp only [wr_add_l, wr_add_r, wr_sub_l, wr_sub_r, wr_mul_l, wr_mul_r, wr_neg, wr_wr]
  refine bodyPost_ret (v := .agg #[.int .i64 (wrap64 ((p * s - q * r) * s)), .int .i64 (wrap64 (-(p * s - q * r) * q)), .int .i64 (wrap64 (-(p * s - q * r) * r)), .int .i64 (wrap64 ((p * s - q * r) * p))]) (by simp [results, Try.results125, go_sem, *]) rfl ?_
  refine ⟨rfl, ?_⟩
  repeat (first | exact Below.refl _ _ | assumption | refine Below.setCell ?_ (by first | omega | (simp; done) | (simp; omega)) _ | refine Below.alloc ?_ (by first | omega | (simp; done) | (simp; omega)) _ | refine Below.drew ?_ | refine below_drewN ?_ _ | refine Below.trans ?_ (Below.mono (by assumption) (by first | omega | (simp; done) | (simp; omega))))

theorem impl_Matrix_inverse (p q r s : Int) (w : World) :
    Calls Try.prog 131 #[.agg #[.int .i64 p, .int .i64 q, .int .i64 r, .int .i64 s]] w fun e w' => e = .returned (.agg #[.int .i64 (wrap64 ((p * s - q * r) * s)), .int .i64 (wrap64 (-(p * s - q * r) * q)), .int .i64 (wrap64 (-(p * s - q * r) * r)), .int .i64 (wrap64 ((p * s - q * r) * p))]) ∧ Below w.heap.size w w' := by
  go_enter Try.func131, Try.ntmps131
  go_wp2_with (go_at_call 64; (with_reducible refine (impl_Matrix_det _ _ _ _ _).mono ?_); rintro e w1 ⟨rfl, hb1⟩; obtain ⟨hc1, hf1, hz1⟩ := bcell hb1; (try simp at hz1); (try have hl1_0 : w.heap.size < w1.heap.size := by omega); (try have hl1_1 : w.heap.size + 1 < w1.heap.size := by omega); (try have hl1_2 : w.heap.size + 1 + 1 < w1.heap.size := by omega); (try have hl1_3 : w.heap.size + 1 + 1 + 1 < w1.heap.size := by omega); (try have hl1_4 : w.heap.size + 1 + 1 + 1 + 1 < w1.heap.size := by omega))
  simp only [wr_add_l, wr_add_r, wr_sub_l, wr_sub_r, wr_mul_l, wr_mul_r, wr_neg, wr_wr]
  refine bodyPost_ret (v := .agg #[.int .i64 (wrap64 ((p * s - q * r) * s)), .int .i64 (wrap64 (-(p * s - q * r) * q)), .int .i64 (wrap64 (-(p * s - q * r) * r)), .int .i64 (wrap64 ((p * s - q * r) * p))]) (by simp [results, Try.results131, go_sem, *]) rfl ?_
  refine ⟨rfl, ?_⟩
  repeat (first | exact Below.refl _ _ | assumption | refine Below.setCell ?_ (by first | omega | (simp; done) | (simp; omega)) _ | refine Below.alloc ?_ (by first | omega | (simp; done) | (simp; omega)) _ | refine Below.drew ?_ | refine below_drewN ?_ _ | refine Below.trans ?_ (Below.mono (by assumption) (by first | omega | (simp; done) | (simp; omega))))

theorem spec_foGood (a b c : Int) (w : World) :
    Calls Try.prog 147 #[.agg #[.int .i64 a, .int .i64 b, .int .i64 c]] w fun e w' => e = .returned (.bool (formB a b c)) ∧ Below w.heap.size w w' := by
  rw [formB_eq]
  cases h1 : numB a <;> cases h2 : numB b <;> cases h3 : numB c
  all_goals
    go_enter Try.func147, Try.ntmps147
    go_wp2_with (go_at_call 99; (with_reducible refine (spec_nuGood _ _).mono ?_); rintro e w' ⟨rfl, rfl⟩)
    go_ret
    refine ⟨rfl, ?_⟩
    repeat (first | exact Below.refl _ _ | assumption | refine Below.setCell ?_ (by first | omega | (simp; done) | (simp; omega)) _ | refine Below.alloc ?_ (by first | omega | (simp; done) | (simp; omega)) _ | refine Below.drew ?_ | refine below_drewN ?_ _ | refine Below.trans ?_ (Below.mono (by assumption) (by first | omega | (simp; done) | (simp; omega))))

theorem spec_foMatrix (a b c d : Int) (w : World) :
    Calls Try.prog 57 #[.agg #[.int .i64 a, .int .i64 b, .int .i64 c, .int .i64 d]] w fun e w' => e = .returned (.bool (matB a b c d)) ∧ Below w.heap.size w w' := by
  rw [matB_eq]
  cases h1 : numB a <;> cases h2 : numB b <;> cases h3 : numB c <;> cases h4 : numB d
  all_goals
    go_enter Try.func57, Try.ntmps57
    go_wp2_with (go_at_call 99; (with_reducible refine (spec_nuGood _ _).mono ?_); rintro e w' ⟨rfl, rfl⟩)
    go_ret
    refine ⟨rfl, ?_⟩
    repeat (first | exact Below.refl _ _ | assumption | refine Below.setCell ?_ (by first | omega | (simp; done) | (simp; omega)) _ | refine Below.alloc ?_ (by first | omega | (simp; done) | (simp; omega)) _ | refine Below.drew ?_ | refine below_drewN ?_ _ | refine Below.trans ?_ (Below.mono (by assumption) (by first | omega | (simp; done) | (simp; omega))))

theorem impl_IsForm (a b c : Int) (w : World) :
    Calls Try.prog 149 #[.agg #[.int .i64 a, .int .i64 b, .int .i64 c]] w fun e w' => e = .returned (.bool (formB a b c)) ∧ Below w.heap.size w w' := by
  rw [formB_eq]
  go_enter Try.func149, Try.ntmps149
  go_wp2_with (go_at_call 104; (with_reducible refine (impl_areNumbers3 _ _ _ _ _ _ _ _ (heap_new (by simp))).mono ?_); rintro e w' ⟨rfl, rfl⟩)
  go_ret
  refine ⟨rfl, ?_⟩
  repeat (first | exact Below.refl _ _ | assumption | refine Below.setCell ?_ (by first | omega | (simp; done) | (simp; omega)) _ | refine Below.alloc ?_ (by first | omega | (simp; done) | (simp; omega)) _ | refine Below.drew ?_ | refine below_drewN ?_ _ | refine Below.trans ?_ (Below.mono (by assumption) (by first | omega | (simp; done) | (simp; omega))))

theorem impl_IsMatrix (a b c d : Int) (w : World) :
    Calls Try.prog 61 #[.agg #[.int .i64 a, .int .i64 b, .int .i64 c, .int .i64 d]] w fun e w' => e = .returned (.bool (matB a b c d)) ∧ Below w.heap.size w w' := by
  rw [matB_eq]
  go_enter Try.func61, Try.ntmps61
  go_wp2_with (go_at_call 104; (with_reducible refine (impl_areNumbers4 _ _ _ _ _ _ _ _ _ (heap_new (by simp))).mono ?_); rintro e w' ⟨rfl, rfl⟩)
  go_ret
  refine ⟨rfl, ?_⟩
  repeat (first | exact Below.refl _ _ | assumption | refine Below.setCell ?_ (by first | omega | (simp; done) | (simp; omega)) _ | refine Below.alloc ?_ (by first | omega | (simp; done) | (simp; omega)) _ | refine Below.drew ?_ | refine below_drewN ?_ _ | refine Below.trans ?_ (Below.mono (by assumption) (by first | omega | (simp; done) | (simp; omega))))

def defB (a b c : Int) : Bool := formB a b c && (decide (dsc a b c < 0) && decide (0 < a))
theorem defB_iff {a b c : Int} : defB a b c = true ↔ formB a b c = true ∧ dsc a b c < 0 ∧ 0 < a := by simp [defB]
def shownB (a b c : Int) : Bool := defB a b c && decide (-2000 ≤ dsc a b c)
theorem shownB_iff {a b c : Int} : shownB a b c = true ↔ formB a b c = true ∧ dsc a b c < 0 ∧ 0 < a ∧ -2000 ≤ dsc a b c := by simp [shownB, defB_iff, and_assoc]

theorem spec_foDefinite (a b c : Int) (w : World) :
    Calls Try.prog 134 #[.agg #[.int .i64 a, .int .i64 b, .int .i64 c]] w fun e w' => e = .returned (.bool (defB a b c)) ∧ Below w.heap.size w w' := by
  unfold defB
  cases h1 : formB a b c
  · go_enter Try.func134, Try.ntmps134
    go_wp2_with (go_at_call 147; (with_reducible refine (spec_foGood _ _ _ _).mono ?_); rintro e w1 ⟨rfl, hb1⟩; obtain ⟨hc1, hf1, hz1⟩ := bcell hb1; (try simp at hz1); (try have hl1_0 : w.heap.size < w1.heap.size := by omega); (try have hl1_1 : w.heap.size + 1 < w1.heap.size := by omega); (try have hl1_2 : w.heap.size + 1 + 1 < w1.heap.size := by omega); (try have hl1_3 : w.heap.size + 1 + 1 + 1 < w1.heap.size := by omega); (try have hl1_4 : w.heap.size + 1 + 1 + 1 + 1 < w1.heap.size := by omega))
    go_ret
    refine ⟨rfl, ?_⟩
    repeat (first | exact Below.refl _ _ | assumption | refine Below.setCell ?_ (by first | omega | (simp; done) | (simp; omega)) _ | refine Below.alloc ?_ (by first | omega | (simp; done) | (simp; omega)) _ | refine Below.drew ?_ | refine below_drewN ?_ _ | refine Below.trans ?_ (Below.mono (by assumption) (by first | omega | (simp; done) | (simp; omega))))
  · have hw := wrap_dsc h1
    by_cases h2 : dsc a b c < 0 <;> by_cases h3 : 0 < a
    all_goals
      go_enter Try.func134, Try.ntmps134
      go_wp2_with (first | (go_at_call 147; (with_reducible refine (spec_foGood _ _ _ _).mono ?_); rintro e w1 ⟨rfl, hb1⟩; obtain ⟨hc1, hf1, hz1⟩ := bcell hb1; (try simp at hz1); (try have hl1_0 : w.heap.size < w1.heap.size := by omega); (try have hl1_1 : w.heap.size + 1 < w1.heap.size := by omega); (try have hl1_2 : w.heap.size + 1 + 1 < w1.heap.size := by omega); (try have hl1_3 : w.heap.size + 1 + 1 + 1 < w1.heap.size := by omega); (try have hl1_4 : w.heap.size + 1 + 1 + 1 + 1 < w1.heap.size := by omega)) | (go_at_call 56; (with_reducible refine (spec_foDisc _ _ _ _).mono ?_); rintro e w2 ⟨rfl, hb2⟩; obtain ⟨hc2, hf2, hz2⟩ := bcell hb2; (try simp at hz2); (try have hl2_0 : w.heap.size < w2.heap.size := by omega); (try have hl2_1 : w.heap.size + 1 < w2.heap.size := by omega); (try have hl2_2 : w.heap.size + 1 + 1 < w2.heap.size := by omega); (try have hl2_3 : w.heap.size + 1 + 1 + 1 < w2.heap.size := by omega); (try have hl2_4 : w.heap.size + 1 + 1 + 1 + 1 < w2.heap.size := by omega)))
      go_ret
      refine ⟨ret_bool (by simp [h2, h3]), ?_⟩
      repeat (first | exact Below.refl _ _ | assumption | refine Below.setCell ?_ (by first | omega | (simp; done) | (simp; omega)) _ | refine Below.alloc ?_ (by first | omega | (simp; done) | (simp; omega)) _ | refine Below.drew ?_ | refine below_drewN ?_ _ | refine Below.trans ?_ (Below.mono (by assumption) (by first | omega | (simp; done) | (simp; omega))))

theorem impl_isDefinite (a b c : Int) (w : World) :
    Calls Try.prog 136 #[.agg #[.int .i64 a, .int .i64 b, .int .i64 c]] w fun e w' => e = .returned (.bool (defB a b c)) ∧ Below w.heap.size w w' := by
  unfold defB
  cases h1 : formB a b c
  · go_enter Try.func136, Try.ntmps136
    go_wp2_with (go_at_call 149; (with_reducible refine (impl_IsForm _ _ _ _).mono ?_); rintro e w1 ⟨rfl, hb1⟩; obtain ⟨hc1, hf1, hz1⟩ := bcell hb1; (try simp at hz1); (try have hl1_0 : w.heap.size < w1.heap.size := by omega); (try have hl1_1 : w.heap.size + 1 < w1.heap.size := by omega); (try have hl1_2 : w.heap.size + 1 + 1 < w1.heap.size := by omega); (try have hl1_3 : w.heap.size + 1 + 1 + 1 < w1.heap.size := by omega); (try have hl1_4 : w.heap.size + 1 + 1 + 1 + 1 < w1.heap.size := by omega))
    go_ret
    refine ⟨rfl, ?_⟩
    repeat (first | exact Below.refl _ _ | assumption | refine Below.setCell ?_ (by first | omega | (simp; done) | (simp; omega)) _ | refine Below.alloc ?_ (by first | omega | (simp; done) | (simp; omega)) _ | refine Below.drew ?_ | refine below_drewN ?_ _ | refine Below.trans ?_ (Below.mono (by assumption) (by first | omega | (simp; done) | (simp; omega))))
  · have hw := wrap_dsc h1
    by_cases h2 : dsc a b c < 0 <;> by_cases h3 : 0 < a
    all_goals
      go_enter Try.func136, Try.ntmps136
      go_wp2_with (first | (go_at_call 149; (with_reducible refine (impl_IsForm _ _ _ _).mono ?_); rintro e w1 ⟨rfl, hb1⟩; obtain ⟨hc1, hf1, hz1⟩ := bcell hb1; (try simp at hz1); (try have hl1_0 : w.heap.size < w1.heap.size := by omega); (try have hl1_1 : w.heap.size + 1 < w1.heap.size := by omega); (try have hl1_2 : w.heap.size + 1 + 1 < w1.heap.size := by omega); (try have hl1_3 : w.heap.size + 1 + 1 + 1 < w1.heap.size := by omega); (try have hl1_4 : w.heap.size + 1 + 1 + 1 + 1 < w1.heap.size := by omega)) | (go_at_call 63; (with_reducible refine (impl_Form_disc _ _ _ _).mono ?_); rintro e w2 ⟨rfl, hb2⟩; obtain ⟨hc2, hf2, hz2⟩ := bcell hb2; (try simp at hz2); (try have hl2_0 : w.heap.size < w2.heap.size := by omega); (try have hl2_1 : w.heap.size + 1 < w2.heap.size := by omega); (try have hl2_2 : w.heap.size + 1 + 1 < w2.heap.size := by omega); (try have hl2_3 : w.heap.size + 1 + 1 + 1 < w2.heap.size := by omega); (try have hl2_4 : w.heap.size + 1 + 1 + 1 + 1 < w2.heap.size := by omega)))
      go_ret
      refine ⟨ret_bool (by simp [h2, h3]), ?_⟩
      repeat (first | exact Below.refl _ _ | assumption | refine Below.setCell ?_ (by first | omega | (simp; done) | (simp; omega)) _ | refine Below.alloc ?_ (by first | omega | (simp; done) | (simp; omega)) _ | refine Below.drew ?_ | refine below_drewN ?_ _ | refine Below.trans ?_ (Below.mono (by assumption) (by first | omega | (simp; done) | (simp; omega))))

theorem spec_vaForm (a b c : Int) (w : World) :
    Calls Try.prog 96 #[.agg #[.int .i64 a, .int .i64 b, .int .i64 c]] w fun e w' => e = .returned (.bool (shownB a b c)) ∧ Below w.heap.size w w' := by
  unfold shownB
  cases h1 : defB a b c
  · go_enter Try.func96, Try.ntmps96
    go_wp2_with (go_at_call 134; (with_reducible refine (spec_foDefinite _ _ _ _).mono ?_); rintro e w1 ⟨rfl, hb1⟩; obtain ⟨hc1, hf1, hz1⟩ := bcell hb1; (try simp at hz1); (try have hl1_0 : w.heap.size < w1.heap.size := by omega); (try have hl1_1 : w.heap.size + 1 < w1.heap.size := by omega); (try have hl1_2 : w.heap.size + 1 + 1 < w1.heap.size := by omega); (try have hl1_3 : w.heap.size + 1 + 1 + 1 < w1.heap.size := by omega); (try have hl1_4 : w.heap.size + 1 + 1 + 1 + 1 < w1.heap.size := by omega))
    go_ret
    refine ⟨rfl, ?_⟩
    repeat (first | exact Below.refl _ _ | assumption | refine Below.setCell ?_ (by first | omega | (simp; done) | (simp; omega)) _ | refine Below.alloc ?_ (by first | omega | (simp; done) | (simp; omega)) _ | refine Below.drew ?_ | refine below_drewN ?_ _ | refine Below.trans ?_ (Below.mono (by assumption) (by first | omega | (simp; done) | (simp; omega))))
  · have hw := wrap_dsc (defB_iff.1 h1).1
    by_cases h2 : -2000 ≤ dsc a b c
    all_goals
      go_enter Try.func96, Try.ntmps96
      go_wp2_with (first | (go_at_call 134; (with_reducible refine (spec_foDefinite _ _ _ _).mono ?_); rintro e w1 ⟨rfl, hb1⟩; obtain ⟨hc1, hf1, hz1⟩ := bcell hb1; (try simp at hz1); (try have hl1_0 : w.heap.size < w1.heap.size := by omega); (try have hl1_1 : w.heap.size + 1 < w1.heap.size := by omega); (try have hl1_2 : w.heap.size + 1 + 1 < w1.heap.size := by omega); (try have hl1_3 : w.heap.size + 1 + 1 + 1 < w1.heap.size := by omega); (try have hl1_4 : w.heap.size + 1 + 1 + 1 + 1 < w1.heap.size := by omega)) | (go_at_call 56; (with_reducible refine (spec_foDisc _ _ _ _).mono ?_); rintro e w2 ⟨rfl, hb2⟩; obtain ⟨hc2, hf2, hz2⟩ := bcell hb2; (try simp at hz2); (try have hl2_0 : w.heap.size < w2.heap.size := by omega); (try have hl2_1 : w.heap.size + 1 < w2.heap.size := by omega); (try have hl2_2 : w.heap.size + 1 + 1 < w2.heap.size := by omega); (try have hl2_3 : w.heap.size + 1 + 1 + 1 < w2.heap.size := by omega); (try have hl2_4 : w.heap.size + 1 + 1 + 1 + 1 < w2.heap.size := by omega)))
      go_ret
      refine ⟨ret_bool (by simp [h2]), ?_⟩
      repeat (first | exact Below.refl _ _ | assumption | refine Below.setCell ?_ (by first | omega | (simp; done) | (simp; omega)) _ | refine Below.alloc ?_ (by first | omega | (simp; done) | (simp; omega)) _ | refine Below.drew ?_ | refine below_drewN ?_ _ | refine Below.trans ?_ (Below.mono (by assumption) (by first | omega | (simp; done) | (simp; omega))))

theorem impl_isShownForm (a b c : Int) (w : World) :
    Calls Try.prog 102 #[.agg #[.int .i64 a, .int .i64 b, .int .i64 c]] w fun e w' => e = .returned (.bool (shownB a b c)) ∧ Below w.heap.size w w' := by
  unfold shownB
  cases h1 : defB a b c
  · go_enter Try.func102, Try.ntmps102
    go_wp2_with (go_at_call 136; (with_reducible refine (impl_isDefinite _ _ _ _).mono ?_); rintro e w1 ⟨rfl, hb1⟩; obtain ⟨hc1, hf1, hz1⟩ := bcell hb1; (try simp at hz1); (try have hl1_0 : w.heap.size < w1.heap.size := by omega); (try have hl1_1 : w.heap.size + 1 < w1.heap.size := by omega); (try have hl1_2 : w.heap.size + 1 + 1 < w1.heap.size := by omega); (try have hl1_3 : w.heap.size + 1 + 1 + 1 < w1.heap.size := by omega); (try have hl1_4 : w.heap.size + 1 + 1 + 1 + 1 < w1.heap.size := by omega))
    go_ret
    refine ⟨rfl, ?_⟩
    repeat (first | exact Below.refl _ _ | assumption | refine Below.setCell ?_ (by first | omega | (simp; done) | (simp; omega)) _ | refine Below.alloc ?_ (by first | omega | (simp; done) | (simp; omega)) _ | refine Below.drew ?_ | refine below_drewN ?_ _ | refine Below.trans ?_ (Below.mono (by assumption) (by first | omega | (simp; done) | (simp; omega))))
  · have hw := wrap_dsc (defB_iff.1 h1).1
    by_cases h2 : -2000 ≤ dsc a b c
    all_goals
      go_enter Try.func102, Try.ntmps102
      go_wp2_with (first | (go_at_call 136; (with_reducible refine (impl_isDefinite _ _ _ _).mono ?_); rintro e w1 ⟨rfl, hb1⟩; obtain ⟨hc1, hf1, hz1⟩ := bcell hb1; (try simp at hz1); (try have hl1_0 : w.heap.size < w1.heap.size := by omega); (try have hl1_1 : w.heap.size + 1 < w1.heap.size := by omega); (try have hl1_2 : w.heap.size + 1 + 1 < w1.heap.size := by omega); (try have hl1_3 : w.heap.size + 1 + 1 + 1 < w1.heap.size := by omega); (try have hl1_4 : w.heap.size + 1 + 1 + 1 + 1 < w1.heap.size := by omega)) | (go_at_call 63; (with_reducible refine (impl_Form_disc _ _ _ _).mono ?_); rintro e w2 ⟨rfl, hb2⟩; obtain ⟨hc2, hf2, hz2⟩ := bcell hb2; (try simp at hz2); (try have hl2_0 : w.heap.size < w2.heap.size := by omega); (try have hl2_1 : w.heap.size + 1 < w2.heap.size := by omega); (try have hl2_2 : w.heap.size + 1 + 1 < w2.heap.size := by omega); (try have hl2_3 : w.heap.size + 1 + 1 + 1 < w2.heap.size := by omega); (try have hl2_4 : w.heap.size + 1 + 1 + 1 + 1 < w2.heap.size := by omega)))
      go_ret
      refine ⟨ret_bool (by simp [h2]), ?_⟩
      repeat (first | exact Below.refl _ _ | assumption | refine Below.setCell ?_ (by first | omega | (simp; done) | (simp; omega)) _ | refine Below.alloc ?_ (by first | omega | (simp; done) | (simp; omega)) _ | refine Below.drew ?_ | refine below_drewN ?_ _ | refine Below.trans ?_ (Below.mono (by assumption) (by first | omega | (simp; done) | (simp; omega))))

def cont (a b c : Int) : Int := (Int.gcd a (Int.gcd b c) : Int)
theorem cont_assoc (a b c : Int) : (Int.gcd (Int.gcd a b) c : Int) = cont a b c := by
  unfold cont
  rw [Int.gcd_assoc]
theorem gcd_le1 {a b : Int} (ha1 : -1000000 ≤ a) (ha2 : a ≤ 1000000) (hb1 : -1000000 ≤ b) (hb2 : b ≤ 1000000) : (0 : Int) ≤ (Int.gcd a b : Int) ∧ (Int.gcd a b : Int) ≤ 1000000 := by
  refine ⟨by omega, ?_⟩
  rcases Classical.em (a = 0) with h | h
  · subst h
    simp
    omega
  · have := Nat.le_of_dvd (by omega) (Nat.gcd_dvd_left a.natAbs b.natAbs)
    show ((Nat.gcd a.natAbs b.natAbs : Nat) : Int) ≤ _
    omega
def classB (a b c : Int) : Bool := shownB a b c && (cont a b c == 1)
theorem classB_iff {a b c : Int} : classB a b c = true ↔ shownB a b c = true ∧ cont a b c = 1 := by simp [classB]

theorem impl_Form_content (a b c : Int) (w : World) (h : formB a b c = true) :
    Calls Try.prog 103 #[.agg #[.int .i64 a, .int .i64 b, .int .i64 c]] w fun e w' => e = .returned (.int .i64 (cont a b c)) ∧ Below w.heap.size w w' := by
  obtain ⟨⟨a1, a2⟩, ⟨b1, b2⟩, c1, c2⟩ := formB_iff.1 h
  obtain ⟨g1, g2⟩ := gcd_le1 b1 b2 c1 c2
  clear h
  go_enter Try.func103, Try.ntmps103
  go_wp2_with fail
  go_quiet ((go_at_call 137; exact Calls.quiet_of (impl_gcd _ _ _ (by omega) (by omega) (by omega) (by omega))))
  go_wp2_with fail
  go_ret
  refine ⟨rfl, ?_⟩
  repeat (first | exact Below.refl _ _ | assumption | refine Below.setCell ?_ (by first | omega | (simp; done) | (simp; omega)) _ | refine Below.alloc ?_ (by first | omega | (simp; done) | (simp; omega)) _ | refine Below.drew ?_ | refine below_drewN ?_ _ | refine Below.trans ?_ (Below.mono (by assumption) (by first | omega | (simp; done) | (simp; omega))))

theorem spec_foContent (a b c : Int) (w : World) (h : formB a b c = true) :
    Calls Try.prog 97 #[.agg #[.int .i64 a, .int .i64 b, .int .i64 c]] w fun e w' => e = .returned (.int .i64 (cont a b c)) ∧ Below w.heap.size w w' := by
  obtain ⟨⟨a1, a2⟩, ⟨b1, b2⟩, c1, c2⟩ := formB_iff.1 h
  obtain ⟨g1, g2⟩ := gcd_le1 a1 a2 b1 b2
  clear h
  go_enter Try.func97, Try.ntmps97
  go_wp2_with fail
  go_quiet ((go_at_call 135; exact Calls.quiet_of (spec_nuGcd _ _ _ (by omega) (by omega) (by omega) (by omega))))
  go_wp2_with fail
  go_ret
  refine ⟨ret_int (cont_assoc _ _ _), ?_⟩
  repeat (first | exact Below.refl _ _ | assumption | refine Below.setCell ?_ (by first | omega | (simp; done) | (simp; omega)) _ | refine Below.alloc ?_ (by first | omega | (simp; done) | (simp; omega)) _ | refine Below.drew ?_ | refine below_drewN ?_ _ | refine Below.trans ?_ (Below.mono (by assumption) (by first | omega | (simp; done) | (simp; omega))))

theorem impl_isClassForm (a b c : Int) (w : World) :
    Calls Try.prog 60 #[.agg #[.int .i64 a, .int .i64 b, .int .i64 c]] w fun e w' => e = .returned (.bool (classB a b c)) ∧ Below w.heap.size w w' := by
  unfold classB
  cases h1 : shownB a b c
  · go_enter Try.func60, Try.ntmps60
    go_wp2_with (go_at_call 102; (with_reducible refine (impl_isShownForm _ _ _ _).mono ?_); rintro e w1 ⟨rfl, hb1⟩; obtain ⟨hc1, hf1, hz1⟩ := bcell hb1; (try simp at hz1); (try have hl1_0 : w.heap.size < w1.heap.size := by omega); (try have hl1_1 : w.heap.size + 1 < w1.heap.size := by omega); (try have hl1_2 : w.heap.size + 1 + 1 < w1.heap.size := by omega); (try have hl1_3 : w.heap.size + 1 + 1 + 1 < w1.heap.size := by omega); (try have hl1_4 : w.heap.size + 1 + 1 + 1 + 1 < w1.heap.size := by omega))
    go_ret
    refine ⟨rfl, ?_⟩
    repeat (first | exact Below.refl _ _ | assumption | refine Below.setCell ?_ (by first | omega | (simp; done) | (simp; omega)) _ | refine Below.alloc ?_ (by first | omega | (simp; done) | (simp; omega)) _ | refine Below.drew ?_ | refine below_drewN ?_ _ | refine Below.trans ?_ (Below.mono (by assumption) (by first | omega | (simp; done) | (simp; omega))))
  · have hf := (shownB_iff.1 h1).1
    go_enter Try.func60, Try.ntmps60
    go_wp2_with (first | (go_at_call 102; (with_reducible refine (impl_isShownForm _ _ _ _).mono ?_); rintro e w1 ⟨rfl, hb1⟩; obtain ⟨hc1, hf1, hz1⟩ := bcell hb1; (try simp at hz1); (try have hl1_0 : w.heap.size < w1.heap.size := by omega); (try have hl1_1 : w.heap.size + 1 < w1.heap.size := by omega); (try have hl1_2 : w.heap.size + 1 + 1 < w1.heap.size := by omega); (try have hl1_3 : w.heap.size + 1 + 1 + 1 < w1.heap.size := by omega); (try have hl1_4 : w.heap.size + 1 + 1 + 1 + 1 < w1.heap.size := by omega)) | (go_at_call 103; (with_reducible refine (impl_Form_content _ _ _ _ (by assumption)).mono ?_); rintro e w2 ⟨rfl, hb2⟩; obtain ⟨hc2, hf2, hz2⟩ := bcell hb2; (try simp at hz2); (try have hl2_0 : w.heap.size < w2.heap.size := by omega); (try have hl2_1 : w.heap.size + 1 < w2.heap.size := by omega); (try have hl2_2 : w.heap.size + 1 + 1 < w2.heap.size := by omega); (try have hl2_3 : w.heap.size + 1 + 1 + 1 < w2.heap.size := by omega); (try have hl2_4 : w.heap.size + 1 + 1 + 1 + 1 < w2.heap.size := by omega)))
    go_ret
    refine ⟨rfl, ?_⟩
    repeat (first | exact Below.refl _ _ | assumption | refine Below.setCell ?_ (by first | omega | (simp; done) | (simp; omega)) _ | refine Below.alloc ?_ (by first | omega | (simp; done) | (simp; omega)) _ | refine Below.drew ?_ | refine below_drewN ?_ _ | refine Below.trans ?_ (Below.mono (by assumption) (by first | omega | (simp; done) | (simp; omega))))

theorem spec_coGood (a b c : Int) (w : World) :
    Calls Try.prog 54 #[.agg #[.int .i64 a, .int .i64 b, .int .i64 c]] w fun e w' => e = .returned (.bool (classB a b c)) ∧ Below w.heap.size w w' := by
  unfold classB
  cases h1 : shownB a b c
  · go_enter Try.func54, Try.ntmps54
    go_wp2_with (go_at_call 96; (with_reducible refine (spec_vaForm _ _ _ _).mono ?_); rintro e w1 ⟨rfl, hb1⟩; obtain ⟨hc1, hf1, hz1⟩ := bcell hb1; (try simp at hz1); (try have hl1_0 : w.heap.size < w1.heap.size := by omega); (try have hl1_1 : w.heap.size + 1 < w1.heap.size := by omega); (try have hl1_2 : w.heap.size + 1 + 1 < w1.heap.size := by omega); (try have hl1_3 : w.heap.size + 1 + 1 + 1 < w1.heap.size := by omega); (try have hl1_4 : w.heap.size + 1 + 1 + 1 + 1 < w1.heap.size := by omega))
    go_ret
    refine ⟨rfl, ?_⟩
    repeat (first | exact Below.refl _ _ | assumption | refine Below.setCell ?_ (by first | omega | (simp; done) | (simp; omega)) _ | refine Below.alloc ?_ (by first | omega | (simp; done) | (simp; omega)) _ | refine Below.drew ?_ | refine below_drewN ?_ _ | refine Below.trans ?_ (Below.mono (by assumption) (by first | omega | (simp; done) | (simp; omega))))
  · have hf := (shownB_iff.1 h1).1
    go_enter Try.func54, Try.ntmps54
    go_wp2_with (first | (go_at_call 96; (with_reducible refine (spec_vaForm _ _ _ _).mono ?_); rintro e w1 ⟨rfl, hb1⟩; obtain ⟨hc1, hf1, hz1⟩ := bcell hb1; (try simp at hz1); (try have hl1_0 : w.heap.size < w1.heap.size := by omega); (try have hl1_1 : w.heap.size + 1 < w1.heap.size := by omega); (try have hl1_2 : w.heap.size + 1 + 1 < w1.heap.size := by omega); (try have hl1_3 : w.heap.size + 1 + 1 + 1 < w1.heap.size := by omega); (try have hl1_4 : w.heap.size + 1 + 1 + 1 + 1 < w1.heap.size := by omega)) | (go_at_call 97; (with_reducible refine (spec_foContent _ _ _ _ (by assumption)).mono ?_); rintro e w2 ⟨rfl, hb2⟩; obtain ⟨hc2, hf2, hz2⟩ := bcell hb2; (try simp at hz2); (try have hl2_0 : w.heap.size < w2.heap.size := by omega); (try have hl2_1 : w.heap.size + 1 < w2.heap.size := by omega); (try have hl2_2 : w.heap.size + 1 + 1 < w2.heap.size := by omega); (try have hl2_3 : w.heap.size + 1 + 1 + 1 < w2.heap.size := by omega); (try have hl2_4 : w.heap.size + 1 + 1 + 1 + 1 < w2.heap.size := by omega)))
    go_ret
    refine ⟨rfl, ?_⟩
    repeat (first | exact Below.refl _ _ | assumption | refine Below.setCell ?_ (by first | omega | (simp; done) | (simp; omega)) _ | refine Below.alloc ?_ (by first | omega | (simp; done) | (simp; omega)) _ | refine Below.drew ?_ | refine below_drewN ?_ _ | refine Below.trans ?_ (Below.mono (by assumption) (by first | omega | (simp; done) | (simp; omega))))

theorem laws_toForm (a b c : Int) (w : World) :
    Calls Try.prog 22 #[.agg #[.int .i64 a, .int .i64 b, .int .i64 c]] w fun e w' => e = .returned (.agg #[.int .i64 a, .int .i64 b, .int .i64 c]) ∧ Below w.heap.size w w' := by
  go_enter Try.func22, Try.ntmps22
  go_wp2
  refine bodyPost_ret (v := .agg #[.int .i64 a, .int .i64 b, .int .i64 c]) (by simp [results, Try.results22, go_sem, *]) rfl ?_
  refine ⟨rfl, ?_⟩
  repeat (first | exact Below.refl _ _ | assumption | refine Below.setCell ?_ (by first | omega | (simp; done) | (simp; omega)) _ | refine Below.alloc ?_ (by first | omega | (simp; done) | (simp; omega)) _ | refine Below.drew ?_ | refine below_drewN ?_ _ | refine Below.trans ?_ (Below.mono (by assumption) (by first | omega | (simp; done) | (simp; omega))))

theorem laws_toMatrix (a b c d : Int) (w : World) :
    Calls Try.prog 23 #[.agg #[.int .i64 a, .int .i64 b, .int .i64 c, .int .i64 d]] w fun e w' => e = .returned (.agg #[.int .i64 a, .int .i64 b, .int .i64 c, .int .i64 d]) ∧ Below w.heap.size w w' := by
  go_enter Try.func23, Try.ntmps23
  go_wp2
  refine bodyPost_ret (v := .agg #[.int .i64 a, .int .i64 b, .int .i64 c, .int .i64 d]) (by simp [results, Try.results23, go_sem, *]) rfl ?_
  refine ⟨rfl, ?_⟩
  repeat (first | exact Below.refl _ _ | assumption | refine Below.setCell ?_ (by first | omega | (simp; done) | (simp; omega)) _ | refine Below.alloc ?_ (by first | omega | (simp; done) | (simp; omega)) _ | refine Below.drew ?_ | refine below_drewN ?_ _ | refine Below.trans ?_ (Below.mono (by assumption) (by first | omega | (simp; done) | (simp; omega))))

theorem impl_Form_substitute (a b c p q r s : Int) (w : World) :
    Calls Try.prog 65 #[.agg #[.int .i64 a, .int .i64 b, .int .i64 c], .agg #[.int .i64 p, .int .i64 q, .int .i64 r, .int .i64 s]] w fun e w' => e = .returned (.agg #[.int .i64 (wrap64 (fAt a b c p r)), .int .i64 (wrap64 (fPol a b c p r q s)), .int .i64 (wrap64 (fAt a b c q s))]) ∧ Below w.heap.size w w' := by
  go_enter Try.func65, Try.ntmps65
  go_wp2_with fail
  have hs0_1 : w.heap.size < w.heap.size + 1 := (by omega); have hs0_2 : w.heap.size < w.heap.size + 1 + 1 := (by omega); have hs1_2 : w.heap.size + 1 < w.heap.size + 1 + 1 := (by omega); have hs0_3 : w.heap.size < w.heap.size + 1 + 1 + 1 := (by omega); have hs1_3 : w.heap.size + 1 < w.heap.size + 1 + 1 + 1 := (by omega); have hs2_3 : w.heap.size + 1 + 1 < w.heap.size + 1 + 1 + 1 := (by omega)
  go_region_held3 (fun w' => (w'.cell? ⟨w.heap.size, 0, none⟩ = some (.int .i64 a) ∧ w'.cell? ⟨w.heap.size, 1, none⟩ = some (.int .i64 b) ∧ w'.cell? ⟨w.heap.size, 2, none⟩ = some (.int .i64 c)) ∧ w'.cell? ⟨w.heap.size + 1, 0, none⟩ = some (.int .i64 p) ∧ w'.cell? ⟨w.heap.size + 1, 1, none⟩ = some (.int .i64 q) ∧ w'.cell? ⟨w.heap.size + 1, 2, none⟩ = some (.int .i64 r) ∧ w'.cell? ⟨w.heap.size + 1, 3, none⟩ = some (.int .i64 s)) (((try dsimp only); (repeat' (apply And.intro))) <;> ((repeat rw [World.cell?_setCell_other (h := by intro hh; injection hh with hh1 hh2; omega)]); first | assumption | go_keep)) (first | (go_at_call 107; (with_reducible refine (impl_Form_polar _ _ _ _ _ _ _ _).mono ?_); rintro e w2 ⟨rfl, hb2⟩; obtain ⟨hc2, hf2, hz2⟩ := bcell hb2; (try simp at hz2); (try have hl2_0 : w.heap.size < w2.heap.size := by omega); (try have hl2_1 : w.heap.size + 1 < w2.heap.size := by omega); (try have hl2_2 : w.heap.size + 1 + 1 < w2.heap.size := by omega); (try have hl2_3 : w.heap.size + 1 + 1 + 1 < w2.heap.size := by omega); (try have hl2_4 : w.heap.size + 1 + 1 + 1 + 1 < w2.heap.size := by omega)) | (go_at_call 106; (with_reducible refine (impl_Form_at _ _ _ _ _ _).mono ?_); rintro e w1 ⟨rfl, hb1⟩; obtain ⟨hc1, hf1, hz1⟩ := bcell hb1; (try simp at hz1); (try have hl1_0 : w.heap.size < w1.heap.size := by omega); (try have hl1_1 : w.heap.size + 1 < w1.heap.size := by omega); (try have hl1_2 : w.heap.size + 1 + 1 < w1.heap.size := by omega); (try have hl1_3 : w.heap.size + 1 + 1 + 1 < w1.heap.size := by omega); (try have hl1_4 : w.heap.size + 1 + 1 + 1 + 1 < w1.heap.size := by omega)))
  go_wp2_with fail
  refine bodyPost_ret (v := .agg #[.int .i64 (wrap64 (fAt a b c p r)), .int .i64 (wrap64 (fPol a b c p r q s)), .int .i64 (wrap64 (fAt a b c q s))]) (by simp [results, Try.results65, go_sem, *]) rfl ?_
  refine ⟨rfl, ?_⟩
  repeat (first | exact Below.refl _ _ | assumption | refine Below.setCell ?_ (by first | omega | (simp; done) | (simp; omega)) _ | refine Below.alloc ?_ (by first | omega | (simp; done) | (simp; omega)) _ | refine Below.drew ?_ | refine below_drewN ?_ _ | refine Below.trans ?_ (Below.mono (by assumption) (by first | omega | (simp; done) | (simp; omega))))

theorem spec_foAct (a b c p q r s : Int) (w : World) :
    Calls Try.prog 59 #[.agg #[.int .i64 a, .int .i64 b, .int .i64 c], .agg #[.int .i64 p, .int .i64 q, .int .i64 r, .int .i64 s]] w fun e w' => e = .returned (.agg #[.int .i64 (wrap64 (fAt a b c p r)), .int .i64 (wrap64 (fPol a b c p r q s)), .int .i64 (wrap64 (fAt a b c q s))]) ∧ Below w.heap.size w w' := by
  go_enter Try.func59, Try.ntmps59
  go_wp2_with fail
  have hs0_1 : w.heap.size < w.heap.size + 1 := (by omega); have hs0_2 : w.heap.size < w.heap.size + 1 + 1 := (by omega); have hs1_2 : w.heap.size + 1 < w.heap.size + 1 + 1 := (by omega); have hs0_3 : w.heap.size < w.heap.size + 1 + 1 + 1 := (by omega); have hs1_3 : w.heap.size + 1 < w.heap.size + 1 + 1 + 1 := (by omega); have hs2_3 : w.heap.size + 1 + 1 < w.heap.size + 1 + 1 + 1 := (by omega)
  go_region_held3 (fun w' => (w'.cell? ⟨w.heap.size, 0, none⟩ = some (.int .i64 a) ∧ w'.cell? ⟨w.heap.size, 1, none⟩ = some (.int .i64 b) ∧ w'.cell? ⟨w.heap.size, 2, none⟩ = some (.int .i64 c)) ∧ w'.cell? ⟨w.heap.size + 1, 0, none⟩ = some (.int .i64 p) ∧ w'.cell? ⟨w.heap.size + 1, 1, none⟩ = some (.int .i64 q) ∧ w'.cell? ⟨w.heap.size + 1, 2, none⟩ = some (.int .i64 r) ∧ w'.cell? ⟨w.heap.size + 1, 3, none⟩ = some (.int .i64 s)) (((try dsimp only); (repeat' (apply And.intro))) <;> ((repeat rw [World.cell?_setCell_other (h := by intro hh; injection hh with hh1 hh2; omega)]); first | assumption | go_keep)) (first | (go_at_call 101; (with_reducible refine (spec_foPolar _ _ _ _ _ _ _ _).mono ?_); rintro e w2 ⟨rfl, hb2⟩; obtain ⟨hc2, hf2, hz2⟩ := bcell hb2; (try simp at hz2); (try have hl2_0 : w.heap.size < w2.heap.size := by omega); (try have hl2_1 : w.heap.size + 1 < w2.heap.size := by omega); (try have hl2_2 : w.heap.size + 1 + 1 < w2.heap.size := by omega); (try have hl2_3 : w.heap.size + 1 + 1 + 1 < w2.heap.size := by omega); (try have hl2_4 : w.heap.size + 1 + 1 + 1 + 1 < w2.heap.size := by omega)) | (go_at_call 100; (with_reducible refine (spec_foValue _ _ _ _ _ _).mono ?_); rintro e w1 ⟨rfl, hb1⟩; obtain ⟨hc1, hf1, hz1⟩ := bcell hb1; (try simp at hz1); (try have hl1_0 : w.heap.size < w1.heap.size := by omega); (try have hl1_1 : w.heap.size + 1 < w1.heap.size := by omega); (try have hl1_2 : w.heap.size + 1 + 1 < w1.heap.size := by omega); (try have hl1_3 : w.heap.size + 1 + 1 + 1 < w1.heap.size := by omega); (try have hl1_4 : w.heap.size + 1 + 1 + 1 + 1 < w1.heap.size := by omega)))
  go_wp2_with fail
  refine bodyPost_ret (v := .agg #[.int .i64 (wrap64 (fAt a b c p r)), .int .i64 (wrap64 (fPol a b c p r q s)), .int .i64 (wrap64 (fAt a b c q s))]) (by simp [results, Try.results59, go_sem, *]) rfl ?_
  refine ⟨rfl, ?_⟩
  repeat (first | exact Below.refl _ _ | assumption | refine Below.setCell ?_ (by first | omega | (simp; done) | (simp; omega)) _ | refine Below.alloc ?_ (by first | omega | (simp; done) | (simp; omega)) _ | refine Below.drew ?_ | refine below_drewN ?_ _ | refine Below.trans ?_ (Below.mono (by assumption) (by first | omega | (simp; done) | (simp; omega))))

end Go.Proofs.Ytdffhgibkeifmaa
