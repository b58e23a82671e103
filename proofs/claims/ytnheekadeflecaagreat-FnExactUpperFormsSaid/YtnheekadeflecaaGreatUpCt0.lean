/-
  Numbers and texts: what both ways of writing them give.
  Conditions: none.
-/
import Derived.Test.YtnheekadeflecaaGreatUpRaw
namespace Go.Proofs.YtnheekadeflecaaGreat
set_option linter.unusedVariables false
set_option linter.unusedSimpArgs false

theorem FUge : 1000000 ≤ FU := by decide
theorem nzOk {b : Int} (h : b ≠ 0) : nz b = some () := by
  unfold nz
  rw [eqI_eq]
  have : (b == 0) = false := by rw [beq_eq_false_iff_ne]; exact h
  rw [this]
  rfl
theorem eqSelf (a : Int) : eqI a a = true := by rw [eqI_eq]; exact beq_self_eq_true a
theorem eqNe {a b : Int} (h : a ≠ b) : eqI a b = false := by rw [eqI_eq, beq_eq_false_iff_ne]; exact h
theorem roomOk {n : Nat} (h : n ≤ 1000000000) : room n = some () := by
  unfold room
  rw [Nat.ble_eq_true_of_le (by omega), cond_true]
theorem getNat {α : Type} {l : List α} {k : Nat} (hk : k < l.length) : getI l (k : Int) = some (l[k]'hk) := by
  unfold getI
  rw [leI_eq, decide_eq_true (by omega), cond_true]
  simp
theorem wsucc {k : Nat} (h : k < 1000000000) : w64 ((k : Int) + 1) = ((k + 1 : Nat) : Int) := by rw [w64_in (by omega)]; push_cast; omega
/-- A string of bytes. -/
def bl (l : List UInt8) : ByteArray := ⟨l.toArray⟩
theorem bl_app (a b : List UInt8) : bl a ++ bl b = bl (a ++ b) := by
  apply ByteArray.ext
  simp [bl]
theorem bl_size (l : List UInt8) : (bl l).size = l.length := by simp [bl, ByteArray.size]
theorem bl_data (l : List UInt8) : (bl l).data.toList = l := by simp [bl]
theorem catBl {a b : List UInt8} (h : a.length + b.length ≤ 9223372036854775807) : catR (bl a) (bl b) = some () := by
  unfold catR
  rw [if_pos (by rw [bl_size, bl_size]; exact h)]
theorem bytes_one {d : Int} (h0 : 0 ≤ d) (h1 : d ≤ 9) : bytesI [IntKind.u8.wrap (w64 (48 + d))] = bl [UInt8.ofNat (48 + d.toNat)] := by
  rw [w64_in (by omega), IntKind.wrap_u8]
  have e : (48 + d) % 256 = 48 + d := by omega
  have e2 : (48 + d).toNat = 48 + d.toNat := by omega
  apply ByteArray.ext
  simp only [bytesI, List.foldl_cons, List.foldl_nil, e, e2]
  rfl
theorem nDig_le : ∀ (m v : Nat), v < 10 ^ m → 1 ≤ m → Go.Lib.nDigits v ≤ m
  | 0, v, hv, h => by omega
  | m + 1, v, hv, _ => by
    by_cases hv10 : v < 10
    · rw [Go.Lib.nDigits_small hv10]; omega
    · rw [Go.Lib.nDigits_big hv10]
      have : m ≠ 0 := by intro e; subst e; simp at hv; omega
      have := nDig_le m (v / 10) (by rw [Nat.pow_succ] at hv; omega) (by omega)
      omega
/-- A number that is not too great. -/
def sm18 (n : Int) : Prop := -1000000000000000000 < n ∧ n < 1000000000000000000
theorem itoa_len {n : Int} (h : sm18 n) : (Go.Lib.itoa n).length ≤ 19 := by
  obtain ⟨h0, h1⟩ := h
  unfold Go.Lib.itoa
  split
  · rw [List.length_cons, Go.Lib.decDigits_length]
    have := nDig_le 18 n.natAbs (by omega) (by omega)
    omega
  · rw [Go.Lib.decDigits_length]
    have := nDig_le 18 n.toNat (by omega) (by omega)
    omega
theorem itoa_eq {n : Int} (h : sm18 n) : r_strconv_Itoa n = some (bl (Go.Lib.itoa n)) := by
  obtain ⟨h0, h1⟩ := h
  unfold r_strconv_Itoa
  rw [if_pos (by omega)]
  rfl

/-! ### Words joined -/
theorem tail_len (ls : List (List UInt8)) (h : ∀ x ∈ ls, x.length ≤ 1000) : (Go.Lib.joinTail [32] ls).length ≤ 1001 * ls.length := by
  induction ls with
  | nil => simp [Go.Lib.joinTail]
  | cons x r ih =>
    have h1 := ih fun y hy => h y (List.mem_cons_of_mem _ hy)
    have h2 := h x List.mem_cons_self
    simp only [Go.Lib.joinTail, List.map_cons, List.flatten_cons, List.length_append, List.length_cons, List.length_nil] at h1 ⊢
    omega
theorem tail_cons (x : List UInt8) (r : List (List UInt8)) : Go.Lib.joinTail [32] (x :: r) = 32 :: (x ++ Go.Lib.joinTail [32] r) := by
  simp [Go.Lib.joinTail]
end Go.Proofs.YtnheekadeflecaaGreat
