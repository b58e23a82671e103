/-
  The number of some bytes.
  Conditions: none.
-/
import Derived.Test.YtdffhgibkeifmaaHsRaw
namespace Go.Proofs.Ytdffhgibkeifmaa
set_option linter.unusedVariables false
set_option linter.unusedSimpArgs false

theorem big_val {code more : List Int} : r_laws_big code more = some (decide (1048576 < code.length ∨ 1048576 - (code.length : Int) < more.length)) ∨ 1048576 < code.length ∧ r_laws_big code more = some true := by
  by_cases h : 1048576 < code.length
  · right
    refine ⟨h, ?_⟩
    simp only [r_laws_big, Option.bind_some, ltI_eq, decide_eq_true (show (1048576 : Int) < (code.length : Int) by omega), cond_true]
  · left
    simp only [r_laws_big, Option.bind_some, ltI_eq, decide_eq_false (show ¬ (1048576 : Int) < (code.length : Int) by omega), cond_false]
    rw [w64_in (by omega)]
    congr 1
    simp only [decide_eq_decide]
    omega
theorem big_cases (code more : List Int) : r_laws_big code more = some true ∨ (r_laws_big code more = some false ∧ code.length ≤ 1048576 ∧ more.length ≤ 1048576) := by
  rcases big_val (code := code) (more := more) with h | h
  · by_cases h1 : 1048576 < code.length ∨ 1048576 - (code.length : Int) < more.length
    · exact .inl (by rw [h, decide_eq_true h1])
    · refine .inr ⟨by rw [h, decide_eq_false h1], ?_, ?_⟩ <;> omega
  · exact .inl h.2
theorem wrap_u8 {x : Int} (h : 0 ≤ x ∧ x ≤ 255) : IntKind.i64.wrap x = x := wrap64_in (by omega)
theorem tmod_range {x n : Int} (hx : 0 ≤ x) (hn : 0 < n) : 0 ≤ x.tmod n ∧ x.tmod n < n := ⟨Int.tmod_nonneg _ hx, Int.tmod_lt_of_pos _ hn⟩
theorem getI_in {α : Type} {l : List α} {x : Int} (h1 : 0 ≤ x) (h2 : x < (l.length : Int)) : ∃ y, getI l x = some y ∧ y ∈ l := by
  have hi : x.toNat < l.length := by omega
  refine ⟨l[x.toNat], ?_, List.getElem_mem hi⟩
  unfold getI
  rw [leI_eq, decide_eq_true h1, cond_true]
  simp [hi]
theorem numberOf_run (b : List Int) (hb : b.length ≤ 1048576) (h8 : ∀ x ∈ b, 0 ≤ x ∧ x ≤ 255) : ∀ (n i : Nat) (v : Int), i ≤ b.length → b.length - i < n → 0 ≤ v → v < 1000003 → ∃ r, r_laws_numberOf_L4 b n v (i : Int) = some r ∧ 0 ≤ r ∧ r < 1000003
  | 0, i, v, _, h, _, _ => by omega
  | n + 1, i, v, hi, h, hv1, hv2 => by
    unfold r_laws_numberOf_L4
    rw [ltI_eq]
    by_cases h1 : (i : Int) < (b.length : Int)
    · obtain ⟨y, e1, hy⟩ := getI_in (l := b) (x := (i : Int)) (by omega) h1
      have h9 := h8 y hy
      simp only [decide_eq_true h1, cond_true, e1, Option.bind_some, sI_eq, wrap_u8 h9]
      rw [w64_in (n := 31 * v) (by omega), w64_in (n := 31 * v + y) (by omega), w64_in (n := (i : Int) + 1) (by omega), show ((i : Int) + 1) = ((i + 1 : Nat) : Int) by omega]
      have := tmod_range (x := 31 * v + y) (n := 1000003) (by omega) (by omega)
      exact numberOf_run b hb h8 n (i + 1) _ (by omega) (by omega) this.1 this.2
    · rw [decide_eq_false h1, cond_false]
      exact ⟨v, rfl, hv1, hv2⟩
theorem numberOf_ok {b : List Int} (hb : b.length ≤ 1048576) (h8 : ∀ x ∈ b, 0 ≤ x ∧ x ≤ 255) : ∃ r, r_laws_numberOf b = some r ∧ 0 ≤ r ∧ r < 1000003 := by
  obtain ⟨r, e, h1, h2⟩ := numberOf_run b hb h8 FU 0 0 (Nat.zero_le _) (by have : (1048577 : Nat) ≤ FU := by decide
                                                                           omega) (by omega) (by omega)
  have e : r_laws_numberOf_L4 b FU 0 0 = some r := e
  simp only [r_laws_numberOf, e, Option.bind_some]
  exact ⟨r, rfl, h1, h2⟩
end Go.Proofs.Ytdffhgibkeifmaa
