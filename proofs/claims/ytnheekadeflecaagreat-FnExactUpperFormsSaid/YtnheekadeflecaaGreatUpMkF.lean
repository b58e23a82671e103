/-
  A list of forms that is marked is held.
  Conditions: none.
-/
import Derived.Test.YtnheekadeflecaaGreatUpDscRed
namespace Go.Proofs.YtnheekadeflecaaGreat
set_option linter.unusedVariables false
set_option linter.unusedSimpArgs false

theorem room_ok {n : Nat} (h : n ≤ 1000000) : room n = some () := by
  unfold room
  rw [Nat.ble_eq_true_of_le (by omega), cond_true]
theorem getI_nat {α : Type} {l : List α} {k : Nat} (hk : k < l.length) : getI l (k : Int) = some (l[k]'hk) := by
  unfold getI
  rw [leI_eq, decide_eq_true (by omega), cond_true]
  simp
theorem eqForm_self (a : Int × Int × Int) : r_laws_eqForm a a = some true := by
  simp only [r_laws_eqForm, eqI_true, Bool.not_true, cond_false]
theorem eqFormS_run (l : List (Int × Int × Int)) (hl : l.length ≤ 1000) : ∀ (n k : Nat), k ≤ l.length → l.length - k < n → r_laws_eqFormS_L5 l l n (k : Int) = some (.inl ())
  | 0, k, h0, h1 => by omega
  | n + 1, k, h0, h1 => by
    unfold r_laws_eqFormS_L5
    rw [ltI_eq]
    by_cases hk : k < l.length
    · have ew : w64 ((k : Int) + 1) = ((k + 1 : Nat) : Int) := by rw [w64_in (by omega)]; push_cast; omega
      rw [decide_eq_true (by omega), cond_true, getI_nat hk]
      simp only [Option.bind_some, eqForm_self, Bool.not_true, cond_false, sI_eq, ew]
      exact eqFormS_run l hl n (k + 1) (by omega) (by omega)
    · rw [decide_eq_false (by omega), cond_false]
theorem eqFormS_self (l : List (Int × Int × Int)) (hl : l.length ≤ 1000) : r_laws_eqFormS l l = some true := by
  have := eqFormS_run l hl FU 0 (by omega) (by have : (1002 : Nat) ≤ FU := by decide
                                               omega)
  simp only [r_laws_eqFormS, eqI_true, Bool.not_true, cond_false, show ((0 : Nat) : Int) = 0 from rfl] at this ⊢
  rw [this]
  rfl
def mkd (i : Nat) : Int × Int × Int := (1 + 3 * (i : Int), 2 + 3 * (i : Int), 3 + 3 * (i : Int))
theorem mark_run : ∀ (n k : Nat) (l : List (Int × Int × Int)), l.length ≤ 1000 → k ≤ l.length → l.length - k < n → (∀ i, i < k → l[i]? = some (mkd i)) → ∃ r, r_laws_markFormS_L6 n (1 + 3 * (k : Int)) (k : Int) l = some (1 + 3 * (l.length : Int), r) ∧ r.length = l.length ∧ ∀ i, i < l.length → r[i]? = some (mkd i)
  | 0, k, l, hl, h0, h1, h2 => by omega
  | n + 1, k, l, hl, h0, h1, h2 => by
    unfold r_laws_markFormS_L6
    rw [ltI_eq]
    by_cases hk : k < l.length
    · have ew : w64 ((k : Int) + 1) = ((k + 1 : Nat) : Int) := by rw [w64_in (by omega)]; push_cast; omega
      have e1 : w64 (1 + 3 * (k : Int) + 1) = 2 + 3 * (k : Int) := by rw [w64_in (by omega)]; omega
      have e2 : w64 (2 + 3 * (k : Int) + 1) = 3 + 3 * (k : Int) := by rw [w64_in (by omega)]; omega
      have e3 : w64 (3 + 3 * (k : Int) + 1) = 1 + 3 * ((k + 1 : Nat) : Int) := by rw [w64_in (by omega)]; push_cast; omega
      have en : Int.toNat (k : Int) = k := rfl
      rw [decide_eq_true (by omega), cond_true, getI_nat hk]
      simp only [Option.bind_some, sI_eq, e1, e2, e3, ew, en]
      rw [getI_nat (by rw [List.length_set]; exact hk)]
      simp only [Option.bind_some, List.getElem_set_self, List.set_set, e1, e2, e3, ew]
      rw [getI_nat (by rw [List.length_set]; exact hk)]
      simp only [Option.bind_some, List.getElem_set_self, List.set_set, e1, e2, e3, ew]
      obtain ⟨r, g1, g2, g3⟩ := mark_run n (k + 1) (l.set k (1 + 3 * (k : Int), 2 + 3 * (k : Int), 3 + 3 * (k : Int))) (by rw [List.length_set]; exact hl) (by rw [List.length_set]; omega) (by rw [List.length_set]; omega) (by
        intro i hi
        by_cases hik : i = k
        · subst hik
          rw [List.getElem?_set_self hk]
          rfl
        · rw [List.getElem?_set_ne (by omega)]
          exact h2 i (by omega))
      rw [List.length_set] at g1 g2 g3
      exact ⟨r, g1, g2, g3⟩
    · have hkl : k = l.length := by omega
      rw [decide_eq_false (by omega), cond_false]
      refine ⟨l, by rw [hkl], rfl, fun i hi => h2 i (by omega)⟩
theorem held_run (l : List (Int × Int × Int)) (hl : l.length ≤ 1000) (h : ∀ i, i < l.length → l[i]? = some (mkd i)) : ∀ (n k : Nat), k ≤ l.length → l.length - k < n → r_laws_heldFormS_L5 l n (1 + 3 * (k : Int)) (k : Int) = some (.inl (1 + 3 * (l.length : Int)))
  | 0, k, h0, h1 => by omega
  | n + 1, k, h0, h1 => by
    unfold r_laws_heldFormS_L5
    rw [ltI_eq]
    by_cases hk : k < l.length
    · have ew : w64 ((k : Int) + 1) = ((k + 1 : Nat) : Int) := by rw [w64_in (by omega)]; push_cast; omega
      have e1 : w64 (1 + 3 * (k : Int) + 1) = 2 + 3 * (k : Int) := by rw [w64_in (by omega)]; omega
      have e2 : w64 (2 + 3 * (k : Int) + 1) = 3 + 3 * (k : Int) := by rw [w64_in (by omega)]; omega
      have e3 : w64 (3 + 3 * (k : Int) + 1) = 1 + 3 * ((k + 1 : Nat) : Int) := by rw [w64_in (by omega)]; push_cast; omega
      have hv : l[k]'hk = mkd k := by
        have := h k hk
        rw [List.getElem?_eq_getElem hk] at this
        exact some_inj this
      rw [decide_eq_true (by omega), cond_true, getI_nat hk, hv]
      simp only [Option.bind_some, mkd, eqI_true, Bool.not_true, cond_false, sI_eq, e1, e2, e3, ew]
      exact held_run l hl h n (k + 1) (by omega) (by omega)
    · have hkl : k = l.length := by omega
      rw [decide_eq_false (by omega), cond_false, hkl]
theorem mark_held (l : List (Int × Int × Int)) (hl : l.length ≤ 1000) : ∃ r, r_laws_markFormS l 1 = some (1 + 3 * (l.length : Int), r) ∧ r_laws_heldFormS r 1 = some (1 + 3 * (l.length : Int)) := by
  have hf : (1002 : Nat) ≤ FU := by decide
  obtain ⟨r, g1, g2, g3⟩ := mark_run FU 0 l hl (by omega) (by omega) (fun i hi => by omega)
  have g4 := held_run r (by omega) (by rw [g2]; exact g3) FU 0 (by omega) (by omega)
  have g1 : r_laws_markFormS_L6 FU 1 0 l = some (1 + 3 * (l.length : Int), r) := g1
  have g4 : r_laws_heldFormS_L5 r FU 1 0 = some (.inl (1 + 3 * (r.length : Int))) := g4
  refine ⟨r, ?_, ?_⟩
  · simp only [r_laws_markFormS, g1, Option.bind_some]
  · simp only [r_laws_heldFormS, g4, Option.bind_some, g2]
end Go.Proofs.YtnheekadeflecaaGreat
