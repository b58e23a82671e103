/-
  Putting matrices in their order: the program's way and the reference's are one.
  Conditions: none.
-/
import Derived.Test.YtnifkkihamgmaaaDoorAcDscMat
import Derived.Test.YtnifkkihamgmaaaDoorAcCt0
namespace Go.Proofs.YtnifkkihamgmaaaDoor
set_option linter.unusedVariables false
set_option linter.unusedSimpArgs false

abbrev M4 := Int × Int × Int × Int
def LtM (m n : M4) : Prop := m.1 < n.1 ∨ (m.1 = n.1 ∧ (m.2.1 < n.2.1 ∨ (m.2.1 = n.2.1 ∧ (m.2.2.1 < n.2.2.1 ∨ (m.2.2.1 = n.2.2.1 ∧ m.2.2.2 < n.2.2.2)))))
instance (m n : M4) : Decidable (LtM m n) := by unfold LtM; infer_instance
theorem LtM.trans {a b c : M4} (h : LtM a b) (k : LtM b c) : LtM a c := by
  unfold LtM at *
  omega
theorem LtM.asym {a b : M4} (h : LtM a b) : ¬ LtM b a := by
  unfold LtM at *
  omega
theorem LtM.tot {a b : M4} (h : ¬ LtM a b) (k : ¬ LtM b a) : a = b := by
  obtain ⟨a1, a2, a3, a4⟩ := a
  obtain ⟨b1, b2, b3, b4⟩ := b
  unfold LtM at *
  simp only [Prod.mk.injEq]
  dsimp only at h k
  omega
/-- c is not below b, and a is below b: a is below c. -/
theorem LtM.mix {a b c : M4} (h : LtM a b) (k : ¬ LtM c b) : LtM a c := by
  unfold LtM at *
  omega
theorem less_val (m n : M4) : r_impl_lessMatrix m n = some (decide (LtM m n)) := by
  simp only [r_impl_lessMatrix, eqI_eq, ltI_eq]
  unfold LtM
  by_cases h1 : m.1 = n.1
  · by_cases h2 : m.2.1 = n.2.1
    · by_cases h3 : m.2.2.1 = n.2.2.1
      · simp [h1, h2, h3]
      · simp [h1, h2, h3, beq_eq_false_iff_ne.2 h3]
    · simp [h1, h2, beq_eq_false_iff_ne.2 h2]
  · simp [h1, beq_eq_false_iff_ne.2 h1]
theorem sless_val (m n : M4) : r_spec_reLess m n = some (decide (LtM m n)) := less_val m n
def posM (m : M4) (l : List M4) : Nat → Nat
  | 0 => 0
  | k + 1 => if LtM m (l.getD k m) then posM m l k else k + 1
theorem posM_le (m : M4) (l : List M4) : ∀ k, posM m l k ≤ k
  | 0 => Nat.le_refl _
  | k + 1 => by
    unfold posM
    have := posM_le m l k
    split <;> omega
def insM (m : M4) (l : List M4) : List M4 := l.take (posM m l l.length) ++ m :: l.drop (posM m l l.length)
def insR (m : M4) : List M4 → List M4
  | [] => [m]
  | x :: xs => if LtM m x then m :: x :: xs else x :: insR m xs
def SrtM (l : List M4) : Prop := l.Pairwise fun a b => ¬ LtM b a
theorem posM_cons (m x : M4) (xs : List M4) : ∀ k, posM m (x :: xs) (k + 1) = if posM m xs k = 0 then (if LtM m x then 0 else 1) else posM m xs k + 1
  | 0 => by simp [posM]
  | k + 1 => by
    have ih := posM_cons m x xs k
    rw [posM, show posM m xs (k + 1) = if LtM m (xs.getD k m) then posM m xs k else k + 1 from rfl, List.getD_cons_succ]
    split
    · exact ih
    · simp
theorem posM_stop (m : M4) (l : List M4) : ∀ k q, posM m l k = q + 1 → ¬ LtM m (l.getD q m) ∧ q < k
  | 0, q, h => by simp [posM] at h
  | k + 1, q, h => by
    unfold posM at h
    split at h
    · obtain ⟨h1, h2⟩ := posM_stop m l k q h
      exact ⟨h1, by omega⟩
    · rename_i hn
      have e : k = q := by omega
      subst e
      exact ⟨hn, by omega⟩
theorem insM_eq (m : M4) : ∀ (l : List M4), SrtM l → insM m l = insR m l
  | [], _ => rfl
  | x :: xs, h => by
    have hx := (List.pairwise_cons.1 h).1
    have ih := insM_eq m xs (List.pairwise_cons.1 h).2
    unfold insM at ih ⊢
    rw [List.length_cons, posM_cons]
    by_cases hp : posM m xs xs.length = 0
    · rw [hp] at ih
      rw [if_pos hp]
      by_cases hl : LtM m x
      · rw [if_pos hl]
        simp [insR, hl]
      · rw [if_neg hl]
        simp only [insR, if_neg hl, ← ih]
        simp
    · rw [if_neg hp]
      have hl : ¬ LtM m x := by
        obtain ⟨q, hq⟩ := Nat.exists_eq_succ_of_ne_zero hp
        obtain ⟨h1, h2⟩ := posM_stop m xs _ q hq
        intro hl
        refine h1 (hl.mix (hx _ ?_))
        rw [List.getD_eq_getElem?_getD, List.getElem?_eq_getElem h2]
        exact List.getElem_mem h2
      simp only [insR, if_neg hl, ← ih, List.take_succ_cons, List.drop_succ_cons, List.cons_append]
theorem mem_insR {m y : M4} : ∀ {l : List M4}, y ∈ insR m l → y = m ∨ y ∈ l
  | [], h => by simpa [insR] using h
  | x :: xs, h => by
    unfold insR at h
    split at h
    · simpa using h
    · rcases List.mem_cons.1 h with h | h
      · exact .inr (by rw [h]; simp)
      · rcases mem_insR h with h | h
        · exact .inl h
        · exact .inr (by simp [h])
theorem insR_srt {m : M4} : ∀ {l : List M4}, SrtM l → SrtM (insR m l)
  | [], _ => by simp [insR, SrtM]
  | x :: xs, h => by
    obtain ⟨h1, h2⟩ := List.pairwise_cons.1 h
    unfold insR
    split
    · rename_i hl
      refine List.pairwise_cons.2 ⟨fun y hy => ?_, h⟩
      rcases List.mem_cons.1 hy with hy | hy
      · rw [hy]; exact hl.asym
      · exact fun hc => h1 y hy (hc.trans hl)
    · rename_i hl
      refine List.pairwise_cons.2 ⟨fun y hy => ?_, insR_srt h2⟩
      rcases mem_insR hy with hy | hy
      · rw [hy]; exact hl
      · exact h1 y hy
theorem insR_len (m : M4) : ∀ (l : List M4), (insR m l).length = l.length + 1
  | [] => rfl
  | x :: xs => by
    unfold insR
    split
    · rfl
    · simp [insR_len m xs]
theorem insR_comm (a b : M4) : ∀ (l : List M4), insR a (insR b l) = insR b (insR a l)
  | [] => by
    by_cases h1 : LtM a b
    · simp [insR, h1, h1.asym]
    · by_cases h2 : LtM b a
      · simp [insR, h1, h2]
      · rw [LtM.tot h1 h2]
  | x :: xs => by
    have ih := insR_comm a b xs
    by_cases ha : LtM a x <;> by_cases hb : LtM b x
    · by_cases h1 : LtM a b
      · simp [insR, ha, hb, h1, h1.asym]
      · by_cases h2 : LtM b a
        · simp [insR, ha, hb, h1, h2]
        · rw [LtM.tot h1 h2]
    · have h1 : ¬ LtM b a := fun h => hb (h.trans ha)
      simp [insR, ha, hb, h1]
    · have h1 : ¬ LtM a b := fun h => ha (h.trans hb)
      simp [insR, ha, hb, h1]
    · simp [insR, ha, hb, ih]

theorem wpred {k : Nat} (h : k < 1000000000) : w64 (((k + 1 : Nat) : Int) - 1) = (k : Int) := by rw [w64_in (by omega)]; omega
theorem L19_run (m : M4) (l : List M4) (hl : l.length ≤ 1000) (t6 : Int) (y4 : (Int × Int × Int) × M4) (y5 : List M4) : ∀ (n k : Nat), k ≤ l.length → k < n → r_impl_Automorphs_L19 l t6 m y4 y5 n (k : Int) = some (posM m l k : Int)
  | 0, k, h1, h2 => by omega
  | n + 1, 0, h1, h2 => by
    unfold r_impl_Automorphs_L19
    rw [ltI_eq, decide_eq_false (by simp)]
    rfl
  | n + 1, k + 1, h1, h2 => by
    unfold r_impl_Automorphs_L19
    rw [ltI_eq, decide_eq_true (by omega), cond_true, wpred (by omega), getNat (show k < l.length by omega)]
    simp only [Option.bind_some, less_val]
    have e : l.getD k m = l[k]'(by omega) := by rw [List.getD_eq_getElem?_getD, List.getElem?_eq_getElem (by omega)]; rfl
    unfold posM
    rw [e]
    by_cases h : LtM m (l[k]'(by omega))
    · rw [decide_eq_true h, cond_true, if_pos h, sI_eq]
      exact L19_run m l hl t6 y4 y5 n k (by omega) (by omega)
    · rw [decide_eq_false h, cond_false, if_neg h]
theorem L30_run (m : M4) (l : List M4) (hl : l.length ≤ 1000) (f6 f7 f8 t10 u15 y9 : Int) : ∀ (n k : Nat) (x : M4), k ≤ l.length → k < n → ∃ x', r_spec_reAutomorphs_L30 m.1 m.2.1 m.2.2.1 m.2.2.2 f6 f7 f8 t10 u15 y9 n (k : Int) (l.take k ++ x :: l.drop k) = some ((posM m l k : Int), l.take (posM m l k) ++ x' :: l.drop (posM m l k))
  | 0, k, x, h1, h2 => by omega
  | n + 1, 0, x, h1, h2 => by
    unfold r_spec_reAutomorphs_L30
    rw [ltI_eq, decide_eq_false (by simp)]
    exact ⟨x, rfl⟩
  | n + 1, k + 1, x, h1, h2 => by
    unfold r_spec_reAutomorphs_L30
    have hkl : k < l.length := by omega
    have hlen : (l.take (k + 1) ++ x :: l.drop (k + 1)).length = l.length + 1 := by simp; omega
    have g1 : getI (l.take (k + 1) ++ x :: l.drop (k + 1)) (k : Int) = some (l[k]'hkl) := by
      rw [getNat (by rw [hlen]; omega)]
      congr 1
      rw [List.getElem_append_left (by simp; omega), List.getElem_take]
    have g2 : getI (l.take (k + 1) ++ x :: l.drop (k + 1)) ((k + 1 : Nat) : Int) = some x := by
      rw [getNat (by rw [hlen]; omega)]
      congr 1
      rw [List.getElem_append_right (by simp; omega)]
      simp [show k + 1 - min (k + 1) l.length = 0 by omega]
    rw [ltI_eq, decide_eq_true (by omega), cond_true, wpred (by omega), g1]
    simp only [Option.bind_some, sless_val]
    have e : l.getD k m = l[k]'hkl := by rw [List.getD_eq_getElem?_getD, List.getElem?_eq_getElem hkl]; rfl
    unfold posM
    rw [e]
    by_cases h : LtM m (l[k]'hkl)
    · rw [decide_eq_true h, cond_true, if_pos h, g2]
      simp only [Option.bind_some, sI_eq]
      have hset : (l.take (k + 1) ++ x :: l.drop (k + 1)).set (Int.toNat ((k + 1 : Nat) : Int)) (l[k]'hkl) = l.take k ++ (l[k]'hkl) :: l.drop k := by
        rw [Int.toNat_natCast, List.set_append_right _ _ (by simp; omega), show k + 1 - (l.take (k + 1)).length = 0 by simp; omega, List.set_cons_zero, List.drop_eq_getElem_cons hkl, List.take_succ_eq_append_getElem hkl, List.append_assoc]
        rfl
      rw [hset]
      exact L30_run m l hl f6 f7 f8 t10 u15 y9 n k _ (by omega) (by omega)
    · rw [decide_eq_false h, cond_false, if_neg h]
      exact ⟨x, rfl⟩
theorem set_mid {l : List M4} {p : Nat} (hp : p ≤ l.length) (x m : M4) : (l.take p ++ x :: l.drop p).set p m = l.take p ++ m :: l.drop p := by
  rw [List.set_append_right _ _ (by simp; omega), show p - (l.take p).length = 0 by simp; omega, List.set_cons_zero]
theorem copy_mid {l : List M4} {p : Nat} (hp : p ≤ l.length) (z : M4) : ∃ x, copyL (l ++ [z]) (p + 1) p = l.take p ++ x :: l.drop p := by
  have h1 : l = l.take p ++ l.drop p := (List.take_append_drop p l).symm
  have h2 : (l.take p).length = p := by simp; omega
  generalize l.take p = a at *
  generalize l.drop p = b at *
  subst h1
  subst h2
  unfold copyL splice cpN
  have e1 : Nat.min ((a ++ b ++ [z]).length - a.length) ((a ++ b ++ [z]).length - (a.length + 1)) = b.length := by
    simp only [List.length_append, List.length_cons, List.length_nil]
    show min _ _ = _
    omega
  have e0 : a ++ b ++ [z] = a ++ (b ++ [z]) := List.append_assoc ..
  have e2 : (b ++ [z]).take b.length = b := List.take_left
  have e3 : (a ++ (b ++ [z])).drop (a.length + 1 + b.length) = [] := List.drop_eq_nil_of_le (by simp; omega)
  rw [e1, e0, List.drop_left, e2, e3, List.append_nil]
  cases b with
  | nil => exact ⟨z, by rw [List.take_length_add_append]; simp⟩
  | cons b0 bs => exact ⟨b0, by rw [List.take_length_add_append]; simp⟩
end Go.Proofs.YtnifkkihamgmaaaDoor
