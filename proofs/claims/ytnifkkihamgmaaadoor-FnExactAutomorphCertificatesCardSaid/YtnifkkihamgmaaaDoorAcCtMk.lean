/-
  A list of texts is like itself; one that is marked is held.
  Conditions: none.
-/
import Derived.Test.YtnifkkihamgmaaaDoorAcCt0
namespace Go.Proofs.YtnifkkihamgmaaaDoor
set_option linter.unusedVariables false
set_option linter.unusedSimpArgs false

theorem toList_self (a : ByteArray) : (a.toList == a.toList) = true := beq_self_eq_true _
theorem eqStr_run (l : List ByteArray) (hl : l.length ≤ 100000) : ∀ (n k : Nat), k ≤ l.length → l.length - k < n → r_laws_eqStringS_L5 l l n (k : Int) = some (.inl ())
  | 0, k, h0, h1 => by omega
  | n + 1, k, h0, h1 => by
    unfold r_laws_eqStringS_L5
    rw [ltI_eq]
    by_cases hk : k < l.length
    · rw [decide_eq_true (by omega), cond_true, getNat hk]
      simp only [Option.bind_some, toList_self, Bool.not_true, cond_false, sI_eq, wsucc (show k < 1000000000 by omega)]
      exact eqStr_run l hl n (k + 1) (by omega) (by omega)
    · rw [decide_eq_false (by omega), cond_false]
theorem eqStr_self (l : List ByteArray) (hl : l.length ≤ 100000) : r_laws_eqStringS l l = some true := by
  have hF := FUge
  have := eqStr_run l hl FU 0 (by omega) (by omega)
  have this : r_laws_eqStringS_L5 l l FU 0 = some (.inl ()) := this
  simp only [r_laws_eqStringS, eqSelf, Bool.not_true, cond_false]
  rw [this]
  rfl
theorem mt_run : ∀ (n j u : Nat) (out : List UInt8), u < 10 ^ j → j ≤ 18 → j < n → out.length + j ≤ 1000 → ∃ o, r_laws_markText_L5 n (u : Int) (bl out) = some (bl o) ∧ o.length ≤ out.length + j
  | 0, j, u, out, _, _, h, _ => by omega
  | n + 1, j, u, out, h1, h18, h2, ho => by
    unfold r_laws_markText_L5
    rw [ltI_eq]
    by_cases hu : 0 < u
    · have hj : j ≠ 0 := by
        intro e
        subst e
        simp at h1
        omega
      obtain ⟨i, rfl⟩ : ∃ i, j = i + 1 := ⟨j - 1, by omega⟩
      have h3 : u / 10 < 10 ^ i := by
        rw [Nat.pow_succ] at h1
        omega
      have hbig : 10 ^ (i + 1) ≤ 10 ^ 18 := Nat.pow_le_pow_right (by decide) h18
      have hb2 : u < 1000000000000000000 := Nat.lt_of_lt_of_le h1 hbig
      have e1 : w64 (Int.tdiv (u : Int) 10) = ((u / 10 : Nat) : Int) := by
        rw [show Int.tdiv (u : Int) 10 = ((u / 10 : Nat) : Int) from rfl, w64_in (by omega)]
      have e2 : Int.tmod (u : Int) 10 = ((u % 10 : Nat) : Int) := rfl
      rw [decide_eq_true (by omega), cond_true, e1, e2, bytes_one (by omega) (by omega), catBl (by simp; omega), Option.bind_some, bl_app, sI_eq]
      obtain ⟨o, g1, g2⟩ := mt_run n i (u / 10) ([UInt8.ofNat (48 + ((u % 10 : Nat) : Int).toNat)] ++ out) h3 (by omega) (by omega) (by simp; omega)
      refine ⟨o, g1, ?_⟩
      simp at g2
      omega
    · rw [decide_eq_false (by omega), cond_false]
      exact ⟨out, rfl, by omega⟩
theorem mt_ok {k : Nat} (h0 : 1 ≤ k) (h1 : k < 1000000000) : ∃ o, r_laws_markText (k : Int) = some o := by
  have hF := FUge
  obtain ⟨o, g1, g2⟩ := mt_run FU 9 k [] (by omega) (by omega) (by omega) (by simp)
  have e0 : (⟨#[]⟩ : ByteArray) = bl [] := rfl
  have e1 : (⟨#[109]⟩ : ByteArray) = bl [109] := rfl
  unfold r_laws_markText
  rw [leI_eq, decide_eq_false (by omega), cond_false, e0, g1, Option.bind_some, e1, catBl (by simp at g2 ⊢; omega), Option.bind_some]
  exact ⟨_, rfl⟩
def mt (k : Nat) : ByteArray := (r_laws_markText (k : Int)).getD (bl [])
theorem mt_eq {k : Nat} (h0 : 1 ≤ k) (h1 : k < 1000000000) : r_laws_markText (k : Int) = some (mt k) := by
  obtain ⟨o, ho⟩ := mt_ok h0 h1
  unfold mt
  rw [ho]
  rfl
theorem markS_run : ∀ (n k : Nat) (l : List ByteArray), l.length ≤ 100000 → k ≤ l.length → l.length - k < n → (∀ i, i < k → l[i]? = some (mt (i + 1))) → ∃ r, r_laws_markStringS_L6 n ((k + 1 : Nat) : Int) (k : Int) l = some (((l.length + 1 : Nat) : Int), r) ∧ r.length = l.length ∧ ∀ i, i < l.length → r[i]? = some (mt (i + 1))
  | 0, k, l, hl, h0, h1, h2 => by omega
  | n + 1, k, l, hl, h0, h1, h2 => by
    unfold r_laws_markStringS_L6
    rw [ltI_eq]
    by_cases hk : k < l.length
    · have en : Int.toNat (k : Int) = k := rfl
      rw [decide_eq_true (by omega), cond_true, mt_eq (by omega) (by omega), Option.bind_some, getNat hk]
      simp only [Option.bind_some, sI_eq, wsucc (show k < 1000000000 by omega), wsucc (show k + 1 < 1000000000 by omega), en]
      obtain ⟨r, g1, g2, g3⟩ := markS_run n (k + 1) (l.set k (mt (k + 1))) (by rw [List.length_set]; exact hl) (by rw [List.length_set]; omega) (by rw [List.length_set]; omega) (by
        intro i hi
        by_cases hik : i = k
        · subst hik
          rw [List.getElem?_set_self hk]
        · rw [List.getElem?_set_ne (by omega)]
          exact h2 i (by omega))
      rw [List.length_set] at g1 g2 g3
      exact ⟨r, g1, g2, g3⟩
    · have hkl : k = l.length := by omega
      rw [decide_eq_false (by omega), cond_false]
      refine ⟨l, by rw [hkl], rfl, fun i hi => h2 i (by omega)⟩
theorem heldS_run (l : List ByteArray) (hl : l.length ≤ 100000) (h : ∀ i, i < l.length → l[i]? = some (mt (i + 1))) : ∀ (n k : Nat), k ≤ l.length → l.length - k < n → r_laws_heldStringS_L5 l n ((k + 1 : Nat) : Int) (k : Int) = some (.inl ((l.length + 1 : Nat) : Int))
  | 0, k, h0, h1 => by omega
  | n + 1, k, h0, h1 => by
    unfold r_laws_heldStringS_L5
    rw [ltI_eq]
    by_cases hk : k < l.length
    · have hv : l[k]'hk = mt (k + 1) := by
        have := h k hk
        rw [List.getElem?_eq_getElem hk] at this
        exact some_inj this
      rw [decide_eq_true (by omega), cond_true, getNat hk, hv]
      simp only [Option.bind_some, mt_eq (show 1 ≤ k + 1 by omega) (show k + 1 < 1000000000 by omega), toList_self, Bool.not_true, cond_false, sI_eq, wsucc (show k < 1000000000 by omega), wsucc (show k + 1 < 1000000000 by omega)]
      exact heldS_run l hl h n (k + 1) (by omega) (by omega)
    · have hkl : k = l.length := by omega
      rw [decide_eq_false (by omega), cond_false, hkl]
theorem markS_held (l : List ByteArray) (hl : l.length ≤ 100000) : ∃ r, r_laws_markStringS l 1 = some (((l.length + 1 : Nat) : Int), r) ∧ r_laws_heldStringS r 1 = some ((l.length + 1 : Nat) : Int) := by
  have hF := FUge
  obtain ⟨r, g1, g2, g3⟩ := markS_run FU 0 l hl (by omega) (by omega) (fun i hi => by omega)
  have g4 := heldS_run r (by omega) (by rw [g2]; exact g3) FU 0 (by omega) (by omega)
  have g1 : r_laws_markStringS_L6 FU 1 0 l = some (((l.length + 1 : Nat) : Int), r) := g1
  have g4 : r_laws_heldStringS_L5 r FU 1 0 = some (.inl ((r.length + 1 : Nat) : Int)) := g4
  refine ⟨r, ?_, ?_⟩
  · simp only [r_laws_markStringS, g1, Option.bind_some]
  · simp only [r_laws_heldStringS, g4, Option.bind_some, g2]
end Go.Proofs.YtnifkkihamgmaaaDoor
