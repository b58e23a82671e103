/-
  The program's and the reference's proof of a composite.
  Conditions: none.
-/
import Derived.Test.YtnifkkihamgmaaaDoorCcCmB
namespace Go.Proofs.YtnifkkihamgmaaaDoor
set_option linter.unusedVariables false
set_option linter.unusedSimpArgs false

theorem all_run (l : List Int) (hl : l.length < 1000000) : ∀ (n i : Nat), i ≤ l.length → l.length - i < n → r_spec_l1All_L5 1000000 l (-1000000) n (i : Int) = some (if (l.drop i).all inN then .inl () else .inr false)
  | 0, i, _, h => by omega
  | n + 1, i, hi, h => by
    unfold r_spec_l1All_L5
    rw [ltI_eq]
    by_cases h1 : (i : Int) < (l.length : Int)
    · have h2 : i < l.length := by omega
      rw [decide_eq_true h1, cond_true]
      rw [getNat h2, Option.bind_some, List.drop_eq_getElem_cons h2, List.all_cons]
      have hin : r_spec_l1In l[i] (-1000000) 1000000 = some (inN l[i]) := by
        simp only [r_spec_l1In, inN]
        cases leI (-1000000) l[i] <;> rfl
      rw [hin, Option.bind_some]
      have ih := all_run l hl n (i + 1) (by omega) (by omega)
      cases hb : inN l[i] with
      | false => simp
      | true =>
        simp only [Bool.not_true, cond_false, sI_eq, Bool.true_and]
        rw [w64_in (by omega), show ((i : Int) + 1) = ((i + 1 : Nat) : Int) by omega, ih]
    · rw [decide_eq_false h1, cond_false, List.drop_eq_nil_of_le (by omega)]
      simp
theorem all_val (l : List Int) (hl : l.length < 1000000) : r_spec_l1All l (-1000000) 1000000 = some (l.all inN) := by
  have h := all_run l hl FU 0 (Nat.zero_le _) (by have := FUge; omega)
  have e0 : (((0 : Nat) : Int)) = 0 := rfl
  rw [e0, List.drop_zero] at h
  unfold r_spec_l1All
  rw [h]
  cases l.all inN <;> simp
theorem mat_pol (A B C p q r s p' q' r' s' : Int) : 2 * (A * p * p + B * p * r + C * r * r) * p' * q' + (2 * A * p * q + B * (p * s + q * r) + 2 * C * r * s) * (p' * s' + q' * r') + 2 * (A * q * q + B * q * s + C * s * s) * r' * s' = 2 * A * (p * p' + q * r') * (p * q' + q * s') + B * ((p * p' + q * r') * (r * q' + s * s') + (p * q' + q * s') * (r * p' + s * r')) + 2 * C * (r * p' + s * r') * (r * q' + s * s') := by grind
theorem mat_mul {A B C p q r s a b c p' q' r' s' a' b' c' : Int} (h : MatInv A B C p q r s a b c) (k : MatInv a b c p' q' r' s' a' b' c') : MatInv A B C (p * p' + q * r') (p * q' + q * s') (r * p' + s * r') (r * q' + s * s') a' b' c' := by
  have v1 := mat_val h p' r'
  have v2 := mat_val h q' s'
  obtain ⟨e1, e2, e3, e4⟩ := k
  simp only [FV] at v1 v2
  refine ⟨by rw [← e1, v1], ?_, by rw [← e3, v2], ?_⟩
  · rw [← e2, ← h.e1, ← h.e2, ← h.e3]
    exact (mat_pol A B C p q r s p' q' r' s').symm
  · have : (p * p' + q * r') * (r * q' + s * s') - (p * q' + q * s') * (r * p' + s * r') = (p * s - q * r) * (p' * s' - q' * r') := by grind
    rw [this, h.dt, e4]; rfl
def cpR (h : F3) (l : List Int) : F3 × List Int × Bool := bif l.all inN then (h, l, true) else ((0, 0, 0), [], false)
end Go.Proofs.YtnifkkihamgmaaaDoor
