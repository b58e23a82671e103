/-
  Where a prime may rise, and the forms above it on both sides, worked out.
  Conditions: none.
-/
import Derived.Test.YtdffhgibkeifmaaKcDscRed
namespace Go.Proofs.Ytdffhgibkeifmaa
set_option linter.unusedVariables false
set_option linter.unusedSimpArgs false
set_option maxRecDepth 100000

theorem up_val {d p : Int} (h : w64 (w64 (d * p) * p) = d * p * p) : r_impl_isNegativeDisc (w64 (w64 (d * p) * p)) = some (decide (-2000 ≤ d * p * p ∧ d * p * p ≤ -3 ∧ d * p * p % 4 ≤ 1)) := by
  rw [h, negdisc_val]
theorem lf_cases (d p : Int) (hd : -2000 ≤ d ∧ d ≤ -3 ∧ d % 4 ≤ 1) : (r_spec_odUp d p = some false ∧ r_impl_canRise d p = some false) ∨ (r_spec_odUp d p = some true ∧ r_impl_canRise d p = some true ∧ r_impl_isPrime p = some true ∧ w64 (w64 (d * p) * p) = d * p * p ∧ 2 ≤ p ∧ p ≤ 25 ∧ -2000 ≤ d * p * p) := by
  simp only [r_spec_odUp, negdisc_eq, negdisc_val d, Option.bind_some]
  rw [decide_eq_true hd]
  simp only [cond_true, Bool.not_true, cond_false, r_spec_odPrime, r_spec_l1In, prime_eq, r_impl_canRise, r_impl_IsPrime, num_val _ (show [p].length < 1000000 by simp), List.all_cons, List.all_nil, Bool.and_true, Option.bind_some, inN, leI_eq]
  by_cases h0 : p < 2
  · have e1 : ¬ (2 ≤ p) := by omega
    have e2 : r_impl_isPrime p = some false := by simp only [r_impl_isPrime, ltI_eq, decide_eq_true h0, cond_true]
    left
    rw [decide_eq_false e1, e2]
    constructor
    · rfl
    · cases (decide (-1000000 ≤ p) && decide (p ≤ 1000000)) <;> rfl
  · by_cases h1 : 1000000 < p
    · have e1 : ¬ (p ≤ 1000) := by omega
      have e2 : ¬ (p ≤ 1000000) := by omega
      left
      constructor <;> simp [e1, e2]
    · obtain ⟨q, hq⟩ := prime_some p (by omega)
      rw [hq, decide_eq_true (show 2 ≤ p by omega), decide_eq_true (show -1000000 ≤ p by omega), decide_eq_true (show p ≤ 1000000 by omega)]
      cases q with
      | false => left; constructor <;> simp
      | true =>
        by_cases h2 : p ≤ 2000
        · have m1 := abs_mul (x := d) (y := p) (A := 2000) (B := 2000) (by omega) (by omega)
          have m2 := abs_mul (x := d * p) (y := p) (A := 2000 * 2000) (B := 2000) m1 (by omega)
          have hw : w64 (w64 (d * p) * p) = d * p * p := by rw [w64_abs (n := d * p) (by omega), w64_abs (by omega)]
          rw [up_val hw]
          by_cases h3 : -2000 ≤ d * p * p
          · have h4 : p ≤ 25 := by
              by_cases h4 : p ≤ 25
              · exact h4
              · have k1 : 26 * 26 ≤ p * p := Int.mul_le_mul (by omega) (by omega) (by omega) (by omega)
                have k2 : 3 * (p * p) ≤ (-d) * (p * p) := Int.mul_le_mul_of_nonneg_right (by omega) (by omega)
                have k3 : (-d) * (p * p) = -(d * p * p) := by grind
                omega
            rw [decide_eq_true (show p ≤ 1000 by omega), decide_eq_true (show p ≤ 2000 by omega)]
            cases decide (-2000 ≤ d * p * p ∧ d * p * p ≤ -3 ∧ d * p * p % 4 ≤ 1) with
            | false => left; constructor <;> rfl
            | true => right; exact ⟨rfl, rfl, rfl, hw, by omega, h4, h3⟩
          · left
            rw [decide_eq_false (show ¬ (-2000 ≤ d * p * p ∧ d * p * p ≤ -3 ∧ d * p * p % 4 ≤ 1) by omega)]
            constructor
            · cases decide (p ≤ 1000) <;> rfl
            · cases decide (p ≤ 2000) <;> rfl
        · left
          rw [decide_eq_false (show ¬ (p ≤ 1000) by omega), decide_eq_false h2]
          constructor <;> rfl
def eqF (a b : Int × Int × Int) : Bool := bif eqI a.1 b.1 then bif eqI a.2.1 b.2.1 then eqI a.2.2 b.2.2 else false else false
theorem eqF_eq {a b : Int × Int × Int} (h : eqF a b = true) : a = b := by
  obtain ⟨a1, a2, a3⟩ := a
  obtain ⟨b1, b2, b3⟩ := b
  unfold eqF at h
  simp only [eqI_eq] at h
  cases h1 : (a1 == b1) with
  | false => rw [h1] at h; cases h
  | true =>
    cases h2 : (a2 == b2) with
    | false => rw [h1, h2] at h; cases h
    | true =>
      rw [h1, h2] at h
      simp only [cond_true] at h
      rw [eq_of_beq h1, eq_of_beq h2, eq_of_beq h]
def eqLF : List (Int × Int × Int) → List (Int × Int × Int) → Bool
  | [], [] => true
  | a :: as, b :: bs => bif eqF a b then eqLF as bs else false
  | _, _ => false
theorem eqLF_eq : ∀ (a b : List (Int × Int × Int)), eqLF a b = true → a = b
  | [], [], _ => rfl
  | a :: as, b :: bs, h => by
    unfold eqLF at h
    cases h1 : eqF a b with
    | false => rw [h1] at h; cases h
    | true =>
      rw [h1, cond_true] at h
      rw [eqF_eq h1, eqLF_eq as bs h]
  | [], _ :: _, h => by cases h
  | _ :: _, [], h => by cases h
def desOk (p : Int) (e : Int × Int × Int) : Bool := match r_spec_odDescend e p, r_impl_descend e p with
  | some x, some y => eqF x.1 y.1
  | _, _ => false
theorem desOk_eq {p : Int} {e : Int × Int × Int} (h : desOk p e = true) : ∃ x y, r_spec_odDescend e p = some x ∧ r_impl_descend e p = some y ∧ x.1 = y.1 := by
  unfold desOk at h
  cases h1 : r_spec_odDescend e p with
  | none => rw [h1] at h; cases h
  | some x =>
    cases h2 : r_impl_descend e p with
    | none => rw [h1, h2] at h; cases h
    | some y =>
      rw [h1, h2] at h
      exact ⟨x, y, rfl, rfl, eqF_eq h⟩
def allDes (p : Int) : List (Int × Int × Int) → Bool
  | [] => true
  | e :: es => bif (sI e.1 fun x => sI e.2.1 fun y => sI e.2.2 fun z => desOk p (x, y, z)) then allDes p es else false
theorem allDes_at {p : Int} : ∀ (l : List (Int × Int × Int)), allDes p l = true → ∀ e ∈ l, desOk p e = true
  | [], _, e, he => by cases he
  | a :: as, h, e, he => by
    unfold allDes at h
    simp only [sI_eq] at h
    cases h1 : desOk p a with
    | false => rw [h1] at h; cases h
    | true =>
      rw [h1, cond_true] at h
      rcases List.mem_cons.1 he with h2 | h2
      · rw [h2]; exact h1
      · exact allDes_at as h e h2
def lfOk (p d : Int) : Bool := match r_spec_reList d, r_impl_reducedForms d with
  | some l, some m => bif eqLF l m then bif Nat.ble l.length 1000 then allDes p l else false else false
  | _, _ => false
theorem lfOk_eq {p d : Int} (h : lfOk p d = true) : ∃ l, r_spec_reList d = some l ∧ r_impl_reducedForms d = some l ∧ l.length ≤ 1000 ∧ ∀ e ∈ l, desOk p e = true := by
  unfold lfOk at h
  cases h1 : r_spec_reList d with
  | none => rw [h1] at h; cases h
  | some l =>
    cases h2 : r_impl_reducedForms d with
    | none => rw [h1, h2] at h; cases h
    | some m =>
      rw [h1, h2] at h
      simp only at h
      cases h3 : eqLF l m with
      | false => rw [h3] at h; cases h
      | true =>
        cases h4 : Nat.ble l.length 1000 with
        | false => rw [h3, h4] at h; cases h
        | true =>
          rw [h3, h4, cond_true, cond_true] at h
          exact ⟨l, rfl, by rw [eqLF_eq l m h3], Nat.le_of_ble_eq_true h4, allDes_at l h⟩
def lfAll (p : Int) : Nat → Int → Bool
  | 0, _ => true
  | n + 1, d => bif (bif leI (Int.emod d 4) 1 then sI (d * p * p) (lfOk p) else true) then sI (d - 1) (lfAll p n) else false
theorem lfAll_at {p : Int} : ∀ (n : Nat) (d0 : Int), lfAll p n d0 = true → ∀ d, d ≤ d0 → d0 - n < d → d % 4 ≤ 1 → lfOk p (d * p * p) = true
  | 0, d0, _, d, h1, h2, hm => by simp at h2; omega
  | n + 1, d0, h, d, h1, h2, hm => by
    unfold lfAll at h
    rw [sI_eq, leI_eq] at h
    cases h3 : (bif decide (Int.emod d0 4 ≤ 1) then lfOk p (d0 * p * p) else true) with
    | false => rw [h3] at h; cases h
    | true =>
      rw [h3, cond_true, sI_eq] at h
      by_cases h4 : d = d0
      · subst h4
        have e : Int.emod d 4 ≤ 1 := hm
        rw [decide_eq_true e, cond_true] at h3
        exact h3
      · exact lfAll_at n (d0 - 1) h d (by omega) (by push_cast at h2; omega) hm
end Go.Proofs.Ytdffhgibkeifmaa
