/-
  How the primes of a number and their exponents are worked out both ways.
  Conditions: none.
-/
import Derived.Test.YtmpnloechnfkjaaDoorRtCt0
namespace Go.Proofs.YtmpnloechnfkjaaDoor
set_option linter.unusedVariables false
set_option linter.unusedSimpArgs false
set_option maxRecDepth 100000

def eqLs : List Int → List Int → Bool
  | [], [] => true
  | a :: as, b :: bs => bif eqI a b then eqLs as bs else false
  | _, _ => false
theorem eqLs_eq : ∀ {a b : List Int}, eqLs a b = true → a = b
  | [], [], _ => rfl
  | [], _ :: _, h => by cases h
  | _ :: _, [], h => by cases h
  | a :: as, b :: bs, h => by
    unfold eqLs at h
    cases h1 : eqI a b with
    | false => rw [h1] at h; cases h
    | true =>
      rw [h1, cond_true] at h
      rw [eqI_eq] at h1
      rw [eqLs_eq h, eq_of_beq h1]
def obEx (n : Int) : List Int → Bool
  | [] => true
  | p :: ps => bif (bif leI 2 p then leI p 10000 else false) then (match r_spec_nuExponent n p, r_impl_exponent n p with | some a, some b => bif eqI a b then obEx n ps else false | _, _ => false) else false
def obN (n : Int) : Bool := match r_spec_nuPrimes n, r_impl_primesOf n with
  | some a, some b => bif eqLs a b then (bif Nat.ble a.length 100 then obEx n a else false) else false
  | _, _ => false
def obAll : Nat → Int → Bool
  | 0, _ => true
  | k + 1, n => bif obN n then sI (n + 1) (obAll k) else false
theorem obEx_at {n : Int} : ∀ {l : List Int}, obEx n l = true → ∀ p ∈ l, 2 ≤ p ∧ p ≤ 10000 ∧ ∃ e, r_spec_nuExponent n p = some e ∧ r_impl_exponent n p = some e
  | [], _, p, hp => by cases hp
  | q :: ps, h, p, hp => by
    unfold obEx at h
    have h := h
    cases h1 : (bif leI 2 q then leI q 10000 else false) with
    | false => rw [h1] at h; cases h
    | true =>
      rw [h1, cond_true] at h
      have h2 : 2 ≤ q ∧ q ≤ 10000 := by
        rw [leI_eq, leI_eq] at h1
        by_cases a : 2 ≤ q
        · rw [decide_eq_true a, cond_true] at h1
          exact ⟨a, of_decide_eq_true h1⟩
        · rw [decide_eq_false a, cond_false] at h1
          cases h1
      cases h3 : r_spec_nuExponent n q with
      | none => rw [h3] at h; cases h
      | some a =>
        cases h4 : r_impl_exponent n q with
        | none => rw [h3, h4] at h; cases h
        | some b =>
          rw [h3, h4] at h
          have h : (bif eqI a b then obEx n ps else false) = true := h
          cases h5 : eqI a b with
          | false => rw [h5] at h; cases h
          | true =>
            rw [h5, cond_true] at h
            rw [eqI_eq] at h5
            rcases List.mem_cons.1 hp with rfl | hp
            · exact ⟨h2.1, h2.2, a, h3, by rw [eq_of_beq h5]; exact h4⟩
            · exact obEx_at h p hp
theorem obN_at {n : Int} (h : obN n = true) : ∃ l, r_spec_nuPrimes n = some l ∧ r_impl_primesOf n = some l ∧ l.length ≤ 100 ∧ ∀ p ∈ l, 2 ≤ p ∧ p ≤ 10000 ∧ ∃ e, r_spec_nuExponent n p = some e ∧ r_impl_exponent n p = some e := by
  unfold obN at h
  cases h3 : r_spec_nuPrimes n with
  | none => rw [h3] at h; cases h
  | some a =>
    cases h4 : r_impl_primesOf n with
    | none => rw [h3, h4] at h; cases h
    | some b =>
      rw [h3, h4] at h
      have h7 : (bif eqLs a b then (bif Nat.ble a.length 100 then obEx n a else false) else false) = true := h
      clear h
      cases h5 : eqLs a b with
      | false => rw [h5] at h7; cases h7
      | true =>
        rw [h5, cond_true] at h7
        cases h6 : Nat.ble a.length 100 with
        | false => rw [h6] at h7; cases h7
        | true =>
          rw [h6, cond_true] at h7
          exact ⟨a, rfl, by rw [eqLs_eq h5], Nat.le_of_ble_eq_true h6, obEx_at h7⟩
theorem obAll_at : ∀ (k : Nat) (m : Int), obAll k m = true → ∀ n, m ≤ n → n < m + k → obN n = true
  | 0, m, _, n, h1, h2 => by simp at h2; omega
  | k + 1, m, h, n, h1, h2 => by
    unfold obAll at h
    cases h3 : obN m with
    | false => rw [h3] at h; cases h
    | true =>
      rw [h3, cond_true, sI_eq] at h
      by_cases h4 : n = m
      · subst h4; exact h3
      · exact obAll_at k (m + 1) h n (by omega) (by push_cast at h2; omega)
end Go.Proofs.YtmpnloechnfkjaaDoor
