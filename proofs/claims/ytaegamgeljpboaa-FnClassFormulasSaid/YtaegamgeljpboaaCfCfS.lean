/-
  The sums of symbols by the quick way, and the class numbers that they give.
  Conditions: none.
-/
import Derived.Test.YtaegamgeljpboaaCfCfK2
namespace Go.Proofs.Ytaegamgeljpboaa
set_option linter.unusedVariables false
set_option linter.unusedSimpArgs false

/-- The sums of k times the symbol where it is one, and where it is minus one; how many of both below the half. -/
def bq : Nat → Nat → Nat → Nat → Nat → Nat → Nat → Option (Nat × Nat × Nat × Nat)
  | 0, _, _, _, _, _, _ => none
  | f + 1, D, k, p, m, hp, hm => bif Nat.ble D k then some (p, m, hp, hm) else
    fN (kN 100 D k false false) fun r => fN (Nat.succ k) fun k2 =>
      bif Nat.beq r 0 then bq f D k2 p m hp hm
      else bif Nat.beq r 1 then (fN (Nat.add p k) fun p2 => bif Nat.ble D (Nat.mul 2 k) then bq f D k2 p2 m hp hm else fN (Nat.succ hp) fun hp2 => bq f D k2 p2 m hp2 hm)
      else bif Nat.beq r 2 then (fN (Nat.add m k) fun m2 => bif Nat.ble D (Nat.mul 2 k) then bq f D k2 p m2 hp hm else fN (Nat.succ hm) fun hm2 => bq f D k2 p m2 hp hm2)
      else none
theorem nble (a b : Nat) : Nat.ble a b = decide (a ≤ b) := by
  rw [Bool.eq_iff_iff, decide_eq_true_iff, Nat.ble_eq]
/-- One round. -/
theorem bq_step {f D k p m hp hm : Nat} {Q : Nat × Nat × Nat × Nat} (h : bq (f + 1) D k p m hp hm = some Q) :
    (D ≤ k ∧ Q = (p, m, hp, hm)) ∨ (k < D ∧ ∃ r, kN 100 D k false false = r ∧ ((r = 0 ∧ bq f D (k + 1) p m hp hm = some Q) ∨ (r = 1 ∧ bq f D (k + 1) (p + k) m (if D ≤ 2 * k then hp else hp + 1) hm = some Q) ∨ (r = 2 ∧ bq f D (k + 1) p (m + k) hp (if D ≤ 2 * k then hm else hm + 1) = some Q))) := by
  rw [bq, nble] at h
  by_cases hk : D ≤ k
  · rw [decide_eq_true hk, cond_true] at h
    injection h with h
    exact .inl ⟨hk, h.symm⟩
  · rw [decide_eq_false hk, cond_false, fN_eq, fN_eq] at h
    refine .inr ⟨by omega, _, rfl, ?_⟩
    generalize kN 100 D k false false = r at h
    rw [nbeq, nbeq, nbeq] at h
    have e2 : Nat.ble D (Nat.mul 2 k) = decide (D ≤ 2 * k) := nble _ _
    by_cases r0 : r = 0
    · rw [decide_eq_true r0, cond_true] at h
      exact .inl ⟨r0, h⟩
    · rw [decide_eq_false r0, cond_false] at h
      by_cases r1 : r = 1
      · rw [decide_eq_true r1, cond_true, fN_eq, e2] at h
        refine .inr (.inl ⟨r1, ?_⟩)
        by_cases hh : D ≤ 2 * k
        · rw [decide_eq_true hh, cond_true] at h
          rw [if_pos hh]; exact h
        · rw [decide_eq_false hh, cond_false, fN_eq] at h
          rw [if_neg hh]; exact h
      · rw [decide_eq_false r1, cond_false] at h
        by_cases r2 : r = 2
        · rw [decide_eq_true r2, cond_true, fN_eq, e2] at h
          refine .inr (.inr ⟨r2, ?_⟩)
          by_cases hh : D ≤ 2 * k
          · rw [decide_eq_true hh, cond_true] at h
            rw [if_pos hh]; exact h
          · rw [decide_eq_false hh, cond_false, fN_eq] at h
            rw [if_neg hh]; exact h
        · rw [decide_eq_false r2, cond_false] at h
          cases h
theorem bq_sum {D : Nat} (hD : 3 ≤ D) (hD2 : D ≤ 2000) : ∀ (f k p m hp hm : Nat) (Q : Nat × Nat × Nat × Nat), bq f D k p m hp hm = some Q → 1 ≤ k → k ≤ 2000 → p ≤ 2000 * k → m ≤ 2000 * k → ∀ n, f ≤ n →
    r_impl_ClassNumberBySum_L6 (-(D : Int)) n ((p : Int) - m) (k : Int) = some ((Q.1 : Int) - Q.2.1) ∧ r_spec_ClassNumberBySum_L6 (-(D : Int)) n ((p : Int) - m) (k : Int) = some ((Q.1 : Int) - Q.2.1)
  | 0, k, p, m, hp, hm, Q, h, _, _, _, _, _, _ => by cases h
  | f + 1, k, p, m, hp, hm, Q, h, hk, hk2, hpb, hmb, n, hn => by
    obtain ⟨n', rfl⟩ : ∃ n', n = n' + 1 := ⟨n - 1, by omega⟩
    rw [r_impl_ClassNumberBySum_L6, r_spec_ClassNumberBySum_L6]
    have e1 : w64 (0 - -(D : Int)) = (D : Int) := by rw [w64_in (by omega)]; omega
    rw [e1, ltI_eq]
    rcases bq_step h with ⟨h1, rfl⟩ | ⟨h1, r, hr, h2⟩
    · rw [decide_eq_false (by omega), cond_false, cond_false]
      exact ⟨rfl, rfl⟩
    · have hr3 : r ≠ 3 := by omega
      obtain ⟨k1, k2⟩ := kron_both hD hD2 hk (by omega) hr hr3
      have ek : w64 ((k : Int) + 1) = ((k + 1 : Nat) : Int) := by rw [w64_in (by omega)]; push_cast; omega
      rw [decide_eq_true (by omega), cond_true, cond_true, k1, k2]
      simp only [Option.bind_some, sI_eq, ek]
      rcases h2 with ⟨rfl, h2⟩ | ⟨rfl, h2⟩ | ⟨rfl, h2⟩
      · have es : w64 ((p : Int) - m + w64 ((k : Int) * vl 0)) = (p : Int) - m := by
          rw [show vl 0 = 0 from rfl, Int.mul_zero, w64_in (n := 0) (by omega), w64_in (by omega)]; omega
        rw [es]
        exact bq_sum hD hD2 f (k + 1) p m _ _ Q h2 (by omega) (by omega) (by omega) (by omega) n' (by omega)
      · have es : w64 ((p : Int) - m + w64 ((k : Int) * vl 1)) = ((p + k : Nat) : Int) - m := by
          rw [show vl 1 = 1 from rfl, Int.mul_one, w64_in (n := (k : Int)) (by omega), w64_in (by omega)]; push_cast; omega
        rw [es]
        exact bq_sum hD hD2 f (k + 1) (p + k) m _ _ Q h2 (by omega) (by omega) (by omega) (by omega) n' (by omega)
      · have es : w64 ((p : Int) - m + w64 ((k : Int) * vl 2)) = (p : Int) - ((m + k : Nat) : Int) := by
          rw [show vl 2 = -1 from rfl, show (k : Int) * -1 = -(k : Int) by omega, w64_in (n := -(k : Int)) (by omega), w64_in (by omega)]; push_cast; omega
        rw [es]
        exact bq_sum hD hD2 f (k + 1) p (m + k) _ _ Q h2 (by omega) (by omega) (by omega) (by omega) n' (by omega)
theorem bq_tail {D : Nat} : ∀ (f k p m hp hm : Nat) (Q : Nat × Nat × Nat × Nat), bq f D k p m hp hm = some Q → D ≤ 2 * k → Q.2.2.1 = hp ∧ Q.2.2.2 = hm
  | 0, k, p, m, hp, hm, Q, h, _ => by cases h
  | f + 1, k, p, m, hp, hm, Q, h, hk => by
    rcases bq_step h with ⟨h1, rfl⟩ | ⟨h1, r, hr, h2⟩
    · exact ⟨rfl, rfl⟩
    · rcases h2 with ⟨_, h2⟩ | ⟨_, h2⟩ | ⟨_, h2⟩
      · exact bq_tail f (k + 1) _ _ _ _ Q h2 (by omega)
      · rw [if_pos hk] at h2
        exact bq_tail f (k + 1) _ _ _ _ Q h2 (by omega)
      · rw [if_pos hk] at h2
        exact bq_tail f (k + 1) _ _ _ _ Q h2 (by omega)
theorem bq_half {D : Nat} (hD : 3 ≤ D) (hD2 : D ≤ 2000) : ∀ (f k p m hp hm : Nat) (Q : Nat × Nat × Nat × Nat), bq f D k p m hp hm = some Q → 1 ≤ k → k ≤ 2000 → hp ≤ k → hm ≤ k → ∀ n, f ≤ n →
    r_impl_ClassNumberByHalf_L7 (-(D : Int)) n ((hp : Int) - hm) (k : Int) = some ((Q.2.2.1 : Int) - Q.2.2.2)
  | 0, k, p, m, hp, hm, Q, h, _, _, _, _, _, _ => by cases h
  | f + 1, k, p, m, hp, hm, Q, h, hk, hk2, hpb, hmb, n, hn => by
    obtain ⟨n', rfl⟩ : ∃ n', n = n' + 1 := ⟨n - 1, by omega⟩
    rw [r_impl_ClassNumberByHalf_L7]
    have e1 : w64 (0 - -(D : Int)) = (D : Int) := by rw [w64_in (by omega)]; omega
    have e2 : w64 (2 * (k : Int)) = 2 * (k : Int) := w64_in (by omega)
    rw [e1, e2, ltI_eq]
    by_cases hh : D ≤ 2 * k
    · obtain ⟨t1, t2⟩ := bq_tail _ _ _ _ _ _ _ h hh
      rw [decide_eq_false (by omega), cond_false, t1, t2]
    · rcases bq_step h with ⟨h1, rfl⟩ | ⟨h1, r, hr, h2⟩
      · omega
      · have hr3 : r ≠ 3 := by omega
        obtain ⟨k1, k2⟩ := kron_both hD hD2 hk (by omega) hr hr3
        have ek : w64 ((k : Int) + 1) = ((k + 1 : Nat) : Int) := by rw [w64_in (by omega)]; push_cast; omega
        rw [decide_eq_true (by omega), cond_true, k1]
        simp only [Option.bind_some, sI_eq, ek]
        rcases h2 with ⟨rfl, h2⟩ | ⟨rfl, h2⟩ | ⟨rfl, h2⟩
        · have es : w64 ((hp : Int) - hm + vl 0) = (hp : Int) - hm := by
            rw [show vl 0 = 0 from rfl, w64_in (by omega)]; omega
          rw [es]
          exact bq_half hD hD2 f (k + 1) _ _ hp hm Q h2 (by omega) (by omega) (by omega) (by omega) n' (by omega)
        · rw [if_neg hh] at h2
          have es : w64 ((hp : Int) - hm + vl 1) = ((hp + 1 : Nat) : Int) - hm := by
            rw [show vl 1 = 1 from rfl, w64_in (by omega)]; push_cast; omega
          rw [es]
          exact bq_half hD hD2 f (k + 1) _ _ (hp + 1) hm Q h2 (by omega) (by omega) (by omega) (by omega) n' (by omega)
        · rw [if_neg hh] at h2
          have es : w64 ((hp : Int) - hm + vl 2) = (hp : Int) - ((hm + 1 : Nat) : Int) := by
            rw [show vl 2 = -1 from rfl, w64_in (by omega)]; push_cast; omega
          rw [es]
          exact bq_half hD hD2 f (k + 1) _ _ hp (hm + 1) Q h2 (by omega) (by omega) (by omega) (by omega) n' (by omega)
/-- All class numbers of a discriminant, quickly. -/
def cfQ (D : Nat) : Bool := match r_impl_isFundamentalNegative (-(D : Int)), r_spec_huFundamental (-(D : Int)) with
  | some a, some b => bif (a != b) then false else bif a then (match bq 3000 D 1 0 0 0 0 with
    | some q => (match r_impl_automorphCount (-(D : Int)), r_spec_reUnits (-(D : Int)), r_impl_ClassNumber (-(D : Int)) with
      | some w, some u, some c => bif eqI w u then (bif c.2 then (bif eqI c.1 (w64 (Int.tdiv (w64 (w * ((q.1 : Int) - q.2.1))) (w64 (2 * -(D : Int))))) then
          (bif leI (-4) (-(D : Int)) then true else (bif Nat.beq (kN 100 D 2 false false) 3 then false else (bif eqI (w64 (2 - vl (kN 100 D 2 false false))) 0 then false else
            eqI (w64 (Int.tdiv ((q.2.2.1 : Int) - q.2.2.2) (w64 (2 - vl (kN 100 D 2 false false))))) c.1))) else false) else false) else false
      | _, _, _ => false)
    | none => false) else true
  | _, _ => false
def cfQall : Nat → Nat → Bool
  | 0, _ => true
  | n + 1, D => bif cfQ D then (bif cfB (-(D : Int)) then fN (D + 1) (cfQall n) else false) else false
end Go.Proofs.Ytaegamgeljpboaa
