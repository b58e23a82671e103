/-
  Discriminants, both ways, and the rows and sums of their symbols.
  Conditions: none.
-/
import Derived.Test.YtgeajejmikaniaaFpJcK
import Derived.Test.YtgeajejmikaniaaFpVlPt
namespace Go.Proofs.Ytgeajejmikaniaa
set_option linter.unusedVariables false
set_option linter.unusedSimpArgs false

theorem sq_both {d : Int} (hd : d.natAbs ≤ 1000000) : ∃ b, r_impl_isSquare d = some b ∧ r_spec_nuSquare d = some b ∧ (b = false → ∀ x : Int, x * x ≠ d) := by
  by_cases h : 0 ≤ d
  · obtain ⟨r, e1, r0, r1, r2, r3⟩ := root_val h (by omega)
    obtain ⟨t, e2, t0, t1, t2, t3⟩ := sroot_val h (by omega)
    have e : t = r := by
      rcases root_uni r0 (Int.le_refl (r * r)) (by have : (r + 1) * (r + 1) = r * r + 2 * r + 1 := by grind
                                                   omega) (show r * r = r * r from rfl) with _ | _ <;>
      · rcases Int.lt_trichotomy t r with h1 | h1 | h1
        · have : (t + 1) * (t + 1) ≤ r * r := Int.mul_le_mul (by omega) (by omega) (by omega) (by omega)
          omega
        · exact h1
        · have : (r + 1) * (r + 1) ≤ t * t := Int.mul_le_mul (by omega) (by omega) (by omega) (by omega)
          omega
    subst e
    have m1 := abs_mul (x := t) (y := t) (A := 1000000000) (B := 1000000000) (by omega) (by omega)
    refine ⟨eqI (t * t) d, ?_, ?_, fun hb x hx => ?_⟩
    · simp only [r_impl_isSquare, leI_eq, decide_eq_true h, cond_true, e1, Option.bind_some]
      rw [w64_abs (n := t * t) (by omega)]
    · simp only [r_spec_nuSquare, ltI_eq, decide_eq_false (show ¬ d < 0 by omega), cond_false, e2, Option.bind_some]
      rw [w64_abs (n := t * t) (by omega)]
    · rw [eqI_eq, beq_eq_false_iff_ne] at hb
      rcases root_uni t0 t2 t3 hx with e | e
      · subst e; exact hb hx
      · rw [e] at hx
        apply hb
        rw [← hx]; grind
  · refine ⟨false, ?_, ?_, fun _ x hx => ?_⟩
    · simp only [r_impl_isSquare, leI_eq, decide_eq_false h, cond_false, Option.bind_some]
    · simp only [r_spec_nuSquare, ltI_eq, decide_eq_true (show d < 0 by omega), cond_true]
    · have := sqn x
      omega
theorem isd_val (d : Int) : ∃ b, r_impl_isDiscriminant d = some b ∧ r_spec_diIs d = some b ∧ (b = true → inN d = true ∧ (d % 4 = 0 ∨ d % 4 = 1) ∧ ∀ x : Int, x * x ≠ d) := by
  have hn : r_impl_areNumbers [d] = some (inN d) := by
    rw [num_val [d] (by simp)]
    simp
  simp only [r_impl_isDiscriminant, r_spec_diIs, hn, good_val, Option.bind_some]
  cases hi : inN d with
  | false => exact ⟨false, rfl, rfl, fun h => by cases h⟩
  | true =>
    have hb := inN_iff.1 hi
    obtain ⟨b, s1, s2, s3⟩ := sq_both (d := d) (by omega)
    have m4 : r_impl_mod d 4 = some (d % 4) := mod_emod (by omega) (by omega)
    simp only [cond_true, smod_eq, m4, Option.bind_some, s1, s2]
    have el : leI (d % 4) 1 = ltI (d % 4) 2 := by
      rw [leI_eq, ltI_eq, decide_eq_decide]; omega
    rw [el]
    cases hl : ltI (d % 4) 2 with
    | false => exact ⟨false, rfl, rfl, fun h => by cases h⟩
    | true =>
      rw [ltI_eq, decide_eq_true_eq] at hl
      refine ⟨!b, rfl, rfl, fun h => ⟨by first | rfl | trivial, by omega, s3 (by cases b; rfl; cases h)⟩⟩
/-- The row of symbols. -/
def rowK (d : Int) (n : Nat) : List Int := (List.range n).map fun k => KK d k
theorem rowK_len (d : Int) (n : Nat) : (rowK d n).length = n := by simp [rowK]
theorem rowK_get {d : Int} {n k : Nat} (h : k < n) : getI (rowK d n) (k : Int) = some (KK d k) := by
  rw [getNat (by rw [rowK_len]; exact h)]
  simp [rowK]
theorem ik0 {d : Int} (h : 2 ≤ d.natAbs) (h2 : d.natAbs ≤ 1000000) : r_impl_kronecker d 0 = some 0 := by
  have e : eqI (d.natAbs : Int) 1 = false := eqNe (by omega)
  simp only [r_impl_kronecker, eqSelf, cond_true, abs_val (n := d) (by omega), Option.bind_some, e, cond_false]
theorem ikN {d : Int} (h : 2 ≤ d.natAbs) (h2 : d.natAbs ≤ 1000000) {k : Nat} (hk : k ≤ 1000000) : r_impl_kronecker d (k : Int) = some (KK d k) := by
  by_cases h0 : k = 0
  · subst h0; rw [KK_zero]; exact ik0 h h2
  · exact ik_val (by omega) hk d
theorem rowK_succ (d : Int) (n : Nat) : rowK d (n + 1) = rowK d n ++ [KK d n] := by
  unfold rowK
  rw [List.range_succ, List.map_append]
  rfl
theorem sum_bd (d : Int) : ∀ n : Nat, ((rowK d n).sum).natAbs ≤ n
  | 0 => by simp [rowK]
  | n + 1 => by
    have h1 := sum_bd d n
    rw [rowK_succ, List.sum_append]
    simp only [List.sum_cons, List.sum_nil]
    rcases KK_unit d n with h | h | h <;> rw [h] <;> omega
/-- Numbers below which a discriminant has a symbol -1. -/
def uL : List Nat := [3, 5, 7, 11, 13, 17, 19, 23, 29, 31, 37, 41, 43, 47, 53, 59, 61, 67, 71, 73]
def uF (d : Int) : List Nat → Bool
  | [] => false
  | u :: l => bif Nat.beq (jN 100 (d % (u : Int)).toNat u false) 2 then true else uF d l
def sF (d : Int) : Nat → Bool
  | 0 => false
  | n + 1 => bif eqI ((n : Int) * (n : Int)) d then true else sF d n
def uOk (d : Int) : Bool := bif ltI 1 (d % 4) then true else bif sF d 50 then true else uF d uL
def uAll : Nat → Int → Bool
  | 0, _ => true
  | n + 1, d => bif uOk d then uAll n (d + 1) else false
theorem uAll_at : ∀ (n : Nat) (d0 : Int), uAll n d0 = true → ∀ d, d0 ≤ d → d < d0 + n → uOk d = true
  | 0, d0, _, d, h1, h2 => by omega
  | n + 1, d0, h, d, h1, h2 => by
    unfold uAll at h
    cases h3 : uOk d0 with
    | false => rw [h3] at h; cases h
    | true =>
      rw [h3, cond_true] at h
      by_cases h5 : d = d0
      · subst h5; exact h3
      · exact uAll_at n (d0 + 1) h d (by omega) (by omega)
theorem uT1 : uAll 1000 (-2000) = true := by decide +kernel
theorem uT2 : uAll 1000 (-1000) = true := by decide +kernel
theorem uT3 : uAll 1000 0 = true := by decide +kernel
theorem uT4 : uAll 1001 1000 = true := by decide +kernel
theorem sF_sq : ∀ (n : Nat) (d : Int), sF d n = true → ∃ x : Int, x * x = d
  | 0, d, h => by cases h
  | n + 1, d, h => by
    unfold sF at h
    cases he : eqI ((n : Int) * (n : Int)) d with
    | true => rw [eqI_eq, beq_iff_eq] at he; exact ⟨_, he⟩
    | false => rw [he, cond_false] at h; exact sF_sq n d h
theorem uF_of (d : Int) : ∀ l : List Nat, (∀ u ∈ l, u % 2 = 1) → uF d l = true → ∃ u : Nat, KK d u = -1
  | [], _, h => by cases h
  | u :: l, ho, h => by
    unfold uF at h
    cases he : Nat.beq (jN 100 (d % (u : Int)).toNat u false) 2 with
    | true =>
      have e := Nat.eq_of_beq_eq_true he
      have hu := ho u List.mem_cons_self
      refine ⟨u, ?_⟩
      have h3 := jN_JJ 100 (d % (u : Int)).toNat u false (by rw [e]; decide) hu
      rw [e] at h3
      rw [KK_odd d hu]
      unfold JI
      have e4 : sg false = 1 := rfl
      rw [e4, Int.one_mul] at h3
      exact h3.symm
    | false => rw [he, cond_false] at h; exact uF_of d l (fun u hu => ho u (List.mem_cons_of_mem _ hu)) h
theorem u_ex {d : Int} (h4 : d % 4 = 0 ∨ d % 4 = 1) (hs : ∀ x : Int, x * x ≠ d) (hd : d.natAbs ≤ 2000) : ∃ u : Nat, KK d u = -1 := by
  have hok : uOk d = true := by
    by_cases h1 : d < -1000
    · exact uAll_at _ _ uT1 d (by omega) (by omega)
    by_cases h2 : d < 0
    · exact uAll_at _ _ uT2 d (by omega) (by omega)
    by_cases h3 : d < 1000
    · exact uAll_at _ _ uT3 d (by omega) (by omega)
    exact uAll_at _ _ uT4 d (by omega) (by omega)
  unfold uOk at hok
  rw [ltI_eq, decide_eq_false (by omega), cond_false] at hok
  cases hq : sF d 50 with
  | true =>
    obtain ⟨x, hx⟩ := sF_sq 50 d hq
    exact absurd hx (hs x)
  | false =>
    rw [hq, cond_false] at hok
    exact uF_of d uL (by decide) hok
theorem row_sum {d : Int} (h4 : d % 4 = 0 ∨ d % 4 = 1) (hs : ∀ x : Int, x * x ≠ d) (hd : d.natAbs ≤ 2000) (h1 : 2 ≤ d.natAbs) : (rowK d d.natAbs).sum = 0 := by
  obtain ⟨u, hu⟩ := u_ex h4 hs hd
  exact KK_sum h4 h1 hu
end Go.Proofs.Ytgeajejmikaniaa
