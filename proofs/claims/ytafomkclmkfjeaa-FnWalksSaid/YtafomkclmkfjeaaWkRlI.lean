/-
  The program's list of the primitive reduced forms is the reference's.
  Conditions: none.
-/
import Derived.Test.YtafomkclmkfjeaaWkRlG
namespace Go.Proofs.Ytafomkclmkfjeaa
set_option linter.unusedVariables false
set_option linter.unusedSimpArgs false

theorem irowR_run {d a : Int} (ha1 : 1 ≤ a) (ha : a ≤ 1000) (hd1 : -2000 ≤ d) (hd2 : d ≤ -3) : ∀ (m fu : Nat) (b : Int) (acc : List (Int × Int × Int)), b + m = a + 1 → -1000 ≤ b → m < fu → acc.length + m ≤ 100000000 →
    r_impl_allReduced_L10 a d fu b acc = some (acc ++ rowR d a m b)
  | m, 0, b, acc, _, _, h, _ => by omega
  | 0, fu + 1, b, acc, hb, hb0, hf, hl => by
    rw [r_impl_allReduced_L10, leI_eq, decide_eq_false (by omega), cond_false]
    simp [rowR, upz]
  | m + 1, fu + 1, b, acc, hb, hb0, hf, hl => by
    rw [r_impl_allReduced_L10, leI_eq, decide_eq_true (by omega), cond_true]
    have b1 := abs_mul (x := b) (y := b) (A := 1000) (B := 1000) (by omega) (by omega)
    have e4 : w64 (4 * a) = 4 * a := w64_in (by omega)
    have e5 : w64 (w64 (b * b) - d) = b * b - d := by rw [w64_abs (n := b * b) (by omega), w64_abs (by omega)]
    have q1 := tdiv_le (x := b * b - d) (m := 4 * a) (by omega)
    have q2 := Int.tmod_add_mul_tdiv (b * b - d) (4 * a)
    generalize hc : Int.tdiv (b * b - d) (4 * a) = c at q1 q2
    generalize hr : Int.tmod (b * b - d) (4 * a) = r at q2
    have ew : w64 (b + 1) = b + 1 := w64_in (by omega)
    have hcf : cfR d a b = (a, b, c) := by unfold cfR; rw [hc]
    have hrow : rowR d a (m + 1) b = (if okR d (a, b, c) then [(a, b, c)] else []) ++ rowR d a m (b + 1) := by
      unfold rowR
      rw [upz, List.map_cons, List.filter_cons, hcf]
      cases okR d (a, b, c) <;> simp
    have hdis : eqI (b * b - 4 * a * c) d = eqI r 0 := by
      rw [eqI_eq, eqI_eq, Bool.eq_iff_iff, beq_iff_eq, beq_iff_eq]
      omega
    rw [e4, nzOk (by omega), e5, hr, hc, w64_abs (n := c) (by omega), hrow]
    simp only [Option.bind_some, sI_eq, red_is ha1 (show a ≤ 1000000 by omega), ew]
    unfold okR
    dsimp only
    rw [hdis]
    cases h1 : eqI r 0 with
    | true =>
      simp only [Bool.not_true, cond_false, Bool.true_and]
      cases h2 : decide (IsRed a b c) with
      | true =>
        rw [cond_true, roomOk (by simp; omega)]
        simp only [Option.bind_some]
        rw [irowR_run ha1 ha hd1 hd2 m fu (b + 1) _ (by omega) (by omega) (by omega) (by simp; omega)]
        simp
      | false =>
        rw [cond_false]
        rw [irowR_run ha1 ha hd1 hd2 m fu (b + 1) _ (by omega) (by omega) (by omega) (by omega)]
        simp
    | false =>
      simp only [Bool.not_false, cond_true, Bool.false_and]
      rw [irowR_run ha1 ha hd1 hd2 m fu (b + 1) _ (by omega) (by omega) (by omega) (by omega)]
      simp
theorem iall_eq {d : Int} (hd1 : -2000 ≤ d) (hd2 : d ≤ -3) : ∀ (m fu : Nat) (a : Int) (acc : List (Int × Int × Int)), 1 ≤ a → a + m = 27 → (acc.length : Int) ≤ 1000 * a → r_impl_allReduced_L4 d fu a acc = r_spec_reAll_L4 d fu a acc
  | m, 0, a, acc, _, _, _ => rfl
  | m, fu + 1, a, acc, ha, hm, hl => by
    have b1 := abs_mul (x := 3 * a) (y := a) (A := 81) (B := 27) (by omega) (by omega)
    have e1 : w64 (w64 (3 * a) * a) = 3 * a * a := by rw [w64_in (n := 3 * a) (by omega), w64_abs (by omega)]
    have e2 : w64 (0 - d) = -d := by rw [w64_in (by omega)]; omega
    rw [r_spec_reAll_L4, r_impl_allReduced_L4, e1, e2, leI_eq]
    by_cases h : 3 * a * a ≤ -d
    · have ha2 : a ≤ 26 := by
        rcases Int.lt_or_le 26 a with h2 | h2
        · have h3 := sq_mono (a := 27) (b := a) (by omega) (by omega)
          have e : 3 * a * a = 3 * (a * a) := by grind
          omega
        · exact h2
      obtain ⟨m', rfl⟩ : ∃ m', m = m' + 1 := ⟨m - 1, by omega⟩
      have hF := FUge
      rw [decide_eq_true h, cond_true, cond_true, w64_in (n := 1 - a) (by omega), w64_in (n := a + 1) (by omega)]
      simp only [sI_eq]
      rw [rowR_run ha (by omega) hd1 hd2 (2 * a).toNat FU (1 - a) acc (by omega) (by omega) (by omega) (by omega), irowR_run ha (by omega) hd1 hd2 (2 * a).toNat FU (1 - a) acc (by omega) (by omega) (by omega) (by omega)]
      simp only [Option.bind_some]
      have hrl : (rowR d a (2 * a).toNat (1 - a)).length ≤ (2 * a).toNat := by
        unfold rowR
        refine Nat.le_trans (List.length_filter_le _ _) ?_
        rw [List.length_map, upz_len]
        exact Nat.le_refl _
      exact iall_eq hd1 hd2 m' fu (a + 1) _ (by omega) (by omega) (by rw [List.length_append]; omega)
    · rw [decide_eq_false h, cond_false, cond_false]
theorem iprim_eq {l : List (Int × Int × Int)} (hb : ∀ f ∈ l, inN f.1 = true ∧ inN f.2.1 = true ∧ inN f.2.2 = true) : ∀ (fu k : Nat) (acc : List (Int × Int × Int)), k ≤ 1000000 → l.length ≤ 1000000 → r_impl_primitiveOf_L4 l fu (k : Int) acc = r_spec_reList_L5 l fu (k : Int) acc
  | 0, k, acc, _, _ => rfl
  | fu + 1, k, acc, hk, hl => by
    rw [r_impl_primitiveOf_L4, r_spec_reList_L5]
    by_cases h : k < l.length
    · obtain ⟨c1, c2, c3⟩ := hb (l[k]) (List.getElem_mem h)
      have e1 : r_impl_Form_content l[k] = some (Int.gcd l[k].1 (Int.gcd l[k].2.1 l[k].2.2) : Int) := content_val c1 c2 c3
      have e2 : r_spec_foContent l[k] = some (Int.gcd l[k].1 (Int.gcd l[k].2.1 l[k].2.2) : Int) := tcontent_val c1 c2 c3
      rw [getNat h]
      simp only [Option.bind_some, e1, e2, sI_eq, wsucc (show k < 1000000000 by omega)]
      rw [iprim_eq hb fu (k + 1) _ (by omega) hl, iprim_eq hb fu (k + 1) _ (by omega) hl]
    · rw [ltI_eq, decide_eq_false (by omega), cond_false, cond_false]
theorem iforms_eq {d : Int} (hd1 : -2000 ≤ d) (hd2 : d ≤ -3) : r_impl_reducedForms d = r_spec_reList d := by
  have hF := FUge
  obtain ⟨L, k1, k2, k3, as, k4, k5, k6⟩ := allR_run hd1 hd2 26 FU 1 [] (by omega) (by omega) (by omega) (by simp)
  rw [List.nil_append] at k1
  have h1 : r_impl_allReduced_L4 d FU 1 [] = some L := by rw [iall_eq hd1 hd2 26 FU 1 [] (by omega) (by omega) (by simp), k1]
  have hmem : ∀ f ∈ L, 1 ≤ f.1 ∧ IsRed f.1 f.2.1 f.2.2 ∧ f.2.1 * f.2.1 - 4 * f.1 * f.2.2 = d := fun f hf => (row_mem hd1 hd2).1 ((k3 f).1 hf)
  have hbd : ∀ f ∈ L, inN f.1 = true ∧ inN f.2.1 = true ∧ inN f.2.2 = true := by
    intro f hf
    obtain ⟨h1, h2, h3⟩ := hmem f hf
    have h4 := red_sq h1 h2 h3
    obtain ⟨⟨h5, h6⟩, h7⟩ := h2
    have ha : f.1 ≤ 26 := by
      rcases Int.lt_or_le 26 f.1 with h8 | h8
      · have := sq_mono (a := 27) (b := f.1) (by omega) (by omega)
        have e : 3 * f.1 * f.1 = 3 * (f.1 * f.1) := by grind
        omega
      · exact h8
    have hb := abs_mul (x := f.2.1) (y := f.2.1) (A := 26) (B := 26) (by omega) (by omega)
    have hc : f.2.2 ≤ 1000 := by
      have h9 : 4 * 1 * f.2.2 ≤ 4 * f.1 * f.2.2 := by
        have : 4 * 1 * f.2.2 ≤ (4 * f.1) * f.2.2 := Int.mul_le_mul_of_nonneg_right (by omega) (by omega)
        exact this
      omega
    rw [inN_iff, inN_iff, inN_iff]
    omega
  have e0 : (((0 : Nat) : Int)) = 0 := rfl
  have h2 := iprim_eq hbd FU 0 [] (by omega) (by omega)
  rw [e0] at h2
  simp only [r_impl_reducedForms, r_impl_allReduced, r_impl_primitiveOf, r_spec_reList, r_spec_reAll, h1, k1, Option.bind_some, h2]
  cases r_spec_reList_L5 L FU 0 [] <;> rfl
end Go.Proofs.Ytafomkclmkfjeaa
