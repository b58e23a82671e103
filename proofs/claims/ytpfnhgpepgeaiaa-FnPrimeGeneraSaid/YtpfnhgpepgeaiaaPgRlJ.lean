/-
  The program's list of the primitive reduced forms: what it is.
  Conditions: none.
-/
import Derived.Test.YtpfnhgpepgeaiaaPgRlI
namespace Go.Proofs.Ytpfnhgpepgeaiaa
set_option linter.unusedVariables false
set_option linter.unusedSimpArgs false

theorem jallR_run {d : Int} (hd1 : -2000 ≤ d) (hd2 : d ≤ -3) : ∀ (m fu : Nat) (a : Int) (acc : List (Int × Int × Int)), 1 ≤ a → a + m = 27 → m < fu → (acc.length : Int) ≤ 1000 * a →
    ∃ L, r_impl_allReduced_L4 d fu a acc = some (acc ++ L) ∧ (L.length : Int) + 1000 * a ≤ 28000 ∧ (∀ f, f ∈ L ↔ a ≤ f.1 ∧ 3 * f.1 * f.1 ≤ -d ∧ f ∈ rowR d f.1 (2 * f.1).toNat (1 - f.1)) ∧ ∃ as : List Int, as.Pairwise (· < ·) ∧ (∀ x ∈ as, a ≤ x ∧ x ≤ 26) ∧ L = as.flatMap fun a => rowR d a (2 * a).toNat (1 - a)
  | m, 0, a, acc, _, _, h, _ => by omega
  | m, fu + 1, a, acc, ha, hm, hf, hl => by
    have b1 := abs_mul (x := 3 * a) (y := a) (A := 81) (B := 27) (by omega) (by omega)
    have e1 : w64 (w64 (3 * a) * a) = 3 * a * a := by rw [w64_in (n := 3 * a) (by omega), w64_abs (by omega)]
    have e2 : w64 (0 - d) = -d := by rw [w64_in (by omega)]; omega
    rw [r_impl_allReduced_L4, e1, e2, leI_eq]
    by_cases h : 3 * a * a ≤ -d
    · have ha2 : a ≤ 26 := by
        rcases Int.lt_or_le 26 a with h2 | h2
        · have h3 := sq_mono (a := 27) (b := a) (by omega) (by omega)
          have e : 3 * a * a = 3 * (a * a) := by grind
          omega
        · exact h2
      obtain ⟨m', rfl⟩ : ∃ m', m = m' + 1 := ⟨m - 1, by omega⟩
      have hF := FUge
      rw [decide_eq_true h, cond_true, w64_in (n := 1 - a) (by omega), w64_in (n := a + 1) (by omega)]
      simp only [sI_eq]
      rw [irowR_run ha (by omega) hd1 hd2 (2 * a).toNat FU (1 - a) acc (by omega) (by omega) (by omega) (by omega)]
      simp only [Option.bind_some]
      have hrl : (rowR d a (2 * a).toNat (1 - a)).length ≤ (2 * a).toNat := by
        unfold rowR
        refine Nat.le_trans (List.length_filter_le _ _) ?_
        rw [List.length_map, upz_len]
        exact Nat.le_refl _
      obtain ⟨L, k1, k2, k3, as, k4, k5, k6⟩ := jallR_run hd1 hd2 m' fu (a + 1) (acc ++ rowR d a (2 * a).toNat (1 - a)) (by omega) (by omega) (by omega) (by rw [List.length_append]; omega)
      refine ⟨rowR d a (2 * a).toNat (1 - a) ++ L, by rw [k1, List.append_assoc], by rw [List.length_append]; omega, fun f => ?_, a :: as, ?_, ?_, ?_⟩
      · rw [List.mem_append, k3]
        constructor
        · rintro (h1 | ⟨h1, h2, h3⟩)
          · rw [rowR_fst h1]
            exact ⟨Int.le_refl _, h, h1⟩
          · exact ⟨by omega, h2, h3⟩
        · rintro ⟨h1, h2, h3⟩
          by_cases hfa : f.1 = a
          · rw [hfa] at h3; exact .inl h3
          · exact .inr ⟨by omega, h2, h3⟩
      · rw [List.pairwise_cons]
        exact ⟨fun x hx => by have := k5 x hx; omega, k4⟩
      · intro x hx
        rcases List.mem_cons.1 hx with e | e
        · omega
        · have := k5 x e; omega
      · rw [List.flatMap_cons, k6]
    · rw [decide_eq_false h, cond_false]
      refine ⟨[], by simp, by simp; omega, fun f => ?_, [], List.Pairwise.nil, fun x hx => (by cases hx), rfl⟩
      refine ⟨fun hf => (by cases hf), fun hf => ?_⟩
      obtain ⟨h1, h2, h3⟩ := hf
      exfalso
      have h4 := sq_mono (a := a) (b := f.1) (by omega) h1
      have e3 : 3 * a * a = 3 * (a * a) := by grind
      have e4 : 3 * f.1 * f.1 = 3 * (f.1 * f.1) := by grind
      omega
theorem jredlist_run {l : List (Int × Int × Int)} (hl : l.length ≤ 1000000) (hb : ∀ f ∈ l, inN f.1 = true ∧ inN f.2.1 = true ∧ inN f.2.2 = true) : ∀ (fu k : Nat) (acc : List (Int × Int × Int)), k ≤ l.length → l.length - k < fu → acc.length ≤ k →
    r_impl_primitiveOf_L4 l fu (k : Int) acc = some (acc ++ (l.drop k).filter fun f => eqI (Int.gcd f.1 (Int.gcd f.2.1 f.2.2) : Int) 1)
  | 0, k, acc, h0, h1, h2 => by omega
  | fu + 1, k, acc, h0, h1, h2 => by
    rw [r_impl_primitiveOf_L4]
    rw [ltI_eq]
    by_cases hk : k < l.length
    · obtain ⟨c1, c2, c3⟩ := hb (l[k]) (List.getElem_mem hk)
      have hcon : r_impl_Form_content l[k] = some (Int.gcd l[k].1 (Int.gcd l[k].2.1 l[k].2.2) : Int) := content_val c1 c2 c3
      rw [decide_eq_true (by omega), cond_true, getNat hk, List.drop_eq_getElem_cons hk, List.filter_cons]
      simp only [Option.bind_some, hcon, sI_eq, wsucc (show k < 1000000000 by omega)]
      cases eqI (Int.gcd l[k].1 (Int.gcd l[k].2.1 l[k].2.2) : Int) 1 with
      | true =>
        rw [cond_true, roomOk (by simp; omega), if_pos rfl]
        simp only [Option.bind_some]
        rw [jredlist_run hl hb fu (k + 1) _ (by omega) (by omega) (by simp; omega)]
        simp
      | false =>
        rw [cond_false, if_neg (by simp)]
        exact jredlist_run hl hb fu (k + 1) acc (by omega) (by omega) (by omega)
    · rw [decide_eq_false (by omega), cond_false, List.drop_eq_nil_of_le (by omega)]
      simp
theorem jlist_val {d : Int} (hd1 : -2000 ≤ d) (hd2 : d ≤ -3) : ∃ L, r_impl_reducedForms d = some L ∧ L.length ≤ 27000 ∧ (∀ f, f ∈ L ↔ PrR d f) ∧ L.Nodup := by
  have hF := FUge
  obtain ⟨L, k1, k2, k3, as, k4, k5, k6⟩ := jallR_run hd1 hd2 26 FU 1 [] (by omega) (by omega) (by omega) (by simp)
  rw [List.nil_append] at k1
  have hLl : L.length ≤ 27000 := by omega
  have hmem : ∀ f ∈ L, 1 ≤ f.1 ∧ IsRed f.1 f.2.1 f.2.2 ∧ f.2.1 * f.2.1 - 4 * f.1 * f.2.2 = d := fun f hf => (row_mem hd1 hd2).1 ((k3 f).1 hf)
  have hbd : ∀ f ∈ L, inN f.1 = true ∧ inN f.2.1 = true ∧ inN f.2.2 = true := by
    intro f hf
    obtain ⟨h1, h2, h3⟩ := hmem f hf
    have h4 := red_sq h1 h2 h3
    obtain ⟨⟨h5, h6⟩, h7⟩ := h2
    have ha : f.1 ≤ 26 := by
      rcases Int.lt_or_le 26 f.1 with h8 | h8
      · have := sq_mono (a := 27) (b := f.1) (by omega) (by omega)
        have e : 3 * f.1 * f.1 = 3 * (f.1 * f.1) := by grind
        omega
      · exact h8
    have hb := abs_mul (x := f.2.1) (y := f.2.1) (A := 26) (B := 26) (by omega) (by omega)
    have hc : f.2.2 ≤ 1000 := by
      have h9 : 4 * 1 * f.2.2 ≤ 4 * f.1 * f.2.2 := by
        have : 4 * 1 * f.2.2 ≤ (4 * f.1) * f.2.2 := Int.mul_le_mul_of_nonneg_right (by omega) (by omega)
        exact this
      omega
    rw [inN_iff, inN_iff, inN_iff]
    omega
  have h2 := jredlist_run (l := L) (by omega) hbd FU 0 [] (by omega) (by omega) (by simp)
  rw [List.nil_append, List.drop_zero] at h2
  refine ⟨_, by simp only [r_impl_reducedForms, r_impl_allReduced, r_impl_primitiveOf, k1, Option.bind_some]; exact congrArg (fun z => (z.bind fun o => some o).bind fun o => some o) h2, Nat.le_trans (List.length_filter_le _ _) hLl, fun f => ?_, ?_⟩
  · rw [List.mem_filter, k3, row_mem hd1 hd2, eqI_eq, beq_iff_eq]
    unfold PrR
    constructor
    · rintro ⟨⟨a1, a2, a3⟩, a4⟩
      exact ⟨a1, a2, a3, by omega⟩
    · rintro ⟨a1, a2, a3, a4⟩
      exact ⟨⟨a1, a2, a3⟩, by omega⟩
  · refine List.Pairwise.filter _ ?_
    rw [k6]
    have hrow : ∀ a : Int, (rowR d a (2 * a).toNat (1 - a)).Nodup := by
      intro a
      unfold rowR
      refine List.Pairwise.filter _ ?_
      rw [List.pairwise_map]
      refine (upz_lt (2 * a).toNat (1 - a)).imp ?_
      intro x y hxy e
      have := congrArg (fun f : Int × Int × Int => f.2.1) e
      simp only [cfR] at this
      omega
    rw [List.pairwise_flatMap]
    refine ⟨fun a _ => hrow a, k4.imp ?_⟩
    intro x y hxy f hf g hg e
    have fx := rowR_fst hf
    have gy := rowR_fst hg
    rw [e] at fx
    omega
end Go.Proofs.Ytpfnhgpepgeaiaa
