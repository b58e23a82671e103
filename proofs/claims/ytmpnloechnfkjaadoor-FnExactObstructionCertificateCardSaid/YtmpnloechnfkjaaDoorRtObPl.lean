/-
  The prime that forbids a value and its certificate are alike.
  Conditions: none.
-/
import Derived.Test.YtmpnloechnfkjaaDoorRtObTab
namespace Go.Proofs.YtmpnloechnfkjaaDoor
set_option linter.unusedVariables false
set_option linter.unusedSimpArgs false

theorem hr_run {d p : Int} (h1 : 2 ≤ p) (h2 : p ≤ 10000) : ∀ (fu k : Nat), (k : Int) ≤ 2 * p → 2 * p - k < fu →
    (∀ acc : List Int, acc.length ≤ k → acc ≠ [] → ∃ l, r_impl_rootsOfDiscriminant_L5 d p fu (k : Int) acc = some l ∧ l ≠ [] ∧ l.length ≤ 20000) ∧
    ∃ l, r_impl_rootsOfDiscriminant_L5 d p fu (k : Int) [] = some l ∧ l.length ≤ 20000 ∧ r_spec_vaHasRoot_L4 d p fu (k : Int) = some (if l = [] then .inl () else .inr true)
  | 0, k, h3, h4 => by omega
  | fu + 1, k, h3, h4 => by
    have hw : w64 (2 * p) = 2 * p := w64_in (by omega)
    by_cases hk : (k : Int) < 2 * p
    · have hz : nz (w64 (4 * p)) = some () := nzOk (by rw [w64_in (by omega)]; omega)
      obtain ⟨i1, i2⟩ := hr_run (d := d) h1 h2 fu (k + 1) (by omega) (by omega)
      constructor
      · intro acc ha hn
        unfold r_impl_rootsOfDiscriminant_L5
        rw [ltI_eq, hw, decide_eq_true hk, cond_true, hz]
        simp only [Option.bind_some, sI_eq, wsucc (show k < 1000000000 by omega)]
        cases eqI (Int.tmod (w64 (w64 ((k : Int) * k) - d)) (w64 (4 * p))) 0 with
        | true =>
          rw [cond_true, roomOk (by simp; omega)]
          simp only [Option.bind_some]
          exact i1 _ (by simp; omega) (by simp)
        | false =>
          rw [cond_false]
          exact i1 acc (by omega) hn
      · unfold r_impl_rootsOfDiscriminant_L5 r_spec_vaHasRoot_L4
        rw [ltI_eq, hw, decide_eq_true hk, cond_true, cond_true, hz]
        simp only [Option.bind_some, sI_eq, wsucc (show k < 1000000000 by omega)]
        cases eqI (Int.tmod (w64 (w64 ((k : Int) * k) - d)) (w64 (4 * p))) 0 with
        | true =>
          rw [cond_true, cond_true, roomOk (by simp)]
          simp only [Option.bind_some]
          obtain ⟨l, g1, g2, g3⟩ := i1 ([] ++ [(k : Int)]) (by simp) (by simp)
          exact ⟨l, g1, g3, by rw [if_neg g2]⟩
        | false =>
          rw [cond_false, cond_false]
          exact i2
    · constructor
      · intro acc ha hn
        unfold r_impl_rootsOfDiscriminant_L5
        rw [ltI_eq, hw, decide_eq_false hk, cond_false]
        exact ⟨acc, rfl, hn, by omega⟩
      · unfold r_impl_rootsOfDiscriminant_L5 r_spec_vaHasRoot_L4
        rw [ltI_eq, hw, decide_eq_false hk, cond_false, cond_false]
        exact ⟨[], rfl, by simp, by rw [if_pos rfl]⟩
theorem hr_both {d p : Int} (h1 : 2 ≤ p) (h2 : p ≤ 10000) : ∃ l b, r_impl_rootsOfDiscriminant d p = some l ∧ r_spec_vaHasRoot d p = some b ∧ eqI (l.length : Int) 0 = !b := by
  have hF := FUge
  obtain ⟨_, l, g1, g2, g3⟩ := hr_run (d := d) h1 h2 FU 0 (by omega) (by omega)
  have g1 : r_impl_rootsOfDiscriminant_L5 d p FU 0 [] = some l := g1
  have g3 : r_spec_vaHasRoot_L4 d p FU 0 = some (if l = [] then .inl () else .inr true) := g3
  refine ⟨l, !decide (l = []), ?_, ?_, ?_⟩
  · simp only [r_impl_rootsOfDiscriminant, g1, Option.bind_some]
  · simp only [r_spec_vaHasRoot, g3, Option.bind_some]
    by_cases hl : l = []
    · rw [if_pos hl, decide_eq_true hl]; rfl
    · rw [if_neg hl, decide_eq_false hl]; rfl
  · by_cases hl : l = []
    · subst hl; rfl
    · rw [decide_eq_false hl, eqNe (by
        have : l.length ≠ 0 := fun h => hl (List.eq_nil_of_length_eq_zero h)
        omega)]
      rfl
theorem fp_run {d n : Int} {l : List Int} (hl : l.length ≤ 100) (h : ∀ p ∈ l, 2 ≤ p ∧ p ≤ 10000 ∧ ∃ e, r_spec_nuExponent n p = some e ∧ r_impl_exponent n p = some e) : ∀ (fu k : Nat), k ≤ l.length → l.length - k < fu →
    ∃ r, r_spec_ForbiddingPrime_L10 d n l fu (k : Int) = some r ∧ r_impl_ForbiddingPrime_L10 d n l fu (k : Int) = some r ∧ ∀ q, r = .inr q → 2 ≤ q.1 ∧ q.1 ≤ 10000
  | 0, k, h3, h4 => by omega
  | fu + 1, k, h3, h4 => by
    unfold r_spec_ForbiddingPrime_L10 r_impl_ForbiddingPrime_L10
    rw [ltI_eq]
    by_cases hk : k < l.length
    · obtain ⟨p1, p2, e, e1, e2⟩ := h (l[k]) (List.getElem_mem hk)
      obtain ⟨ro, b, r1, r2, r3⟩ := hr_both (d := d) p1 p2
      rw [decide_eq_true (by omega), cond_true, cond_true, getNat hk]
      simp only [Option.bind_some, e1, e2, r1, r2, r3, sI_eq, wsucc (show k < 1000000000 by omega)]
      cases eqI (Int.tmod e 2) 1 with
      | true =>
        simp only [cond_true, Option.bind_some]
        cases b with
        | true => exact fp_run hl h fu (k + 1) (by omega) (by omega)
        | false =>
          refine ⟨.inr (l[k], true), rfl, rfl, ?_⟩
          intro q hq
          injection hq with hq
          subst hq
          exact ⟨p1, p2⟩
      | false =>
        simp only [cond_false, Option.bind_some]
        exact fp_run hl h fu (k + 1) (by omega) (by omega)
    · rw [decide_eq_false (by omega), cond_false, cond_false]
      exact ⟨.inl (), rfl, rfl, by intro q hq; cases hq⟩
theorem mod4 (d : Int) : ∃ b, r_spec_nuMod d 4 = some b ∧ r_impl_mod d 4 = some b := by
  have hz : nz 4 = some () := rfl
  simp only [r_spec_nuMod, r_impl_mod, hz, Option.bind_some, sI_eq]
  cases ltI (Int.tmod d 4) 0 with
  | true => exact ⟨_, rfl, rfl⟩
  | false => exact ⟨_, rfl, rfl⟩
theorem disc_both (d : Int) : ∃ b, r_spec_reDisc d = some b ∧ r_impl_isNegativeDisc d = some b ∧ (b = true → -2000 ≤ d ∧ d ≤ -3) := by
  obtain ⟨m, h1, h2⟩ := mod4 d
  have hlt : ltI m 2 = leI m 1 := by
    rw [ltI_eq, leI_eq]
    by_cases h : m < 2
    · rw [decide_eq_true h, decide_eq_true (by omega)]
    · rw [decide_eq_false h, decide_eq_false (by omega)]
  simp only [r_spec_reDisc, r_impl_isNegativeDisc, r_spec_l1In, Option.bind_some, h1, h2, hlt, leI_eq]
  by_cases a : -2000 ≤ d
  · by_cases b : d ≤ -3
    · rw [decide_eq_true a, decide_eq_true b]
      exact ⟨_, rfl, rfl, fun _ => ⟨a, b⟩⟩
    · rw [decide_eq_true a, decide_eq_false b]
      exact ⟨false, rfl, rfl, fun h => by cases h⟩
  · rw [decide_eq_false a]
    exact ⟨false, rfl, rfl, fun h => by cases h⟩
theorem fp_both (d n : Int) : ∃ q b, r_spec_ForbiddingPrime d n = some (q, b) ∧ r_impl_ForbiddingPrime d n = some (q, b) ∧ (b = true → -2000 ≤ d ∧ d ≤ -3 ∧ 1 ≤ n ∧ n ≤ 10000 ∧ 2 ≤ q ∧ q ≤ 10000) := by
  have hF := FUge
  obtain ⟨b, h1, h2, h3⟩ := disc_both d
  have hs : r_spec_vaShown n = r_impl_isShown n := by simp only [r_spec_vaShown, r_spec_l1In, r_impl_isShown, Option.bind_some]
  simp only [r_spec_ForbiddingPrime, r_impl_ForbiddingPrime, h1, h2, hs, r_impl_isShown, Option.bind_some, leI_eq]
  cases b with
  | false => exact ⟨0, false, rfl, rfl, fun h => by cases h⟩
  | true =>
    have hd := h3 rfl
    simp only [Bool.not_true, cond_false]
    by_cases hn : 1 ≤ n ∧ n ≤ 10000
    · obtain ⟨l, g1, g2, g3, g4⟩ := obN_at (ob_tab n hn.1 hn.2)
      obtain ⟨r, k1, k2, k3⟩ := fp_run (d := d) g3 g4 FU 0 (by omega) (by omega)
      have k1 : r_spec_ForbiddingPrime_L10 d n l FU 0 = some r := k1
      have k2 : r_impl_ForbiddingPrime_L10 d n l FU 0 = some r := k2
      rw [decide_eq_true hn.1, decide_eq_true hn.2]
      simp only [cond_true, Bool.not_true, Option.bind_some, cond_false, g1, g2, k1, k2]
      cases r with
      | inl u => exact ⟨0, false, rfl, rfl, fun h => by cases h⟩
      | inr q => exact ⟨q.1, q.2, rfl, rfl, fun _ => ⟨hd.1, hd.2, hn.1, hn.2, k3 q rfl⟩⟩
    · have hc : (bif decide (1 ≤ n) then decide (n ≤ 10000) else false) = false := by
        by_cases a : 1 ≤ n
        · rw [decide_eq_true a, cond_true, decide_eq_false (fun c => hn ⟨a, c⟩)]
        · rw [decide_eq_false a, cond_false]
      rw [hc]
      exact ⟨0, false, rfl, rfl, fun h => by cases h⟩
theorem ob_both (d n : Int) : ∃ t b, r_spec_ObstructionCertificate d n = some (t, b) ∧ r_impl_ObstructionCertificate d n = some (t, b) := by
  obtain ⟨q, b, h1, h2, h3⟩ := fp_both d n
  simp only [r_spec_ObstructionCertificate, r_impl_ObstructionCertificate, h1, h2, Option.bind_some]
  cases b with
  | false => exact ⟨_, false, rfl, rfl⟩
  | true =>
    obtain ⟨d1, d2, n1, n2, q1, q2⟩ := h3 rfl
    cases ltI 2500 q with
    | true => exact ⟨_, false, rfl, rfl⟩
    | false =>
      have hd : sm18 d := by unfold sm18; omega
      have hn : sm18 n := by unfold sm18; omega
      have hq : sm18 q := by unfold sm18; omega
      have e1 : (⟨#[111, 98, 115, 116, 114, 117, 99, 116, 105, 111, 110]⟩ : ByteArray) = bl [111, 98, 115, 116, 114, 117, 99, 116, 105, 111, 110] := rfl
      have hL : ∀ y ∈ [111, 98, 115, 116, 114, 117, 99, 116, 105, 111, 110] :: [Go.Lib.itoa d, Go.Lib.itoa n, Go.Lib.itoa q], y.length ≤ 1000 := by
        have a1 := itoa_len hd
        have a2 := itoa_len hn
        have a3 := itoa_len hq
        intro y hy
        simp only [List.mem_cons, List.not_mem_nil, or_false] at hy
        rcases hy with rfl | rfl | rfl | rfl
        · decide
        · omega
        · omega
        · omega
      have t1 := prText_eq [111, 98, 115, 116, 114, 117, 99, 116, 105, 111, 110] [Go.Lib.itoa d, Go.Lib.itoa n, Go.Lib.itoa q] (by simp) hL
      have t2 := cert_eq [111, 98, 115, 116, 114, 117, 99, 116, 105, 111, 110] [Go.Lib.itoa d, Go.Lib.itoa n, Go.Lib.itoa q] (by simp) (by simp) hL
      simp only [List.map_cons, List.map_nil] at t1 t2
      simp only [Bool.not_true, cond_false, l1Int_eq hd, l1Int_eq hn, l1Int_eq hq, itoa_eq hd, itoa_eq hn, itoa_eq hq, e1, t1, t2, Option.bind_some]
      exact ⟨_, true, rfl, rfl⟩
theorem raw_ObstructionCertificate (d n : Int) : r_laws_FnExactObstructionCertificate d n = some true := by
  obtain ⟨t, b, h1, h2⟩ := ob_both d n
  have hb : (b != b) = false := by cases b <;> rfl
  have ht : (t.toList == t.toList) = true := beq_self_eq_true _
  simp only [r_laws_FnExactObstructionCertificate, h1, h2, Option.bind_some, ht, hb, Bool.not_true, cond_false]
end Go.Proofs.YtmpnloechnfkjaaDoor
