/-
  The roots of a discriminant and their certificates are alike.
  Conditions: none.
-/
import Derived.Test.YtmpnloechnfkjaaDoorRtCtMk
namespace Go.Proofs.YtmpnloechnfkjaaDoor
set_option linter.unusedVariables false
set_option linter.unusedSimpArgs false

theorem good_eq (n : Int) : r_spec_nuGood n = some (decide (-1000000 ≤ n) && decide (n ≤ 1000000)) := by
  simp only [r_spec_nuGood, r_spec_l1In, Option.bind_some, leI_eq]
  cases decide (-1000000 ≤ n) <;> rfl
theorem areNum_one (n : Int) : r_impl_areNumbers [n] = some (decide (-1000000 ≤ n) && decide (n ≤ 1000000)) := by
  have hF := FUge
  obtain ⟨m, hm⟩ : ∃ m, FU = m + 1 + 1 := ⟨FU - 2, by omega⟩
  have e1 : getI [n] 0 = some n := rfl
  have e2 : w64 (0 + 1) = 1 := rfl
  unfold r_impl_areNumbers
  rw [hm]
  unfold r_impl_areNumbers_L3
  rw [ltI_eq, decide_eq_true (by simp), cond_true, e1, Option.bind_some, ltI_eq, ltI_eq]
  by_cases h1 : n < -1000000
  · rw [decide_eq_true h1, cond_true, cond_true, decide_eq_false (by omega)]
    rfl
  · rw [decide_eq_false h1, cond_false, decide_eq_true (show -1000000 ≤ n by omega)]
    by_cases h2 : 1000000 < n
    · rw [decide_eq_true h2, cond_true, decide_eq_false (show ¬ n ≤ 1000000 by omega)]
      rfl
    · rw [decide_eq_false h2, cond_false, decide_eq_true (show n ≤ 1000000 by omega), sI_eq, e2]
      unfold r_impl_areNumbers_L3
      rw [ltI_eq, decide_eq_false (by simp), cond_false]
      rfl
theorem roots_run {d n : Int} (h1 : 1 ≤ n) (h2 : n ≤ 2500) : ∀ (fu k : Nat) (acc : List Int), (k : Int) ≤ 2 * n → 2 * n - k < fu → acc.length ≤ k → (∀ x ∈ acc, 0 ≤ x ∧ x ≤ 5000) →
    ∃ l, r_spec_roDisc_L5 d n fu (k : Int) acc = some l ∧ r_impl_rootsOfDiscriminant_L5 d n fu (k : Int) acc = some l ∧ l.length ≤ 5000 ∧ ∀ x ∈ l, 0 ≤ x ∧ x ≤ 5000
  | 0, k, acc, h3, h4, h5, h6 => by omega
  | fu + 1, k, acc, h3, h4, h5, h6 => by
    unfold r_spec_roDisc_L5 r_impl_rootsOfDiscriminant_L5
    rw [ltI_eq, w64_in (show -9223372036854775808 ≤ 2 * n ∧ 2 * n ≤ 9223372036854775807 by omega)]
    by_cases hk : (k : Int) < 2 * n
    · have hz : nz (w64 (4 * n)) = some () := nzOk (by rw [w64_in (by omega)]; omega)
      rw [decide_eq_true hk, cond_true, cond_true, hz]
      simp only [Option.bind_some, sI_eq, wsucc (show k < 1000000000 by omega)]
      cases eqI (Int.tmod (w64 (w64 ((k : Int) * k) - d)) (w64 (4 * n))) 0 with
      | true =>
        rw [cond_true, cond_true, roomOk (by simp; omega)]
        simp only [Option.bind_some]
        refine roots_run h1 h2 fu (k + 1) _ (by omega) (by omega) (by simp; omega) ?_
        intro x hx
        rw [List.mem_append] at hx
        rcases hx with hx | hx
        · exact h6 x hx
        · rw [List.mem_singleton] at hx
          omega
      | false =>
        rw [cond_false, cond_false]
        exact roots_run h1 h2 fu (k + 1) acc (by omega) (by omega) (by omega) h6
    · rw [decide_eq_false hk, cond_false, cond_false]
      exact ⟨acc, rfl, rfl, by omega, h6⟩
theorem roots_both {d n : Int} (h1 : 1 ≤ n) (h2 : n ≤ 2500) : ∃ l, r_spec_roDisc d n = some l ∧ r_impl_rootsOfDiscriminant d n = some l ∧ l.length ≤ 5000 ∧ ∀ x ∈ l, 0 ≤ x ∧ x ≤ 5000 := by
  have hF := FUge
  obtain ⟨l, g1, g2, g3, g4⟩ := roots_run (d := d) h1 h2 FU 0 [] (by omega) (by omega) (by simp) (by simp)
  refine ⟨l, ?_, ?_, g3, g4⟩
  · unfold r_spec_roDisc
    rw [show (0 : Int) = ((0 : Nat) : Int) from rfl, g1]
    rfl
  · unfold r_impl_rootsOfDiscriminant
    rw [show (0 : Int) = ((0 : Nat) : Int) from rfl, g2]
    rfl
theorem rt_run {d n : Int} (hd : sm18 d) (hn : sm18 n) {l : List Int} (hl : l.length ≤ 5000) (hx : ∀ x ∈ l, 0 ≤ x ∧ x ≤ 5000) : ∀ (fu k : Nat) (acc : List ByteArray), k ≤ l.length → l.length - k < fu → acc.length ≤ k →
    ∃ r, r_spec_RootCertificates_L7 d n (l, true) fu (k : Int) acc = some r ∧ r_impl_RootCertificates_L6 d n (l, true) fu (k : Int) acc = some r ∧ r.length ≤ 5000
  | 0, k, acc, h0, h1, h2 => by omega
  | fu + 1, k, acc, h0, h1, h2 => by
    unfold r_spec_RootCertificates_L7 r_impl_RootCertificates_L6
    dsimp only
    rw [ltI_eq]
    by_cases hk : k < l.length
    · have hxk := hx (l[k]) (List.getElem_mem hk)
      have hsm : sm18 l[k] := by unfold sm18; omega
      have e1 : (⟨#[114, 111, 111, 116]⟩ : ByteArray) = bl [114, 111, 111, 116] := rfl
      have hL : ∀ y ∈ [114, 111, 111, 116] :: [Go.Lib.itoa d, Go.Lib.itoa n, Go.Lib.itoa l[k]], y.length ≤ 1000 := by
        have a1 := itoa_len hd
        have a2 := itoa_len hn
        have a3 := itoa_len hsm
        intro y hy
        simp only [List.mem_cons, List.not_mem_nil, or_false] at hy
        rcases hy with rfl | rfl | rfl | rfl
        · decide
        · omega
        · omega
        · omega
      have t1 := prText_eq [114, 111, 111, 116] [Go.Lib.itoa d, Go.Lib.itoa n, Go.Lib.itoa l[k]] (by simp) hL
      have t2 := cert_eq [114, 111, 111, 116] [Go.Lib.itoa d, Go.Lib.itoa n, Go.Lib.itoa l[k]] (by simp) (by simp) hL
      simp only [List.map_cons, List.map_nil] at t1 t2
      rw [decide_eq_true (by omega), cond_true, cond_true, getNat hk]
      simp only [Option.bind_some, l1Int_eq hd, l1Int_eq hn, l1Int_eq hsm, itoa_eq hd, itoa_eq hn, itoa_eq hsm, e1, t1, t2, sI_eq, wsucc (show k < 1000000000 by omega)]
      rw [roomOk (by simp; omega)]
      simp only [Option.bind_some]
      exact rt_run hd hn hl hx fu (k + 1) _ (by omega) (by omega) (by simp; omega)
    · rw [decide_eq_false (by omega), cond_false, cond_false]
      exact ⟨acc, rfl, rfl, by omega⟩
theorem rt_both (d n : Int) : ∃ r b, r_spec_RootCertificates d n = some (r, b) ∧ r_impl_RootCertificates d n = some (r, b) ∧ r.length ≤ 5000 := by
  have hF := FUge
  obtain ⟨m, hm⟩ : ∃ m, FU = m + 1 := ⟨FU - 1, by omega⟩
  by_cases h : (-1000000 ≤ d ∧ d ≤ 1000000) ∧ 1 ≤ n ∧ n ≤ 2500
  · obtain ⟨⟨h1, h2⟩, h3, h4⟩ := h
    obtain ⟨l, g1, g2, g3, g4⟩ := roots_both (d := d) h3 h4
    obtain ⟨r, k1, k2, k3⟩ := rt_run (d := d) (n := n) (by unfold sm18; omega) (by unfold sm18; omega) g3 g4 FU 0 [] (by omega) (by omega) (by simp)
    have s1 : r_spec_RootsOfDiscriminant d n = some (l, true) := by
      simp only [r_spec_RootsOfDiscriminant, good_eq, r_spec_l1In, leI_eq, decide_eq_true h1, decide_eq_true h2, decide_eq_true h3, decide_eq_true h4, Bool.and_self, Option.bind_some, Bool.not_true, cond_false, cond_true, g1]
    have s2 : r_impl_RootsOfDiscriminant d n = some (l, true) := by
      simp only [r_impl_RootsOfDiscriminant, areNum_one, ltI_eq, decide_eq_true h1, decide_eq_true h2, decide_eq_false (show ¬ n < 1 by omega), decide_eq_false (show ¬ 2500 < n by omega), Bool.and_self, Option.bind_some, Bool.not_true, cond_false, g2]
    have k1 : r_spec_RootCertificates_L7 d n (l, true) FU 0 [] = some r := k1
    have k2 : r_impl_RootCertificates_L6 d n (l, true) FU 0 [] = some r := k2
    refine ⟨r, true, ?_, ?_, k3⟩
    · simp only [r_spec_RootCertificates, s1, Option.bind_some, Bool.not_true, cond_false, k1]
    · simp only [r_impl_RootCertificates, s2, Option.bind_some, k2]
  · have s1 : r_spec_RootsOfDiscriminant d n = some ([], false) := by
      simp only [r_spec_RootsOfDiscriminant, good_eq, r_spec_l1In, leI_eq, Option.bind_some]
      by_cases h1 : -1000000 ≤ d ∧ d ≤ 1000000
      · have h2 : ¬ (1 ≤ n ∧ n ≤ 2500) := fun h3 => h ⟨h1, h3⟩
        rw [decide_eq_true h1.1, decide_eq_true h1.2]
        by_cases h3 : 1 ≤ n
        · rw [decide_eq_true h3, decide_eq_false (show ¬ n ≤ 2500 by omega)]; rfl
        · rw [decide_eq_false h3]; rfl
      · by_cases h2 : -1000000 ≤ d
        · rw [decide_eq_true h2, decide_eq_false (show ¬ d ≤ 1000000 by omega)]; rfl
        · rw [decide_eq_false h2]; rfl
    have s2 : r_impl_RootsOfDiscriminant d n = some ([], false) := by
      simp only [r_impl_RootsOfDiscriminant, areNum_one, ltI_eq, Option.bind_some]
      by_cases h1 : -1000000 ≤ d ∧ d ≤ 1000000
      · have h2 : ¬ (1 ≤ n ∧ n ≤ 2500) := fun h3 => h ⟨h1, h3⟩
        rw [decide_eq_true h1.1, decide_eq_true h1.2]
        by_cases h3 : n < 1
        · rw [decide_eq_true h3]; rfl
        · rw [decide_eq_false h3, decide_eq_true (show 2500 < n by omega)]; rfl
      · by_cases h2 : -1000000 ≤ d
        · rw [decide_eq_true h2, decide_eq_false (show ¬ d ≤ 1000000 by omega)]; rfl
        · rw [decide_eq_false h2]; rfl
    refine ⟨[], false, ?_, ?_, by simp⟩
    · simp only [r_spec_RootCertificates, s1, Option.bind_some]; rfl
    · simp only [r_impl_RootCertificates, s2, Option.bind_some]
      rw [hm]
      rfl
theorem raw_RootCertificates (d n : Int) : r_laws_FnExactRootCertificates d n = some true := by
  obtain ⟨r, b, h1, h2, h3⟩ := rt_both d n
  obtain ⟨q, m1, m2⟩ := markS_held r (by omega)
  have hlt : ltI ((r.length + 1 : Nat) : Int) 0 = false := by rw [ltI_eq, decide_eq_false (by omega)]
  have hb : (b != b) = false := by cases b <;> rfl
  simp only [r_laws_FnExactRootCertificates, h1, h2, Option.bind_some, eqStr_self r (by omega), Bool.not_true, cond_false, hb, m1, m2, hlt, eqSelf]
end Go.Proofs.YtmpnloechnfkjaaDoor
