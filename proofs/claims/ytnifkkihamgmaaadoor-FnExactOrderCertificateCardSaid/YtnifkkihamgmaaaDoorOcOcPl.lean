/-
  Certificates of orders, both ways.
  Conditions: none.
-/
import Derived.Test.YtnifkkihamgmaaaDoorOcCoX
import Derived.Test.YtnifkkihamgmaaaDoorOcCtTx
namespace Go.Proofs.YtnifkkihamgmaaaDoor
set_option linter.unusedVariables false
set_option linter.unusedSimpArgs false

theorem sone_val {D : Int} (hD1 : -2000 ≤ D) (hD : D < 0) (h4 : D % 4 ≤ 1) : r_spec_coOne D = some (pF D) := by
  simp only [r_spec_coOne]
  rw [dsc_mod, dsc_mod_val (by omega) (by omega)]
  simp only [Option.bind_some, sI_eq]
  rw [w64_in (n := D % 2 - D) (by omega), tdv (a := D % 2 - D) (b := 4) (c := (D % 2 - D) / 4) (by decide) (by omega), w64_in (by omega)]
  rfl
theorem sorder_run {D : Int} (hD1 : -2000 ≤ D) (hD : D < 0) {f : F3} (hf : PrRc D f) {M : Nat} (hM : M ≤ 1600) (hMe : gP (gC D hD f) M = g1 D hD) : ∀ (n k : Nat) (p : F3), M - k < n → 1 ≤ k → k ≤ M → PrRc D p → gC D hD p = gP (gC D hD f) k → ∃ r : Nat, r_spec_coOrder_L7 f n (k : Int) p.1 p.2.1 p.2.2 = some (r : Int) ∧ k ≤ r ∧ r ≤ M ∧ gP (gC D hD f) r = g1 D hD ∧ ∀ j, k ≤ j → j < r → gP (gC D hD f) j ≠ g1 D hD
  | 0, k, p, hn, h1, h2, hp, e => by omega
  | n + 1, k, p, hn, h1, h2, hp, e => by
    have hcf := cf_of_prc hD1 hD hf
    have hcp := cf_of_prc hD1 hD hp
    have h4 := cf_4 hcf
    have hpp := pf_prc hD1 hD h4
    rw [r_spec_coOrder_L7, disc_eq, cf_disc_val hD1 hcf, Option.bind_some, sone_val hD1 hD h4, Option.bind_some]
    by_cases he : p = pF D
    · have hb : ((p.1 == (pF D).1) && ((p.2.1 == (pF D).2.1) && (p.2.2 == (pF D).2.2))) = true := by rw [he]; simp
      rw [hb, Bool.not_true, cond_false]
      exact ⟨k, rfl, Nat.le_refl _, h2, by rw [← e, he]; rfl, fun j h3 h4 => by omega⟩
    · have hb : ((p.1 == (pF D).1) && ((p.2.1 == (pF D).2.1) && (p.2.2 == (pF D).2.2))) = false := by
        rw [Bool.eq_false_iff]
        intro hh
        rw [Bool.and_eq_true, Bool.and_eq_true, beq_iff_eq, beq_iff_eq, beq_iff_eq] at hh
        exact he (Prod.ext hh.1 (Prod.ext hh.2.1 hh.2.2))
      have hne : gP (gC D hD f) k ≠ g1 D hD := fun h3 => he (prc_eq hp hpp (by rw [e, h3]; rfl))
      have hkM : k ≠ M := fun h3 => hne (h3 ▸ hMe)
      obtain ⟨g, _, j1, j3, j4, j5⟩ := compG hD1 hD hcp hcf
      have j1' : r_spec_coMul (p.1, p.2.1, p.2.2) f = some g := j1
      rw [hb]
      simp only [Bool.not_false, cond_true, sI_eq, j1', Option.bind_some]
      rw [wsucc (by omega)]
      obtain ⟨r, r1, r2, r3, r4, r5⟩ := sorder_run hD1 hD hf hM hMe n (k + 1) g (by omega) (by omega) (by omega) j3 (by rw [j5, e]; rfl)
      refine ⟨r, r1, by omega, r3, r4, fun j h3 h4 => ?_⟩
      by_cases hj : j = k
      · rw [hj]; exact hne
      · exact r5 j (by omega) h4
theorem order_both {D : Int} (hD : D < 0) {f : F3} (h : CFc D f) : ∃ r : Nat, r_impl_OrderOf f = some ((r : Int), true) ∧ r_spec_coOrder f = some (r : Int) ∧ r ≤ 1600 := by
  have hF := FUge
  have hD1 := h.2.2.2.1
  have hcf := h.2.2.1
  obtain ⟨r, r1, r2, r3, r4, r5⟩ := orderOf_val hD h
  obtain ⟨g, j1, j2, j3, j4, j5⟩ := redG hD hcf
  have hr' : gP (gC D hD g) r = g1 D hD := by rw [j5]; exact r4
  obtain ⟨q, q1, q2, q3, q4, q5⟩ := sorder_run hD1 hD j3 r3 hr' FU 1 g (by omega) (by omega) r2 j3 (gP_oneth (gF_of j4)).symm
  have hqr : q = r := by
    rcases Nat.lt_trichotomy q r with h | h | h
    · exact absurd (by rw [← j5]; exact q4) (r5 q q2 h)
    · exact h
    · exact absurd hr' (q5 r r2 h)
  subst hqr
  have q1' : r_spec_coOrder_L7 g FU 1 g.1 g.2.1 g.2.2 = some (q : Int) := q1
  exact ⟨q, r1, by simp only [r_spec_coOrder, j2, q1', Option.bind_some], r3⟩
theorem num_text {r : Nat} (h : r ≤ 1000000) : r_spec_l1Num FU (r : Int) = some (bl (Go.Lib.itoa (r : Int))) ∧ r_strconv_Itoa (r : Int) = some (bl (Go.Lib.itoa (r : Int))) ∧ (Go.Lib.itoa (r : Int)).length ≤ 19 := by
  have hs : sm18 (r : Int) := ⟨by omega, by omega⟩
  have h1 := l1Int_eq hs
  unfold r_spec_l1Int at h1
  rw [ltI_eq, decide_eq_false (by omega), cond_false] at h1
  refine ⟨?_, itoa_eq hs, itoa_len hs⟩
  cases hh : r_spec_l1Num FU (r : Int) with
  | none => rw [hh] at h1; cases h1
  | some y => rw [hh] at h1; exact h1
theorem sm_in {n : Int} (h : inN n = true) : sm18 n := by
  rw [inN_iff] at h
  exact ⟨by omega, by omega⟩
theorem oc_both (f : F3) : ∃ t b, r_spec_OrderCertificate f = some (t, b) ∧ r_impl_OrderCertificate f = some (t, b) := by
  obtain ⟨cb, hcb⟩ := class_some f
  cases cb with
  | false => exact ⟨(⟨#[]⟩ : ByteArray), false, by simp [r_spec_OrderCertificate, class_val, hcb], by simp [r_impl_OrderCertificate, r_impl_OrderOf, hcb]⟩
  | true =>
    have hf := cfc_of hcb
    obtain ⟨r, r1, r2, r3⟩ := order_both hf.2.2.2.2 hf
    obtain ⟨t1, t2, t3⟩ := num_text (r := r) (by omega)
    obtain ⟨ha, hb, hc, _⟩ := class_true (a := f.1) (b := f.2.1) (c := f.2.2) hcb
    have e1 : (⟨#[111, 114, 100, 101, 114]⟩ : ByteArray) = bl [111, 114, 100, 101, 114] := rfl
    have hL : ∀ y ∈ [111, 114, 100, 101, 114] :: [fB f, Go.Lib.itoa (r : Int)], y.length ≤ 1000 := by
      intro y hy
      simp only [List.mem_cons, List.not_mem_nil, or_false] at hy
      rcases hy with rfl | rfl | rfl
      · decide
      · exact Nat.le_trans (fB_len (sm_in ha) (sm_in hb) (sm_in hc)) (by omega)
      · omega
    have p1 := prText_eq [111, 114, 100, 101, 114] [fB f, Go.Lib.itoa (r : Int)] (by simp) hL
    have p2 := cert_eq [111, 114, 100, 101, 114] [fB f, Go.Lib.itoa (r : Int)] (by simp) (by simp) hL
    simp only [List.map_cons, List.map_nil] at p1 p2
    refine ⟨bl ([111, 114, 100, 101, 114] ++ Go.Lib.joinTail [32] [fB f, Go.Lib.itoa (r : Int)]), true, ?_, ?_⟩
    · simp only [r_spec_OrderCertificate, class_val, hcb, Option.bind_some, Bool.not_true, cond_false, foText_eq (sm_in ha) (sm_in hb) (sm_in hc), r2, t1, e1, p1]
    · simp only [r_impl_OrderCertificate, r1, Option.bind_some, Bool.not_true, cond_false, formText_eq (sm_in ha) (sm_in hb) (sm_in hc), t2, e1, p2]
theorem raw_OrderCertificate (f : F3) : r_laws_FnExactOrderCertificate f = some true := by
  obtain ⟨t, b, h1, h2⟩ := oc_both f
  have hb : (b != b) = false := by cases b <;> rfl
  have ht : (t.toList == t.toList) = true := beq_self_eq_true _
  have e : ∀ x : Int × Int × Int, r_laws_toForm x = some x := fun x => rfl
  simp only [r_laws_FnExactOrderCertificate, e, h1, h2, Option.bind_some, ht, hb, Bool.not_true, cond_false]
end Go.Proofs.YtnifkkihamgmaaaDoor
