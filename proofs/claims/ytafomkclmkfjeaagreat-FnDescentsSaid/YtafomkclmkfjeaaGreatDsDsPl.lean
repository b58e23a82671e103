/-
  Descending is a homomorphism.
  Conditions: none.
-/
import Derived.Test.YtafomkclmkfjeaaGreatDsDsD
import Derived.Test.YtafomkclmkfjeaaGreatDsCan
import Derived.Test.YtafomkclmkfjeaaGreatDsCgDr
import Derived.Test.YtafomkclmkfjeaaGreatDsRlI
namespace Go.Proofs.YtafomkclmkfjeaaGreat
set_option linter.unusedVariables false
set_option linter.unusedSimpArgs false

theorem f3_self (f : F3) : ((f.1 == f.1) && ((f.2.1 == f.2.1) && (f.2.2 == f.2.2))) = true := by simp
/-! ### The drawn form and prime -/
theorem up_run : ∀ (k fu : Nat) (d : Int) (y10 y6 : Int × List Int × Int × Int), -2000 ≤ d → d ≤ -3 → (-3 - d).toNat ≤ k → k < fu → ∃ r, r_spec_l1Cur_lifted_L13 y10 y6 fu d = some r ∧ -2000 ≤ r ∧ r ≤ -3
  | k, 0, d, _, _, _, _, _, hf => by omega
  | k, fu + 1, d, y10, y6, h1, h2, h3, hf => by
    rw [r_spec_l1Cur_lifted_L13, okd_val, Option.bind_some]
    by_cases h : OkD d
    · rw [decide_eq_true h]
      exact ⟨d, rfl, h1, h2⟩
    · rw [decide_eq_false h]
      have hne : d ≠ -3 := fun e => h ⟨h1, h2, by subst e; decide⟩
      obtain ⟨k', rfl⟩ : ∃ k', k = k' + 1 := ⟨k - 1, by omega⟩
      simp only [Bool.not_false, cond_true, sI_eq]
      rw [w64_in (n := d + 1) (by omega)]
      exact up_run k' fu (d + 1) y10 y6 (by omega) (by omega) (by omega) (by omega)
theorem most_ok {p : Int} (h : p ∈ [(2 : Int), 2, 3, 3, 5, 7, 11, 13, 19]) : ∃ y, 1 ≤ y ∧ y ≤ 500 ∧ nz (w64 (p * p)) = some () ∧ r_spec_l1Most 1 (w64 (w64 (Int.tdiv 2000 (w64 (p * p))) - 3)) = some y ∧ p ≤ 1009 := by
  simp only [List.mem_cons, List.not_mem_nil, or_false] at h
  rcases h with h | h | h | h | h | h | h | h | h <;> subst h
  · exact ⟨497, by decide, by decide, by decide +kernel, by decide +kernel, by decide⟩
  · exact ⟨497, by decide, by decide, by decide +kernel, by decide +kernel, by decide⟩
  · exact ⟨219, by decide, by decide, by decide +kernel, by decide +kernel, by decide⟩
  · exact ⟨219, by decide, by decide, by decide +kernel, by decide +kernel, by decide⟩
  · exact ⟨77, by decide, by decide, by decide +kernel, by decide +kernel, by decide⟩
  · exact ⟨37, by decide, by decide, by decide +kernel, by decide +kernel, by decide⟩
  · exact ⟨13, by decide, by decide, by decide +kernel, by decide +kernel, by decide⟩
  · exact ⟨8, by decide, by decide, by decide +kernel, by decide +kernel, by decide⟩
  · exact ⟨2, by decide, by decide, by decide +kernel, by decide +kernel, by decide⟩
theorem lifted_ok {k : Nat} {c : List Int × Int × Int} (h : CurB k c) (hk : k ≤ 1000000) : ∃ d p c', r_spec_l1Cur_lifted c = some (d, p, c') ∧ CurB (k + 20) c' ∧ p ≤ 1009 := by
  have hF := FUge
  obtain ⟨b, c1, e1, h1⟩ := one_ok 10 h (by omega)
  simp only [r_spec_l1Cur_lifted, e1, Option.bind_some]
  cases b with
  | true =>
    obtain ⟨d, c2, e2, h2⟩ := disc_ok h1 (by omega)
    obtain ⟨p, c3, e3, hm, h3⟩ := among_ok (l := [2, 3, 5, 1, 0, 4, 1009, 23]) (by simp) h2 (by omega)
    refine ⟨d, p, c3, by simp only [cond_true, e2, e3, Option.bind_some], h3.up (by omega), ?_⟩
    simp only [List.mem_cons, List.not_mem_nil, or_false] at hm
    omega
  | false =>
    obtain ⟨p, c2, e2, hm, h2⟩ := among_ok (l := [2, 2, 3, 3, 5, 7, 11, 13, 19]) (by simp) h1 (by omega)
    obtain ⟨y, m1, m2, m3, m4, m5⟩ := most_ok hm
    obtain ⟨x, c3, e3, x0, x1, x2, h3⟩ := pick_ok y h2 (by omega)
    have hx : x ≤ 500 := by
      rcases Int.lt_or_le 1 y with h | h
      · have := x2 h; omega
      · have := x1 h; omega
    obtain ⟨r, e4, r1, r2⟩ := up_run 2000 FU (-3 - x) (x, c3) (p, c2) (by omega) (by omega) (by omega) (by omega)
    obtain ⟨b, c4, e5, h4⟩ := one_ok 4 h3 (by omega)
    simp only [cond_false, e2, m3, m4, e3, sI_eq, Option.bind_some]
    rw [w64_in (n := -3 - x) (by omega), e4]
    simp only [e5, Option.bind_some]
    cases b with
    | true =>
      obtain ⟨d, c5, e6, _, h5⟩ := among_ok (l := [-3, -4]) (by simp) h4 (by omega)
      exact ⟨d, p, c5, by simp only [cond_true, e6, Option.bind_some], h5.up (by omega), m5⟩
    | false => exact ⟨r, p, c4, rfl, h4.up (by omega), m5⟩
theorem odPrime_some {p : Int} (hp : p ≤ 1009) : ∃ b, r_spec_odPrime p = some b := by
  obtain ⟨q, hq⟩ := prime_some p (by omega)
  simp only [r_spec_odPrime, r_spec_l1In, prime_eq, hq, Option.bind_some]
  cases (bif leI 2 p then leI p 1000 else false) <;> exact ⟨_, rfl⟩
theorem lower_ok {k : Nat} {c : List Int × Int × Int} (h : CurB k c) (hk : k ≤ 1000000) : ∃ f p c', r_spec_l1Cur_lower c = some (f, p, c') := by
  obtain ⟨d, p, c1, e1, h1, hp⟩ := lifted_ok h hk
  obtain ⟨q, hq⟩ := odPrime_some hp
  simp only [r_spec_l1Cur_lower, e1, Option.bind_some]
  have cls : ∃ f p' c', ((r_spec_l1Cur_classForm c1).bind fun y5 => some ((y5.1, p, y5.2))) = some (f, p', c') := by
    obtain ⟨f, c2, e2, h2⟩ := classForm_ok h1 (by omega)
    exact ⟨f, p, c2, by simp only [e2, Option.bind_some]⟩
  simp only [r_spec_odUp, okd_val, hq, Option.bind_some]
  by_cases h3 : OkD d
  · cases q with
    | false => simpa [h3] using cls
    | true =>
      by_cases h4 : OkD (w64 ((w64 (d * p)) * p))
      · obtain ⟨f, c2, e2, _, h2⟩ := reduced_ok h4 h1 (by omega)
        obtain ⟨b, c3, e3, h5⟩ := one_ok 2 h2 (by omega)
        rw [decide_eq_true h3, decide_eq_true h4]
        simp only [cond_true, Option.bind_some, Bool.not_true, cond_false, e2, e3]
        cases b with
        | true =>
          obtain ⟨g, c4, e4, h6⟩ := moved_ok f h5 (by omega)
          exact ⟨g, p, c4, by simp only [cond_true, e4, Option.bind_some]⟩
        | false => exact ⟨f, p, c3, rfl⟩
      · simpa [h3, h4] using cls
  · simpa [h3] using cls
/-! ### The law -/
theorem prc_of_prr {D : Int} {f : F3} (h : PrR D f) : PrRc D f := by
  obtain ⟨h1, h2, h3, h4⟩ := h
  refine ⟨h1, h2, h3, fun k k1 k2 k3 => ?_⟩
  have h5 : k ∣ (Int.gcd f.1 (Int.gcd f.2.1 f.2.2) : Int) := Int.dvd_coe_gcd k1 (Int.dvd_coe_gcd k2 k3)
  rw [h4] at h5
  exact h5
/-- Being able to descend is a matter of the discriminant. -/
theorem can_disc {D p : Int} {f g : F3} (hf : CFc D f) (hg : CFc D g) (h : r_impl_canDescend f p = some true) : r_impl_canDescend g p = some true := by
  have e : r_impl_canDescend g p = r_impl_canDescend f p := by
    simp only [r_impl_canDescend, hf.1, hg.1, hf.2.1, hg.2.1]
  rw [e, h]
theorem can_pd {D p : Int} {f : F3} (hf : CFc D f) (h : r_impl_canDescend f p = some true) : ∃ D', D = p * p * D' ∧ Pd p D' ∧ r_impl_isPrime p = some true := by
  obtain ⟨a, b, c⟩ := f
  obtain ⟨h1, h2, h3, h4, h5, h6⟩ := can_true h
  have hd : b * b - 4 * a * c = D := hf.2.2.1.1.dis
  rw [hd] at h5 h6
  rw [negdisc_val] at h6
  have h7 := of_decide_eq_true (some_inj h6)
  have e1 := Int.tmod_add_tdiv_mul D (p * p)
  rw [h5] at e1
  generalize Int.tdiv D (p * p) = D' at *
  have hD1 := hf.2.2.2.1
  have e2 : D = p * p * D' := by rw [Int.mul_comm (p * p)]; omega
  exact ⟨D', e2, ⟨h2, h3, prime_odd h2 h3 h4, by rw [← e2]; exact hD1, h7.1, by omega, h7.2.2⟩, h4⟩
theorem isPrime_of {p : Int} (h : r_impl_isPrime p = some true) (hp : 2 ≤ p) (hp2 : p ≤ 25) : r_impl_IsPrime p = some true := by
  have hin : inN p = true := inN_iff.2 (by omega)
  simp only [r_impl_IsPrime, num_val _ (show [p].length < 1000000 by simp), List.all_cons, List.all_nil, Bool.and_true, hin, Option.bind_some, cond_true, h]
/-- The matrix makes the form of the descended one. -/
theorem isDescent_val {p D : Int} {f g : F3} {n1 n2 n3 n4 : Int} (hP : Pd p D) (hpr : r_impl_isPrime p = some true) (hf : CFc (p * p * D) f) (k : Dsc p D f g n1 n2 n3 n4) (hm : r_impl_IsMatrix (w64 n1, w64 n2, w64 n3, w64 n4) = some true) : r_impl_IsDescent f g (w64 n1, w64 n2, w64 n3, w64 n4) p = some (true, true) := by
  have hp := hP.p2
  have hp2 := hP.p25
  have hg := cfc_prc hP.D0 hP.hD k.prc
  have m1 : (D * p).natAbs ≤ 2000 * 25 := abs_mul (by have := hP.D0; have := hP.hD; omega) (by omega)
  have m2 : D * p * p = p * p * D := by grind
  have hD1 := hP.D1
  have hD0 := pp_neg hP.p2 hP.hD
  have hdet : r_impl_Matrix_det (w64 n1, w64 n2, w64 n3, w64 n4) = some p := by
    have z : w64 (w64 (w64 n1 * w64 n4) - w64 (w64 n2 * w64 n3)) = w64 (n1 * n4 - n2 * n3) := w64_congr (by simp only [bv_sub, bv_mul, bv_w64])
    simp only [r_impl_Matrix_det, sI_eq]
    rw [z, k.det, w64_in (by omega)]
  have hsub : r_impl_Form_substitute g (w64 n1, w64 n2, w64 n3, w64 n4) = some f := by
    have v1 := k.val 1 0
    have v2 := k.val 0 1
    have v3 := k.val 1 1
    obtain ⟨a, b, c⟩ := f
    obtain ⟨A, B, C⟩ := g
    simp only [FV, Int.mul_one, Int.mul_zero, Int.add_zero, Int.zero_add] at v1 v2 v3
    have hb := hf.2.2.1.1
    have hc := hf.2.2.1.2
    simp only [] at hb hc
    obtain ⟨a1, aM, b1, b2, c1, cM, _, _, _, _⟩ := hb
    have v4 : 2 * A * n1 * n2 + B * (n1 * n4 + n3 * n2) + 2 * C * n3 * n4 = b := by
      have : A * (n1 + n2) * (n1 + n2) + B * (n1 + n2) * (n3 + n4) + C * (n3 + n4) * (n3 + n4) = (A * n1 * n1 + B * n1 * n3 + C * n3 * n3) + (A * n2 * n2 + B * n2 * n4 + C * n4 * n4) + (2 * A * n1 * n2 + B * (n1 * n4 + n3 * n2) + 2 * C * n3 * n4) := by grind
      omega
    rw [sub_w]
    have z1 : w64 (A * w64 n1 * w64 n1 + B * w64 n1 * w64 n3 + C * w64 n3 * w64 n3) = w64 (A * n1 * n1 + B * n1 * n3 + C * n3 * n3) := w64_congr (by simp only [bv_add, bv_mul, bv_w64])
    have z2 : w64 (2 * A * w64 n1 * w64 n2 + B * (w64 n1 * w64 n4 + w64 n3 * w64 n2) + 2 * C * w64 n3 * w64 n4) = w64 (2 * A * n1 * n2 + B * (n1 * n4 + n3 * n2) + 2 * C * n3 * n4) := w64_congr (by simp only [bv_add, bv_mul, bv_w64])
    have z3 : w64 (A * w64 n2 * w64 n2 + B * w64 n2 * w64 n4 + C * w64 n4 * w64 n4) = w64 (A * n2 * n2 + B * n2 * n4 + C * n4 * n4) := w64_congr (by simp only [bv_add, bv_mul, bv_w64])
    rw [z1, z2, z3, v1, v2, v4, w64_in (n := a) (by omega), w64_in (n := b) (by omega), w64_in (n := c) (by omega)]
  have hw : w64 ((w64 (D * p)) * p) = p * p * D := by rw [w64_in (n := D * p) (by omega), m2, w64_in (by omega)]
  simp only [r_impl_IsDescent, hf.1, hg.1, hm, isPrime_of hpr hp hp2, hf.2.1, hg.2.1, hw, Option.bind_some, Bool.not_true, cond_false, eqI_true, hdet, cond_true, hsub, f3_self]
theorem raw_FnDescents (code more : List Int) (hc8 : ∀ x ∈ code, 0 ≤ x ∧ x ≤ 255) (hm8 : ∀ x ∈ more, 0 ≤ x ∧ x ≤ 255) : r_laws_FnDescents code more = some true := by
  rcases big_cases code more with hb | ⟨hb, hc, hm⟩
  · simp only [r_laws_FnDescents, hb, Option.bind_some, cond_true]
  obtain ⟨f, p, c', ec⟩ := lower_ok (CurB.start hc hc8) (by omega)
  have ed : r_spec_DrawDescendForm code = some (f, p) := by simp only [r_spec_DrawDescendForm, ec, Option.bind_some]
  obtain ⟨b, hcan⟩ := can_some f p
  simp only [r_laws_FnDescents, hb, ed, Option.bind_some, cond_false]
  cases b with
  | false => simp [r_impl_DescendForm, r_spec_DescendForm, can_eq, hcan]
  | true =>
    obtain ⟨cb, hcb⟩ := class_some f
    have hcl : r_impl_isClassForm f = some true := (can_true (a := f.1) (b := f.2.1) (c := f.2.2) hcan).1
    have hf := cfc_of hcl
    obtain ⟨D', hDD, hP, hpr⟩ := can_pd hf hcan
    generalize f.2.1 * f.2.1 - 4 * f.1 * f.2.2 = D at *
    subst hDD
    have hp := hP.p2
    have hD' := hP.hD
    have hDp := pp_neg hp hD'
    have hD1 := hP.D1
    obtain ⟨g, n1, n2, n3, n4, k⟩ := dsc_mk hP hf.2.2.1
    have hg := cfc_prc hP.D0 hD' k.prc
    have hok : OkD (p * p * D') := okd_cfc hf
    obtain ⟨L, l1, l2, l3, l4⟩ := relist_val hok.1 hok.2.1
    have il : r_impl_ReducedForms (p * p * D') = some (L, true) := by
      have hneg : r_impl_isNegativeDisc (p * p * D') = some true := by rw [negdisc_val]; exact congrArg some (decide_eq_true hok)
      simp only [r_impl_ReducedForms, hneg, iforms_eq hok.1 hok.2.1, l1, Option.bind_some, Bool.not_true, cond_false]
    have hLne : 0 < L.length := by
      have := (l3 _).2 (prin_red hok.1 hok.2.1 hok.2.2)
      exact List.length_pos_of_mem this
    have hidisc : r_impl_Discriminant f = some (p * p * D', true) := by
      obtain ⟨ha, hb', hc', _⟩ := class_true (a := f.1) (b := f.2.1) (c := f.2.2) hf.1
      have hif : r_impl_IsForm f = some true := by rw [form_val, ha, hb', hc']; rfl
      simp only [r_impl_Discriminant, hif, hf.2.1, Option.bind_some, Bool.not_true, cond_false]
    obtain ⟨z, ez, z0, z1⟩ := numberOf_ok hm hm8
    have t1 := tmod_range z0 (show (0 : Int) < (L.length : Int) by omega)
    obtain ⟨h, e1, hmem⟩ := getI_in t1.1 t1.2
    have hh := cfc_prc hD1 hDp (prc_of_prr ((l3 h).1 hmem))
    obtain ⟨x, x1, x3, x4, x5⟩ := composeForms_i hDp hf hh
    obtain ⟨y, y1, y2, y3, y4, ky⟩ := dsc_mk hP x4.2.2.1
    obtain ⟨w, w1, w2, w3, w4, kw⟩ := dsc_mk hP hh.2.2.1
    have hw := cfc_prc hP.D0 hD' kw.prc
    obtain ⟨v, v1, v3, v4, v5⟩ := composeForms_i hD' hg hw
    have hyv : y = v := prc_eq (hD := hD') ky.prc v3 (by
      rw [ky.cls hp hD', v5, k.cls hp hD', kw.cls hp hD', x5]
      exact gDn_mul hp hP.D0 hD' hP.h4 _ _)
    subst hyv
    have c1 := can_disc hf x4 hcan
    have c2 := can_disc hf hh hcan
    have d1 : r_impl_DescendForm f p = some (g, true) := by simp only [r_impl_DescendForm, hcan, k.i, Option.bind_some, Bool.not_true, cond_false]
    have d2 : r_spec_DescendForm f p = some (g, true) := by simp only [r_spec_DescendForm, can_eq, hcan, k.s, Option.bind_some, Bool.not_true, cond_false]
    have d3 : r_impl_DescendForm x p = some (y, true) := by simp only [r_impl_DescendForm, c1, ky.i, Option.bind_some, Bool.not_true, cond_false]
    have d4 : r_impl_DescendForm h p = some (w, true) := by simp only [r_impl_DescendForm, c2, kw.i, Option.bind_some, Bool.not_true, cond_false]
    have hlen : eqI (L.length : Int) 0 = false := eqI_false (by omega)
    have hrest : ∀ m : Int × Int × Int × Int × Bool, True := fun _ => trivial
    have him : ∃ b, r_impl_IsMatrix (w64 n1, w64 n2, w64 n3, w64 n4) = some b := by
      simp only [r_impl_IsMatrix, num_val _ (show [w64 n1, w64 n2, w64 n3, w64 n4].length < 1000000 by simp), Option.bind_some]
      exact ⟨_, rfl⟩
    obtain ⟨bm, hbm⟩ := him
    cases bm with
    | false =>
      have dm : r_impl_DescentMatrix f p = some ((0, 0, 0, 0), false) := by simp only [r_impl_DescentMatrix, hcan, k.i, r_impl_checked, hbm, Option.bind_some, Bool.not_true, cond_false, Bool.not_false, cond_true]
      simp only [d1, d2, dm, Option.bind_some, bne_self_eq_false, cond_false, f3_self, Bool.not_true, hidisc, il, hlen, ez, nz_ne (show (L.length : Int) ≠ 0 by omega), e1, x1, d3, d4, v1, cond_true]
    | true =>
      have dm : r_impl_DescentMatrix f p = some ((w64 n1, w64 n2, w64 n3, w64 n4), true) := by simp only [r_impl_DescentMatrix, hcan, k.i, r_impl_checked, hbm, Option.bind_some, Bool.not_true, cond_false]
      have did := isDescent_val hP hpr hf k hbm
      simp only [d1, d2, dm, did, Option.bind_some, bne_self_eq_false, cond_false, f3_self, Bool.not_true, hidisc, il, hlen, ez, nz_ne (show (L.length : Int) ≠ 0 by omega), e1, x1, d3, d4, v1, cond_true]
end Go.Proofs.YtafomkclmkfjeaaGreat
