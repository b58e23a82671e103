/-
  The classes of forms are a group.
  Conditions: none.
-/
import Derived.Test.YtafomkclmkfjeaaCgCgDr
namespace Go.Proofs.Ytafomkclmkfjeaa
set_option linter.unusedVariables false
set_option linter.unusedSimpArgs false

theorem f3_self (f : F3) : ((f.1 == f.1) && ((f.2.1 == f.2.1) && (f.2.2 == f.2.2))) = true := by simp
theorem cg_draw {code : List Int} (hc : code.length ≤ 1048576) (hc8 : ∀ x ∈ code, 0 ≤ x ∧ x ≤ 255) : ∃ f g, r_spec_DrawComposeForms code = some (f, g) := by
  obtain ⟨f, g, c', e⟩ := classForms_ok (CurB.start hc hc8) (by omega)
  exact ⟨f, g, by simp only [r_spec_DrawComposeForms, r_spec_DrawUnitedForms, e, Option.bind_some]⟩
theorem raw_FnClassGroup (code more : List Int) (hc8 : ∀ x ∈ code, 0 ≤ x ∧ x ≤ 255) (hm8 : ∀ x ∈ more, 0 ≤ x ∧ x ≤ 255) : r_laws_FnClassGroup code more = some true := by
  rcases big_cases code more with hb | ⟨hb, hc, hm⟩
  · simp only [r_laws_FnClassGroup, hb, Option.bind_some, cond_true]
  obtain ⟨f, g, ed⟩ := cg_draw hc hc8
  obtain ⟨b, p1, p2, p3⟩ := pair_val f g
  simp only [r_laws_FnClassGroup, hb, ed, Option.bind_some, cond_false]
  cases b with
  | false => simp [r_impl_ComposeForms, r_spec_ComposeForms, p1, p2]
  | true =>
    obtain ⟨D, hf, hg⟩ := p3 rfl
    have hD1 := hf.2.2.2.1
    have hD := hf.2.2.2.2
    have h4 := cf_4 hf.2.2.1
    have h1 := gF_one hD h4 hD1
    obtain ⟨h, e1, e2, e3, e4, e5⟩ := composeForms_val hD hf hg
    obtain ⟨back, b1, _, b3, b4, b5⟩ := composeForms_val hD hg hf
    have hback : back = h := prc_eq (hD := hD) b3 e3 (by rw [b5, e5, gM_comm])
    subst hback
    obtain ⟨inv, i1, i2, i3, i4⟩ := inverseForm_val hD hf
    obtain ⟨id, j1, _, j3, j4, j5⟩ := composeForms_val hD hf i3
    have hid := isIdentity_val hD j4 (by rw [j5, i4, gC_inv hf.2.2.1])
    obtain ⟨l, l1, _, l3, l4, l5⟩ := composeForms_val hD e4 hf
    obtain ⟨ff, m1, _, m3, m4, m5⟩ := composeForms_val hD hf hf
    obtain ⟨r, r1, _, r3, r4, r5⟩ := composeForms_val hD m4 hg
    have hlr : l = r := prc_eq (hD := hD) l3 r3 (by rw [l5, e5, r5, m5, gM_assoc, gM_assoc, gM_comm (gC D hD g)])
    subst hlr
    obtain ⟨n, n1, n2, n3, n4, _⟩ := orderOf_val hD hf
    obtain ⟨z, ez, z0, z1⟩ := numberOf_ok hm hm8
    have t1 := tmod_range z0 (show (0 : Int) < 50 by omega)
    have t2 := tmod_range (x := (more.length : Int)) (by omega) (show (0 : Int) < 9 by omega)
    generalize hi : Int.tmod z 50 = zi at *
    obtain ⟨k, hk⟩ := Int.eq_ofNat_of_zero_le t2.1
    rw [hk] at t2
    obtain ⟨a, a1, a2, a3, a4⟩ := powerForm_val hD hf (k := zi - 20) (by omega)
    obtain ⟨b, b6, b7, b8, b9⟩ := powerForm_val hD hf (k := (k : Int)) (by omega)
    obtain ⟨c, c1, c2, c3, c4⟩ := powerForm_val hD hf (k := zi - 20 + (k : Int)) (by omega)
    obtain ⟨s, s1, _, s3, s4, s5⟩ := composeForms_val hD a3 b8
    have hs : s = c := prc_eq (hD := hD) s3 c2 (by rw [s5, a4, b9, c4, gZ_add h1 (gC_inv hf.2.2.1)])
    subst hs
    obtain ⟨e, o1, o2, o3, o4⟩ := powerForm_val hD hf (k := (n : Int)) (by omega)
    have hoe := isIdentity_val hD o3 (by
      rw [o4]; unfold gZ
      rw [if_neg (by omega)]
      exact n4)
    have w1 : w64 (zi - 20) = zi - 20 := w64_in (by omega)
    have w2 : w64 (zi - 20 + (k : Int)) = zi - 20 + (k : Int) := w64_in (by omega)
    have hn1 : ltI (n : Int) 1 = false := by rw [ltI_eq, decide_eq_false (by omega)]
    simp only [e1, e2, Option.bind_some, bne_self_eq_false, cond_false, f3_self, Bool.not_true, b1, i1, j1, hid, l1, m1, r1, n1, ez, sI_eq, hi, hk, w1, w2, a1, b6, c1, s1, hn1, o1, hoe, cond_true]
end Go.Proofs.Ytafomkclmkfjeaa
