/-
  Certificates that two forms are not equivalent, and that they are, are alike both ways.
  Conditions: none.
-/
import Derived.Test.YtmpnloechnfkjaaDoorDeDscMat
import Derived.Test.YtmpnloechnfkjaaDoorDeCtTx
namespace Go.Proofs.YtmpnloechnfkjaaDoor
set_option linter.unusedVariables false
set_option linter.unusedSimpArgs false

theorem sm_of_in {n : Int} (h : inN n = true) : sm18 n := by
  rw [inN_iff] at h
  unfold sm18
  omega
theorem isMat_val (m : Int × Int × Int × Int) : r_impl_IsMatrix m = some (inN m.1 && (inN m.2.1 && (inN m.2.2.1 && inN m.2.2.2))) := by
  simp only [r_impl_IsMatrix, num_val _ (show [m.1, m.2.1, m.2.2.1, m.2.2.2].length < 1000000 by simp), List.all_cons, List.all_nil, Bool.and_true, Option.bind_some]
theorem foMat_val (m : Int × Int × Int × Int) : r_spec_foMatrix m = some (inN m.1 && (inN m.2.1 && (inN m.2.2.1 && inN m.2.2.2))) := by
  simp only [r_spec_foMatrix, good_val, Option.bind_some]
  cases inN m.1 <;> cases inN m.2.1 <;> cases inN m.2.2.1 <;> rfl
theorem in_of_def {f : Int × Int × Int} (h : r_impl_isDefinite f = some true) : inN f.1 = true ∧ inN f.2.1 = true ∧ inN f.2.2 = true := by
  simp only [r_impl_isDefinite, form_val, Option.bind_some] at h
  cases ha : inN f.1 with
  | false => rw [ha] at h; simp at h
  | true =>
    cases hb : inN f.2.1 with
    | false => rw [ha, hb] at h; simp at h
    | true =>
      cases hc : inN f.2.2 with
      | false => rw [ha, hb, hc] at h; simp at h
      | true => exact ⟨rfl, rfl, rfl⟩
theorem sm_of_bd {n : Int} (h : -10000000 ≤ n ∧ n ≤ 10000000) : sm18 n := by
  unfold sm18
  omega
/-- Words of a certificate. -/
theorem words_len {x : List UInt8} {ws : List (List UInt8)} (hx : x.length ≤ 1000) (h : ∀ y ∈ ws, y.length ≤ 100) : ∀ y ∈ x :: ws, y.length ≤ 1000 := by
  intro y hy
  rcases List.mem_cons.1 hy with rfl | hy
  · exact hx
  · have := h y hy
    omega
theorem df_both (f g : Int × Int × Int) : ∃ t b, r_spec_DifferenceCertificate f g = some (t, b) ∧ r_impl_DifferenceCertificate f g = some (t, b) := by
  obtain ⟨bf, hf⟩ := def_some f
  obtain ⟨bg, hg⟩ := def_some g
  have no : ∀ {h : Int × Int × Int}, r_impl_isDefinite h = some false → r_impl_ReduceForm h = some ((0, 0, 0), (0, 0, 0, 0), false) := by
    intro h hh
    simp only [r_impl_ReduceForm, hh, Option.bind_some, Bool.not_false, cond_true]
  have yes : ∀ {h : Int × Int × Int}, r_impl_isDefinite h = some true → ∃ m f2, r_impl_ReduceForm h = some (f2, m, true) ∧ r_spec_reReduce h = some (f2, m) ∧ sm18 m.1 ∧ sm18 m.2.1 ∧ sm18 m.2.2.1 ∧ sm18 m.2.2.2 ∧ sm18 f2.1 ∧ sm18 f2.2.1 ∧ sm18 f2.2.2 := by
    intro h hh
    obtain ⟨m, f2, k1, k2, i1, i2, i3, i4, j1, j2, j3, _⟩ := def_both hh
    refine ⟨m, f2, ?_, k2, sm_of_in i1, sm_of_in i2, sm_of_in i3, sm_of_in i4, sm_of_bd j1, sm_of_bd j2, sm_of_bd j3⟩
    simp only [r_impl_ReduceForm, hh, Option.bind_some, Bool.not_true, cond_false, k1, isMat_val, i1, i2, i3, i4, Bool.and_self]
  simp only [r_spec_DifferenceCertificate, r_impl_DifferenceCertificate, def_val, hf, hg, Option.bind_some]
  cases bf with
  | false =>
    rw [no hf]
    cases bg with
    | false =>
      rw [no hg]
      exact ⟨_, _, rfl, rfl⟩
    | true =>
      obtain ⟨m, f2, k1, _⟩ := yes hg
      rw [k1]
      exact ⟨_, _, rfl, rfl⟩
  | true =>
    obtain ⟨m, f2, k1, k2, i1, i2, i3, i4, j1, j2, j3⟩ := yes hf
    rw [k1]
    cases bg with
    | false =>
      rw [no hg]
      exact ⟨_, _, rfl, rfl⟩
    | true =>
      obtain ⟨n, g2, l1, l2, p1, p2, p3, p4, q1, q2, q3⟩ := yes hg
      rw [l1]
      simp only [Bool.not_true, cond_false, Option.bind_some, k2, l2]
      cases hc : (f2.1 == g2.1 && (f2.2.1 == g2.2.1 && f2.2.2 == g2.2.2)) with
      | true => exact ⟨_, _, rfl, rfl⟩
      | false =>
        obtain ⟨a1, a2, a3⟩ := in_of_def hf
        obtain ⟨b1, b2, b3⟩ := in_of_def hg
        have e1 : (⟨#[100, 105, 102, 102, 101, 114, 101, 110, 116]⟩ : ByteArray) = bl [100, 105, 102, 102, 101, 114, 101, 110, 116] := rfl
        have hL := words_len (x := [100, 105, 102, 102, 101, 114, 101, 110, 116]) (ws := [fB f, mB m, fB f2, fB g, mB n, fB g2]) (by simp) (by
          intro y hy
          simp only [List.mem_cons, List.not_mem_nil, or_false] at hy
          rcases hy with rfl | rfl | rfl | rfl | rfl | rfl
          · exact fB_len (sm_of_in a1) (sm_of_in a2) (sm_of_in a3)
          · exact mB_len i1 i2 i3 i4
          · exact fB_len j1 j2 j3
          · exact fB_len (sm_of_in b1) (sm_of_in b2) (sm_of_in b3)
          · exact mB_len p1 p2 p3 p4
          · exact fB_len q1 q2 q3)
        have t1 := prText_eq [100, 105, 102, 102, 101, 114, 101, 110, 116] [fB f, mB m, fB f2, fB g, mB n, fB g2] (by simp) hL
        have t2 := cert_eq [100, 105, 102, 102, 101, 114, 101, 110, 116] [fB f, mB m, fB f2, fB g, mB n, fB g2] (by simp) (by simp) hL
        simp only [List.map_cons, List.map_nil] at t1 t2
        simp only [cond_false, foText_eq (sm_of_in a1) (sm_of_in a2) (sm_of_in a3), foText_eq (sm_of_in b1) (sm_of_in b2) (sm_of_in b3), foText_eq j1 j2 j3, foText_eq q1 q2 q3, foMText_eq i1 i2 i3 i4, foMText_eq p1 p2 p3 p4,
          formText_eq (sm_of_in a1) (sm_of_in a2) (sm_of_in a3), formText_eq (sm_of_in b1) (sm_of_in b2) (sm_of_in b3), formText_eq j1 j2 j3, formText_eq q1 q2 q3, matText_eq i1 i2 i3 i4, matText_eq p1 p2 p3 p4, Option.bind_some, e1, t1, t2]
        exact ⟨_, _, rfl, rfl⟩
theorem raw_DifferenceCertificate (f g : Int × Int × Int) : r_laws_FnExactDifferenceCertificate f g = some true := by
  obtain ⟨t, b, h1, h2⟩ := df_both f g
  have hb : (b != b) = false := by cases b <;> rfl
  have ht : (t.toList == t.toList) = true := beq_self_eq_true _
  have e : ∀ x : Int × Int × Int, r_laws_toForm x = some x := fun x => rfl
  simp only [r_laws_FnExactDifferenceCertificate, e, h1, h2, Option.bind_some, ht, hb, Bool.not_true, cond_false]
theorem inv_some (m : Int × Int × Int × Int) : ∃ y, r_impl_Matrix_inverse m = some y := by
  simp only [r_impl_Matrix_inverse, r_impl_Matrix_det, sI_eq, Option.bind_some]
  exact ⟨_, rfl⟩
theorem eqm_both (f g : Int × Int × Int) : ∃ m b, r_spec_EquivalenceMatrix f g = some (m, b) ∧ r_impl_EquivalenceMatrix f g = some (m, b) ∧ (b = true → (inN f.1 = true ∧ inN f.2.1 = true ∧ inN f.2.2 = true) ∧ (inN g.1 = true ∧ inN g.2.1 = true ∧ inN g.2.2 = true) ∧ inN m.1 = true ∧ inN m.2.1 = true ∧ inN m.2.2.1 = true ∧ inN m.2.2.2 = true) := by
  obtain ⟨bf, hf⟩ := def_some f
  obtain ⟨bg, hg⟩ := def_some g
  simp only [r_spec_EquivalenceMatrix, r_impl_EquivalenceMatrix, def_val, hf, hg, Option.bind_some]
  cases bf with
  | false => exact ⟨_, false, rfl, rfl, fun h => by cases h⟩
  | true =>
    cases bg with
    | false => exact ⟨_, false, rfl, rfl, fun h => by cases h⟩
    | true =>
      obtain ⟨m, f2, k1, k2, _⟩ := def_both hf
      obtain ⟨n, g2, l1, l2, _⟩ := def_both hg
      obtain ⟨y, hy⟩ := inv_some n
      obtain ⟨z, hz⟩ := times_some m y
      simp only [Bool.not_true, cond_false, Option.bind_some, k1, k2, l1, l2, dsc_inv, dsc_mul, hy, hz]
      cases hc : (f2.1 == g2.1 && (f2.2.1 == g2.2.1 && f2.2.2 == g2.2.2)) with
      | false => exact ⟨_, false, rfl, rfl, fun h => by cases h⟩
      | true =>
        simp only [Bool.not_true, cond_false, Option.bind_some, r_impl_checked, isMat_val, foMat_val]
        cases hb : (inN z.1 && (inN z.2.1 && (inN z.2.2.1 && inN z.2.2.2))) with
        | false => exact ⟨_, false, rfl, rfl, fun h => by cases h⟩
        | true =>
          refine ⟨z, true, rfl, rfl, fun _ => ⟨in_of_def hf, in_of_def hg, ?_⟩⟩
          simpa only [Bool.and_eq_true] using hb
theorem eqc_both (f g : Int × Int × Int) : ∃ t b, r_spec_EquivalenceCertificate f g = some (t, b) ∧ r_impl_EquivalenceCertificate f g = some (t, b) := by
  obtain ⟨m, b, h1, h2, h3⟩ := eqm_both f g
  simp only [r_spec_EquivalenceCertificate, r_impl_EquivalenceCertificate, h1, h2, Option.bind_some]
  cases b with
  | false => exact ⟨_, _, rfl, rfl⟩
  | true =>
    obtain ⟨⟨a1, a2, a3⟩, ⟨b1, b2, b3⟩, i1, i2, i3, i4⟩ := h3 rfl
    have e1 : (⟨#[101, 113, 117, 105, 118, 97, 108, 101, 110, 116]⟩ : ByteArray) = bl [101, 113, 117, 105, 118, 97, 108, 101, 110, 116] := rfl
    have hL := words_len (x := [101, 113, 117, 105, 118, 97, 108, 101, 110, 116]) (ws := [fB f, fB g, mB m]) (by simp) (by
      intro y hy
      simp only [List.mem_cons, List.not_mem_nil, or_false] at hy
      rcases hy with rfl | rfl | rfl
      · exact fB_len (sm_of_in a1) (sm_of_in a2) (sm_of_in a3)
      · exact fB_len (sm_of_in b1) (sm_of_in b2) (sm_of_in b3)
      · exact mB_len (sm_of_in i1) (sm_of_in i2) (sm_of_in i3) (sm_of_in i4))
    have t1 := prText_eq [101, 113, 117, 105, 118, 97, 108, 101, 110, 116] [fB f, fB g, mB m] (by simp) hL
    have t2 := cert_eq [101, 113, 117, 105, 118, 97, 108, 101, 110, 116] [fB f, fB g, mB m] (by simp) (by simp) hL
    simp only [List.map_cons, List.map_nil] at t1 t2
    simp only [Bool.not_true, cond_false, foText_eq (sm_of_in a1) (sm_of_in a2) (sm_of_in a3), foText_eq (sm_of_in b1) (sm_of_in b2) (sm_of_in b3), foMText_eq (sm_of_in i1) (sm_of_in i2) (sm_of_in i3) (sm_of_in i4),
      formText_eq (sm_of_in a1) (sm_of_in a2) (sm_of_in a3), formText_eq (sm_of_in b1) (sm_of_in b2) (sm_of_in b3), matText_eq (sm_of_in i1) (sm_of_in i2) (sm_of_in i3) (sm_of_in i4), Option.bind_some, e1, t1, t2]
    exact ⟨_, _, rfl, rfl⟩
theorem raw_EquivalenceCertificate (f g : Int × Int × Int) : r_laws_FnExactEquivalenceCertificate f g = some true := by
  obtain ⟨t, b, h1, h2⟩ := eqc_both f g
  have hb : (b != b) = false := by cases b <;> rfl
  have ht : (t.toList == t.toList) = true := beq_self_eq_true _
  have e : ∀ x : Int × Int × Int, r_laws_toForm x = some x := fun x => rfl
  simp only [r_laws_FnExactEquivalenceCertificate, e, h1, h2, Option.bind_some, ht, hb, Bool.not_true, cond_false]
end Go.Proofs.YtmpnloechnfkjaaDoor
