/-
  Sublattice forms, lattices of the index, and the class above.
  Conditions: none.
-/
import Derived.Test.YtafomkclmkfjeaaGreatIsIsM
import Derived.Test.YtafomkclmkfjeaaGreatIsCan
import Derived.Test.YtafomkclmkfjeaaGreatIsCgDr
namespace Go.Proofs.YtafomkclmkfjeaaGreat
set_option linter.unusedVariables false
set_option linter.unusedSimpArgs false

theorem qf_run (l : List (Int × Int × Int)) (hl : l.length ≤ 1000000) : ∀ (fu k : Nat), k ≤ l.length → l.length - k < fu → r_laws_qForms_L5 l l fu (k : Int) = some (.inl ())
  | 0, k, h1, h2 => by omega
  | fu + 1, k, h1, h2 => by
    rw [r_laws_qForms_L5, ltI_eq]
    by_cases hk : k < l.length
    · rw [decide_eq_true (by omega), cond_true, getNat hk]
      simp only [Option.bind_some, beq_self_eq_true, Bool.and_self, Bool.not_true, cond_false, sI_eq, wsucc (show k < 1000000000 by omega)]
      exact qf_run l hl fu (k + 1) (by omega) (by omega)
    · rw [decide_eq_false (by omega), cond_false]
theorem qf_self (l : List (Int × Int × Int)) (hl : l.length ≤ 100000) : r_laws_qForms l l = some true := by
  have hF := FUge
  have h : r_laws_qForms_L5 l l FU 0 = some (.inl ()) := qf_run l (by omega) FU 0 (by omega) (by omega)
  simp only [r_laws_qForms, eqSelf, Bool.not_true, cond_false, h, Option.bind_some]
theorem prc_of_prr {D : Int} {f : F3} (h : PrR D f) : PrRc D f := by
  obtain ⟨h1, h2, h3, h4⟩ := h
  refine ⟨h1, h2, h3, fun k k1 k2 k3 => ?_⟩
  have h5 : k ∣ (Int.gcd f.1 (Int.gcd f.2.1 f.2.2) : Int) := Int.dvd_coe_gcd k1 (Int.dvd_coe_gcd k2 k3)
  rw [h4] at h5
  exact h5
theorem prr_of_prc {D : Int} {f : F3} (h : PrRc D f) : PrR D f := by
  obtain ⟨h1, h2, h3, h4⟩ := h
  refine ⟨h1, h2, h3, ?_⟩
  have h5 : ((Int.gcd f.1 (Int.gcd f.2.1 f.2.2) : Nat) : Int) ∣ 1 := h4 _ (Int.gcd_dvd_left _ _) (Int.dvd_trans (Int.gcd_dvd_right _ _) (Int.gcd_dvd_left _ _)) (Int.dvd_trans (Int.gcd_dvd_right _ _) (Int.gcd_dvd_right _ _))
  have h6 := Int.eq_one_of_dvd_one (by omega) h5
  omega
theorem def_in {a b c d : Int} (ha : inN a = true) (hb : inN b = true) (hc : inN c = true) (ha0 : 0 < a) (hd : b * b - 4 * a * c = d) (hd0 : d < 0) : r_impl_isDefinite (a, b, c) = some true ∧ r_impl_Form_disc (a, b, c) = some d := by
  have hdv := disc_val ha hb hc
  rw [hd] at hdv
  refine ⟨?_, hdv⟩
  simp only [r_impl_isDefinite, form_val, ha, hb, hc, Bool.and_true, Option.bind_some, hdv, cond_true, ltI_eq, decide_eq_true hd0, decide_eq_true ha0]
theorem isMat_ok {m1 m2 m3 m4 : Int} (h1 : m1.natAbs ≤ 2000) (h2 : m2.natAbs ≤ 2000) (h3 : m3.natAbs ≤ 2000) (h4 : m4.natAbs ≤ 2000) : r_impl_IsMatrix (m1, m2, m3, m4) = some true := by
  have i1 : inN m1 = true := inN_iff.2 (by omega)
  have i2 : inN m2 = true := inN_iff.2 (by omega)
  have i3 : inN m3 = true := inN_iff.2 (by omega)
  have i4 : inN m4 = true := inN_iff.2 (by omega)
  simp only [r_impl_IsMatrix, num_val _ (show [m1, m2, m3, m4].length < 1000000 by simp), Option.bind_some, List.all_cons, List.all_nil, i1, i2, i3, i4, Bool.and_self]
/-- Reducing a lattice's form. -/
theorem redForm_val {d : Int} {g : F3} (h : Sb d g) (hb : g.2.1.natAbs ≤ 1000000) (hd : d < 0) : ∃ m, r_impl_ReduceForm g = some (rd g, m, true) ∧ r_impl_IsForm g = some true := by
  obtain ⟨a1, aM, b1, b2, c1, cM, dis⟩ := h
  obtain ⟨_, _, _, _, _, _, m1, m2, m3, m4, k1, k2, k3, k4, k5⟩ := rd_ok ⟨a1, aM, b1, b2, c1, cM, dis⟩ hd
  have ha : inN g.1 = true := inN_iff.2 (by omega)
  have hb' : inN g.2.1 = true := inN_iff.2 (by omega)
  have hc : inN g.2.2 = true := inN_iff.2 (by omega)
  have hdf := (def_in ha hb' hc (by omega) dis hd).1
  have hdf' : r_impl_isDefinite g = some true := hdf
  refine ⟨(m1, m2, m3, m4), by simp only [r_impl_ReduceForm, hdf', k1, isMat_ok k2 k3 k4 k5, Option.bind_some, Bool.not_true, cond_false], ?_⟩
  rw [form_val, ha, hb', hc]; rfl
/-! ### Loops of the law -/
theorem l24_run {y13 : F3 × M4 × Bool} {ys : List F3} {b : Bool} {y15 y6 : List F3 × Bool} {y5 : F3 × Int} (G : F3 → F3) (hG : ∀ x ∈ ys, ∃ g m, r_impl_FormOnLattice y13.1 x = some (g, true) ∧ r_impl_ReduceForm g = some (G x, m, true)) (hlen : ys.length ≤ 1000) : ∀ (k fu i : Nat) (acc : List F3), i + k = ys.length → k < fu → acc.length ≤ 1000 + i → r_laws_FnIndexSublattices_L24 y13 (ys, b) y15 y5 y6 fu (i : Int) acc = some (.inl (acc ++ (ys.drop i).map G))
  | k, 0, i, acc, _, hf, _ => by omega
  | k, fu + 1, i, acc, hi, hf, ha => by
    rw [r_laws_FnIndexSublattices_L24]
    simp only []
    rw [ltI_eq]
    by_cases h1 : i < ys.length
    · rw [decide_eq_true (by omega), cond_true, getNat h1]
      simp only [Option.bind_some]
      obtain ⟨g, m, h2, h3⟩ := hG _ (List.getElem_mem h1)
      obtain ⟨k', rfl⟩ : ∃ k', k = k' + 1 := ⟨k - 1, by omega⟩
      simp only [h2, h3, Option.bind_some, Bool.not_true, cond_false, sI_eq]
      rw [roomOk (by simp; omega), Option.bind_some, wsucc (by omega), l24_run G hG hlen k' fu (i + 1) (acc ++ [G ys[i]]) (by omega) (by omega) (by simp; omega), List.drop_eq_getElem_cons h1]
      simp only [List.map_cons, List.append_assoc, List.cons_append, List.nil_append]
    · rw [decide_eq_false (by omega), cond_false, List.drop_eq_nil_of_le (by omega)]
      simp
theorem l44_run {e : F3} {o l : List F3} {b : Bool} {t35 : Int} {y13 : F3 × M4 × Bool} {y15 : List F3 × Bool} {y5 : F3 × Int} (hlen : l.length ≤ 1000) (ho : o.length = l.length) : ∀ (k fu i s1 s2 : Nat), i + k = l.length → k < fu → s1 ≤ 1000 + i → s2 ≤ 1000 + i → r_laws_FnIndexSublattices_L44 e o t35 y13 y15 y5 (l, b) fu (s1 : Int) (s2 : Int) (i : Int) = some (((s1 + (l.drop i).count e : Nat) : Int), ((s2 + (o.drop i).count e : Nat) : Int))
  | k, 0, i, s1, s2, _, hf, _, _ => by omega
  | k, fu + 1, i, s1, s2, hi, hf, ha, hb => by
    rw [r_laws_FnIndexSublattices_L44]
    simp only []
    rw [ltI_eq]
    by_cases h1 : i < l.length
    · rw [decide_eq_true (by omega), cond_true, getNat h1, getNat (show i < o.length by omega)]
      simp only [Option.bind_some]
      rw [eqB_iff, eqB_iff, List.drop_eq_getElem_cons h1, List.drop_eq_getElem_cons (show i < o.length by omega), List.count_cons, List.count_cons]
      obtain ⟨k', rfl⟩ : ∃ k', k = k' + 1 := ⟨k - 1, by omega⟩
      have w1 : w64 ((i : Int) + 1) = ((i + 1 : Nat) : Int) := wsucc (by omega)
      have w2 : w64 ((s1 : Int) + 1) = ((s1 + 1 : Nat) : Int) := wsucc (by omega)
      have w3 : w64 ((s2 : Int) + 1) = ((s2 + 1 : Nat) : Int) := wsucc (by omega)
      by_cases h2 : l[i] = e <;> by_cases h3 : o[i] = e
      · rw [decide_eq_true h2, decide_eq_true h3]
        simp only [cond_true, sI_eq, Option.bind_some, w1, w2, w3]
        rw [l44_run hlen ho k' fu (i + 1) (s1 + 1) (s2 + 1) (by omega) (by omega) (by omega) (by omega)]
        simp only [h2, h3, beq_self_eq_true, if_true]
        congr 3 <;> omega
      · rw [decide_eq_true h2, decide_eq_false h3]
        simp only [cond_true, cond_false, sI_eq, Option.bind_some, w1, w2, w3]
        rw [l44_run hlen ho k' fu (i + 1) (s1 + 1) s2 (by omega) (by omega) (by omega) (by omega)]
        have h3' : (o[i] == e) = false := beq_eq_false_iff_ne.2 h3
        simp only [h2, h3', beq_self_eq_true, if_true, Bool.false_eq_true, if_false]
        congr 3 <;> omega
      · rw [decide_eq_false h2, decide_eq_true h3]
        simp only [cond_true, cond_false, sI_eq, Option.bind_some, w1, w2, w3]
        rw [l44_run hlen ho k' fu (i + 1) s1 (s2 + 1) (by omega) (by omega) (by omega) (by omega)]
        have h2' : (l[i] == e) = false := beq_eq_false_iff_ne.2 h2
        simp only [h3, h2', beq_self_eq_true, if_true, Bool.false_eq_true, if_false]
        congr 3 <;> omega
      · rw [decide_eq_false h2, decide_eq_false h3]
        simp only [cond_false, sI_eq, Option.bind_some, w1, w2, w3]
        rw [l44_run hlen ho k' fu (i + 1) s1 s2 (by omega) (by omega) (by omega) (by omega)]
        have h2' : (l[i] == e) = false := beq_eq_false_iff_ne.2 h2
        have h3' : (o[i] == e) = false := beq_eq_false_iff_ne.2 h3
        simp only [h2', h3', Bool.false_eq_true, if_false]
        congr 3
    · rw [decide_eq_false (by omega), cond_false, List.drop_eq_nil_of_le (by omega), List.drop_eq_nil_of_le (by omega)]
      simp
theorem l36_run {o l : List F3} {b : Bool} {y13 : F3 × M4 × Bool} {y15 : List F3 × Bool} {y5 : F3 × Int} (hlen : l.length ≤ 1000) (hperm : List.Perm o l) : ∀ (k fu i : Nat), i + k = l.length → k < fu → r_laws_FnIndexSublattices_L36 o y13 y15 y5 (l, b) fu (i : Int) = some (.inl ())
  | k, 0, i, _, hf => by omega
  | k, fu + 1, i, hi, hf => by
    have hF := FUge
    rw [r_laws_FnIndexSublattices_L36]
    simp only []
    rw [ltI_eq]
    by_cases h1 : i < l.length
    · rw [decide_eq_true (by omega), cond_true, getNat h1]
      simp only [Option.bind_some]
      have h2 := l44_run (e := l[i]) (o := o) (l := l) (b := b) (t35 := (i : Int)) (y13 := y13) (y15 := y15) (y5 := y5) hlen hperm.length_eq l.length FU 0 0 0 (by omega) (by omega) (by omega) (by omega)
      have e0 : (((0 : Nat) : Int)) = 0 := rfl
      rw [e0, List.drop_zero, List.drop_zero, hperm.count_eq] at h2
      obtain ⟨k', rfl⟩ : ∃ k', k = k' + 1 := ⟨k - 1, by omega⟩
      simp only [h2, Option.bind_some, eqI_true, Bool.not_true, cond_false, sI_eq]
      rw [wsucc (by omega)]
      exact l36_run hlen hperm k' fu (i + 1) (by omega) (by omega)
    · rw [decide_eq_false (by omega), cond_false]
theorem l63_run {y13 : F3 × M4 × Bool} {ys : List F3} {b : Bool} {y5 : F3 × Int} (hG : ∀ g ∈ ys, r_impl_UpperClass g y5.2 = some (y13.1, true) ∧ ∃ x c, r_impl_DescendForm g y5.2 = some (x, c) ∧ r_spec_DescendForm g y5.2 = some (x, c) ∧ (c = true → x = y13.1)) (hlen : ys.length ≤ 1000) : ∀ (k fu i : Nat), i + k = ys.length → k < fu → r_laws_FnIndexSublattices_L63 y13 (ys, b) y5 fu (i : Int) = some (.inl ())
  | k, 0, i, _, hf => by omega
  | k, fu + 1, i, hi, hf => by
    rw [r_laws_FnIndexSublattices_L63]
    simp only []
    rw [ltI_eq]
    by_cases h1 : i < ys.length
    · rw [decide_eq_true (by omega), cond_true, getNat h1]
      simp only [Option.bind_some]
      obtain ⟨h2, x, c, h3, h4, h5⟩ := hG _ (List.getElem_mem h1)
      obtain ⟨k', rfl⟩ : ∃ k', k = k' + 1 := ⟨k - 1, by omega⟩
      have h6 : (bif c then (!((x.1 == y13.1.1) && ((x.2.1 == y13.1.2.1) && (x.2.2 == y13.1.2.2)))) else false) = false := by
        cases c with
        | false => rfl
        | true => rw [h5 rfl, eqB_iff, decide_eq_true rfl]; rfl
      simp only [h2, h3, h4, Option.bind_some, eqB_iff, decide_true, Bool.not_true, cond_false, bne_self_eq_false, sI_eq]
      rw [eqB_iff] at h6
      rw [h6, cond_false, wsucc (by omega)]
      exact l63_run hG hlen k' fu (i + 1) (by omega) (by omega)
    · rw [decide_eq_false (by omega), cond_false]
/-! ### The class above -/
theorem upper_loop {n : Nat} {g r : F3} {L : List F3} (hsub : ∀ e ∈ L, ∃ l : List F3, r_impl_sublatticeClasses e (n : Int) = some l ∧ l.length ≤ 1000 ∧ (g ∈ l → e = r) ∧ (e = r → g ∈ l)) (hlen : L.length ≤ 100000) : ∀ (k fu i : Nat), i + k = L.length → k < fu → r ∈ L.drop i → r_impl_UpperClass_L22 (n : Int) g L fu (i : Int) = some (.inr (r, true))
  | k, 0, i, _, hf, _ => by omega
  | k, fu + 1, i, hi, hf, hr => by
    rw [r_impl_UpperClass_L22, ltI_eq]
    by_cases h1 : i < L.length
    · rw [decide_eq_true (by omega), cond_true, getNat h1]
      simp only [Option.bind_some]
      obtain ⟨l, h2, h3, h4, h5⟩ := hsub _ (List.getElem_mem h1)
      obtain ⟨k', rfl⟩ : ∃ k', k = k' + 1 := ⟨k - 1, by omega⟩
      rw [h2, Option.bind_some, has_val g l h3, Option.bind_some]
      by_cases h6 : g ∈ l
      · rw [decide_eq_true h6, cond_true, h4 h6]
      · rw [decide_eq_false h6, cond_false]
        simp only [sI_eq]
        rw [wsucc (by omega)]
        refine upper_loop hsub hlen k' fu (i + 1) (by omega) (by omega) ?_
        rw [List.drop_eq_getElem_cons h1] at hr
        rcases List.mem_cons.1 hr with h7 | h7
        · exact absurd (h5 h7.symm) h6
        · exact h7
    · rw [List.drop_eq_nil_of_le (by omega)] at hr
      cases hr
theorem raw_FnIndexSublattices (code more : List Int) (hc8 : ∀ x ∈ code, 0 ≤ x ∧ x ≤ 255) (hm8 : ∀ x ∈ more, 0 ≤ x ∧ x ≤ 255) : r_laws_FnIndexSublattices code more = some true := by
  rcases big_cases code more with hb | ⟨hb, hc, hm⟩
  · simp only [r_laws_FnIndexSublattices, hb, Option.bind_some, cond_true]
  have hF := FUge
  obtain ⟨f, c1, e1, h1⟩ := classForm_ok (CurB.start hc hc8) (by omega)
  obtain ⟨p, c2, e2, hpm, h2⟩ := among_ok (l := [2, 2, 3, 3, 5, 5, 7, 11, 13, 17, 23, 41, 43, 47, 4, 1, 0, -2]) (by simp) h1 (by omega)
  have ed : r_spec_DrawSublatticeClasses code = some (f, p) := by simp only [r_spec_DrawSublatticeClasses, r_spec_DrawSublatticeForms, e1, r_spec_l1Cur_index, e2, Option.bind_some]
  obtain ⟨bi, i1, i2, i3⟩ := idx_val hpm
  obtain ⟨cb, hcb⟩ := class_some f
  have hnil : r_laws_qForms [] [] = some true := qf_self [] (by simp)
  simp only [r_laws_FnIndexSublattices, hb, ed, Option.bind_some, cond_false]
  cases cb with
  | false => simp [r_impl_SublatticeClasses, r_spec_SublatticeClasses, class_val, hcb, hnil]
  | true =>
    cases bi with
    | false => simp [r_impl_SublatticeClasses, r_spec_SublatticeClasses, class_val, hcb, i1, i2, hnil]
    | true =>
      obtain ⟨n, hn, rfl⟩ := i3 rfl
      obtain ⟨n2, n43⟩ := pN_bd hn
      have hp : 2 ≤ (n : Int) := by omega
      have hf := cfc_of hcb
      generalize f.2.1 * f.2.1 - 4 * f.1 * f.2.2 = D at hf
      have hD1 := hf.2.2.2.1
      have hD := hf.2.2.2.2
      have hok : OkD D := okd_cfc hf
      obtain ⟨⟨a, b, c⟩, m1, m2, m3, m4, k1, k2, k3, k4, k5, k6, k7, k8, k9, k10⟩ := red_cf hf.2.2.1
      have hR : Rr a b c D := rr_of hD1 hD k3
      have hDp : (n : Int) * n * D < 0 := pp_neg hp hD
      obtain ⟨s1, s2⟩ := classes_val hR n2 n43
      have kr : r_impl_reduced f = some (a, b, c) := by simp only [r_impl_reduced, k1, Option.bind_some]
      have ks : r_spec_reClass f = some (a, b, c) := by simp only [r_spec_reClass, k2, Option.bind_some]
      have v1 : r_impl_SublatticeClasses f (n : Int) = some (clss a b c n, true) := by simp only [r_impl_SublatticeClasses, hcb, i1, kr, s1, Option.bind_some, Bool.not_true, cond_false]
      have v2 : r_spec_SublatticeClasses f (n : Int) = some (clss a b c n, true) := by simp only [r_spec_SublatticeClasses, class_val, hcb, i2, s2 f ks, Option.bind_some, Bool.not_true, cond_false]
      have clen : (clss a b c n).length = n + 1 := by simp [clss, subs]
      have llen : (lats n).length = n + 1 := by simp [lats]
      -- the reduced form
      obtain ⟨ha, hb', hc', _⟩ := class_true (a := f.1) (b := f.2.1) (c := f.2.2) hcb
      have fdef : r_impl_isDefinite f = some true := (def_in ha hb' hc' (cf_pos hf.2.2.1) hf.2.2.1.1.dis hD).1
      have v3 : r_impl_ReduceForm f = some ((a, b, c), (m1, m2, m3, m4), true) := by simp only [r_impl_ReduceForm, fdef, k1, isMat_ok k6 k7 k8 k9, Option.bind_some, Bool.not_true, cond_false]
      have v4 := lats_val hn
      -- the primitive ones
      have hin : ∀ g ∈ clss a b c n, inN g.1 = true ∧ inN g.2.1 = true ∧ inN g.2.2 = true := by
        intro g hg
        obtain ⟨x, hx, rfl⟩ := List.mem_map.1 hg
        exact rd_in (p := (n : Int)) (by omega) hp hD1 hD (subs_sb hR n2 n43 x hx)
      have v5 : r_impl_LowerClasses f (n : Int) = some ((clss a b c n).filter primB, true) := by simp only [r_impl_LowerClasses, v1, prim_val _ hin (by omega), Option.bind_some]
      have w1 : w64 ((n : Int) + 1) = ((n + 1 : Nat) : Int) := wsucc (by omega)
      -- the lattices
      have rdef : r_impl_isDefinite (a, b, c) = some true := by
        obtain ⟨q1, q2, q3, q4, q5, q6, q7, q8, q9⟩ := hR
        exact (def_in (inN_iff.2 (by omega)) (inN_iff.2 (by omega)) (inN_iff.2 (by omega)) (by omega) q7 hD).1
      have hlat : ∀ x ∈ lats n, ∃ g m, r_impl_FormOnLattice (a, b, c) x = some (g, true) ∧ r_impl_ReduceForm g = some (rd (latF a b c x), m, true) := by
        intro x hx
        have key : ∀ (x : F3) (g : F3), r_impl_isLattice x = some true → r_impl_Form_substitute (a, b, c) (x.1, x.2.1, 0, x.2.2) = some g → Sb ((n : Int) * n * D) g → g.2.1.natAbs ≤ 1000000 → ∃ g m, r_impl_FormOnLattice (a, b, c) x = some (g, true) ∧ r_impl_ReduceForm g = some (rd (latF a b c x), m, true) := by
          intro x g hl hsub hsb hb
          obtain ⟨m, z1, z2⟩ := redForm_val hsb hb hDp
          have eg : latF a b c x = g := by unfold latF; rw [hsub]; rfl
          exact ⟨g, m, by simp only [r_impl_FormOnLattice, rdef, hl, hsub, z2, Option.bind_some, Bool.not_true, cond_false], by rw [eg]; exact z1⟩
        have isL : ∀ A B d : Int, 1 ≤ A → A ≤ 1000 → 1 ≤ d → d ≤ 1000 → 0 ≤ B → B < A → r_impl_isLattice (A, B, d) = some true := by
          intro A B d z1 z2 z3 z4 z5 z6
          simp only [r_impl_isLattice, leI_eq, ltI_eq, decide_eq_true z1, decide_eq_true z2, decide_eq_true z3, decide_eq_true z4, decide_eq_true z5, decide_eq_true z6, cond_true, Option.bind_some]
        rcases List.mem_cons.1 hx with hx | hx
        · subst hx
          have hs := sb_k hR (p := (n : Int)) (k := 0) hp (by omega) (by omega) (by omega)
          have hL1 : r_impl_isLattice (1, 0, (n : Int)) = some true := isL 1 0 (n : Int) (by omega) (by omega) (by omega) (by omega) (by omega) (by omega)
          have hS1 : r_impl_Form_substitute (a, b, c) (1, 0, 0, (n : Int)) = some (gk a b c n 0) := sub_k hR hp (by omega) (by omega) (by omega)
          refine key (1, 0, (n : Int)) (gk a b c n 0) hL1 hS1 hs ?_
          have : ((n : Int) * b).natAbs ≤ 43 * 25 := abs_mul (by omega) (by have := hR.b1; have := hR.b2; have := hR.a2; omega)
          show ((n : Int) * (b + 2 * c * 0)).natAbs ≤ 1000000
          rw [show (n : Int) * (b + 2 * c * 0) = n * b by rw [Int.mul_zero, Int.add_zero]]
          omega
        · obtain ⟨j, hj', rfl⟩ := List.mem_map.1 hx
          have hjn := List.mem_range.1 hj'
          obtain ⟨hs, hs2⟩ := sb_j hR (p := (n : Int)) (j := (j : Int)) hp (by omega) (by omega) (by omega)
          have hL1 : r_impl_isLattice ((n : Int), (j : Int), 1) = some true := isL (n : Int) (j : Int) 1 (by omega) (by omega) (by omega) (by omega) (by omega) (by omega)
          have hS1 : r_impl_Form_substitute (a, b, c) ((n : Int), (j : Int), 0, 1) = some (hj a b c n j) := sub_j hR hp (by omega) (by omega) (by omega)
          exact key ((n : Int), (j : Int), 1) (hj a b c n j) hL1 hS1 hs hs2
      have e0 : (((0 : Nat) : Int)) = 0 := rfl
      have x24 := l24_run (y13 := ((a, b, c), (m1, m2, m3, m4), true)) (ys := lats n) (b := true) (y15 := ((clss a b c n).filter primB, true)) (y6 := (clss a b c n, true)) (y5 := (f, (n : Int))) (fun x => rd (latF a b c x)) hlat (by omega) (lats n).length FU 0 [] (by omega) (by omega) (by simp)
      rw [e0, List.drop_zero, List.nil_append] at x24
      have x36 := l36_run (o := (lats n).map fun x => rd (latF a b c x)) (l := clss a b c n) (b := true) (y13 := ((a, b, c), (m1, m2, m3, m4), true)) (y15 := ((clss a b c n).filter primB, true)) (y5 := (f, (n : Int))) (by omega) (lat_cls hR hn) (clss a b c n).length FU 0 (by omega) (by omega)
      rw [e0] at x36
      -- the class above
      obtain ⟨L, l1, l2, l3, l4⟩ := relist_val hok.1 hok.2.1
      have hrL : (a, b, c) ∈ L := (l3 _).2 (prr_of_prc k3)
      have hlow : ∀ g ∈ (clss a b c n).filter primB, r_impl_UpperClass g (n : Int) = some ((a, b, c), true) ∧ ∃ x c', r_impl_DescendForm g (n : Int) = some (x, c') ∧ r_spec_DescendForm g (n : Int) = some (x, c') ∧ (c' = true → x = (a, b, c)) := by
        intro g hg
        obtain ⟨hg1, hg2⟩ := List.mem_filter.1 hg
        have hgup := up_cls hR hn hp hg1 hg2
        obtain ⟨x, hx, rfl⟩ := List.mem_map.1 hg1
        have hsb := subs_sb hR n2 n43 x hx
        obtain ⟨r1, _, r3, r4, r5, r6, _⟩ := rd_ok hsb hDp
        obtain ⟨ga, gb, gc⟩ := hin _ hg1
        obtain ⟨gdef, gdisc⟩ := def_in ga gb gc (by omega) r4 hDp
        have gdef' : r_impl_isDefinite (rd x) = some true := gdef
        have gdisc' : r_impl_Form_disc (rd x) = some ((n : Int) * n * D) := gdisc
        have gcon : r_impl_Form_content (rd x) = some 1 := by
          have := content_val ga gb gc
          rw [of_decide_eq_true hg2] at this
          exact this
        have gstay : r_impl_reduced (rd x) = some (rd x) := red_stay r3.1 r6 r3.2
        constructor
        · have hnn : (n : Int) * n ≠ 0 := by have := Int.mul_pos (show 0 < (n : Int) by omega) (show 0 < (n : Int) by omega); omega
          have hnn2 : (n : Int) * n ≤ 43 * 43 := Int.mul_le_mul (by omega) (by omega) (by omega) (by omega)
          have hnn0 : 0 < (n : Int) * n := Int.mul_pos (by omega) (by omega)
          have wn : w64 ((n : Int) * n) = (n : Int) * n := w64_in (by omega)
          have td : Int.tdiv ((n : Int) * n * D) ((n : Int) * n) = D := Int.mul_tdiv_cancel_left _ hnn
          have tm : eqI (Int.tmod ((n : Int) * n * D) ((n : Int) * n)) 0 = true := by rw [Int.tmod_eq_zero_of_dvd ⟨D, rfl⟩]; rfl
          have wD : w64 D = D := w64_in (by omega)
          have hneg : r_impl_isNegativeDisc D = some true := by rw [negdisc_val]; exact congrArg some (decide_eq_true hok)
          have hsub : ∀ e ∈ L, ∃ l : List F3, r_impl_sublatticeClasses e (n : Int) = some l ∧ l.length ≤ 1000 ∧ (rd x ∈ l → e = (a, b, c)) ∧ (e = (a, b, c) → rd x ∈ l) := by
            intro e he
            have hep := prc_of_prr ((l3 e).1 he)
            obtain ⟨A, B, C⟩ := e
            have hRe : Rr A B C D := rr_of hD1 hD hep
            refine ⟨clss A B C n, (classes_val hRe n2 n43).1, by simp [clss, subs]; omega, fun hm => ?_, fun ee => ?_⟩
            · have h7 := up_cls hRe hn hp hm hg2
              exact prc_eq (hD := hD) hep k3 (by rw [← h7, ← hgup])
            · cases ee; exact hg1
          have hup := upper_loop (n := n) (g := rd x) (r := (a, b, c)) (L := L) hsub (by omega) L.length FU 0 (by omega) (by omega) (by rw [List.drop_zero]; exact hrL)
          rw [e0] at hup
          have one1 : eqI 1 1 = true := rfl
          simp only [r_impl_UpperClass, gdef', gcon, one1, i1, gdisc', wn, nz_ne hnn, tm, td, wD, hneg, gstay, iforms_eq hok.1 hok.2.1, l1, hup, Option.bind_some, Bool.not_true, cond_false]
        · obtain ⟨cb, hcan⟩ := can_some (rd x) (n : Int)
          cases cb with
          | false => exact ⟨(0, 0, 0), false, by simp [r_impl_DescendForm, hcan], by simp [r_spec_DescendForm, can_eq, hcan], fun h => by cases h⟩
          | true =>
            have gcl : r_impl_isClassForm (rd x) = some true := (can_true (a := (rd x).1) (b := (rd x).2.1) (c := (rd x).2.2) hcan).1
            have gcf := cfc_of gcl
            rw [r4] at gcf
            have hP : Pd (n : Int) D := by
              obtain ⟨_, q2, q3, q4, _, _⟩ := can_true (a := (rd x).1) (b := (rd x).2.1) (c := (rd x).2.2) hcan
              exact ⟨q2, q3, prime_odd q2 q3 q4, gcf.2.2.2.1, hD1, hD, hok.2.2⟩
            obtain ⟨y, n1, n2', n3, n4, k⟩ := dsc_mk hP gcf.2.2.1
            have hy : y = (a, b, c) := prc_eq (hD := hD) k.prc k3 (by rw [k.cls hp hD]; exact hgup)
            exact ⟨y, true, by simp only [r_impl_DescendForm, hcan, k.i, Option.bind_some, Bool.not_true, cond_false], by simp only [r_spec_DescendForm, can_eq, hcan, k.s, Option.bind_some, Bool.not_true, cond_false], fun _ => hy⟩
      have flen : ((clss a b c n).filter primB).length ≤ 1000 := Nat.le_trans (List.length_filter_le _ _) (by omega)
      have x63 := l63_run (y13 := ((a, b, c), (m1, m2, m3, m4), true)) (ys := (clss a b c n).filter primB) (b := true) (y5 := (f, (n : Int))) hlow flen ((clss a b c n).filter primB).length FU 0 (by omega) (by omega)
      rw [e0] at x63
      have q1 : eqI (((clss a b c n).length : Nat) : Int) ((n + 1 : Nat) : Int) = true := by rw [clen]; exact eqI_true _
      have q2 : eqI (((lats n).length : Nat) : Int) ((n + 1 : Nat) : Int) = true := by rw [llen]; exact eqI_true _
      simp only [v1, v2, v3, v4, v5, Option.bind_some, bne_self_eq_false, cond_false, qf_self _ (show (clss a b c n).length ≤ 100000 by omega), Bool.not_true, w1, q1, q2, x24, x36, x63]
end Go.Proofs.YtafomkclmkfjeaaGreat
