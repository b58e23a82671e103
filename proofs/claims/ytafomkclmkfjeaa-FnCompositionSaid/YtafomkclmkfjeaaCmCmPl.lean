/-
  Composites with their substitutions.
  Conditions: none.
-/
import Derived.Test.YtafomkclmkfjeaaCmCmC
import Derived.Test.YtafomkclmkfjeaaCmCgDr
namespace Go.Proofs.Ytafomkclmkfjeaa
set_option linter.unusedVariables false
set_option linter.unusedSimpArgs false

theorem ints_run (l : List Int) (hl : l.length ≤ 1000000) : ∀ (k fu i : Nat), i + k = l.length → k < fu → r_laws_sameInts_L5 l l fu (i : Int) = some (.inl ())
  | k, 0, i, _, hf => by omega
  | 0, fu + 1, i, hi, hf => by rw [r_laws_sameInts_L5, ltI_eq, decide_eq_false (by omega), cond_false]
  | k + 1, fu + 1, i, hi, hf => by
    rw [r_laws_sameInts_L5, ltI_eq, decide_eq_true (by omega), cond_true, getNat (show i < l.length by omega)]
    simp only [Option.bind_some, eqSelf, Bool.not_true, cond_false, sI_eq, wsucc (show i < 1000000000 by omega)]
    exact ints_run l hl k fu (i + 1) (by omega) (by omega)
theorem ints_self (l : List Int) (hl : l.length < 1000000) : r_laws_sameInts l l = some true := by
  have hF := FUge
  have := ints_run l (by omega) l.length FU 0 (by omega) (by omega)
  have e0 : (((0 : Nat) : Int)) = 0 := rfl
  rw [e0] at this
  simp only [r_laws_sameInts, eqSelf, Bool.not_true, cond_false, this, Option.bind_some]
/-- The nine coefficients. -/
structure Cf9 (f g h : F3) (p q : M4) : Prop where
  c00 : h.1 * (p.1 * p.1) + h.2.1 * (p.1 * q.1) + h.2.2 * (q.1 * q.1) = f.1 * g.1
  c01 : h.1 * (p.1 * p.2.1 + p.2.1 * p.1) + h.2.1 * (p.1 * q.2.1 + p.2.1 * q.1) + h.2.2 * (q.1 * q.2.1 + q.2.1 * q.1) = f.1 * g.2.1
  c02 : h.1 * (p.2.1 * p.2.1) + h.2.1 * (p.2.1 * q.2.1) + h.2.2 * (q.2.1 * q.2.1) = f.1 * g.2.2
  c10 : h.1 * (p.1 * p.2.2.1 + p.2.2.1 * p.1) + h.2.1 * (p.1 * q.2.2.1 + p.2.2.1 * q.1) + h.2.2 * (q.1 * q.2.2.1 + q.2.2.1 * q.1) = f.2.1 * g.1
  c11 : h.1 * (p.1 * p.2.2.2 + p.2.1 * p.2.2.1 + p.2.2.1 * p.2.1 + p.2.2.2 * p.1) + h.2.1 * (p.1 * q.2.2.2 + p.2.1 * q.2.2.1 + p.2.2.1 * q.2.1 + p.2.2.2 * q.1) + h.2.2 * (q.1 * q.2.2.2 + q.2.1 * q.2.2.1 + q.2.2.1 * q.2.1 + q.2.2.2 * q.1) = f.2.1 * g.2.1
  c12 : h.1 * (p.2.1 * p.2.2.2 + p.2.2.2 * p.2.1) + h.2.1 * (p.2.1 * q.2.2.2 + p.2.2.2 * q.2.1) + h.2.2 * (q.2.1 * q.2.2.2 + q.2.2.2 * q.2.1) = f.2.1 * g.2.2
  c20 : h.1 * (p.2.2.1 * p.2.2.1) + h.2.1 * (p.2.2.1 * q.2.2.1) + h.2.2 * (q.2.2.1 * q.2.2.1) = f.2.2 * g.1
  c21 : h.1 * (p.2.2.1 * p.2.2.2 + p.2.2.2 * p.2.2.1) + h.2.1 * (p.2.2.1 * q.2.2.2 + p.2.2.2 * q.2.2.1) + h.2.2 * (q.2.2.1 * q.2.2.2 + q.2.2.2 * q.2.2.1) = f.2.2 * g.2.1
  c22 : h.1 * (p.2.2.2 * p.2.2.2) + h.2.1 * (p.2.2.2 * q.2.2.2) + h.2.2 * (q.2.2.2 * q.2.2.2) = f.2.2 * g.2.2
theorem cf9_mk {f g h : F3} {p q : M4} (id : ∀ x y u v, FV h (bil p x y u v) (bil q x y u v) = FV f x y * FV g u v) : Cf9 f g h p q := by
  obtain ⟨p1, p2, p3, p4⟩ := p
  obtain ⟨q1, q2, q3, q4⟩ := q
  obtain ⟨a, b, c⟩ := h
  obtain ⟨f1, f2, f3⟩ := f
  obtain ⟨g1, g2, g3⟩ := g
  have t1 := id 1 0 1 0
  have t2 := id 1 0 0 1
  have t3 := id 1 0 1 1
  have t4 := id 0 1 1 0
  have t5 := id 0 1 0 1
  have t6 := id 0 1 1 1
  have t7 := id 1 1 1 0
  have t8 := id 1 1 0 1
  have t9 := id 1 1 1 1
  simp only [FV, bil, Int.mul_one, Int.mul_zero, Int.add_zero, Int.zero_add, Int.one_mul, Int.zero_mul] at t1 t2 t3 t4 t5 t6 t7 t8 t9
  refine ⟨?_, ?_, ?_, ?_, ?_, ?_, ?_, ?_, ?_⟩ <;> (simp only []; clear id; grind)
theorem nine {a b c P Q R t : Int} (h : a * P + b * Q + c * R = t) : eqI (w64 (w64 (w64 (a * w64 P) + w64 (b * w64 Q)) + w64 (c * w64 R))) (w64 t) = true := by
  have e : w64 (w64 (w64 (a * w64 P) + w64 (b * w64 Q)) + w64 (c * w64 R)) = w64 t := by
    simp only [wmr, wal, war]
    rw [h]
  rw [e, eqI_true]
theorem sq_w (p1 p2 p3 p4 q1 q2 q3 q4 : Int) : r_impl_squareOf (w64 p1, w64 p2, w64 p3, w64 p4) (w64 q1, w64 q2, w64 q3, w64 q4) = some ((w64 (p1 * q1), w64 (p1 * q2 + p2 * q1), w64 (p2 * q2)), (w64 (p1 * q3 + p3 * q1), w64 (p1 * q4 + p2 * q3 + p3 * q2 + p4 * q1), w64 (p2 * q4 + p4 * q2)), (w64 (p3 * q3), w64 (p3 * q4 + p4 * q3), w64 (p4 * q4))) := by
  have z1 : ∀ a b c : Int, w64 (w64 a + b + c) = w64 (a + b + c) := fun a b c => w64_congr (by simp only [bv_add, bv_w64])
  have z2 : ∀ a : Int, w64 (w64 a) = w64 a := fun a => w64_congr (bv_w64 a)
  have z3 : ∀ a b c d : Int, w64 (w64 a + b + c + d) = w64 (a + b + c + d) := fun a b c d => w64_congr (by simp only [bv_add, bv_w64])
  simp only [r_impl_squareOf, sI_eq, wml, wmr, wal, war, Int.zero_add, z1, z2, z3]
theorem k8_s0 (p q : M4) : slc (k8 p q).length 0 4 = some () := rfl
theorem k8_s4 (p q : M4) : slc (k8 p q).length 4 ((k8 p q).length : Int) = some () := rfl
theorem k8_g0 (p q : M4) : getI (subl (k8 p q) 0 4) 0 = some (w64 p.1) := rfl
theorem k8_g1 (p q : M4) : getI (subl (k8 p q) 0 4) 1 = some (w64 p.2.1) := rfl
theorem k8_g2 (p q : M4) : getI (subl (k8 p q) 0 4) 2 = some (w64 p.2.2.1) := rfl
theorem k8_g3 (p q : M4) : getI (subl (k8 p q) 0 4) 3 = some (w64 p.2.2.2) := rfl
theorem k8_h0 (p q : M4) : getI (subl (k8 p q) 4 ((k8 p q).length : Int)) 0 = some (w64 q.1) := rfl
theorem k8_h1 (p q : M4) : getI (subl (k8 p q) 4 ((k8 p q).length : Int)) 1 = some (w64 q.2.1) := rfl
theorem k8_h2 (p q : M4) : getI (subl (k8 p q) 4 ((k8 p q).length : Int)) 2 = some (w64 q.2.2.1) := rfl
theorem k8_h3 (p q : M4) : getI (subl (k8 p q) 4 ((k8 p q).length : Int)) 3 = some (w64 q.2.2.2) := rfl
theorem k8_len (p q : M4) : eqI (((k8 p q).length : Nat) : Int) 8 = true := rfl
theorem k8_lt (p q : M4) : (k8 p q).length < 1000000 := by simp [k8]
theorem nine_all {f g h : F3} {p q : M4} (hc : Cf9 f g h p q) {y27 y28 y29 : F3 × F3 × F3} (e1 : r_impl_squareOf (w4 p) (w4 p) = some y27) (e2 : r_impl_squareOf (w4 p) (w4 q) = some y28) (e3 : r_impl_squareOf (w4 q) (w4 q) = some y29) :
    eqI (w64 ((w64 ((w64 (h.1 * y27.1.1)) + (w64 (h.2.1 * y28.1.1)))) + (w64 (h.2.2 * y29.1.1)))) (w64 (f.1 * g.1)) = true ∧ eqI (w64 ((w64 ((w64 (h.1 * y27.1.2.1)) + (w64 (h.2.1 * y28.1.2.1)))) + (w64 (h.2.2 * y29.1.2.1)))) (w64 (f.1 * g.2.1)) = true ∧ eqI (w64 ((w64 ((w64 (h.1 * y27.1.2.2)) + (w64 (h.2.1 * y28.1.2.2)))) + (w64 (h.2.2 * y29.1.2.2)))) (w64 (f.1 * g.2.2)) = true ∧
    eqI (w64 ((w64 ((w64 (h.1 * y27.2.1.1)) + (w64 (h.2.1 * y28.2.1.1)))) + (w64 (h.2.2 * y29.2.1.1)))) (w64 (f.2.1 * g.1)) = true ∧ eqI (w64 ((w64 ((w64 (h.1 * y27.2.1.2.1)) + (w64 (h.2.1 * y28.2.1.2.1)))) + (w64 (h.2.2 * y29.2.1.2.1)))) (w64 (f.2.1 * g.2.1)) = true ∧ eqI (w64 ((w64 ((w64 (h.1 * y27.2.1.2.2)) + (w64 (h.2.1 * y28.2.1.2.2)))) + (w64 (h.2.2 * y29.2.1.2.2)))) (w64 (f.2.1 * g.2.2)) = true ∧
    eqI (w64 ((w64 ((w64 (h.1 * y27.2.2.1)) + (w64 (h.2.1 * y28.2.2.1)))) + (w64 (h.2.2 * y29.2.2.1)))) (w64 (f.2.2 * g.1)) = true ∧ eqI (w64 ((w64 ((w64 (h.1 * y27.2.2.2.1)) + (w64 (h.2.1 * y28.2.2.2.1)))) + (w64 (h.2.2 * y29.2.2.2.1)))) (w64 (f.2.2 * g.2.1)) = true ∧ eqI (w64 ((w64 ((w64 (h.1 * y27.2.2.2.2)) + (w64 (h.2.1 * y28.2.2.2.2)))) + (w64 (h.2.2 * y29.2.2.2.2)))) (w64 (f.2.2 * g.2.2)) = true := by
  unfold w4 at e1 e2 e3
  rw [sq_w] at e1 e2 e3
  have e1 := some_inj e1
  have e2 := some_inj e2
  have e3 := some_inj e3
  rw [← e1, ← e2, ← e3]
  obtain ⟨c00, c01, c02, c10, c11, c12, c20, c21, c22⟩ := hc
  exact ⟨nine c00, nine c01, nine c02, nine c10, nine c11, nine c12, nine c20, nine c21, nine c22⟩
theorem sq_some (p q : M4) : ∃ y, r_impl_squareOf p q = some y := by
  simp only [r_impl_squareOf, sI_eq]
  exact ⟨_, rfl⟩
theorem isComp_val {D : Int} {f g h : F3} {p q : M4} (hf : CFc D f) (hg : CFc D g) (hh : CFc D h) (hr : PrRc D h) (hc : Cf9 f g h p q) (hall : (k8 p q).all inN = true) : r_impl_IsComposition f g h (k8 p q) = some (true, true) := by
  have hred : r_impl_Form_isReduced h = some true := by
    have := red_is (a := h.1) (b := h.2.1) (c := h.2.2) hr.1 hh.2.2.1.1.aM
    rw [decide_eq_true hr.2.1] at this
    exact this
  obtain ⟨y27, e1⟩ := sq_some (w4 p) (w4 p)
  obtain ⟨y28, e2⟩ := sq_some (w4 p) (w4 q)
  obtain ⟨y29, e3⟩ := sq_some (w4 q) (w4 q)
  obtain ⟨n1, n2, n3, n4, n5, n6, n7, n8, n9⟩ := nine_all hc e1 e2 e3
  unfold w4 at e1 e2 e3
  have hn := num_val _ (k8_lt p q)
  rw [hall] at hn
  unfold r_impl_IsComposition
  rw [(pair_true hf hg).1, Option.bind_some, Bool.not_true, cond_false, (pair_true hf hh).1]
  simp only [Option.bind_some, Bool.not_true, cond_false, hred, k8_len, hn, k8_s0, k8_s4, k8_g0, k8_g1, k8_g2, k8_g3, k8_h0, k8_h1, k8_h2, k8_h3, e1, e2, e3, n1, n2, n3, n4, n5, n6, n7, n8, n9]
theorem f3_self (f : F3) : ((f.1 == f.1) && ((f.2.1 == f.2.1) && (f.2.2 == f.2.2))) = true := by simp
theorem form_in {D : Int} {f : F3} (h : CFc D f) : r_impl_IsForm f = some true := by
  obtain ⟨a, b, c⟩ := f
  obtain ⟨ha, hb, hc, _⟩ := class_true h.1
  rw [form_val]
  simp only [ha, hb, hc]
  rfl
theorem valueAt_w {D : Int} {f : F3} (h : CFc D f) (x y : Int) : r_impl_ValueAt f x y = some (bif inN x && inN y then (w64 (FV f x y), true) else (0, false)) := by
  have e := at_w f.1 f.2.1 f.2.2 x y
  have e' : r_impl_Form_at f x y = some (w64 (FV f x y)) := e
  have hn : r_impl_areNumbers [x, y] = some (inN x && inN y) := by
    rw [num_val [x, y] (by simp)]
    simp
  simp only [r_impl_ValueAt, form_in h, hn, Option.bind_some, Bool.not_true, cond_false, e']
  cases inN x && inN y <;> rfl
theorem in7 {z : Int} (h0 : 0 ≤ z) (hz : z < 2000000) : inN (w64 (Int.tmod z 7 - 3)) = true := by
  have := tmod_range h0 (show (0 : Int) < 7 by omega)
  rw [w64_in (by omega), inN_iff]; omega
theorem raw_FnComposition (code more : List Int) (hc8 : ∀ x ∈ code, 0 ≤ x ∧ x ≤ 255) (hm8 : ∀ x ∈ more, 0 ≤ x ∧ x ≤ 255) : r_laws_FnComposition code more = some true := by
  rcases big_cases code more with hb | ⟨hb, hc, hm⟩
  · simp only [r_laws_FnComposition, hb, Option.bind_some, cond_true]
  obtain ⟨f, g, c', ec⟩ := classForms_ok (CurB.start hc hc8) (by omega)
  have ed : r_spec_DrawCompositionProof code = some (f, g) := by simp only [r_spec_DrawCompositionProof, r_spec_DrawUnitedForms, ec, Option.bind_some]
  obtain ⟨b, p1, p2, p3⟩ := pair_val f g
  have hnil : r_laws_sameInts [] [] = some true := ints_self [] (by simp)
  simp only [r_laws_FnComposition, hb, ed, Option.bind_some, cond_false]
  cases b with
  | false => simp [r_impl_CompositionProof, r_spec_CompositionProof, r_impl_ComposeForms, p1, p2, hnil]
  | true =>
    obtain ⟨D, hf, hg⟩ := p3 rfl
    have hD1 := hf.2.2.2.1
    have hD := hf.2.2.2.2
    obtain ⟨h, p, q, e1, e2, e3, e4, e5⟩ := cp_val hf hg
    have hh := cfc_prc hD1 hD e4
    cases hall : (k8 p q).all inN with
    | false =>
      have ecp : cpR h (k8 p q) = ((0, 0, 0), [], false) := by unfold cpR; rw [hall]; rfl
      rw [ecp] at e1 e2
      simp [e1, e2, e3, hnil]
    | true =>
      have ecp : cpR h (k8 p q) = (h, k8 p q, true) := by unfold cpR; rw [hall]; rfl
      rw [ecp] at e1 e2
      have len8 : (k8 p q).length < 1000000 := by simp [k8]
      have e8 : eqI (((k8 p q).length : Nat) : Int) 8 = true := rfl
      have hic := isComp_val hf hg hh e4 (cf9_mk e5) hall
      obtain ⟨z, ez, z0, z1⟩ := numberOf_ok hm hm8
      have d1 := Int.tdiv_nonneg z0 (show (0 : Int) ≤ 7 by omega)
      have d2 := Int.tdiv_nonneg z0 (show (0 : Int) ≤ 49 by omega)
      have d3 := Int.tdiv_nonneg z0 (show (0 : Int) ≤ 343 by omega)
      have b1 : Int.tdiv z 7 ≤ z := by have := Int.tmod_add_mul_tdiv z 7; have := tmod_range z0 (show (0 : Int) < 7 by omega); omega
      have b2 : Int.tdiv z 49 ≤ z := by have := Int.tmod_add_mul_tdiv z 49; have := tmod_range z0 (show (0 : Int) < 49 by omega); omega
      have b3 : Int.tdiv z 343 ≤ z := by have := Int.tmod_add_mul_tdiv z 343; have := tmod_range z0 (show (0 : Int) < 343 by omega); omega
      have wd1 : w64 (Int.tdiv z 7) = Int.tdiv z 7 := w64_in (by omega)
      have wd2 : w64 (Int.tdiv z 49) = Int.tdiv z 49 := w64_in (by omega)
      have wd3 : w64 (Int.tdiv z 343) = Int.tdiv z 343 := w64_in (by omega)
      have ix := in7 z0 (by omega)
      have iy := in7 d1 (by omega)
      have iu := in7 d2 (by omega)
      have iv := in7 d3 (by omega)
      have g0 : getI (k8 p q) 0 = some (w64 p.1) := rfl
      have g1 : getI (k8 p q) 1 = some (w64 p.2.1) := rfl
      have g2 : getI (k8 p q) 2 = some (w64 p.2.2.1) := rfl
      have g3 : getI (k8 p q) 3 = some (w64 p.2.2.2) := rfl
      have g4 : getI (k8 p q) 4 = some (w64 q.1) := rfl
      have g5 : getI (k8 p q) 5 = some (w64 q.2.1) := rfl
      have g6 : getI (k8 p q) 6 = some (w64 q.2.2.1) := rfl
      have g7 : getI (k8 p q) 7 = some (w64 q.2.2.2) := rfl
      simp only [e1, e2, e3, Option.bind_some, bne_self_eq_false, cond_false, f3_self, Bool.not_true, ints_self _ len8, cond_true, e8, hic, ez, sI_eq, wd1, wd2, wd3, valueAt_w hf, valueAt_w hg, ix, iy, iu, iv, Bool.and_true, g0, g1, g2, g3, g4, g5, g6, g7, valueAt_w hh]
      generalize w64 (z.tmod 7 - 3) = x at *
      generalize w64 ((z.tdiv 7).tmod 7 - 3) = y at *
      generalize w64 ((z.tdiv 49).tmod 7 - 3) = u at *
      generalize w64 ((z.tdiv 343).tmod 7 - 3) = v at *
      have hP : ∀ k : M4, w64 (w64 (w64 (w64 (w64 (w64 k.1 * x) * u) + w64 (w64 (w64 k.2.1 * x) * v)) + w64 (w64 (w64 k.2.2.1 * y) * u)) + w64 (w64 (w64 k.2.2.2 * y) * v)) = w64 (bil k x y u v) := by
        intro k
        refine w64_congr ?_
        simp only [bil, bv_add, bv_mul, bv_w64]
        grind
      rw [hP p, hP q]
      have key : w64 (FV h (w64 (bil p x y u v)) (w64 (bil q x y u v))) = w64 (w64 (FV f x y) * w64 (FV g u v)) := by
        refine w64_congr ?_
        have e6 : bv (FV h (w64 (bil p x y u v)) (w64 (bil q x y u v))) = bv (FV h (bil p x y u v) (bil q x y u v)) := by
          simp only [FV, bv_add, bv_mul, bv_w64]
        rw [e6, e5, bv_mul, bv_mul, bv_w64, bv_w64]
      cases inN (w64 (bil p x y u v)) && inN (w64 (bil q x y u v)) with
      | false => rfl
      | true => simp only [cond_true, Bool.not_true, cond_false, key, eqI_true]
end Go.Proofs.Ytafomkclmkfjeaa
