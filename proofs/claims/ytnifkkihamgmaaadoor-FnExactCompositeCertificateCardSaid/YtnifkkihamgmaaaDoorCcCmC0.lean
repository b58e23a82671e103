/-
  The program's and the reference's proof of a composite.
  Conditions: none.
-/
import Derived.Test.YtnifkkihamgmaaaDoorCcCmC
namespace Go.Proofs.YtnifkkihamgmaaaDoor
set_option linter.unusedVariables false
set_option linter.unusedSimpArgs false

theorem cp_val0 {D : Int} {f g : F3} (hf : CFc D f) (hg : CFc D g) : ∃ (h : F3) (p q : M4), r_impl_CompositionProof f g = some (cpR h (k8 p q)) ∧ r_spec_CompositionProof f g = some (cpR h (k8 p q)) ∧ PrRc D h ∧ ∀ x y u v, FV h (bil p x y u v) (bil q x y u v) = FV f x y * FV g u v := by
  have hD1 := hf.2.2.2.1
  have hD := hf.2.2.2.2
  obtain ⟨f', g', p1, p2, p3, p4, q1, q2, q3, q4, x, y, q, s, e, hB, hC, b1, c1, α, β, k⟩ := cmps_mk hD1 hD hf.2.2.1 hg.2.2.1
  obtain ⟨rf, rg, pf, pg, mf, mg, uni, imp, spc, cf, ae, ec, pb, qb, cl⟩ := k f
  obtain ⟨h, m1, m2, m3, m4, i1, i2, i3, i4, i5, i6, i7, i8, i9, i10⟩ := red_cf cf
  obtain ⟨pair1, pair2⟩ := pair_true hf hg
  have ha : 1 ≤ f'.1 := pf.1
  have e1 := uni.e1
  have hae0 : 1 * 1 ≤ f'.1 * e := Int.mul_le_mul ha e1 (by omega) (by omega)
  have wae : w64 (f'.1 * e) = f'.1 * e := w64_in (by omega)
  have hd : f'.2.1 * f'.2.1 - 4 * f'.1 * f'.2.2 = D := pf.2.2.1
  -- the first matrix
  have M1 := mf.norm α
  rw [← uni_f ha hd uni.bα uni.dis, show 2 * f'.1 * α + f'.2.1 = b1 by have := uni.bα; omega] at M1
  -- the second one
  obtain ⟨_, gu⟩ := uni_eqf2 (a := f'.1) e1 uni.mh pg.2.2.1 uni.bβ uni.dis
  have N1 := mat_mul mg gu
  have i5' : MatInv (f'.1 * e) b1 c1 m1 m2 m3 m4 h.1 h.2.1 h.2.2 := i5
  have fm : r_impl_Matrix_times (p1, p2, p3, p4) (1, α, 0, 1) = some (w64 p1, w64 (p1 * α + p2), w64 p3, w64 (p3 * α + p4)) := by
    rw [times_w]; simp only [Int.mul_one, Int.mul_zero, Int.add_zero]
  have gm : r_impl_Matrix_times (q1, q2, q3, q4) (w64 (x + q * 0), w64 (x * β + q), w64 (y + s * 0), w64 (y * β + s)) = some (w64 (q1 * x + q2 * y), w64 (q1 * (x * β + q) + q2 * (y * β + s)), w64 (q3 * x + q4 * y), w64 (q3 * (x * β + q) + q4 * (y * β + s))) := by
    rw [times_w]
    have z1 : ∀ u v a b : Int, w64 (a * w64 u + b * w64 v) = w64 (a * u + b * v) := fun u v a b => w64_congr (by simp only [bv_add, bv_mul, bv_w64])
    simp only [z1, Int.mul_zero, Int.add_zero]
  have sm : ((r_spec_foMul (q1, q2, q3, q4) (x, q, y, s)).bind fun N1 => r_spec_foMul N1 (1, β, 0, 1)) = some (w64 (q1 * x + q2 * y), w64 (q1 * (x * β + q) + q2 * (y * β + s)), w64 (q3 * x + q4 * y), w64 (q3 * (x * β + q) + q4 * (y * β + s))) := by
    rw [dsc_mul, times_w]
    simp only [Option.bind_some, times_w, Int.mul_one, Int.mul_zero, Int.add_zero]
    have z1 : ∀ a b c d : Int, w64 (w64 (a * x + b * y) * β + w64 (a * q + b * s)) = w64 (a * (x * β + q) + b * (y * β + s)) := fun a b c d => w64_congr (by
      simp only [bv_add, bv_mul, bv_w64]
      generalize bv a = a; generalize bv b = b; generalize bv x = x; generalize bv y = y; generalize bv β = β; generalize bv q = q; generalize bv s = s
      grind)
    have z2 : ∀ z : Int, w64 (w64 z) = w64 z := fun z => w64_congr (bv_w64 z)
    rw [z1 q1 q2 0 0, z1 q3 q4 0 0, z2, z2]
  have inv_ww : ∀ {p q r s : Int}, p * s - q * r = 1 → r_impl_Matrix_inverse (w64 p, w64 q, w64 r, w64 s) = some (w64 s, w64 (-q), w64 (-r), w64 p) := fun h => inv_w h
  have roomA : ∀ p q : M4, room ((([] : List Int)).length + ([p.1, p.2.1, p.2.2.1, p.2.2.2]).length) = some () := fun _ _ => rfl
  have len8 : ∀ p q : M4, (k8 p q).length < 1000000 := fun p q => by simp [k8]
  refine ⟨h, kL m4 (-m2) (kP c1 (p3 * α + p4, -(p1 * α + p2), -p3, p1) (q3 * (x * β + q) + q4 * (y * β + s), -(q1 * (x * β + q) + q2 * (y * β + s)), -(q3 * x + q4 * y), q1 * x + q2 * y)) (kQ f'.1 e b1 (p3 * α + p4, -(p1 * α + p2), -p3, p1) (q3 * (x * β + q) + q4 * (y * β + s), -(q1 * (x * β + q) + q2 * (y * β + s)), -(q3 * x + q4 * y), q1 * x + q2 * y)),
    kL (-m3) m1 (kP c1 (p3 * α + p4, -(p1 * α + p2), -p3, p1) (q3 * (x * β + q) + q4 * (y * β + s), -(q1 * (x * β + q) + q2 * (y * β + s)), -(q3 * x + q4 * y), q1 * x + q2 * y)) (kQ f'.1 e b1 (p3 * α + p4, -(p1 * α + p2), -p3, p1) (q3 * (x * β + q) + q4 * (y * β + s), -(q1 * (x * β + q) + q2 * (y * β + s)), -(q3 * x + q4 * y), q1 * x + q2 * y)), ?_, ?_, i3, fun X Y U V => comp_ident M1 N1 i5' X Y U V⟩
  · unfold r_impl_CompositionProof
    rw [pair1, Option.bind_some, Bool.not_true, cond_false, rf, Option.bind_some, rg, Option.bind_some]
    simp only []
    rw [imp, Option.bind_some]
    simp only []
    rw [fm, Option.bind_some, inv_ww M1.dt, Option.bind_some, gm, Option.bind_some, inv_ww N1.dt, Option.bind_some]
    simp only [r_impl_united_composite, sI_eq, Option.bind_some]
    rw [wae, i1, Option.bind_some]
    simp only []
    rw [inv_e i5'.dt, Option.bind_some]
    simp only []
    rw [kblock_impl (G := fun y24 y26 => (room ((([] : List Int)).length + ([y24.1, y24.2.1, y24.2.2.1, y24.2.2.2]).length)).bind fun u27 =>
      (room (((([] : List Int)) ++ ([y24.1, y24.2.1, y24.2.2.1, y24.2.2.2])).length + ([y26.1, y26.2.1, y26.2.2.1, y26.2.2.2]).length)).bind fun u28 =>
      (r_impl_areNumbers (((([] : List Int)) ++ ([y24.1, y24.2.1, y24.2.2.1, y24.2.2.2])) ++ ([y26.1, y26.2.1, y26.2.2.1, y26.2.2.2]))).bind fun y30 => bif (!y30) then some (((0, 0, 0), ([] : List Int), false)) else some ((h, ((([] : List Int)) ++ ([y24.1, y24.2.1, y24.2.2.1, y24.2.2.2])) ++ ([y26.1, y26.2.1, y26.2.2.1, y26.2.2.2]), true)))]
    generalize kL m4 _ _ _ = P
    generalize kL (-m3) _ _ _ = Q
    have e8 : (((([] : List Int)) ++ ([(w4 P).1, (w4 P).2.1, (w4 P).2.2.1, (w4 P).2.2.2])) ++ ([(w4 Q).1, (w4 Q).2.1, (w4 Q).2.2.1, (w4 Q).2.2.2])) = k8 P Q := rfl
    rw [e8, num_val _ (len8 P Q)]
    simp only [cpR]
    cases (k8 P Q).all inN <;> rfl
  · unfold r_spec_CompositionProof
    rw [pair2, Option.bind_some, Bool.not_true, cond_false]
    have hpr : ∀ (P Q : M4), r_spec_coProof f g = some (h, k8 P Q) → ((r_spec_coProof f g).bind fun y5 => (r_spec_l1All y5.2 (-1000000) 1000000).bind fun y6 => bif (!y6) then some (((0, 0, 0), ([] : List Int), false)) else some ((y5.1, y5.2, true))) = some (cpR h (k8 P Q)) := by
      intro P Q hh
      rw [hh, Option.bind_some]
      simp only []
      rw [all_val _ (len8 P Q), Option.bind_some]
      simp only [cpR]
      cases (k8 P Q).all inN <;> rfl
    refine hpr _ _ ?_
    unfold r_spec_coProof
    rw [spc]
    have sm2 : ∀ {γ : Type} (F : M4 → Option γ) , ((r_spec_foMul (q1, q2, q3, q4) (x, q, y, s)).bind fun N1 => (r_spec_foMul N1 (1, β, 0, 1)).bind F) = F (w64 (q1 * x + q2 * y), w64 (q1 * (x * β + q) + q2 * (y * β + s)), w64 (q3 * x + q4 * y), w64 (q3 * (x * β + q) + q4 * (y * β + s))) := by
      intro γ F
      have := congrArg (fun z => z.bind F) sm
      simp only [Option.bind_assoc, Option.bind_some] at this
      exact this
    rw [dsc_mul, fm]
    simp only [Option.bind_some]
    rw [← dsc_mul, sm2]
    simp only [Option.bind_some]
    have hj : r_spec_coJoined (f'.1, b1, e * c1) (e, b1, f'.1 * c1) = some (f'.1 * e, b1, c1) := by
      unfold r_spec_coJoined
      simp only []
      rw [nz_ne (show e ≠ 0 by omega)]
      simp only [Option.bind_some, sI_eq]
      rw [wae, tdv (a := e * c1) (b := e) (c := c1) (by omega) rfl, w64_in (n := c1) (by
        have h1 : 1 * c1 ≤ e * c1 := Int.mul_le_mul_of_nonneg_right e1 (by omega)
        omega)]
    rw [hj, Option.bind_some, i2, Option.bind_some]
    simp only []
    rw [dsc_inv, inv_ww M1.dt, Option.bind_some, inv_ww N1.dt, Option.bind_some, inv_e i5'.dt, Option.bind_some]
    have hmk : mk 8 8 = some () := rfl
    rw [hmk, Option.bind_some, kblock_spec, Option.bind_some]
end Go.Proofs.YtnifkkihamgmaaaDoor
