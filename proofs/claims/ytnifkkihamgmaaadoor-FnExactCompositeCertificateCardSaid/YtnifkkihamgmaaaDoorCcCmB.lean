/-
  The substitution that proves a composite: what both ways work out.
  Conditions: none.
-/
import Derived.Test.YtnifkkihamgmaaaDoorCcCmA
namespace Go.Proofs.YtnifkkihamgmaaaDoor
set_option linter.unusedVariables false
set_option linter.unusedSimpArgs false

theorem bv_0 : bv 0 = 0 := rfl
theorem inv_e {p q r s : Int} (h : p * s - q * r = 1) : r_impl_Matrix_inverse (p, q, r, s) = some (w64 s, w64 (-q), w64 (-r), w64 p) := by
  simp only [r_impl_Matrix_inverse, r_impl_Matrix_det, sI_eq, wml, wmr, wal, war, wsl, wsr, Option.bind_some, h]
  have e : ∀ z : Int, w64 (1 * z) = w64 z := fun z => by rw [Int.one_mul]
  have e3 : ∀ z : Int, w64 ((0 - w64 1) * z) = w64 (-z) := fun z => by rw [show w64 1 = 1 from rfl]; congr 1; omega
  simp only [e, e3]
theorem kblock_impl (i1 i2 i3 i4 j1 j2 j3 j4 l1 l2 l3 l4 a e b c : Int) {β : Type} (G : M4 → M4 → Option β) :
    ((r_impl_outer (w64 i1) (w64 i2) (w64 j1) (w64 j2)).bind fun y15 =>
      (r_impl_outer (w64 i1) (w64 i2) (w64 j3) (w64 j4)).bind fun y16 =>
      (r_impl_outer (w64 i3) (w64 i4) (w64 j1) (w64 j2)).bind fun y17 =>
      (r_impl_outer (w64 i3) (w64 i4) (w64 j3) (w64 j4)).bind fun y18 =>
      (r_impl_bilinear_plus y15 (w64 (0 - c)) y18).bind fun y19 =>
      (r_impl_bilinear_plus ((0, 0, 0, 0)) a y16).bind fun y20 =>
      (r_impl_bilinear_plus y20 e y17).bind fun y21 =>
      (r_impl_bilinear_plus y21 b y18).bind fun y22 =>
      (r_impl_bilinear_plus ((0, 0, 0, 0)) (w64 l1) y19).bind fun y23 =>
      (r_impl_bilinear_plus y23 (w64 l2) y22).bind fun y24 =>
      (r_impl_bilinear_plus ((0, 0, 0, 0)) (w64 l3) y19).bind fun y25 =>
      (r_impl_bilinear_plus y25 (w64 l4) y22).bind fun y26 => G y24 y26) = G (w4 (kL l1 l2 (kP c (i1, i2, i3, i4) (j1, j2, j3, j4)) (kQ a e b (i1, i2, i3, i4) (j1, j2, j3, j4)))) (w4 (kL l3 l4 (kP c (i1, i2, i3, i4) (j1, j2, j3, j4)) (kQ a e b (i1, i2, i3, i4) (j1, j2, j3, j4)))) := by
  simp only [r_impl_outer, r_impl_bilinear_plus, sI_eq, Option.bind_some, wml, wmr, wal, war, wsl, wsr, w4, kL, kP, kQ]
  congr 1
  · refine Prod.ext ?_ (Prod.ext ?_ (Prod.ext ?_ ?_)) <;> (refine w64_congr ?_; simp only [bv_add, bv_mul, bv_sub, bv_w64, bv_0]; generalize bv i1 = i1; generalize bv i2 = i2; generalize bv i3 = i3; generalize bv i4 = i4; generalize bv j1 = j1; generalize bv j2 = j2; generalize bv j3 = j3; generalize bv j4 = j4; generalize bv a = a; generalize bv e = e; generalize bv b = b; generalize bv c = c; generalize bv l1 = l1; generalize bv l2 = l2; grind)
  · refine Prod.ext ?_ (Prod.ext ?_ (Prod.ext ?_ ?_)) <;> (refine w64_congr ?_; simp only [bv_add, bv_mul, bv_sub, bv_w64, bv_0]; generalize bv i1 = i1; generalize bv i2 = i2; generalize bv i3 = i3; generalize bv i4 = i4; generalize bv j1 = j1; generalize bv j2 = j2; generalize bv j3 = j3; generalize bv j4 = j4; generalize bv a = a; generalize bv e = e; generalize bv b = b; generalize bv c = c; generalize bv l3 = l3; generalize bv l4 = l4; grind)
theorem kblock_spec (i1 i2 i3 i4 j1 j2 j3 j4 l1 l2 l3 l4 a e b c ae : Int) (f2 g2 : Int × Int) (M N : M4) (h : F3 × M4) :
    r_spec_coProof_L12 ((a, f2), (e, g2), M, N) (ae, b, c) h (w64 i1, w64 i2, w64 i3, w64 i4) (w64 j1, w64 j2, w64 j3, w64 j4) (w64 l1, w64 l2, w64 l3, w64 l4) FU 0 (List.replicate (Int.toNat 8) ((0 : Int))) = some (k8 (kL l1 l2 (kP c (i1, i2, i3, i4) (j1, j2, j3, j4)) (kQ a e b (i1, i2, i3, i4) (j1, j2, j3, j4))) (kL l3 l4 (kP c (i1, i2, i3, i4) (j1, j2, j3, j4)) (kQ a e b (i1, i2, i3, i4) (j1, j2, j3, j4)))) := by
  have unf : r_spec_coProof_L12 ((a, f2), (e, g2), M, N) (ae, b, c) h (w64 i1, w64 i2, w64 i3, w64 i4) (w64 j1, w64 j2, w64 j3, w64 j4) (w64 l1, w64 l2, w64 l3, w64 l4) FU 0 (List.replicate (Int.toNat 8) ((0 : Int))) =
      (let P : Int → Int → Int → Int → Int := fun x y u v => w64 ((w64 (x * u)) - (w64 ((w64 (c * y)) * v)))
       let Q : Int → Int → Int → Int → Int := fun x y u v => w64 ((w64 ((w64 ((w64 (a * x)) * v)) + (w64 ((w64 (e * y)) * u)))) + (w64 ((w64 (b * y)) * v)))
       let R : Int → Int → Int → Int → Int := fun l m p q => w64 ((w64 (l * p)) + (w64 (m * q)))
       let K : Int → Int → Int → Int → Int → Int → Int := fun l m x y u v => R l m (P x y u v) (Q x y u v)
       some [K (w64 l1) (w64 l2) (w64 i1) (w64 i3) (w64 j1) (w64 j3), K (w64 l1) (w64 l2) (w64 i1) (w64 i3) (w64 j2) (w64 j4), K (w64 l1) (w64 l2) (w64 i2) (w64 i4) (w64 j1) (w64 j3), K (w64 l1) (w64 l2) (w64 i2) (w64 i4) (w64 j2) (w64 j4),
         K (w64 l3) (w64 l4) (w64 i1) (w64 i3) (w64 j1) (w64 j3), K (w64 l3) (w64 l4) (w64 i1) (w64 i3) (w64 j2) (w64 j4), K (w64 l3) (w64 l4) (w64 i2) (w64 i4) (w64 j1) (w64 j3), K (w64 l3) (w64 l4) (w64 i2) (w64 i4) (w64 j2) (w64 j4)]) := by
    obtain ⟨m, hm⟩ : ∃ m, FU = m + 1 + 1 + 1 + 1 + 1 := ⟨FU - 5, rfl⟩
    rw [hm]
    simp only [r_spec_coProof_L12, sI_eq]
    rfl
  rw [unf]
  simp only [k8, kL, kP, kQ]
  have ls : ∀ {a b c d e f g h a' b' c' d' e' f' g' h' : Int}, bv a = bv a' → bv b = bv b' → bv c = bv c' → bv d = bv d' → bv e = bv e' → bv f = bv f' → bv g = bv g' → bv h = bv h' → some [w64 a, w64 b, w64 c, w64 d, w64 e, w64 f, w64 g, w64 h] = some [w64 a', w64 b', w64 c', w64 d', w64 e', w64 f', w64 g', w64 h'] := by
    intro a b c d e f g h a' b' c' d' e' f' g' h' h1 h2 h3 h4 h5 h6 h7 h8
    rw [w64_congr h1, w64_congr h2, w64_congr h3, w64_congr h4, w64_congr h5, w64_congr h6, w64_congr h7, w64_congr h8]
  refine ls ?_ ?_ ?_ ?_ ?_ ?_ ?_ ?_ <;> (simp only [bv_add, bv_mul, bv_sub, bv_w64, bv_0]; generalize bv i1 = i1; generalize bv i2 = i2; generalize bv i3 = i3; generalize bv i4 = i4; generalize bv j1 = j1; generalize bv j2 = j2; generalize bv j3 = j3; generalize bv j4 = j4; generalize bv a = a; generalize bv e = e; generalize bv b = b; generalize bv c = c; generalize bv l1 = l1; generalize bv l2 = l2; generalize bv l3 = l3; generalize bv l4 = l4; grind)
end Go.Proofs.YtnifkkihamgmaaaDoor
