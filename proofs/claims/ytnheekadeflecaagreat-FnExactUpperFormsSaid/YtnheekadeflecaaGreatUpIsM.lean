/-
  Sublattices of prime index of a class: forms and classes, both ways.
  Conditions: none.
-/
import Derived.Test.YtnheekadeflecaaGreatUpDsD
import Derived.Test.YtnheekadeflecaaGreatUpCt0
import Derived.Test.YtnheekadeflecaaGreatUpRlI
namespace Go.Proofs.YtnheekadeflecaaGreat
set_option linter.unusedVariables false
set_option linter.unusedSimpArgs false

/-- Reducing any definite form, with the matrix. -/
theorem red_any {D a b c : Int} (a1 : 1 ≤ a) (aM : a ≤ 1000000) (b1 : -1900000 ≤ b) (b2 : b ≤ 1900000) (c1 : 1 ≤ c) (cM : c ≤ 1000000) (hd : b * b - 4 * a * c = D) (hD : D < 0) : ∃ g m1 m2 m3 m4, r_impl_reduce (a, b, c) = some (g, (m1, m2, m3, m4)) ∧ r_spec_reReduce (a, b, c) = some (g, (m1, m2, m3, m4)) ∧ 1 ≤ g.1 ∧ IsRed g.1 g.2.1 g.2.2 ∧ g.2.1 * g.2.1 - 4 * g.1 * g.2.2 = D ∧ Eqf g (a, b, c) ∧ m1.natAbs ≤ 2000 ∧ m2.natAbs ≤ 2000 ∧ m3.natAbs ≤ 2000 ∧ m4.natAbs ≤ 2000 ∧ g.1 ≤ 1000000 ∧ g.2.1.natAbs ≤ 1900000 ∧ 1 ≤ g.2.2 ∧ g.2.2 ≤ 1250000 := by
  have hi : RedInv a b c (b * b - 4 * a * c) (Int.gcd a (Int.gcd b c) : Int) := by
    refine ⟨a1, aM, b1, b2, c1, by omega, rfl, by rw [hd]; exact hD, .inr cM, fun k => ?_⟩
    constructor
    · rintro ⟨u1, u2, u3⟩
      exact Int.dvd_coe_gcd u1 (Int.dvd_coe_gcd u2 u3)
    · intro h
      exact ⟨Int.dvd_trans h (Int.gcd_dvd_left _ _), Int.dvd_trans h (Int.dvd_trans (Int.gcd_dvd_right _ _) (Int.gcd_dvd_left _ _)), Int.dvd_trans h (Int.dvd_trans (Int.gcd_dvd_right _ _) (Int.gcd_dvd_right _ _))⟩
  obtain ⟨m1, m2, m3, m4, a2, b2', c2, k1, k2, k3, k4, k5, k6, k7, k8, k9⟩ := red_full hi cM
  obtain ⟨e1, e2, e3, e4⟩ := k5
  exact ⟨(a2, b2', c2), m1, m2, m3, m4, k1, k2, k3.a1, k4, by rw [← hd]; exact k3.dis, ⟨m1, m2, m3, m4, e4, e1.symm, e2.symm, e3.symm⟩, k6, k7, k8, k9, k3.aM, by have := k3.b1; have := k3.b2; show b2'.natAbs ≤ 1900000; omega, k3.c1, k3.cM⟩
theorem eqf_symm {f g : F3} (h : Eqf f g) : Eqf g f := by
  obtain ⟨p, q, r, s, hdet, e1, e2, e3⟩ := h
  have back : ∀ A B C : Int, (A * p * p + B * p * r + C * r * r) * s * s + (2 * A * p * q + B * (p * s + q * r) + 2 * C * r * s) * s * -r + (A * q * q + B * q * s + C * s * s) * -r * -r = A * ((p * s - q * r) * (p * s - q * r)) := by intro A B C; grind
  have back2 : ∀ A B C : Int, (A * p * p + B * p * r + C * r * r) * -q * -q + (2 * A * p * q + B * (p * s + q * r) + 2 * C * r * s) * -q * p + (A * q * q + B * q * s + C * s * s) * p * p = C * ((p * s - q * r) * (p * s - q * r)) := by intro A B C; grind
  have back3 : ∀ A B C : Int, 2 * (A * p * p + B * p * r + C * r * r) * s * -q + (2 * A * p * q + B * (p * s + q * r) + 2 * C * r * s) * (s * p + -q * -r) + 2 * (A * q * q + B * q * s + C * s * s) * -r * p = B * ((p * s - q * r) * (p * s - q * r)) := by intro A B C; grind
  have b1 := back g.1 g.2.1 g.2.2
  have b2 := back2 g.1 g.2.1 g.2.2
  have b3 := back3 g.1 g.2.1 g.2.2
  rw [← e1, ← e2, ← e3, hdet] at b1 b2 b3
  refine ⟨s, -q, -r, p, by grind, by omega, by omega, by omega⟩
/-- Two reduced forms of forms that are equivalent are equal. -/
theorem red_same {f g f' g' : F3} (hf : 1 ≤ f'.1 ∧ IsRed f'.1 f'.2.1 f'.2.2) (hg : 1 ≤ g'.1 ∧ IsRed g'.1 g'.2.1 g'.2.2) (h1 : Eqf f' f) (h2 : Eqf g' g) (h : Eqf f g) (pf : 0 < f.1) (pg : 0 < g.1) (hD : fD g < 0) : f' = g' := by
  have d1 := eqf_disc h1
  have d2 := eqf_disc h2
  have d3 := eqf_disc h
  have c1 := cl_of_eqf (show 0 < f'.1 by omega) pf h1
  have c2 := cl_of_eqf (show 0 < g'.1 by omega) pg h2
  have c3 := cl_of_eqf pf pg h
  rw [d3] at c1
  have c4 : Cl (fD g) (fL f') (fL g') := cl_trans hD c1 (cl_trans hD c3 (cl_symm c2))
  obtain ⟨p, q, r, s, hdet, e1, e2, e3⟩ := eqf_of_cl (show 0 < f'.1 by omega) (show 0 < g'.1 by omega) (by rw [d2]; exact hD) (by rw [d1, d2, d3]) (by rw [d2]; exact c4)
  obtain ⟨k1, k2, k3⟩ := red_uniq hg.1 hg.2 hf.1 hf.2 hdet e1 e2 e3
  exact Prod.ext k1.symm (Prod.ext k2.symm k3.symm)
/-- A reduced form stays. -/
theorem red_stay {a b c : Int} (ha : 1 ≤ a) (haM : a ≤ 1000000) (h : IsRed a b c) : r_impl_reduced (a, b, c) = some (a, b, c) := by
  have e : r_impl_reduce (a, b, c) = some ((a, b, c), (1, 0, 0, 1)) := by
    unfold r_impl_reduce
    simp only [r_impl_one, Option.bind_some]
    rw [show FU = (FU - 1) + 1 from rfl, r_impl_reduce_L10, red_is ha haM, decide_eq_true h]
    rfl
  simp only [r_impl_reduced, e, Option.bind_some]
/-! ### The forms -/
structure Rr (a b c D : Int) : Prop where
  a1 : 1 ≤ a
  a2 : a ≤ 25
  b1 : -a ≤ b
  b2 : b ≤ a
  c1 : 1 ≤ c
  c2 : c ≤ 500
  dis : b * b - 4 * a * c = D
  D1 : -2000 ≤ D
  D2 : D < 0
theorem rr_of {D : Int} {f : F3} (hD1 : -2000 ≤ D) (hD : D < 0) (h : PrRc D f) : Rr f.1 f.2.1 f.2.2 D := by
  obtain ⟨rb, ra⟩ := prr_rb hD1 h
  obtain ⟨h1, ⟨⟨h2, h3⟩, h4⟩, h5, _⟩ := h
  have hc1 := rb.c1
  obtain ⟨a, b, c⟩ := f
  simp only [] at *
  refine ⟨h1, ra, by show -a ≤ b; omega, h3, hc1, ?_, h5, hD1, hD⟩
  have hbb : b * b ≤ a * a := by
    have := abs_mul (x := b) (y := b) (A := a.natAbs) (B := a.natAbs) (by omega) (by omega)
    have e : ((a.natAbs * a.natAbs : Nat) : Int) = a * a := by
      rw [Int.natCast_mul]
      have : (a.natAbs : Int) = a := by omega
      rw [this]
    omega
  have haa : a * a ≤ 25 * a := Int.mul_le_mul_of_nonneg_right ra (by omega)
  show c ≤ 500
  rcases Int.lt_or_le 500 c with h | h
  · exfalso
    have k1 : 4 * a * 501 ≤ 4 * a * c := Int.mul_le_mul_of_nonneg_left (by omega) (by omega)
    have ha : a = 1 := by omega
    subst ha
    omega
  · exact h
theorem pos_val {a b c D x y : Int} (h : Rr a b c D) (hxy : x ≠ 0 ∨ y ≠ 0) : 1 ≤ a * x * x + b * x * y + c * y * y := by
  have e : 4 * a * (a * x * x + b * x * y + c * y * y) = (2 * a * x + b * y) * (2 * a * x + b * y) - D * (y * y) := by rw [← h.dis]; grind
  have h1 := sq_nonneg (2 * a * x + b * y)
  have h2 := sq_nonneg y
  have hD := h.D2
  have h3 : 0 ≤ (-D) * (y * y) := Int.mul_nonneg (by omega) h2
  have e2 : D * (y * y) = -((-D) * (y * y)) := by grind
  have ha := h.a1
  rcases Int.lt_or_le 0 (a * x * x + b * x * y + c * y * y) with h4 | h4
  · exact h4
  · exfalso
    have h5 : 4 * a * (a * x * x + b * x * y + c * y * y) ≤ 0 := Int.mul_nonpos_of_nonneg_of_nonpos (by omega) h4
    have h6 : (2 * a * x + b * y) * (2 * a * x + b * y) = 0 := by omega
    have h7 : (-D) * (y * y) = 0 := by omega
    have h8 : y = 0 := by
      rcases Int.mul_eq_zero.1 h7 with h | h
      · omega
      · rcases Int.mul_eq_zero.1 h with h | h <;> exact h
    subst h8
    have h9 : 2 * a * x + b * 0 = 0 := by
      rcases Int.mul_eq_zero.1 h6 with h | h <;> exact h
    have h10 : 2 * a * x = 0 := by omega
    rcases Int.mul_eq_zero.1 h10 with h | h <;> omega
/-- A definite form with coefficients that allow reducing. -/
structure Sb (d : Int) (g : F3) : Prop where
  a1 : 1 ≤ g.1
  aM : g.1 ≤ 1000000
  b1 : -1900000 ≤ g.2.1
  b2 : g.2.1 ≤ 1900000
  c1 : 1 ≤ g.2.2
  cM : g.2.2 ≤ 1000000
  dis : g.2.1 * g.2.1 - 4 * g.1 * g.2.2 = d
def gk (a b c p k : Int) : F3 := (a + b * k + c * k * k, p * (b + 2 * c * k), p * p * c)
def gp (a b c p : Int) : F3 := (p * p * a, p * b, c)
def hj (a b c p j : Int) : F3 := (p * p * a, p * (2 * a * j + b), a * j * j + b * j + c)
theorem sb_k {a b c D p k : Int} (h : Rr a b c D) (hp : 2 ≤ p) (hp2 : p ≤ 43) (k0 : 0 ≤ k) (k1 : k < p) : Sb (p * p * D) (gk a b c p k) := by
  have hv := pos_val h (x := 1) (y := k) (.inl (by decide))
  have e0 : a * 1 * 1 + b * 1 * k + c * k * k = a + b * k + c * k * k := by grind
  rw [e0] at hv
  obtain ⟨a1, a2, b1, b2, c1, c2, dis, D1, D2⟩ := h
  have m1 : (b * k).natAbs ≤ 25 * 42 := abs_mul (by omega) (by omega)
  have m2 : (2 * c * k).natAbs ≤ 2 * 500 * 42 := abs_mul (by omega) (by omega)
  have m3 : (c * k * k).natAbs ≤ 500 * 42 * 42 := abs_mul (abs_mul (by omega) (by omega)) (by omega)
  have m4 : (p * (b + 2 * c * k)).natAbs ≤ 43 * 42025 := abs_mul (by omega) (by omega)
  have m5 : (p * p * c).natAbs ≤ 43 * 43 * 500 := abs_mul (abs_mul (by omega) (by omega)) (by omega)
  have m6 : 2 * 2 ≤ p * p := Int.mul_le_mul hp hp (by omega) (by omega)
  have m7 : 4 * 1 ≤ p * p * c := Int.mul_le_mul m6 c1 (by omega) (by omega)
  refine ⟨hv, ?_, ?_, ?_, ?_, ?_, ?_⟩
  · show a + b * k + c * k * k ≤ 1000000; omega
  · show -1900000 ≤ p * (b + 2 * c * k); omega
  · show p * (b + 2 * c * k) ≤ 1900000; omega
  · show 1 ≤ p * p * c; omega
  · show p * p * c ≤ 1000000; omega
  · show p * (b + 2 * c * k) * (p * (b + 2 * c * k)) - 4 * (a + b * k + c * k * k) * (p * p * c) = p * p * D
    rw [← dis]; grind
theorem sb_p {a b c D p : Int} (h : Rr a b c D) (hp : 2 ≤ p) (hp2 : p ≤ 43) : Sb (p * p * D) (gp a b c p) := by
  obtain ⟨a1, a2, b1, b2, c1, c2, dis, D1, D2⟩ := h
  have m4 : (p * b).natAbs ≤ 43 * 25 := abs_mul (by omega) (by omega)
  have m5 : (p * p * a).natAbs ≤ 43 * 43 * 25 := abs_mul (abs_mul (by omega) (by omega)) (by omega)
  have m6 : 2 * 2 ≤ p * p := Int.mul_le_mul hp hp (by omega) (by omega)
  have m7 : 4 * 1 ≤ p * p * a := Int.mul_le_mul m6 a1 (by omega) (by omega)
  refine ⟨?_, ?_, ?_, ?_, c1, ?_, ?_⟩
  · show 1 ≤ p * p * a; omega
  · show p * p * a ≤ 1000000; omega
  · show -1900000 ≤ p * b; omega
  · show p * b ≤ 1900000; omega
  · show c ≤ 1000000; omega
  · show p * b * (p * b) - 4 * (p * p * a) * c = p * p * D
    rw [← dis]; grind
theorem sb_j {a b c D p j : Int} (h : Rr a b c D) (hp : 2 ≤ p) (hp2 : p ≤ 43) (j0 : 0 ≤ j) (j1 : j < p) : Sb (p * p * D) (hj a b c p j) ∧ (hj a b c p j).2.1.natAbs ≤ 1000000 := by
  have hv := pos_val h (x := j) (y := 1) (.inr (by decide))
  have e0 : a * j * j + b * j * 1 + c * 1 * 1 = a * j * j + b * j + c := by grind
  rw [e0] at hv
  obtain ⟨a1, a2, b1, b2, c1, c2, dis, D1, D2⟩ := h
  have m1 : (b * j).natAbs ≤ 25 * 42 := abs_mul (by omega) (by omega)
  have m2 : (2 * a * j).natAbs ≤ 2 * 25 * 42 := abs_mul (by omega) (by omega)
  have m3 : (a * j * j).natAbs ≤ 25 * 42 * 42 := abs_mul (abs_mul (by omega) (by omega)) (by omega)
  have m4 : (p * (2 * a * j + b)).natAbs ≤ 43 * 2125 := abs_mul (by omega) (by omega)
  have m5 : (p * p * a).natAbs ≤ 43 * 43 * 25 := abs_mul (abs_mul (by omega) (by omega)) (by omega)
  have m6 : 2 * 2 ≤ p * p := Int.mul_le_mul hp hp (by omega) (by omega)
  have m7 : 4 * 1 ≤ p * p * a := Int.mul_le_mul m6 a1 (by omega) (by omega)
  refine ⟨⟨?_, ?_, ?_, ?_, hv, ?_, ?_⟩, ?_⟩
  · show 1 ≤ p * p * a; omega
  · show p * p * a ≤ 1000000; omega
  · show -1900000 ≤ p * (2 * a * j + b); omega
  · show p * (2 * a * j + b) ≤ 1900000; omega
  · show a * j * j + b * j + c ≤ 1000000; omega
  · show p * (2 * a * j + b) * (p * (2 * a * j + b)) - 4 * (p * p * a) * (a * j * j + b * j + c) = p * p * D
    rw [← dis]; grind
  · show (p * (2 * a * j + b)).natAbs ≤ 1000000; omega
/-- The reduced form. -/
def rd (g : F3) : F3 := (r_impl_reduced g).getD g
theorem rd_ok {d : Int} {g : F3} (h : Sb d g) (hd : d < 0) : r_impl_reduced g = some (rd g) ∧ r_spec_reClass g = some (rd g) ∧ (1 ≤ (rd g).1 ∧ IsRed (rd g).1 (rd g).2.1 (rd g).2.2) ∧ (rd g).2.1 * (rd g).2.1 - 4 * (rd g).1 * (rd g).2.2 = d ∧ Eqf (rd g) g ∧ (rd g).1 ≤ 1000000 ∧ (∃ m1 m2 m3 m4, r_impl_reduce g = some (rd g, (m1, m2, m3, m4)) ∧ m1.natAbs ≤ 2000 ∧ m2.natAbs ≤ 2000 ∧ m3.natAbs ≤ 2000 ∧ m4.natAbs ≤ 2000) := by
  obtain ⟨a, b, c⟩ := g
  obtain ⟨a1, aM, b1, b2, c1, cM, dis⟩ := h
  obtain ⟨g', m1, m2, m3, m4, k1, k2, k3, k4, k5, k6, k7, k8, k9, k10, k11, k12, k13, k14⟩ := red_any a1 aM b1 b2 c1 cM dis hd
  have e1 : r_impl_reduced (a, b, c) = some g' := by simp only [r_impl_reduced, k1, Option.bind_some]
  have e2 : rd (a, b, c) = g' := by unfold rd; rw [e1]; rfl
  rw [e2]
  exact ⟨e1, by simp only [r_spec_reClass, k2, Option.bind_some], ⟨k3, k4⟩, k5, k6, k11, m1, m2, m3, m4, k1, k7, k8, k9, k10⟩
/-- A lattice's form and a sublattice form. -/
theorem hj_eqf {a b c p j k m : Int} (h : k * j + p * m = 1) : Eqf (hj a b c p j) (gk a b c p k) := by
  refine ⟨p, j, -k, m, ?_, ?_, ?_, ?_⟩
  · rw [Int.mul_neg, Int.sub_neg, Int.mul_comm j k]; omega
  · simp only [hj, gk]; grind
  · have e : 2 * (a + b * k + c * k * k) * p * j + p * (b + 2 * c * k) * (p * m + j * -k) + 2 * (p * p * c) * -k * m = p * (2 * a * j) + p * b * (k * j + p * m) := by grind
    simp only [hj, gk]
    rw [e, h]; grind
  · have e : (a + b * k + c * k * k) * j * j + p * (b + 2 * c * k) * j * m + p * p * c * m * m = a * j * j + b * j * (k * j + p * m) + c * ((k * j + p * m) * (k * j + p * m)) := by grind
    simp only [hj, gk]
    rw [e, h]; grind
theorem hj_zero (a b c p : Int) : hj a b c p 0 = gp a b c p := by
  simp only [hj, gp]
  refine Prod.ext rfl (Prod.ext ?_ ?_)
  · show p * (2 * a * 0 + b) = p * b; grind
  · show a * 0 * 0 + b * 0 + c = c; grind
/-- The class above a primitive sublattice form. -/
theorem up_k {a b c D p k : Int} (hR : Rr a b c D) (hp : 2 ≤ p) (hp2 : p ≤ 43) (k0 : 0 ≤ k) (k1 : k < p) {s t : Int} (hst : s * (a + b * k + c * k * k) + t * p = 1) : gDn hp hR.D2 (gC (p * p * D) (pp_neg hp hR.D2) (gk a b c p k)) = gC D hR.D2 (a, b, c) := by
  have hv := pos_val hR (x := 1) (y := k) (.inl (by decide))
  have e0 : a * 1 * 1 + b * 1 * k + c * k * k = a + b * k + c * k * k := by grind
  rw [e0] at hv
  have hlow : (b + 2 * c * k) * (b + 2 * c * k) - 4 * (a + b * k + c * k * k) * c = D := by rw [← hR.dis]; grind
  have h1 := gDn_low hp hR.D1 hR.D2 (v := a + b * k + c * k * k) (B := b + 2 * c * k) (C := c) (by omega) hlow hst
  have h2 : gC D hR.D2 (a + b * k + c * k * k, b + 2 * c * k, c) = gC D hR.D2 (a, b, c) := by
    refine gC_eq.2 ?_
    have hE : Eqf (a + b * k + c * k * k, b + 2 * c * k, c) (a, b, c) := ⟨1, 0, k, 1, by omega, by simp only []; grind, by simp only []; grind, by simp only []; grind⟩
    have := cl_of_eqf (f := (a + b * k + c * k * k, b + 2 * c * k, c)) (g := (a, b, c)) (by show 0 < a + b * k + c * k * k; omega) (by have := hR.a1; show 0 < a; omega) hE
    have hd : fD (a, b, c) = D := hR.dis
    rw [hd] at this
    exact this
  rw [← h2]; exact h1
theorem up_p {a b c D p : Int} (hR : Rr a b c D) (hp : 2 ≤ p) (hp2 : p ≤ 43) {s t : Int} (hst : s * c + t * p = 1) : gDn hp hR.D2 (gC (p * p * D) (pp_neg hp hR.D2) (gp a b c p)) = gC D hR.D2 (a, b, c) := by
  have hlow : (-b) * (-b) - 4 * c * a = D := by rw [← hR.dis]; grind
  have hc := hR.c1
  have ha := hR.a1
  have h1 := gDn_low hp hR.D1 hR.D2 (v := c) (B := -b) (C := a) (by omega) hlow hst
  have h2 : gC D hR.D2 (c, -b, a) = gC D hR.D2 (a, b, c) := by
    refine gC_eq.2 ?_
    have hE : Eqf (c, -b, a) (a, b, c) := ⟨0, -1, 1, 0, by omega, by simp only []; grind, by simp only []; grind, by simp only []; grind⟩
    have := cl_of_eqf (f := (c, -b, a)) (g := (a, b, c)) (by show 0 < c; omega) (by show 0 < a; omega) hE
    have hd : fD (a, b, c) = D := hR.dis
    rw [hd] at this
    exact this
  have h3 : gC (p * p * D) (pp_neg hp hR.D2) (c, p * -b, p * p * a) = gC (p * p * D) (pp_neg hp hR.D2) (gp a b c p) := by
    refine gC_eq.2 ?_
    have hb := sb_p hR hp hp2
    have hE : Eqf (c, p * -b, p * p * a) (gp a b c p) := ⟨0, -1, 1, 0, by omega, by simp only [gp]; grind, by simp only [gp]; grind, by simp only [gp]; grind⟩
    have := cl_of_eqf (f := (c, p * -b, p * p * a)) (g := gp a b c p) (by show 0 < c; omega) (by have := hb.a1; omega) hE
    have hd : fD (gp a b c p) = p * p * D := hb.dis
    rw [hd] at this
    exact this
  rw [← h2, ← h1, h3]
end Go.Proofs.YtnheekadeflecaaGreat
namespace Go.Proofs.YtnheekadeflecaaGreat
set_option linter.unusedVariables false
set_option linter.unusedSimpArgs false

/-- A loop that maps a list. -/
theorem map_loop {α β : Type} (F : α → Option β) (G : α → β) (ys : List α) (Lp : Nat → Int → List β → Option (List β)) (hLp : ∀ n t l, Lp (n + 1) t l = bif (ltI t ((ys.length : Int))) then ((getI ys t).bind fun e9 => (getI ys t).bind fun e10 => (F e10).bind fun y11 => (room (l.length + ([y11]).length)).bind fun u12 => sI (w64 (t + 1)) fun t13 => Lp n t13 (l ++ ([y11]))) else some l) (hF : ∀ x ∈ ys, F x = some (G x)) (hlen : ys.length ≤ 1000000) :
    ∀ (k fu i : Nat) (acc : List β), i + k = ys.length → k < fu → acc.length ≤ 1000000 + i → Lp fu (i : Int) acc = some (acc ++ (ys.drop i).map G)
  | k, 0, i, acc, _, hf, _ => by omega
  | k, fu + 1, i, acc, hi, hf, ha => by
    rw [hLp, ltI_eq]
    by_cases h1 : i < ys.length
    · rw [decide_eq_true (by omega), cond_true, getNat h1]
      simp only [Option.bind_some]
      rw [hF _ (List.getElem_mem h1), Option.bind_some, roomOk (by simp; omega), Option.bind_some]
      simp only [sI_eq]
      rw [wsucc (by omega), List.drop_eq_getElem_cons h1]
      obtain ⟨k', rfl⟩ : ∃ k', k = k' + 1 := ⟨k - 1, by omega⟩
      rw [map_loop F G ys Lp hLp hF hlen k' fu (i + 1) (acc ++ [G ys[i]]) (by omega) (by omega) (by simp; omega)]
      simp only [List.map_cons, List.append_assoc, List.cons_append, List.nil_append]
    · rw [decide_eq_false (by omega), cond_false, List.drop_eq_nil_of_le (by omega)]
      simp
theorem map_all {α β : Type} (F : α → Option β) (G : α → β) (ys : List α) (Lp : Nat → Int → List β → Option (List β)) (hLp : ∀ n t l, Lp (n + 1) t l = bif (ltI t ((ys.length : Int))) then ((getI ys t).bind fun e9 => (getI ys t).bind fun e10 => (F e10).bind fun y11 => (room (l.length + ([y11]).length)).bind fun u12 => sI (w64 (t + 1)) fun t13 => Lp n t13 (l ++ ([y11]))) else some l) (hF : ∀ x ∈ ys, F x = some (G x)) (hlen : ys.length ≤ 1000) : Lp FU 0 [] = some (ys.map G) := by
  have hF2 := FUge
  have := map_loop F G ys Lp hLp hF (by omega) ys.length FU 0 [] (by omega) (by omega) (by simp)
  have e0 : (((0 : Nat) : Int)) = 0 := rfl
  rw [e0, List.drop_zero, List.nil_append] at this
  exact this
/-! ### The matrices -/
def mats (p : Nat) : List M4 := (List.range p).map (fun k : Nat => ((1, 0, (k : Int), (p : Int)) : M4)) ++ [((p : Int), 0, 0, 1)]
/-! ### The forms and the classes -/
def subs (a b c : Int) (p : Nat) : List F3 := (List.range p).map (fun k : Nat => gk a b c p k) ++ [gp a b c p]
def clss (a b c : Int) (p : Nat) : List F3 := (subs a b c p).map rd
theorem subs_sb {a b c D : Int} {p : Nat} (h : Rr a b c D) (hp : 2 ≤ p) (hp2 : p ≤ 43) : ∀ g ∈ subs a b c p, Sb (p * p * D) g := by
  intro g hg
  rcases List.mem_append.1 hg with hg | hg
  · obtain ⟨k, hk, rfl⟩ := List.mem_map.1 hg
    have := List.mem_range.1 hk
    exact sb_k h (by omega) (by omega) (by omega) (by omega)
  · rw [List.mem_singleton.1 hg]
    exact sb_p h (by omega) (by omega)
theorem sub_k {a b c D : Int} {p k : Int} (h : Rr a b c D) (hp : 2 ≤ p) (hp2 : p ≤ 43) (k0 : 0 ≤ k) (k1 : k < p) : r_impl_Form_substitute (a, b, c) (1, 0, k, p) = some (gk a b c p k) := by
  have hs := sb_k h hp hp2 k0 k1
  obtain ⟨a1, aM, b1, b2, c1, cM, _⟩ := hs
  simp only [gk] at a1 aM b1 b2 c1 cM
  rw [sub_w]
  have e1 : a * 1 * 1 + b * 1 * k + c * k * k = a + b * k + c * k * k := by grind
  have e2 : 2 * a * 1 * 0 + b * (1 * p + k * 0) + 2 * c * k * p = p * (b + 2 * c * k) := by grind
  have e3 : a * 0 * 0 + b * 0 * p + c * p * p = p * p * c := by grind
  rw [e1, e2, e3, w64_in (by omega), w64_in (by omega), w64_in (by omega)]
  rfl
theorem sub_p {a b c D : Int} {p : Int} (h : Rr a b c D) (hp : 2 ≤ p) (hp2 : p ≤ 43) : r_impl_Form_substitute (a, b, c) (p, 0, 0, 1) = some (gp a b c p) := by
  have hs := sb_p h hp hp2
  obtain ⟨a1, aM, b1, b2, c1, cM, _⟩ := hs
  simp only [gp] at a1 aM b1 b2 c1 cM
  rw [sub_w]
  have e1 : a * p * p + b * p * 0 + c * 0 * 0 = p * p * a := by grind
  have e2 : 2 * a * p * 0 + b * (p * 1 + 0 * 0) + 2 * c * 0 * 1 = p * b := by grind
  have e3 : a * 0 * 0 + b * 0 * 1 + c * 1 * 1 = c := by grind
  rw [e1, e2, e3, w64_in (by omega), w64_in (by omega), w64_in (by omega)]
  rfl
theorem sub_j {a b c D : Int} {p j : Int} (h : Rr a b c D) (hp : 2 ≤ p) (hp2 : p ≤ 43) (j0 : 0 ≤ j) (j1 : j < p) : r_impl_Form_substitute (a, b, c) (p, j, 0, 1) = some (hj a b c p j) := by
  have hs := (sb_j h hp hp2 j0 j1).1
  obtain ⟨a1, aM, b1, b2, c1, cM, _⟩ := hs
  simp only [hj] at a1 aM b1 b2 c1 cM
  rw [sub_w]
  have e1 : a * p * p + b * p * 0 + c * 0 * 0 = p * p * a := by grind
  have e2 : 2 * a * p * j + b * (p * 1 + 0 * j) + 2 * c * 0 * 1 = p * (2 * a * j + b) := by grind
  have e3 : a * j * j + b * j * 1 + c * 1 * 1 = a * j * j + b * j + c := by grind
  rw [e1, e2, e3, w64_in (by omega), w64_in (by omega), w64_in (by omega)]
  rfl
def actM (a b c : Int) (m : M4) : F3 := (r_impl_Form_substitute (a, b, c) m).getD (a, b, c)
theorem mats_act {a b c D : Int} {p : Nat} (h : Rr a b c D) (hp : 2 ≤ p) (hp2 : p ≤ 43) : (∀ m ∈ mats p, r_impl_Form_substitute (a, b, c) m = some (actM a b c m)) ∧ (mats p).map (actM a b c) = subs a b c p := by
  have ak : ∀ k : Nat, k < p → r_impl_Form_substitute (a, b, c) (1, 0, (k : Int), (p : Int)) = some (gk a b c p k) := fun k hk => sub_k h (by omega) (by omega) (by omega) (by omega)
  have ap := sub_p h (p := (p : Int)) (by omega) (by omega)
  have some_act : ∀ m g, r_impl_Form_substitute (a, b, c) m = some g → actM a b c m = g := by
    intro m g hg
    unfold actM
    rw [hg]; rfl
  constructor
  · intro m hm
    rcases List.mem_append.1 hm with hm | hm
    · obtain ⟨k, hk, rfl⟩ := List.mem_map.1 hm
      have hk' := ak k (List.mem_range.1 hk)
      rw [hk', some_act _ _ hk']
    · rw [List.mem_singleton.1 hm, ap, some_act _ _ ap]
  · unfold mats subs
    rw [List.map_append, List.map_map, List.map_cons, List.map_nil, some_act _ _ ap]
    congr 1
    refine List.map_congr_left fun k hk => ?_
    exact some_act _ _ (ak k (List.mem_range.1 hk))
end Go.Proofs.YtnheekadeflecaaGreat
namespace Go.Proofs.YtnheekadeflecaaGreat
set_option linter.unusedVariables false
set_option linter.unusedSimpArgs false

def eqB (x y : F3) : Bool := ((x.1 == y.1) && ((x.2.1 == y.2.1) && (x.2.2 == y.2.2)))
theorem eqB_iff (x y : F3) : ((x.1 == y.1) && ((x.2.1 == y.2.1) && (x.2.2 == y.2.2))) = decide (x = y) := by
  rw [Bool.eq_iff_iff, Bool.and_eq_true, Bool.and_eq_true, beq_iff_eq, beq_iff_eq, beq_iff_eq, decide_eq_true_iff]
  exact ⟨fun ⟨a, b, c⟩ => Prod.ext a (Prod.ext b c), fun h => by rw [h]; exact ⟨rfl, rfl, rfl⟩⟩
/-- Coefficients of the classes. -/
theorem rd_in {D p : Int} {g : F3} (hp2 : p ≤ 43) (hp : 2 ≤ p) (hD : -2000 ≤ D) (hD0 : D < 0) (h : Sb (p * p * D) g) : inN (rd g).1 = true ∧ inN (rd g).2.1 = true ∧ inN (rd g).2.2 = true := by
  obtain ⟨_, _, ⟨r1, ⟨⟨r2, r3⟩, r4⟩⟩, r5, _, r6, _⟩ := rd_ok h (pp_neg hp hD0)
  generalize rd g = x at *
  obtain ⟨a, b, c⟩ := x
  simp only [] at *
  have hpp : p * p ≤ 43 * 43 := Int.mul_le_mul hp2 hp2 (by omega) (by omega)
  have hd : p * p * (-D) ≤ 43 * 43 * 2000 := Int.mul_le_mul hpp (by omega) (by omega) (by omega)
  have e1 : p * p * (-D) = -(p * p * D) := Int.mul_neg ..
  have hbb : b * b ≤ a * a := by
    rcases Int.le_total 0 b with h4 | h4
    · exact Int.mul_le_mul r3 r3 h4 (by omega)
    · have : (-b) * (-b) ≤ a * a := Int.mul_le_mul (by omega) (by omega) (by omega) (by omega)
      have e : (-b) * (-b) = b * b := by grind
      omega
  have hac : a * a ≤ a * c := Int.mul_le_mul_of_nonneg_left (by omega) (by omega)
  have e2 : 4 * a * c = 4 * (a * c) := Int.mul_assoc ..
  have hc : c ≤ 1000000 := by
    rcases Int.lt_or_le 1 a with h1 | h1
    · have : 2 * c ≤ a * c := Int.mul_le_mul_of_nonneg_right (by omega) (by omega)
      omega
    · have : a = 1 := by omega
      subst this
      omega
  rw [inN_iff, inN_iff, inN_iff]
  omega
def primB (g : F3) : Bool := decide (Int.gcd g.1 (Int.gcd g.2.1 g.2.2) = 1)
theorem has_loop (f : F3) (ys : List F3) (hlen : ys.length ≤ 1000) : ∀ (k fu i : Nat), i + k = ys.length → k < fu → r_impl_hasForm_L4 f ys fu (i : Int) = some (if f ∈ ys.drop i then .inr true else .inl ())
  | k, 0, i, _, hf => by omega
  | k, fu + 1, i, hi, hf => by
    rw [r_impl_hasForm_L4, ltI_eq]
    by_cases h1 : i < ys.length
    · rw [decide_eq_true (by omega), cond_true, getNat h1]
      simp only [Option.bind_some]
      rw [eqB_iff, List.drop_eq_getElem_cons h1]
      obtain ⟨k', rfl⟩ : ∃ k', k = k' + 1 := ⟨k - 1, by omega⟩
      by_cases h2 : f = ys[i]
      · rw [decide_eq_true h2, cond_true, if_pos (by rw [h2]; exact List.mem_cons_self ..)]
      · rw [decide_eq_false h2, cond_false]
        simp only [sI_eq]
        rw [wsucc (by omega), has_loop f ys hlen k' fu (i + 1) (by omega) (by omega)]
        by_cases h3 : f ∈ ys.drop (i + 1)
        · rw [if_pos h3, if_pos (List.mem_cons_of_mem _ h3)]
        · rw [if_neg h3, if_neg (fun hm => (List.mem_cons.1 hm).elim h2 h3)]
    · rw [decide_eq_false (by omega), cond_false, List.drop_eq_nil_of_le (by omega)]
      simp
theorem has_val (f : F3) (ys : List F3) (hlen : ys.length ≤ 1000) : r_impl_hasForm ys f = some (decide (f ∈ ys)) := by
  have hF := FUge
  have := has_loop f ys hlen ys.length FU 0 (by omega) (by omega)
  have e0 : (((0 : Nat) : Int)) = 0 := rfl
  rw [e0, List.drop_zero] at this
  simp only [r_impl_hasForm, this, Option.bind_some]
  by_cases h : f ∈ ys <;> simp [h]
/-! ### The primes -/
def pN : List Nat := [2, 3, 5, 7, 11, 13, 17, 23, 41, 43]
def pZ : List Int := [2, 2, 3, 3, 5, 5, 7, 11, 13, 17, 23, 41, 43, 47, 4, 1, 0, -2]
theorem pN_all (P : Nat → Prop) (h : ∀ n ∈ pN, P n) {n : Nat} (hn : n ∈ pN) : P n := h n hn
theorem pN_bd {n : Nat} (hn : n ∈ pN) : 2 ≤ n ∧ n ≤ 43 := by
  simp only [pN, List.mem_cons, List.not_mem_nil, or_false] at hn
  omega
def okDiv (n : Nat) : Bool := (List.range (n + 1)).all fun d => bif Nat.beq (n % d) 0 then (Nat.beq d 1 || (Nat.beq d n || Nat.beq d 0)) else true
theorem okDiv_all : (pN.all okDiv) = true := by decide +kernel
theorem pN_prime {n d : Nat} (hn : n ∈ pN) (hd : d ∣ n) : d = 1 ∨ d = n := by
  have h := List.all_eq_true.1 okDiv_all n hn
  obtain ⟨h2, h3⟩ := pN_bd hn
  have hle := Nat.le_of_dvd (by omega) hd
  have h4 := List.all_eq_true.1 h d (List.mem_range.2 (by omega))
  have h5 : Nat.beq (n % d) 0 = true := by rw [Nat.beq_eq]; exact Nat.mod_eq_zero_of_dvd hd
  rw [h5, cond_true, Bool.or_eq_true, Bool.or_eq_true, Nat.beq_eq, Nat.beq_eq, Nat.beq_eq] at h4
  rcases h4 with h6 | h6 | h6
  · exact .inl h6
  · exact .inr h6
  · subst h6
    have := Nat.eq_zero_of_zero_dvd hd
    omega
theorem pN_bez {n : Nat} (hn : n ∈ pN) {v : Int} (hv : ¬ (n : Int) ∣ v) : ∃ s t : Int, s * v + t * n = 1 := by
  obtain ⟨s, t, h⟩ := bez_int v n
  have hd : Int.gcd v n ∣ n := by
    have := Int.gcd_dvd_right v (n : Int)
    exact Int.natCast_dvd_natCast.1 this
  rcases pN_prime hn hd with h1 | h1
  · exact ⟨s, t, by rw [h, h1]; rfl⟩
  · exfalso
    apply hv
    have := Int.gcd_dvd_left v (n : Int)
    rw [h1] at this
    exact this
def lats (n : Nat) : List F3 := (1, 0, (n : Int)) :: (List.range n).map fun b : Nat => ((n : Int), (b : Int), 1)
def okLat (n : Nat) : Bool := r_impl_SublatticesOf (n : Int) == some (lats n, true)
theorem okLat_all : (pN.all okLat) = true := by decide +kernel
theorem lats_val {n : Nat} (hn : n ∈ pN) : r_impl_SublatticesOf (n : Int) = some (lats n, true) := by
  have h := List.all_eq_true.1 okLat_all n hn
  unfold okLat at h
  exact beq_iff_eq.1 h
def inv (n j : Nat) : Nat := ((List.range n).find? fun k => Nat.beq (k * j % n) 1).getD 0
def okInv (n : Nat) : Bool := (((List.range (n - 1)).map fun i => inv n (i + 1)).isPerm ((List.range (n - 1)).map fun i => i + 1)) && (List.range (n - 1)).all fun i => Nat.beq (inv n (i + 1) * (i + 1) % n) 1 && Nat.blt (inv n (i + 1)) n
theorem okInv_all : (pN.all okInv) = true := by decide +kernel
theorem inv_perm {n : Nat} (hn : n ∈ pN) : List.Perm ((List.range (n - 1)).map fun i => inv n (i + 1)) ((List.range (n - 1)).map fun i => i + 1) := by
  have h := List.all_eq_true.1 okInv_all n hn
  unfold okInv at h
  rw [Bool.and_eq_true] at h
  exact List.isPerm_iff.1 h.1
theorem inv_ok {n i : Nat} (hn : n ∈ pN) (hi : i < n - 1) : inv n (i + 1) < n ∧ ∃ m : Int, (inv n (i + 1) : Int) * ((i + 1 : Nat) : Int) + n * m = 1 := by
  have h := List.all_eq_true.1 okInv_all n hn
  unfold okInv at h
  rw [Bool.and_eq_true] at h
  have h2 := List.all_eq_true.1 h.2 i (List.mem_range.2 hi)
  rw [Bool.and_eq_true, Nat.beq_eq] at h2
  have h3 : inv n (i + 1) < n := by
    have := h2.2
    simpa [Nat.blt_eq] using this
  refine ⟨h3, -((inv n (i + 1) * (i + 1) / n : Nat) : Int), ?_⟩
  have h4 := Nat.mod_add_div (inv n (i + 1) * (i + 1)) n
  rw [h2.1] at h4
  have h5 : (1 : Int) + n * ((inv n (i + 1) * (i + 1) / n : Nat) : Int) = (inv n (i + 1) : Int) * ((i + 1 : Nat) : Int) := by exact_mod_cast h4
  rw [Int.mul_neg]; omega
/-! ### The lattices' classes are those of the matrices -/
def latF (a b c : Int) (x : F3) : F3 := (r_impl_Form_substitute (a, b, c) (x.1, x.2.1, 0, x.2.2)).getD (a, b, c)
theorem lat_cls {a b c D : Int} {n : Nat} (h : Rr a b c D) (hn : n ∈ pN) : List.Perm ((lats n).map fun x => rd (latF a b c x)) (clss a b c n) := by
  obtain ⟨h2, h43⟩ := pN_bd hn
  have hD : (n : Int) * n * D < 0 := pp_neg (by omega) h.D2
  have l0 : latF a b c (1, 0, (n : Int)) = gk a b c n 0 := by
    have := sub_k h (p := (n : Int)) (k := 0) (by omega) (by omega) (by omega) (by omega)
    unfold latF
    rw [this]; rfl
  have lj : ∀ j : Nat, j < n → latF a b c ((n : Int), (j : Int), 1) = hj a b c n j := by
    intro j hjn
    have := sub_j h (p := (n : Int)) (j := (j : Int)) (by omega) (by omega) (by omega) (by omega)
    unfold latF
    simp only []
    rw [this]; rfl
  obtain ⟨m, rfl⟩ : ∃ m, n = m + 1 := ⟨n - 1, by omega⟩
  have e1 : (lats (m + 1)).map (fun x => rd (latF a b c x)) = rd (gk a b c (m + 1 : Nat) 0) :: rd (gp a b c (m + 1 : Nat)) :: (List.range m).map (fun i => rd (gk a b c (m + 1 : Nat) (inv (m + 1) (i + 1) : Nat))) := by
    unfold lats
    rw [List.map_cons, l0, List.range_succ_eq_map, List.map_cons, List.map_cons, lj 0 (by omega)]
    have e0 : hj a b c ((m + 1 : Nat) : Int) ((0 : Nat) : Int) = gp a b c ((m + 1 : Nat) : Int) := hj_zero ..
    rw [e0]
    congr 2
    rw [List.map_map, List.map_map]
    refine List.map_congr_left fun i hi => ?_
    have hi' := List.mem_range.1 hi
    show rd (latF a b c (((m + 1 : Nat) : Int), ((i + 1 : Nat) : Int), 1)) = _
    rw [lj (i + 1) (by omega)]
    obtain ⟨i1, mm, i2⟩ := inv_ok (n := m + 1) (i := i) hn (by omega)
    have s1 := (sb_j h (p := ((m + 1 : Nat) : Int)) (j := ((i + 1 : Nat) : Int)) (by omega) (by omega) (by omega) (by omega)).1
    have s2 := sb_k h (p := ((m + 1 : Nat) : Int)) (k := ((inv (m + 1) (i + 1) : Nat) : Int)) (by omega) (by omega) (by omega) (by omega)
    obtain ⟨_, _, r3, _, r5, _⟩ := rd_ok s1 hD
    obtain ⟨_, _, q3, _, q5, _⟩ := rd_ok s2 hD
    exact red_same r3 q3 r5 q5 (hj_eqf i2) (by have := s1.a1; omega) (by have := s2.a1; omega) (by rw [show fD (gk a b c ((m + 1 : Nat) : Int) ((inv (m + 1) (i + 1) : Nat) : Int)) = ((m + 1 : Nat) : Int) * ((m + 1 : Nat) : Int) * D from s2.dis]; exact hD)
  have e2 : clss a b c (m + 1) = rd (gk a b c (m + 1 : Nat) 0) :: ((List.range m).map (fun i => rd (gk a b c (m + 1 : Nat) (i + 1 : Nat))) ++ [rd (gp a b c (m + 1 : Nat))]) := by
    unfold clss subs
    rw [List.range_succ_eq_map, List.map_append, List.map_cons, List.map_cons, List.map_map, List.map_map, List.map_cons, List.map_nil]
    rfl
  rw [e1, e2]
  refine List.Perm.cons _ ?_
  have hp := (inv_perm hn).map (fun k : Nat => rd (gk a b c ((m + 1 : Nat) : Int) (k : Int)))
  rw [List.map_map, List.map_map, show m + 1 - 1 = m by omega] at hp
  exact (List.Perm.cons _ hp).trans (List.perm_append_singleton _ _).symm
/-! ### The class above -/
theorem prim_of {g : F3} (h : primB g = true) (k : Int) (h1 : k ∣ g.1) (h2 : k ∣ g.2.1) (h3 : k ∣ g.2.2) : k ∣ 1 := by
  have h4 := of_decide_eq_true h
  have h5 : k ∣ (Int.gcd g.1 (Int.gcd g.2.1 g.2.2) : Int) := Int.dvd_coe_gcd h1 (Int.dvd_coe_gcd h2 h3)
  rw [h4] at h5
  exact h5
theorem up_cls {a b c D : Int} {n : Nat} (h : Rr a b c D) (hn : n ∈ pN) (hp : 2 ≤ (n : Int)) {g : F3} (hg : g ∈ clss a b c n) (hpr : primB g = true) : gDn hp h.D2 (gC ((n : Int) * n * D) (pp_neg hp h.D2) g) = gC D h.D2 (a, b, c) := by
  obtain ⟨h2, h43⟩ := pN_bd hn
  have hD : (n : Int) * n * D < 0 := pp_neg hp h.D2
  obtain ⟨x, hx, rfl⟩ := List.mem_map.1 hg
  have hs := subs_sb h h2 h43 x hx
  obtain ⟨_, _, r3, r4, r5, _⟩ := rd_ok hs hD
  have px := prim_eqf (eqf_symm r5) (prim_of hpr)
  have e1 : gC ((n : Int) * n * D) (pp_neg hp h.D2) (rd x) = gC ((n : Int) * n * D) (pp_neg hp h.D2) x := by
    refine gC_eq.2 ?_
    have := cl_of_eqf (show 0 < (rd x).1 by omega) (show 0 < x.1 by have := hs.a1; omega) r5
    rw [show fD x = (n : Int) * n * D from hs.dis] at this
    exact this
  rw [e1]
  have notd : ∀ v : Int, ((n : Int) ∣ v → False) → ∃ s t : Int, s * v + t * n = 1 := fun v hv => pN_bez hn hv
  have not1 : ¬ (n : Int) ∣ 1 := by
    intro hd
    have := Int.le_of_dvd (by decide) hd
    omega
  rcases List.mem_append.1 hx with hx | hx
  · obtain ⟨k, hk, rfl⟩ := List.mem_map.1 hx
    have hk' := List.mem_range.1 hk
    obtain ⟨s, t, hst⟩ := notd (a + b * k + c * k * k) (fun hd => not1 (px n hd ⟨b + 2 * c * k, rfl⟩ ⟨n * c, by show (n : Int) * n * c = n * (n * c); grind⟩))
    exact up_k h hp (by omega) (by omega) (by omega) hst
  · have hx := List.mem_singleton.1 hx
    subst hx
    obtain ⟨s, t, hst⟩ := notd c (fun hd => not1 (px n ⟨n * a, by show (n : Int) * n * a = n * (n * a); grind⟩ ⟨b, rfl⟩ hd))
    exact up_p h hp (by omega) hst
end Go.Proofs.YtnheekadeflecaaGreat
