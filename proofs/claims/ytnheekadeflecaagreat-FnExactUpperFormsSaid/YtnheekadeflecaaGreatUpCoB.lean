/-
  United forms of two reduced forms, both ways.
  Conditions: none.
-/
import Derived.Test.YtnheekadeflecaaGreatUpCoA
import Derived.Test.YtnheekadeflecaaGreatUpIdA
import Derived.Test.YtnheekadeflecaaGreatUpUq
namespace Go.Proofs.YtnheekadeflecaaGreat
set_option linter.unusedVariables false
set_option linter.unusedSimpArgs false

/-- Combinations that are the common divisor. -/
theorem bez_nat : ∀ (a b : Nat), ∃ x y : Int, x * a + y * b = (Nat.gcd a b : Int) := by
  intro a b
  induction a, b using Nat.gcd.induction with
  | H0 n => exact ⟨0, 1, by simp⟩
  | H1 m n hm ih =>
    obtain ⟨x, y, h⟩ := ih
    refine ⟨y - x * (n / m : Nat), x, ?_⟩
    rw [Nat.gcd_rec, ← h]
    have e : (n : Int) = (n % m : Nat) + m * (n / m : Nat) := by exact_mod_cast (Nat.mod_add_div n m).symm
    rw [e]
    grind
theorem bez_int (a b : Int) : ∃ x y : Int, x * a + y * b = (Int.gcd a b : Int) := by
  obtain ⟨x, y, h⟩ := bez_nat a.natAbs b.natAbs
  have sg : ∀ z : Int, ∃ t : Int, (z.natAbs : Int) = t * z := by
    intro z
    rcases Int.le_total 0 z with h | h
    · exact ⟨1, by omega⟩
    · exact ⟨-1, by omega⟩
  obtain ⟨s, hs⟩ := sg a
  obtain ⟨t, ht⟩ := sg b
  refine ⟨x * s, y * t, ?_⟩
  rw [hs, ht] at h
  rw [show Int.gcd a b = Nat.gcd a.natAbs b.natAbs from rfl, ← h]
  grind
/-- Coprime to the modulus: cancelled. -/
theorem cop_canc {a e v x : Int} (hi : e ∣ 1 - v * a) (h : e ∣ a * x) : e ∣ x := by
  obtain ⟨i, hi⟩ := hi
  obtain ⟨j, hj⟩ := h
  exact ⟨i * x + v * j, by grind⟩
theorem small_dvd {e x : Int} (h : e ∣ x) (h1 : -e < x) (h2 : x < e) : x = 0 := by
  have h3 : e.natAbs ∣ x.natAbs := Int.natAbs_dvd_natAbs.2 h
  rcases Nat.eq_zero_or_pos x.natAbs with h4 | h4
  · omega
  · have := Nat.le_of_dvd h4 h3
    omega
/-- What united forms are made of. -/
structure Uni (a b c A B C D x y q s e hB hC b1 c1 α β : Int) : Prop where
  mh : MatInv A B C x q y s e hB hC
  e1 : 1 ≤ e
  e2 : e ≤ 10000
  t : ∃ u v : Int, u * a + v * e = 1
  bα : b1 = b + 2 * a * α
  bβ : b1 = hB + 2 * e * β
  b0 : 0 ≤ b1
  b2 : b1 < 2 * a * e
  dis : b1 * b1 - 4 * a * e * c1 = D
  qb : q.natAbs ≤ 100000
  sb : s.natAbs ≤ 100000
  xy : 0 ≤ x ∧ x ≤ 3 ∧ 0 ≤ y ∧ y ≤ 3
theorem uni_c {a b c D e hB hC b1 α β : Int} (hd : b * b - 4 * a * c = D) (hh : hB * hB - 4 * e * hC = D) {u v : Int} (huv : u * a + v * e = 1) (bα : b1 = b + 2 * a * α) (bβ : b1 = hB + 2 * e * β) : b1 * b1 - 4 * a * e * (u * (hC + hB * β + e * β * β) + v * (c + b * α + a * α * α)) = D := by
  have f1 : b1 * b1 - D = 4 * a * (c + b * α + a * α * α) := by rw [bα, ← hd]; grind
  have f2 : b1 * b1 - D = 4 * e * (hC + hB * β + e * β * β) := by rw [bβ, ← hh]; grind
  generalize hC + hB * β + e * β * β = X at *
  generalize c + b * α + a * α * α = Y at *
  have f3 : (b1 * b1 - D) * 1 = 4 * a * e * (u * X + v * Y) := by
    rw [← huv]
    have : (b1 * b1 - D) * (u * a + v * e) = u * a * (b1 * b1 - D) + v * e * (b1 * b1 - D) := by grind
    rw [this]
    rw [show u * a * (b1 * b1 - D) = u * a * (4 * e * X) by rw [f2], show v * e * (b1 * b1 - D) = v * e * (4 * a * Y) by rw [f1]]
    grind
  omega
theorem uni_c1 {a e b1 c1 D : Int} (ha : 1 ≤ a) (he : 1 ≤ e) (b0 : 0 ≤ b1) (b2 : b1 < 2 * a * e) (hD1 : -2000 ≤ D) (hD2 : D < 0) (dis : b1 * b1 - 4 * a * e * c1 = D) : 1 ≤ c1 ∧ c1 ≤ a * e + 500 := by
  have hae : 1 * 1 ≤ a * e := Int.mul_le_mul ha he (by omega) (by omega)
  have e1 : 2 * a * e = 2 * (a * e) := Int.mul_assoc ..
  have e2 : 4 * a * e * c1 = 4 * (a * e * c1) := by grind
  generalize a * e = m at *
  have hbb : 0 ≤ b1 * b1 := Int.mul_nonneg b0 b0
  have hbb2 : b1 * b1 ≤ 2 * m * (2 * m) := Int.mul_le_mul (by omega) (by omega) b0 (by omega)
  have e3 : 2 * m * (2 * m) = 4 * (m * m) := by grind
  constructor
  · rcases Int.lt_or_le 0 c1 with h | h
    · exact h
    · have : m * c1 ≤ m * 0 := Int.mul_le_mul_of_nonneg_left h (by omega)
      omega
  · rcases Int.lt_or_le (m + 500) c1 with h | h
    · have k1 : m * (m + 501) ≤ m * c1 := Int.mul_le_mul_of_nonneg_left (by omega) (by omega)
      have k2 : m * (m + 501) = m * m + 501 * m := by grind
      omega
    · exact h
end Go.Proofs.YtnheekadeflecaaGreat
namespace Go.Proofs.YtnheekadeflecaaGreat
set_option linter.unusedVariables false
set_option linter.unusedSimpArgs false

theorem par_eq {b h D m n : Int} (h1 : b * b - 4 * m = D) (h2 : h * h - 4 * n = D) : b % 2 = h % 2 := by
  have k : ∀ z : Int, (z * z) % 2 = z % 2 := by
    intro z
    obtain ⟨t, ht | ht⟩ : ∃ t, z = 2 * t ∨ z = 2 * t + 1 := ⟨z / 2, by omega⟩
    · rw [ht, show 2 * t * (2 * t) = 2 * (2 * t * t) by grind]; omega
    · rw [ht, show (2 * t + 1) * (2 * t + 1) = 2 * (2 * t * t + 2 * t) + 1 by grind]; omega
  have := k b
  have := k h
  omega
/-- There is a common coefficient. -/
theorem common_ex {a e b0 hB : Int} (he : 1 ≤ e) (hg : Int.gcd a e = 1) (hp : b0 % 2 = hB % 2) : ∃ k1 v1, 0 ≤ k1 ∧ k1 < e ∧ 2 * e ∣ b0 + 2 * a * k1 - hB ∧ e ∣ 1 - v1 * a := by
  obtain ⟨v1, w1, h1⟩ := bez_int a e
  rw [hg] at h1
  obtain ⟨H, hH⟩ : ∃ H, hB - b0 = 2 * H := ⟨(hB - b0) / 2, by omega⟩
  have k0 := Int.emod_nonneg (H * v1) (b := e) (by omega)
  have k2 := Int.emod_lt_of_pos (H * v1) (b := e) (by omega)
  have k3 := Int.emod_add_mul_ediv (H * v1) e
  refine ⟨H * v1 % e, v1, k0, k2, ?_, ⟨w1, by have : e * w1 = w1 * e := Int.mul_comm ..; omega⟩⟩
  refine ⟨-(H * w1) - a * (H * v1 / e), ?_⟩
  have e1 : H * v1 % e = H * v1 - e * (H * v1 / e) := by omega
  generalize H * v1 / e = W at *
  have e2 : v1 * a = 1 - w1 * e := by omega
  have e3 : ∀ k, b0 + 2 * a * k - hB = 2 * (a * k - H) := by
    intro k
    have : 2 * a * k = 2 * (a * k) := Int.mul_assoc ..
    omega
  rw [e3, e1]
  have e4 : a * (H * v1 - e * W) - H = H * (v1 * a) - H - a * e * W := by grind
  rw [e4, e2]
  grind
theorem common_uni {a e b0 hB k k1 v1 : Int} (k0 : 0 ≤ k) (k2 : k < e) (k3 : 0 ≤ k1) (k4 : k1 < e) (h1 : 2 * e ∣ b0 + 2 * a * k1 - hB) (h2 : 2 * e ∣ b0 + 2 * a * k - hB) (h3 : e ∣ 1 - v1 * a) : k = k1 := by
  have d1 : 2 * e ∣ 2 * (a * (k1 - k)) := by
    obtain ⟨i, hi⟩ := h1
    obtain ⟨j, hj⟩ := h2
    refine ⟨i - j, ?_⟩
    have e1 : 2 * (a * (k1 - k)) = 2 * a * k1 - 2 * a * k := by grind
    have e2 : 2 * e * (i - j) = 2 * e * i - 2 * e * j := Int.mul_sub ..
    rw [e1, e2]
    omega
  have d2 : e ∣ a * (k1 - k) := by
    obtain ⟨i, hi⟩ := d1
    exact ⟨i, by have : 2 * e * i = 2 * (e * i) := Int.mul_assoc ..; omega⟩
  have := small_dvd (cop_canc h3 d2) (by omega) (by omega)
  omega
/-- A reduced form of the discriminant without a common divisor. -/
def PrRc (D : Int) (f : Int × Int × Int) : Prop := 1 ≤ f.1 ∧ IsRed f.1 f.2.1 f.2.2 ∧ f.2.1 * f.2.1 - 4 * f.1 * f.2.2 = D ∧ ∀ k : Int, k ∣ f.1 → k ∣ f.2.1 → k ∣ f.2.2 → k ∣ 1
theorem prr_rb {D : Int} {f : Int × Int × Int} (hD1 : -2000 ≤ D) (h : PrRc D f) : Rb f.1 f.2.1 f.2.2 ∧ f.1 ≤ 25 := by
  obtain ⟨h1, h2, h3, h4⟩ := h
  obtain ⟨⟨i1, i2⟩, i3⟩ := h2
  have hbb : f.2.1 * f.2.1 ≤ f.1 * f.1 := by
    rcases Int.le_total 0 f.2.1 with h4 | h4
    · exact Int.mul_le_mul i2 i2 h4 (by omega)
    · have : (-f.2.1) * (-f.2.1) ≤ f.1 * f.1 := Int.mul_le_mul (by omega) (by omega) (by omega) (by omega)
      have e : (-f.2.1) * (-f.2.1) = f.2.1 * f.2.1 := by grind
      omega
  have h7 : 4 * f.1 * f.1 ≤ 4 * f.1 * f.2.2 := Int.mul_le_mul_of_nonneg_left (by omega) (by omega)
  have e1 : 4 * f.1 * f.1 = 4 * (f.1 * f.1) := Int.mul_assoc ..
  have ha : f.1 ≤ 25 := by
    rcases Int.lt_or_le 25 f.1 with h8 | h8
    · have : 26 * 26 ≤ f.1 * f.1 := Int.mul_le_mul (by omega) (by omega) (by omega) (by omega)
      omega
    · exact h8
  have haa : f.1 * f.1 ≤ 25 * 25 := Int.mul_le_mul ha ha (by omega) (by omega)
  have h9 : 4 * 1 * f.2.2 ≤ 4 * f.1 * f.2.2 := Int.mul_le_mul_of_nonneg_right (by omega) (by omega)
  exact ⟨⟨h1, by omega, by omega, by omega, by omega, by omega⟩, ha⟩
end Go.Proofs.YtnheekadeflecaaGreat
namespace Go.Proofs.YtnheekadeflecaaGreat
set_option linter.unusedVariables false
set_option linter.unusedSimpArgs false

abbrev F3 := Int × Int × Int
/-- A form without a common divisor that can be reduced. -/
def CF (D : Int) (f : F3) : Prop := RedInv f.1 f.2.1 f.2.2 D 1 ∧ f.2.2 ≤ 1000000
theorem cf_of_class {f : F3} (h : r_impl_isClassForm f = some true) : CF (f.2.1 * f.2.1 - 4 * f.1 * f.2.2) f := by
  have h1 := red_of_class (a := f.1) (b := f.2.1) (c := f.2.2) h
  obtain ⟨_, _, hc, _⟩ := class_true (a := f.1) (b := f.2.1) (c := f.2.2) h
  exact ⟨h1, (inN_iff.1 hc).2⟩
theorem prc_pos {D : Int} {f : F3} (h : PrRc D f) : 0 < f.1 := by have := h.1; omega
theorem prc_disc {D : Int} {f : F3} (h : PrRc D f) : fD f = D := h.2.2.1
theorem con_one {a b c d : Int} (h : RedInv a b c d 1) (k : Int) (h1 : k ∣ a) (h2 : k ∣ b) (h3 : k ∣ c) : k ∣ 1 := (h.con k).1 ⟨h1, h2, h3⟩
/-- Reducing a class form. -/
theorem red_cf {D : Int} {f : F3} (h : CF D f) : ∃ g m1 m2 m3 m4, r_impl_reduce f = some (g, (m1, m2, m3, m4)) ∧ r_spec_reReduce f = some (g, (m1, m2, m3, m4)) ∧ PrRc D g ∧ Eqf g f ∧ MatInv f.1 f.2.1 f.2.2 m1 m2 m3 m4 g.1 g.2.1 g.2.2 ∧ m1.natAbs ≤ 2000 ∧ m2.natAbs ≤ 2000 ∧ m3.natAbs ≤ 2000 ∧ m4.natAbs ≤ 2000 ∧ CF D g := by
  obtain ⟨a, b, c⟩ := f
  obtain ⟨h1, h2⟩ := h
  have hd := h1.dis
  simp only [] at h1 h2 hd
  have h1' : RedInv a b c (b * b - 4 * a * c) 1 := by rw [hd]; exact h1
  obtain ⟨m1, m2, m3, m4, a2, b2, c2, k1, k2, k3, k4, k5, k6, k7, k8, k9⟩ := red_full h1' h2
  rw [hd] at k3
  have hp : PrRc D (a2, b2, c2) := ⟨k3.a1, k4, k3.dis, con_one k3⟩
  have e := k5
  obtain ⟨e1, e2, e3, e4⟩ := e
  refine ⟨(a2, b2, c2), m1, m2, m3, m4, k1, k2, hp, ⟨m1, m2, m3, m4, e4, ?_, ?_, ?_⟩, k5, k6, k7, k8, k9, k3, ?_⟩
  · exact e1.symm
  · exact e2.symm
  · exact e3.symm
  · show c2 ≤ 1000000
    have h3 := k3.nrm
    obtain ⟨⟨g1, g2⟩, g3⟩ := k4
    have h4 := k3.cM
    rcases h3 with h3 | h3
    · have q1 := k3.aM
      have q2 := k3.a1
      -- a reduced form's last coefficient
      rcases Int.lt_or_le 1000000 c2 with h5 | h5
      · exfalso
        have n1 : a2 * a2 ≤ a2 * c2 := Int.mul_le_mul_of_nonneg_left (by omega) (by omega)
        have hbb : b2 * b2 ≤ a2 * a2 := by
          rcases Int.le_total 0 b2 with h4 | h4
          · exact Int.mul_le_mul g2 g2 h4 (by omega)
          · have : (-b2) * (-b2) ≤ a2 * a2 := Int.mul_le_mul (by omega) (by omega) (by omega) (by omega)
            have e : (-b2) * (-b2) = b2 * b2 := by grind
            omega
        have hdd := k3.dis
        have e9 : 4 * a2 * c2 = 4 * (a2 * c2) := Int.mul_assoc ..
        have hneg := k3.neg
        -- the value at the original form's last coefficient is at least c2 or the form is not moved
        have hv : c = a2 * (-m2) * (-m2) + b2 * (-m2) * m1 + c2 * m1 * m1 := by rw [← e1, ← e2, ← e3]; grind
        have hv2 : a = a2 * m4 * m4 + b2 * m4 * (-m3) + c2 * (-m3) * (-m3) := by rw [← e1, ← e2, ← e3]; grind
        have ha2 := h1.aM
        by_cases hm : m1 = 0
        · have hm3 : m3 ≠ 0 := by
            intro h0
            rw [hm, h0] at e4
            simp at e4
          have := uq_c (x := m4) q2 (by omega) g2 (show a2 ≤ c2 by omega) (show (-m3) ≠ 0 by omega)
          omega
        · have := uq_c (x := -m2) q2 (by omega) g2 (show a2 ≤ c2 by omega) hm
          omega
      · exact h5
    · exact h3
theorem red_both_cf {D : Int} {f : F3} (h : CF D f) : ∃ g, r_impl_reduced f = some g ∧ PrRc D g ∧ Eqf g f ∧ CF D g := by
  obtain ⟨g, m1, m2, m3, m4, k1, k2, k3, k4, k5, k6, k7, k8, k9, k10⟩ := red_cf h
  exact ⟨g, by simp only [r_impl_reduced, k1, Option.bind_some], k3, k4, k10⟩
theorem cl_red {D : Int} {f g : F3} (hf : 0 < f.1) (hD : fD f = D) (h : Eqf g f) (hg : 0 < g.1) : Cl D (fL g) (fL f) := by
  have := cl_of_eqf hg hf h
  rw [hD] at this
  exact this
/-- The class knows its reduced form. -/
theorem prc_uniq {D : Int} {f g : F3} (hD : D < 0) (hf : PrRc D f) (hg : PrRc D g) (h : Cl D (fL f) (fL g)) : f = g := by
  have d1 := prc_disc hf
  have d2 := prc_disc hg
  have h' : Cl (fD g) (fL f) (fL g) := by rw [d2]; exact h
  obtain ⟨p, q, r, s, hdet, e1, e2, e3⟩ := eqf_of_cl (prc_pos hf) (prc_pos hg) (by rw [d2]; exact hD) (by rw [d1, d2]) h'
  obtain ⟨k1, k2, k3⟩ := red_uniq hg.1 hg.2.1 hf.1 hf.2.1 hdet e1 e2 e3
  exact Prod.ext k1.symm (Prod.ext k2.symm k3.symm)
theorem bez3 {a b c : Int} (h : ∀ k : Int, k ∣ a → k ∣ b → k ∣ c → k ∣ 1) : ∃ x y z : Int, x * a + y * b + z * c = 1 := by
  obtain ⟨x, y, h1⟩ := bez_int a b
  obtain ⟨u, v, h2⟩ := bez_int (Int.gcd a b) c
  have h3 : ((Int.gcd (Int.gcd a b) c : Nat) : Int) ∣ 1 := by
    refine h _ ?_ ?_ ?_
    · exact Int.dvd_trans (Int.gcd_dvd_left _ _) (Int.gcd_dvd_left _ _)
    · exact Int.dvd_trans (Int.gcd_dvd_left _ _) (Int.gcd_dvd_right _ _)
    · exact Int.gcd_dvd_right _ _
  have h4 : ((Int.gcd (Int.gcd a b) c : Nat) : Int) = 1 := Int.eq_one_of_dvd_one (by omega) h3
  refine ⟨u * x, u * y, v, ?_⟩
  rw [← h4, ← h2, ← h1]
  grind
theorem prim_eqf {f g : F3} (h : Eqf f g) (hg : ∀ k : Int, k ∣ g.1 → k ∣ g.2.1 → k ∣ g.2.2 → k ∣ 1) (k : Int) (h1 : k ∣ f.1) (h2 : k ∣ f.2.1) (h3 : k ∣ f.2.2) : k ∣ 1 := by
  obtain ⟨p, q, r, s, hdet, e1, e2, e3⟩ := h
  obtain ⟨x, hx⟩ := h1
  obtain ⟨y, hy⟩ := h2
  obtain ⟨z, hz⟩ := h3
  have back : ∀ A B C : Int, (A * p * p + B * p * r + C * r * r) * s * s - (2 * A * p * q + B * (p * s + q * r) + 2 * C * r * s) * s * r + (A * q * q + B * q * s + C * s * s) * r * r = A * ((p * s - q * r) * (p * s - q * r)) := by intro A B C; grind
  have back2 : ∀ A B C : Int, (A * p * p + B * p * r + C * r * r) * q * q - (2 * A * p * q + B * (p * s + q * r) + 2 * C * r * s) * p * q + (A * q * q + B * q * s + C * s * s) * p * p = C * ((p * s - q * r) * (p * s - q * r)) := by intro A B C; grind
  have back3 : ∀ A B C : Int, (2 * A * p * q + B * (p * s + q * r) + 2 * C * r * s) * (p * s + q * r) - 2 * (A * p * p + B * p * r + C * r * r) * q * s - 2 * (A * q * q + B * q * s + C * s * s) * p * r = B * ((p * s - q * r) * (p * s - q * r)) := by intro A B C; grind
  have b1 := back g.1 g.2.1 g.2.2
  have b2 := back2 g.1 g.2.1 g.2.2
  have b3 := back3 g.1 g.2.1 g.2.2
  rw [← e1, ← e2, ← e3, hdet, hx, hy, hz] at b1 b2 b3
  refine hg k ⟨x * s * s - y * s * r + z * r * r, ?_⟩ ⟨y * (p * s + q * r) - 2 * x * q * s - 2 * z * p * r, ?_⟩ ⟨x * q * q - y * p * q + z * p * p, ?_⟩
  · have : k * x * s * s - k * y * s * r + k * z * r * r = k * (x * s * s - y * s * r + z * r * r) := by grind
    omega
  · have : k * y * (p * s + q * r) - 2 * (k * x) * q * s - 2 * (k * z) * p * r = k * (y * (p * s + q * r) - 2 * x * q * s - 2 * z * p * r) := by grind
    omega
  · have : k * x * q * q - k * y * p * q + k * z * p * p = k * (x * q * q - y * p * q + z * p * p) := by grind
    omega
/-- The composite of united forms has no common divisor. -/
theorem uni_prim {a e b c : Int} (h1 : ∃ x y z : Int, x * a + y * b + z * (e * c) = 1) (h2 : ∃ x y z : Int, x * e + y * b + z * (a * c) = 1) (k : Int) (k1 : k ∣ a * e) (k2 : k ∣ b) (k3 : k ∣ c) : k ∣ 1 := by
  obtain ⟨x, y, z, h1⟩ := h1
  obtain ⟨x', y', z', h2⟩ := h2
  obtain ⟨i, hi⟩ := k1
  obtain ⟨j, hj⟩ := k2
  obtain ⟨l, hl⟩ := k3
  have h3 : (x * a + y * b + z * (e * c)) * (x' * e + y' * b + z' * (a * c)) = 1 := by rw [h1, h2]; rfl
  refine ⟨x * x' * i + j * (x * a * y' + y * (x' * e + y' * b + z' * (a * c)) + z * (e * c) * y') + l * (x * a * (z' * a) + z * e * (x' * e) + z * e * (z' * (a * c))), ?_⟩
  rw [← h3]
  have e1 : k * (x * x' * i + j * (x * a * y' + y * (x' * e + y' * b + z' * (a * c)) + z * (e * c) * y') + l * (x * a * (z' * a) + z * e * (x' * e) + z * e * (z' * (a * c)))) = x * x' * (k * i) + (k * j) * (x * a * y' + y * (x' * e + y' * b + z' * (a * c)) + z * (e * c) * y') + (k * l) * (x * a * (z' * a) + z * e * (x' * e) + z * e * (z' * (a * c))) := by grind
  rw [e1, ← hi, ← hj, ← hl]
  grind
end Go.Proofs.YtnheekadeflecaaGreat
namespace Go.Proofs.YtnheekadeflecaaGreat
set_option linter.unusedVariables false
set_option linter.unusedSimpArgs false

theorem four_canc {a x y : Int} (ha : 1 ≤ a) (h : 4 * a * x = 4 * a * y) : x = y := Int.eq_of_mul_eq_mul_left (by omega) h
theorem uni_f {a b c e c1 b1 α D : Int} (ha : 1 ≤ a) (hd : b * b - 4 * a * c = D) (bα : b1 = b + 2 * a * α) (dis : b1 * b1 - 4 * a * e * c1 = D) : e * c1 = a * α * α + b * α + c := by
  refine four_canc ha ?_
  have e1 : 4 * a * (a * α * α + b * α + c) = b1 * b1 - (b * b - 4 * a * c) := by rw [bα]; grind
  have e2 : 4 * a * (e * c1) = 4 * a * e * c1 := by grind
  rw [e1, hd, e2]; omega
theorem uni_eqf1 {a b c e c1 b1 α D : Int} (ha : 1 ≤ a) (hd : b * b - 4 * a * c = D) (bα : b1 = b + 2 * a * α) (dis : b1 * b1 - 4 * a * e * c1 = D) : Eqf (a, b1, e * c1) (a, b, c) := by
  refine ⟨1, α, 0, 1, by omega, ?_, ?_, ?_⟩
  · simp only []; omega
  · simp only []; rw [bα]; grind
  · simp only []; rw [uni_f ha hd bα dis]; grind
theorem uni_eqf2 {a e c1 b1 β D A B C x q y s hB hC : Int} (he : 1 ≤ e) (mh : MatInv A B C x q y s e hB hC) (hd : B * B - 4 * A * C = D) (bβ : b1 = hB + 2 * e * β) (dis : b1 * b1 - 4 * a * e * c1 = D) : Eqf (e, b1, a * c1) (A, B, C) ∧ MatInv A B C x (x * β + q) y (y * β + s) e b1 (a * c1) := by
  have hd2 : hB * hB - 4 * e * hC = D := by rw [cmp_dis mh, hd]
  have hf := uni_f (e := a) (c1 := c1) he hd2 bβ (by rw [← dis]; grind)
  have m := mh.norm β
  rw [← hf, show 2 * e * β + hB = b1 by omega] at m
  obtain ⟨e1, e2, e3, e4⟩ := m
  exact ⟨⟨x, x * β + q, y, y * β + s, e4, e1.symm, e2.symm, e3.symm⟩, e1, e2, e3, e4⟩
end Go.Proofs.YtnheekadeflecaaGreat
