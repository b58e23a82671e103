/-
  United forms of two reduced forms, both ways.
  Conditions: none.
-/
import Derived.Test.YtafomkclmkfjeaaGreatNbCoA
import Derived.Test.YtafomkclmkfjeaaGreatNbIdA
import Derived.Test.YtafomkclmkfjeaaGreatNbUq
namespace Go.Proofs.YtafomkclmkfjeaaGreat
set_option linter.unusedVariables false
set_option linter.unusedSimpArgs false

/-- The loop for the common second coefficient. -/
theorem unite_run {a b c e hB hC : Int} {mm : Int × Int × Int × Int} {b0 k1 : Int} (ha : 1 ≤ a) (ha2 : a ≤ 26) (he : 1 ≤ e) (he2 : e ≤ 10000) (hb0 : 0 ≤ b0) (hb02 : b0 < 2 * a) (hB0 : 0 ≤ hB) (hB2 : hB < 2 * e) (hk1 : k1 < e) (hd : 2 * e ∣ b0 + 2 * a * k1 - hB) : ∀ (n : Nat) (k : Int), 0 ≤ k → k ≤ k1 → (k1 - k).toNat < n →
    ∃ k2, r_impl_unite_L7 (a, b, c) ((e, hB, hC), mm) n (b0 + 2 * a * k) = some (b0 + 2 * a * k2) ∧ k ≤ k2 ∧ k2 ≤ k1 ∧ 2 * e ∣ b0 + 2 * a * k2 - hB
  | 0, k, h0, h1, hn => by omega
  | n + 1, k, h0, h1, hn => by
    have m1 : (2 * a * k).natAbs ≤ 2 * 26 * 10000 := abs_mul (abs_mul (by omega) (by omega)) (by omega)
    rw [r_impl_unite_L7]
    simp only []
    rw [w64_in (n := b0 + 2 * a * k - hB) (by omega), w64_in (n := 2 * e) (by omega), dsc_mod_val (by omega) (by omega)]
    simp only [Option.bind_some]
    by_cases hz : (b0 + 2 * a * k - hB) % (2 * e) = 0
    · rw [hz, eqI_true]
      exact ⟨k, rfl, Int.le_refl _, h1, Int.dvd_of_emod_eq_zero hz⟩
    · rw [eqI_false hz]
      simp only [Bool.not_false, cond_true, sI_eq]
      have hne : k ≠ k1 := by
        intro e
        rw [e] at hz
        exact hz (Int.emod_eq_zero_of_dvd hd)
      have e1 : b0 + 2 * a * k + 2 * a = b0 + 2 * a * (k + 1) := by rw [Int.mul_add]; omega
      rw [w64_in (n := 2 * a) (by omega), w64_in (n := b0 + 2 * a * k + 2 * a) (by omega), e1]
      obtain ⟨k2, j1, j2, j3, j4⟩ := unite_run ha ha2 he he2 hb0 hb02 hB0 hB2 hk1 hd n (k + 1) (by omega) (by omega) (by omega)
      exact ⟨k2, j1, by omega, j3, j4⟩
/-- Combinations that are the common divisor. -/
theorem bez_nat : ∀ (a b : Nat), ∃ x y : Int, x * a + y * b = (Nat.gcd a b : Int) := by
  intro a b
  induction a, b using Nat.gcd.induction with
  | H0 n => exact ⟨0, 1, by simp⟩
  | H1 m n hm ih =>
    obtain ⟨x, y, h⟩ := ih
    refine ⟨y - x * (n / m : Nat), x, ?_⟩
    rw [Nat.gcd_rec, ← h]
    have e : (n : Int) = (n % m : Nat) + m * (n / m : Nat) := by exact_mod_cast (Nat.mod_add_div n m).symm
    rw [e]
    grind
theorem bez_int (a b : Int) : ∃ x y : Int, x * a + y * b = (Int.gcd a b : Int) := by
  obtain ⟨x, y, h⟩ := bez_nat a.natAbs b.natAbs
  have sg : ∀ z : Int, ∃ t : Int, (z.natAbs : Int) = t * z := by
    intro z
    rcases Int.le_total 0 z with h | h
    · exact ⟨1, by omega⟩
    · exact ⟨-1, by omega⟩
  obtain ⟨s, hs⟩ := sg a
  obtain ⟨t, ht⟩ := sg b
  refine ⟨x * s, y * t, ?_⟩
  rw [hs, ht] at h
  rw [show Int.gcd a b = Nat.gcd a.natAbs b.natAbs from rfl, ← h]
  grind
/-- Coprime to the modulus: cancelled. -/
theorem cop_canc {a e v x : Int} (hi : e ∣ 1 - v * a) (h : e ∣ a * x) : e ∣ x := by
  obtain ⟨i, hi⟩ := hi
  obtain ⟨j, hj⟩ := h
  exact ⟨i * x + v * j, by grind⟩
theorem small_dvd {e x : Int} (h : e ∣ x) (h1 : -e < x) (h2 : x < e) : x = 0 := by
  have h3 : e.natAbs ∣ x.natAbs := Int.natAbs_dvd_natAbs.2 h
  rcases Nat.eq_zero_or_pos x.natAbs with h4 | h4
  · omega
  · have := Nat.le_of_dvd h4 h3
    omega
/-- What united forms are made of. -/
structure Uni (a b c A B C D x y q s e hB hC b1 c1 α β : Int) : Prop where
  mh : MatInv A B C x q y s e hB hC
  e1 : 1 ≤ e
  e2 : e ≤ 10000
  t : ∃ u v : Int, u * a + v * e = 1
  bα : b1 = b + 2 * a * α
  bβ : b1 = hB + 2 * e * β
  b0 : 0 ≤ b1
  b2 : b1 < 2 * a * e
  dis : b1 * b1 - 4 * a * e * c1 = D
  qb : q.natAbs ≤ 100000
  sb : s.natAbs ≤ 100000
  xy : 0 ≤ x ∧ x ≤ 3 ∧ 0 ≤ y ∧ y ≤ 3
theorem uni_c {a b c D e hB hC b1 α β : Int} (hd : b * b - 4 * a * c = D) (hh : hB * hB - 4 * e * hC = D) {u v : Int} (huv : u * a + v * e = 1) (bα : b1 = b + 2 * a * α) (bβ : b1 = hB + 2 * e * β) : b1 * b1 - 4 * a * e * (u * (hC + hB * β + e * β * β) + v * (c + b * α + a * α * α)) = D := by
  have f1 : b1 * b1 - D = 4 * a * (c + b * α + a * α * α) := by rw [bα, ← hd]; grind
  have f2 : b1 * b1 - D = 4 * e * (hC + hB * β + e * β * β) := by rw [bβ, ← hh]; grind
  generalize hC + hB * β + e * β * β = X at *
  generalize c + b * α + a * α * α = Y at *
  have f3 : (b1 * b1 - D) * 1 = 4 * a * e * (u * X + v * Y) := by
    rw [← huv]
    have : (b1 * b1 - D) * (u * a + v * e) = u * a * (b1 * b1 - D) + v * e * (b1 * b1 - D) := by grind
    rw [this]
    rw [show u * a * (b1 * b1 - D) = u * a * (4 * e * X) by rw [f2], show v * e * (b1 * b1 - D) = v * e * (4 * a * Y) by rw [f1]]
    grind
  omega
theorem uni_c1 {a e b1 c1 D : Int} (ha : 1 ≤ a) (he : 1 ≤ e) (b0 : 0 ≤ b1) (b2 : b1 < 2 * a * e) (hD1 : -2000 ≤ D) (hD2 : D < 0) (dis : b1 * b1 - 4 * a * e * c1 = D) : 1 ≤ c1 ∧ c1 ≤ a * e + 500 := by
  have hae : 1 * 1 ≤ a * e := Int.mul_le_mul ha he (by omega) (by omega)
  have e1 : 2 * a * e = 2 * (a * e) := Int.mul_assoc ..
  have e2 : 4 * a * e * c1 = 4 * (a * e * c1) := by grind
  generalize a * e = m at *
  have hbb : 0 ≤ b1 * b1 := Int.mul_nonneg b0 b0
  have hbb2 : b1 * b1 ≤ 2 * m * (2 * m) := Int.mul_le_mul (by omega) (by omega) b0 (by omega)
  have e3 : 2 * m * (2 * m) = 4 * (m * m) := by grind
  constructor
  · rcases Int.lt_or_le 0 c1 with h | h
    · exact h
    · have : m * c1 ≤ m * 0 := Int.mul_le_mul_of_nonneg_left h (by omega)
      omega
  · rcases Int.lt_or_le (m + 500) c1 with h | h
    · have k1 : m * (m + 501) ≤ m * c1 := Int.mul_le_mul_of_nonneg_left (by omega) (by omega)
      have k2 : m * (m + 501) = m * m + 501 * m := by grind
      omega
    · exact h
end Go.Proofs.YtafomkclmkfjeaaGreat
namespace Go.Proofs.YtafomkclmkfjeaaGreat
set_option linter.unusedVariables false
set_option linter.unusedSimpArgs false

theorem par_eq {b h D m n : Int} (h1 : b * b - 4 * m = D) (h2 : h * h - 4 * n = D) : b % 2 = h % 2 := by
  have k : ∀ z : Int, (z * z) % 2 = z % 2 := by
    intro z
    obtain ⟨t, ht | ht⟩ : ∃ t, z = 2 * t ∨ z = 2 * t + 1 := ⟨z / 2, by omega⟩
    · rw [ht, show 2 * t * (2 * t) = 2 * (2 * t * t) by grind]; omega
    · rw [ht, show (2 * t + 1) * (2 * t + 1) = 2 * (2 * t * t + 2 * t) + 1 by grind]; omega
  have := k b
  have := k h
  omega
/-- There is a common coefficient. -/
theorem common_ex {a e b0 hB : Int} (he : 1 ≤ e) (hg : Int.gcd a e = 1) (hp : b0 % 2 = hB % 2) : ∃ k1 v1, 0 ≤ k1 ∧ k1 < e ∧ 2 * e ∣ b0 + 2 * a * k1 - hB ∧ e ∣ 1 - v1 * a := by
  obtain ⟨v1, w1, h1⟩ := bez_int a e
  rw [hg] at h1
  obtain ⟨H, hH⟩ : ∃ H, hB - b0 = 2 * H := ⟨(hB - b0) / 2, by omega⟩
  have k0 := Int.emod_nonneg (H * v1) (b := e) (by omega)
  have k2 := Int.emod_lt_of_pos (H * v1) (b := e) (by omega)
  have k3 := Int.emod_add_mul_ediv (H * v1) e
  refine ⟨H * v1 % e, v1, k0, k2, ?_, ⟨w1, by have : e * w1 = w1 * e := Int.mul_comm ..; omega⟩⟩
  refine ⟨-(H * w1) - a * (H * v1 / e), ?_⟩
  have e1 : H * v1 % e = H * v1 - e * (H * v1 / e) := by omega
  generalize H * v1 / e = W at *
  have e2 : v1 * a = 1 - w1 * e := by omega
  have e3 : ∀ k, b0 + 2 * a * k - hB = 2 * (a * k - H) := by
    intro k
    have : 2 * a * k = 2 * (a * k) := Int.mul_assoc ..
    omega
  rw [e3, e1]
  have e4 : a * (H * v1 - e * W) - H = H * (v1 * a) - H - a * e * W := by grind
  rw [e4, e2]
  grind
theorem common_uni {a e b0 hB k k1 v1 : Int} (k0 : 0 ≤ k) (k2 : k < e) (k3 : 0 ≤ k1) (k4 : k1 < e) (h1 : 2 * e ∣ b0 + 2 * a * k1 - hB) (h2 : 2 * e ∣ b0 + 2 * a * k - hB) (h3 : e ∣ 1 - v1 * a) : k = k1 := by
  have d1 : 2 * e ∣ 2 * (a * (k1 - k)) := by
    obtain ⟨i, hi⟩ := h1
    obtain ⟨j, hj⟩ := h2
    refine ⟨i - j, ?_⟩
    have e1 : 2 * (a * (k1 - k)) = 2 * a * k1 - 2 * a * k := by grind
    have e2 : 2 * e * (i - j) = 2 * e * i - 2 * e * j := Int.mul_sub ..
    rw [e1, e2]
    omega
  have d2 : e ∣ a * (k1 - k) := by
    obtain ⟨i, hi⟩ := d1
    exact ⟨i, by have : 2 * e * i = 2 * (e * i) := Int.mul_assoc ..; omega⟩
  have := small_dvd (cop_canc h3 d2) (by omega) (by omega)
  omega
/-- The common coefficient, as the reference works it out. -/
theorem common_val {a e b0 hB : Int} (ha : 1 ≤ a) (ha2 : a ≤ 26) (he : 1 ≤ e) (he2 : e ≤ 10000) (hg : Int.gcd a e = 1) (hb0 : 0 ≤ b0) (hb02 : b0 < 2 * a) (hB0 : 0 ≤ hB) (hB2 : hB < 2 * e) (hp : b0 % 2 = hB % 2) :
    ∃ k1 z v1, r_spec_nuCommon b0 (2 * a) hB (2 * e) = some (b0 + 2 * a * k1, z, true) ∧ 0 ≤ k1 ∧ k1 < e ∧ 2 * e ∣ b0 + 2 * a * k1 - hB ∧ e ∣ 1 - v1 * a := by
  have hc : ∀ c : Int, c ∣ e → c ∣ a → c ∣ 1 := by
    intro c h1 h2
    have := Int.dvd_coe_gcd h2 h1
    rw [hg] at this
    exact this
  obtain ⟨v1, j1, j2, j3, j4⟩ := inv_val (n := e) (m := a) he (by omega) (by omega) hc
  obtain ⟨H, hH⟩ : ∃ H, hB - b0 = 2 * H := ⟨(hB - b0) / 2, by omega⟩
  have k0 := Int.emod_nonneg (H * v1) (b := e) (by omega)
  have k2 := Int.emod_lt_of_pos (H * v1) (b := e) (by omega)
  have k3 := Int.emod_add_mul_ediv (H * v1) e
  have m1 : (H * v1).natAbs ≤ 10000 * 10000 := abs_mul (by omega) (by omega)
  generalize hk : H * v1 % e = k1 at *
  have m2 : (2 * a * k1).natAbs ≤ 2 * 26 * 10000 := abs_mul (abs_mul (by omega) (by omega)) (by omega)
  have hdiv : 2 * e ∣ b0 + 2 * a * k1 - hB := by
    obtain ⟨w, hw⟩ := j2
    refine ⟨-(H * w) - a * (H * v1 / e), ?_⟩
    have e1 : k1 = H * v1 - e * (H * v1 / e) := by omega
    generalize H * v1 / e = W at *
    have e2 : v1 * a = 1 - e * w := by omega
    have e3 : b0 + 2 * a * k1 - hB = 2 * (a * k1 - H) := by
      have : 2 * a * k1 = 2 * (a * k1) := Int.mul_assoc ..
      omega
    rw [e3, e1]
    have e4 : a * (H * v1 - e * W) - H = H * (v1 * a) - H - a * e * W := by grind
    rw [e4, e2]
    grind
  have hak : 2 * a * k1 ≤ 2 * a * (e - 1) := Int.mul_le_mul_of_nonneg_left (by omega) (by omega)
  have hak0 : 0 ≤ 2 * a * k1 := Int.mul_nonneg (by omega) k0
  have hae : (a * (2 * e)).natAbs ≤ 26 * 20000 := abs_mul (by omega) (by omega)
  have hae1 : 2 * a * (e - 1) = a * (2 * e) - 2 * a := by grind
  have hae2 : 1 * 2 ≤ a * (2 * e) := Int.mul_le_mul ha (by omega) (by omega) (by omega)
  have hgg : Int.gcd (2 * a) (2 * e) = 2 := by rw [Int.gcd_mul_left, hg]; rfl
  refine ⟨k1, a * (2 * e), v1, ?_, k0, k2, hdiv, j2⟩
  unfold r_spec_nuCommon
  rw [sgcd_val (by omega) (by omega), hgg]
  simp only [Option.bind_some]
  rw [show ((2 : Nat) : Int) = 2 from rfl, nz_ne (show (2 : Int) ≠ 0 by decide), w64_in (n := hB - b0) (by omega), tz (by decide), decide_eq_true (show (2 : Int) ∣ hB - b0 from ⟨H, hH⟩)]
  simp only [Option.bind_some, Bool.not_true, cond_false]
  rw [tdv (a := 2 * a) (c := a) (by decide) rfl, tdv (a := 2 * e) (c := e) (by decide) rfl, w64_in (n := a) (by omega), w64_in (n := e) (by omega), j1]
  simp only [Option.bind_some]
  rw [tdv (a := hB - b0) (c := H) (by decide) hH.symm, w64_in (n := H) (by omega), w64_in (n := H * v1) (by omega), dsc_mod, dsc_mod_val he (by omega), hk]
  simp only [Option.bind_some, sI_eq]
  rw [w64_in (n := a * (2 * e)) (by omega), w64_in (n := 2 * a * k1) (by omega), w64_in (n := b0 + 2 * a * k1) (by omega), dsc_mod, dsc_mod_val (by omega) (by omega), Int.emod_eq_of_lt (by omega) (by omega)]
  rfl
/-- A reduced form of the discriminant without a common divisor. -/
def PrRc (D : Int) (f : Int × Int × Int) : Prop := 1 ≤ f.1 ∧ IsRed f.1 f.2.1 f.2.2 ∧ f.2.1 * f.2.1 - 4 * f.1 * f.2.2 = D ∧ ∀ k : Int, k ∣ f.1 → k ∣ f.2.1 → k ∣ f.2.2 → k ∣ 1
theorem prr_rb {D : Int} {f : Int × Int × Int} (hD1 : -2000 ≤ D) (h : PrRc D f) : Rb f.1 f.2.1 f.2.2 ∧ f.1 ≤ 25 := by
  obtain ⟨h1, h2, h3, h4⟩ := h
  obtain ⟨⟨i1, i2⟩, i3⟩ := h2
  have hbb : f.2.1 * f.2.1 ≤ f.1 * f.1 := by
    rcases Int.le_total 0 f.2.1 with h4 | h4
    · exact Int.mul_le_mul i2 i2 h4 (by omega)
    · have : (-f.2.1) * (-f.2.1) ≤ f.1 * f.1 := Int.mul_le_mul (by omega) (by omega) (by omega) (by omega)
      have e : (-f.2.1) * (-f.2.1) = f.2.1 * f.2.1 := by grind
      omega
  have h7 : 4 * f.1 * f.1 ≤ 4 * f.1 * f.2.2 := Int.mul_le_mul_of_nonneg_left (by omega) (by omega)
  have e1 : 4 * f.1 * f.1 = 4 * (f.1 * f.1) := Int.mul_assoc ..
  have ha : f.1 ≤ 25 := by
    rcases Int.lt_or_le 25 f.1 with h8 | h8
    · have : 26 * 26 ≤ f.1 * f.1 := Int.mul_le_mul (by omega) (by omega) (by omega) (by omega)
      omega
    · exact h8
  have haa : f.1 * f.1 ≤ 25 * 25 := Int.mul_le_mul ha ha (by omega) (by omega)
  have h9 : 4 * 1 * f.2.2 ≤ 4 * f.1 * f.2.2 := Int.mul_le_mul_of_nonneg_right (by omega) (by omega)
  exact ⟨⟨h1, by omega, by omega, by omega, by omega, by omega⟩, ha⟩
theorem unite_spec {D a b c A B C x y q s e hB hC b0 b1 z cc α β : Int} (ha : 1 ≤ a) (ra : a ≤ 25) (rb : b.natAbs ≤ 26) (hv1 : 1 ≤ e) (v2 : e ≤ 10000) (hD1 : -2000 ≤ D) (hD2 : D < 0) (f3 : b * b - 4 * a * c = D) (p2 : r_spec_coPoint (A, B, C) a = some (x, y)) (c2 : r_spec_vaComplete (A, B, C) x y = some ((e, hB, hC), (x, q, y, s))) (hb0 : b % (2 * a) = b0) (k2 : r_spec_nuCommon b0 (2 * a) hB (2 * e) = some (b1, z, true)) (eα : 2 * a * α = b1 - b) (eβ : 2 * e * β = b1 - hB) (hB0 : hB.natAbs ≤ 30000) (hb1 : b1.natAbs ≤ 520000) (hbb : (b1 * b1).natAbs ≤ 270400000000) (e5 : 4 * a * e * cc = b1 * b1 - D) (hbα : α.natAbs ≤ 1000000) (hbβ : β.natAbs ≤ 1000000) (hcc : cc.natAbs ≤ 300000) (h4 : 1 ≤ 4 * a * e) (h42 : 4 * a * e ≤ 1040000) {f0 g0 : Int × Int × Int} {mf mg : Int × Int × Int × Int} (h1 : r_spec_reReduce f0 = some ((a, b, c), mf)) (h2 : r_spec_reReduce g0 = some ((A, B, C), mg)) : r_spec_coUnite f0 g0 = (r_spec_foMul mg (x, q, y, s)).bind fun N1 => (r_spec_foMul mf (1, α, 0, 1)).bind fun M => (r_spec_foMul N1 (1, β, 0, 1)).bind fun N => some ((a, b1, e * cc), (e, b1, a * cc), M, N) := by
  unfold r_spec_coUnite
  rw [h1, Option.bind_some, h2, Option.bind_some]
  simp only []
  rw [p2, Option.bind_some]
  simp only []
  rw [c2, Option.bind_some]
  simp only []
  cases hN1 : r_spec_foMul mg (x, q, y, s) with
  | none => rfl
  | some N1 =>
    simp only [Option.bind_some]
    have m3 : (e * cc).natAbs ≤ 10000 * 300000 := abs_mul (by omega) (by omega)
    have m4 : (a * cc).natAbs ≤ 26 * 300000 := abs_mul (by omega) (by omega)
    rw [w64_in (n := 2 * a) (by omega), dsc_mod, dsc_mod_val (by omega) (by omega), hb0, Option.bind_some, w64_in (n := 2 * e) (by omega), k2, Option.bind_some, nz_ne (show 2 * a ≠ 0 by omega), Option.bind_some]
    simp only [r_spec_coShift, Option.bind_some]
    rw [w64_in (n := b1 - b) (by omega), tdv (b := 2 * a) (by omega) eα, w64_in (n := α) (by omega)]
    cases hM : r_spec_foMul mf (1, α, 0, 1) with
    | none => rfl
    | some M =>
      simp only [Option.bind_some]
      rw [nz_ne (show 2 * e ≠ 0 by omega), Option.bind_some, w64_in (n := b1 - hB) (by omega), tdv (b := 2 * e) (by omega) eβ, w64_in (n := β) (by omega)]
      cases hN : r_spec_foMul N1 (1, β, 0, 1) with
      | none => rfl
      | some N =>
        simp only [Option.bind_some, sI_eq]
        rw [disc_eq, disc_w, f3, w64_in (n := D) (by omega), Option.bind_some, w64_in (n := 4 * a) (by omega), w64_in (n := 4 * a * e) (by omega), nz_ne (show 4 * a * e ≠ 0 by omega), Option.bind_some, w64_in (n := b1 * b1) (by omega), w64_in (n := b1 * b1 - D) (by omega), tdv (b := 4 * a * e) (by omega) e5, w64_in (n := cc) (by omega), w64_in (n := a * cc) (by omega), w64_in (n := e * cc) (by omega)]
theorem unite_impl {D : Int} {a b c A B C : Int} (hD1 : -2000 ≤ D) (hD2 : D < 0) (hf : PrRc D (a, b, c)) (hg : PrRc D (A, B, C)) :
    ∃ x y q s e hB hC b1 c1 α β, Uni a b c A B C D x y q s e hB hC b1 c1 α β ∧ r_impl_unite (a, b, c) (A, B, C) = (r_impl_Matrix_times (x, q, y, s) (1, β, 0, 1)).bind (fun N => some (a, e, b1, c1, (1, α, 0, 1), N)) ∧ r_spec_coPoint (A, B, C) a = some (x, y) ∧ r_spec_vaComplete (A, B, C) x y = some ((e, hB, hC), (x, q, y, s)) ∧ (0 ≤ hB ∧ hB < 2 * e ∧ hB.natAbs ≤ 30000) ∧ α.natAbs ≤ 1000000 ∧ β.natAbs ≤ 1000000 ∧ Int.gcd a e = 1 := by
  have hF := FUge
  obtain ⟨rf, ra⟩ := prr_rb hD1 hf
  obtain ⟨rg, rA⟩ := prr_rb hD1 hg
  obtain ⟨f1, f2, f3, f4⟩ := hf
  obtain ⟨g1, g2, g3, g4⟩ := hg
  simp only [] at rf ra rg rA f1 f2 f3 f4 g1 g2 g3 g4
  obtain ⟨⟨x, y⟩, p1, p2, p3, p4⟩ := point_both rg f1 ra g4
  simp only [] at p3 p4
  have hxy : x ≠ 0 ∨ y ≠ 0 := by
    simp only [ptL, List.mem_cons, Prod.mk.injEq, List.not_mem_nil, or_false] at p3
    omega
  obtain ⟨⟨u1, u2⟩, u3⟩ := g2
  have hv1 : 1 ≤ Vl A B C x y := by
    have := uq_a g1 (show -A ≤ B by omega) u2 (show A ≤ C by omega) hxy
    unfold Vl
    omega
  obtain ⟨q, s, hB, hC, c1, c2, em, t1, t2, v2, qb, sb, x1, x2, y1, y2⟩ := complete_both rg g3 hD1 (by omega) p3 rfl hv1
  generalize he : Vl A B C x y = e at *
  have hh : hB * hB - 4 * e * hC = D := by rw [cmp_dis em, g3]
  have b0a := Int.emod_nonneg b (b := 2 * a) (by omega)
  have b0b := Int.emod_lt_of_pos b (b := 2 * a) (by omega)
  have b0c := Int.emod_add_mul_ediv b (2 * a)
  have hpar := par_eq (b := b) (h := hB) (D := D) (m := a * c) (n := e * hC) (by rw [← f3]; grind) (by rw [← hh]; grind)
  generalize hb0 : b % (2 * a) = b0 at *
  have hpar0 : b0 % 2 = hB % 2 := by
    have : 2 * a * (b / (2 * a)) = 2 * (a * (b / (2 * a))) := Int.mul_assoc ..
    omega
  have hga : Int.gcd a e = 1 := by rw [Int.gcd_comm]; exact p4
  obtain ⟨k1, v1, k3, k4, k5, k6⟩ := common_ex (a := a) (e := e) hv1 hga hpar0
  obtain ⟨k, l1, l2, l3, l4⟩ := unite_run (c := c) (b := b) (hC := hC) (mm := (x, q, y, s)) f1 (by omega) hv1 v2 b0a b0b t1 t2 k4 k5 FU 0 (by omega) k3 (by omega)
  have hk : k = k1 := common_uni l2 (by omega) k3 k4 k5 l4 k6
  subst hk
  generalize hb1 : b0 + 2 * a * k = b1 at *
  obtain ⟨β, hβ⟩ := k5
  have hα : b1 = b + 2 * a * (k - b / (2 * a)) := by rw [Int.mul_sub]; omega
  generalize k - b / (2 * a) = α at *
  have hβ' : b1 = hB + 2 * e * β := by omega
  have hak : 2 * a * k ≤ 2 * a * (e - 1) := Int.mul_le_mul_of_nonneg_left (by omega) (by omega)
  have hak0 : 0 ≤ 2 * a * k := Int.mul_nonneg (by omega) k3
  have hae : (2 * a * e).natAbs ≤ 2 * 26 * 10000 := abs_mul (abs_mul (by omega) (by omega)) (by omega)
  have hae1 : 2 * a * (e - 1) = 2 * a * e - 2 * a := by grind
  have b1lt : b1 < 2 * a * e := by omega
  have b1ge : 0 ≤ b1 := by omega
  obtain ⟨w, hw⟩ := k6
  have huv : v1 * a + w * e = 1 := by have : w * e = e * w := Int.mul_comm ..; omega
  have dis := uni_c (b1 := b1) f3 hh huv hα hβ'
  generalize hc1 : v1 * (hC + hB * β + e * β * β) + w * (c + b * α + a * α * α) = cc at *
  obtain ⟨cc1, cc2⟩ := uni_c1 f1 hv1 b1ge b1lt hD1 hD2 dis
  have hm1 : a * e ≤ 25 * 10000 := Int.mul_le_mul ra v2 (by omega) (by omega)
  have hm0 : 1 * 1 ≤ a * e := Int.mul_le_mul f1 hv1 (by omega) (by omega)
  have hbb : b1 * b1 ≤ 520000 * 520000 := Int.mul_le_mul (by omega) (by omega) b1ge (by omega)
  have hbb0 : 0 ≤ b1 * b1 := Int.mul_nonneg b1ge b1ge
  have hbα : α.natAbs ≤ 1000000 := by
    rcases Int.lt_or_le 1000000 α with h | h
    · have : 2 * a * 1000001 ≤ 2 * a * α := Int.mul_le_mul_of_nonneg_left (by omega) (by omega)
      have := rf.b1; omega
    · rcases Int.lt_or_le α (-1000000) with h' | h'
      · have : 2 * a * α ≤ 2 * a * (-1000001) := Int.mul_le_mul_of_nonneg_left (by omega) (by omega)
        have := rf.b2; omega
      · omega
  have hbβ : β.natAbs ≤ 1000000 := by
    rcases Int.lt_or_le 1000000 β with h | h
    · have : 2 * e * 1000001 ≤ 2 * e * β := Int.mul_le_mul_of_nonneg_left (by omega) (by omega)
      omega
    · rcases Int.lt_or_le β (-1000000) with h' | h'
      · have : 2 * e * β ≤ 2 * e * (-1000001) := Int.mul_le_mul_of_nonneg_left (by omega) (by omega)
        omega
      · omega
  have e4 : 4 * a * e = 2 * (2 * a * e) := by grind
  have e5 : 4 * a * e * cc = b1 * b1 - D := by omega
  have eα : 2 * a * α = b1 - b := by omega
  have eβ : 2 * e * β = b1 - hB := by omega
  have rb1 := rf.b1
  have rb2 := rf.b2
  refine ⟨x, y, q, s, e, hB, hC, b1, cc, α, β, ⟨em, hv1, v2, ⟨v1, w, huv⟩, hα, hβ', b1ge, b1lt, dis, qb, sb, x1, x2, y1, y2⟩, ?_, p2, c2, ⟨t1, t2, by omega⟩, hbα, hbβ, hga⟩
  · unfold r_impl_unite
    simp only []
    rw [p1, Option.bind_some]
    simp only []
    rw [c1, Option.bind_some]
    simp only []
    rw [w64_in (n := 2 * a) (by omega), dsc_mod_val (by omega) (by omega), hb0, Option.bind_some]
    rw [show b0 = b0 + 2 * a * 0 by omega, l1, Option.bind_some, w64_in (n := 2 * a * e) (by omega), dsc_mod_val (by omega) (by omega), Int.emod_eq_of_lt b1ge b1lt, Option.bind_some, disc_w, f3, w64_in (n := D) (by omega), Option.bind_some, w64_in (n := 4 * a) (by omega), w64_in (n := 4 * a * e) (by omega), nz_ne (show 4 * a * e ≠ 0 by omega), Option.bind_some, w64_in (n := b1 * b1) (by omega), w64_in (n := b1 * b1 - D) (by omega), tdv (b := 4 * a * e) (by omega) e5, nz_ne (show 2 * a ≠ 0 by omega)]
    simp only [sI_eq, Option.bind_some]
    rw [w64_in (n := cc) (by omega), w64_in (n := b1 - b) (by omega), tdv (b := 2 * a) (by omega) eα, w64_in (n := α) (by omega), w64_in (n := 2 * e) (by omega), nz_ne (show 2 * e ≠ 0 by omega), Option.bind_some, w64_in (n := b1 - hB) (by omega), tdv (b := 2 * e) (by omega) eβ, w64_in (n := β) (by omega)]
theorem unite_both {D : Int} {a b c A B C : Int} (hD1 : -2000 ≤ D) (hD2 : D < 0) (hf : PrRc D (a, b, c)) (hg : PrRc D (A, B, C)) :
    ∃ x y q s e hB hC b1 c1 α β, Uni a b c A B C D x y q s e hB hC b1 c1 α β ∧ r_impl_unite (a, b, c) (A, B, C) = (r_impl_Matrix_times (x, q, y, s) (1, β, 0, 1)).bind (fun N => some (a, e, b1, c1, (1, α, 0, 1), N)) ∧
      ∀ f0 g0 mf mg, r_spec_reReduce f0 = some ((a, b, c), mf) → r_spec_reReduce g0 = some ((A, B, C), mg) → r_spec_coUnite f0 g0 = (r_spec_foMul mg (x, q, y, s)).bind fun N1 => (r_spec_foMul mf (1, α, 0, 1)).bind fun M => (r_spec_foMul N1 (1, β, 0, 1)).bind fun N => some ((a, b1, e * c1), (e, b1, a * c1), M, N) := by
  obtain ⟨rf, ra⟩ := prr_rb hD1 hf
  have f1 : 1 ≤ a := hf.1
  have f3 : b * b - 4 * a * c = D := hf.2.2.1
  have g3 : B * B - 4 * A * C = D := hg.2.2.1
  simp only [] at rf ra
  obtain ⟨x, y, q, s, e, hB, hC, b1, c1, α, β, u, k1, p2, c2, ⟨hB1, hB2, n1⟩, n2, n3, hga⟩ := unite_impl hD1 hD2 hf hg
  have ku := u
  obtain ⟨mh, e1, e2, ⟨m, n, hmn⟩, bα, bβ, b0, b2, dis, qb, sb, xy⟩ := u
  have hh : hB * hB - 4 * e * hC = D := by rw [cmp_dis mh, g3]
  have t1 := Int.emod_nonneg b (b := 2 * a) (by omega)
  have t2 := Int.emod_lt_of_pos b (b := 2 * a) (by omega)
  have t3 := Int.emod_add_mul_ediv b (2 * a)
  have hpar := par_eq (b := b) (h := hB) (D := D) (m := a * c) (n := e * hC) (by rw [← f3]; grind) (by rw [← hh]; grind)
  generalize hb0 : b % (2 * a) = r at *
  have hpar0 : r % 2 = hB % 2 := by
    have : 2 * a * (b / (2 * a)) = 2 * (a * (b / (2 * a))) := Int.mul_assoc ..
    omega
  obtain ⟨k, z, v1, j2, j3, j4, j5, j6⟩ := common_val (a := a) (e := e) f1 (by omega) e1 e2 hga t1 t2 hB1 hB2 hpar0
  have hb1 : r + 2 * a * k = b1 := by
    have e5 : b1 = r + 2 * a * (α + b / (2 * a)) := by rw [Int.mul_add]; omega
    have hlo : 0 ≤ α + b / (2 * a) := by
      rcases Int.lt_or_le (α + b / (2 * a)) 0 with h | h
      · have : 2 * a * (α + b / (2 * a)) ≤ 2 * a * (-1) := Int.mul_le_mul_of_nonneg_left (by omega) (by omega)
        omega
      · exact h
    have hhi : α + b / (2 * a) < e := by
      rcases Int.lt_or_le (α + b / (2 * a)) e with h | h
      · exact h
      · have : 2 * a * e ≤ 2 * a * (α + b / (2 * a)) := Int.mul_le_mul_of_nonneg_left h (by omega)
        omega
    have := common_uni (a := a) (e := e) (b0 := r) (hB := hB) j3 j4 hlo hhi ⟨β, by omega⟩ j5 j6
    rw [e5, this]
  rw [hb1] at j2
  obtain ⟨cc1, cc2⟩ := uni_c1 f1 e1 b0 b2 hD1 hD2 dis
  have hae : a * e ≤ 25 * 10000 := Int.mul_le_mul ra e2 (by omega) (by omega)
  have hae0 : 1 * 1 ≤ a * e := Int.mul_le_mul f1 e1 (by omega) (by omega)
  have hae2 : 2 * a * e = 2 * (a * e) := Int.mul_assoc ..
  have hae4 : 4 * a * e = 4 * (a * e) := Int.mul_assoc ..
  have hbb : b1 * b1 ≤ 520000 * 520000 := Int.mul_le_mul (by omega) (by omega) b0 (by omega)
  have hbb0 : 0 ≤ b1 * b1 := Int.mul_nonneg b0 b0
  have rb1 := rf.b1
  have rb2 := rf.b2
  refine ⟨x, y, q, s, e, hB, hC, b1, c1, α, β, ku, k1, fun f0 g0 mf mg h1 h2 => ?_⟩
  exact unite_spec f1 ra (by omega) e1 e2 hD1 hD2 f3 p2 c2 hb0 j2 (by omega) (by omega) n1 (by omega) (by omega) (by omega) n2 n3 (by omega) (by omega) (by omega) h1 h2
end Go.Proofs.YtafomkclmkfjeaaGreat
namespace Go.Proofs.YtafomkclmkfjeaaGreat
set_option linter.unusedVariables false
set_option linter.unusedSimpArgs false

abbrev F3 := Int × Int × Int
/-- A form without a common divisor that can be reduced. -/
def CF (D : Int) (f : F3) : Prop := RedInv f.1 f.2.1 f.2.2 D 1 ∧ f.2.2 ≤ 1000000
theorem cf_of_class {f : F3} (h : r_impl_isClassForm f = some true) : CF (f.2.1 * f.2.1 - 4 * f.1 * f.2.2) f := by
  have h1 := red_of_class (a := f.1) (b := f.2.1) (c := f.2.2) h
  obtain ⟨_, _, hc, _⟩ := class_true (a := f.1) (b := f.2.1) (c := f.2.2) h
  exact ⟨h1, (inN_iff.1 hc).2⟩
theorem prc_pos {D : Int} {f : F3} (h : PrRc D f) : 0 < f.1 := by have := h.1; omega
theorem prc_disc {D : Int} {f : F3} (h : PrRc D f) : fD f = D := h.2.2.1
theorem con_one {a b c d : Int} (h : RedInv a b c d 1) (k : Int) (h1 : k ∣ a) (h2 : k ∣ b) (h3 : k ∣ c) : k ∣ 1 := (h.con k).1 ⟨h1, h2, h3⟩
/-- Reducing a class form. -/
theorem red_cf {D : Int} {f : F3} (h : CF D f) : ∃ g m1 m2 m3 m4, r_impl_reduce f = some (g, (m1, m2, m3, m4)) ∧ r_spec_reReduce f = some (g, (m1, m2, m3, m4)) ∧ PrRc D g ∧ Eqf g f ∧ MatInv f.1 f.2.1 f.2.2 m1 m2 m3 m4 g.1 g.2.1 g.2.2 ∧ m1.natAbs ≤ 2000 ∧ m2.natAbs ≤ 2000 ∧ m3.natAbs ≤ 2000 ∧ m4.natAbs ≤ 2000 ∧ CF D g := by
  obtain ⟨a, b, c⟩ := f
  obtain ⟨h1, h2⟩ := h
  have hd := h1.dis
  simp only [] at h1 h2 hd
  have h1' : RedInv a b c (b * b - 4 * a * c) 1 := by rw [hd]; exact h1
  obtain ⟨m1, m2, m3, m4, a2, b2, c2, k1, k2, k3, k4, k5, k6, k7, k8, k9⟩ := red_full h1' h2
  rw [hd] at k3
  have hp : PrRc D (a2, b2, c2) := ⟨k3.a1, k4, k3.dis, con_one k3⟩
  have e := k5
  obtain ⟨e1, e2, e3, e4⟩ := e
  refine ⟨(a2, b2, c2), m1, m2, m3, m4, k1, k2, hp, ⟨m1, m2, m3, m4, e4, ?_, ?_, ?_⟩, k5, k6, k7, k8, k9, k3, ?_⟩
  · exact e1.symm
  · exact e2.symm
  · exact e3.symm
  · show c2 ≤ 1000000
    have h3 := k3.nrm
    obtain ⟨⟨g1, g2⟩, g3⟩ := k4
    have h4 := k3.cM
    rcases h3 with h3 | h3
    · have q1 := k3.aM
      have q2 := k3.a1
      -- a reduced form's last coefficient
      rcases Int.lt_or_le 1000000 c2 with h5 | h5
      · exfalso
        have n1 : a2 * a2 ≤ a2 * c2 := Int.mul_le_mul_of_nonneg_left (by omega) (by omega)
        have hbb : b2 * b2 ≤ a2 * a2 := by
          rcases Int.le_total 0 b2 with h4 | h4
          · exact Int.mul_le_mul g2 g2 h4 (by omega)
          · have : (-b2) * (-b2) ≤ a2 * a2 := Int.mul_le_mul (by omega) (by omega) (by omega) (by omega)
            have e : (-b2) * (-b2) = b2 * b2 := by grind
            omega
        have hdd := k3.dis
        have e9 : 4 * a2 * c2 = 4 * (a2 * c2) := Int.mul_assoc ..
        have hneg := k3.neg
        -- the value at the original form's last coefficient is at least c2 or the form is not moved
        have hv : c = a2 * (-m2) * (-m2) + b2 * (-m2) * m1 + c2 * m1 * m1 := by rw [← e1, ← e2, ← e3]; grind
        have hv2 : a = a2 * m4 * m4 + b2 * m4 * (-m3) + c2 * (-m3) * (-m3) := by rw [← e1, ← e2, ← e3]; grind
        have ha2 := h1.aM
        by_cases hm : m1 = 0
        · have hm3 : m3 ≠ 0 := by
            intro h0
            rw [hm, h0] at e4
            simp at e4
          have := uq_c (x := m4) q2 (by omega) g2 (show a2 ≤ c2 by omega) (show (-m3) ≠ 0 by omega)
          omega
        · have := uq_c (x := -m2) q2 (by omega) g2 (show a2 ≤ c2 by omega) hm
          omega
      · exact h5
    · exact h3
theorem red_both_cf {D : Int} {f : F3} (h : CF D f) : ∃ g, r_impl_reduced f = some g ∧ PrRc D g ∧ Eqf g f ∧ CF D g := by
  obtain ⟨g, m1, m2, m3, m4, k1, k2, k3, k4, k5, k6, k7, k8, k9, k10⟩ := red_cf h
  exact ⟨g, by simp only [r_impl_reduced, k1, Option.bind_some], k3, k4, k10⟩
theorem cl_red {D : Int} {f g : F3} (hf : 0 < f.1) (hD : fD f = D) (h : Eqf g f) (hg : 0 < g.1) : Cl D (fL g) (fL f) := by
  have := cl_of_eqf hg hf h
  rw [hD] at this
  exact this
/-- The class knows its reduced form. -/
theorem prc_uniq {D : Int} {f g : F3} (hD : D < 0) (hf : PrRc D f) (hg : PrRc D g) (h : Cl D (fL f) (fL g)) : f = g := by
  have d1 := prc_disc hf
  have d2 := prc_disc hg
  have h' : Cl (fD g) (fL f) (fL g) := by rw [d2]; exact h
  obtain ⟨p, q, r, s, hdet, e1, e2, e3⟩ := eqf_of_cl (prc_pos hf) (prc_pos hg) (by rw [d2]; exact hD) (by rw [d1, d2]) h'
  obtain ⟨k1, k2, k3⟩ := red_uniq hg.1 hg.2.1 hf.1 hf.2.1 hdet e1 e2 e3
  exact Prod.ext k1.symm (Prod.ext k2.symm k3.symm)
theorem bez3 {a b c : Int} (h : ∀ k : Int, k ∣ a → k ∣ b → k ∣ c → k ∣ 1) : ∃ x y z : Int, x * a + y * b + z * c = 1 := by
  obtain ⟨x, y, h1⟩ := bez_int a b
  obtain ⟨u, v, h2⟩ := bez_int (Int.gcd a b) c
  have h3 : ((Int.gcd (Int.gcd a b) c : Nat) : Int) ∣ 1 := by
    refine h _ ?_ ?_ ?_
    · exact Int.dvd_trans (Int.gcd_dvd_left _ _) (Int.gcd_dvd_left _ _)
    · exact Int.dvd_trans (Int.gcd_dvd_left _ _) (Int.gcd_dvd_right _ _)
    · exact Int.gcd_dvd_right _ _
  have h4 : ((Int.gcd (Int.gcd a b) c : Nat) : Int) = 1 := Int.eq_one_of_dvd_one (by omega) h3
  refine ⟨u * x, u * y, v, ?_⟩
  rw [← h4, ← h2, ← h1]
  grind
theorem prim_eqf {f g : F3} (h : Eqf f g) (hg : ∀ k : Int, k ∣ g.1 → k ∣ g.2.1 → k ∣ g.2.2 → k ∣ 1) (k : Int) (h1 : k ∣ f.1) (h2 : k ∣ f.2.1) (h3 : k ∣ f.2.2) : k ∣ 1 := by
  obtain ⟨p, q, r, s, hdet, e1, e2, e3⟩ := h
  obtain ⟨x, hx⟩ := h1
  obtain ⟨y, hy⟩ := h2
  obtain ⟨z, hz⟩ := h3
  have back : ∀ A B C : Int, (A * p * p + B * p * r + C * r * r) * s * s - (2 * A * p * q + B * (p * s + q * r) + 2 * C * r * s) * s * r + (A * q * q + B * q * s + C * s * s) * r * r = A * ((p * s - q * r) * (p * s - q * r)) := by intro A B C; grind
  have back2 : ∀ A B C : Int, (A * p * p + B * p * r + C * r * r) * q * q - (2 * A * p * q + B * (p * s + q * r) + 2 * C * r * s) * p * q + (A * q * q + B * q * s + C * s * s) * p * p = C * ((p * s - q * r) * (p * s - q * r)) := by intro A B C; grind
  have back3 : ∀ A B C : Int, (2 * A * p * q + B * (p * s + q * r) + 2 * C * r * s) * (p * s + q * r) - 2 * (A * p * p + B * p * r + C * r * r) * q * s - 2 * (A * q * q + B * q * s + C * s * s) * p * r = B * ((p * s - q * r) * (p * s - q * r)) := by intro A B C; grind
  have b1 := back g.1 g.2.1 g.2.2
  have b2 := back2 g.1 g.2.1 g.2.2
  have b3 := back3 g.1 g.2.1 g.2.2
  rw [← e1, ← e2, ← e3, hdet, hx, hy, hz] at b1 b2 b3
  refine hg k ⟨x * s * s - y * s * r + z * r * r, ?_⟩ ⟨y * (p * s + q * r) - 2 * x * q * s - 2 * z * p * r, ?_⟩ ⟨x * q * q - y * p * q + z * p * p, ?_⟩
  · have : k * x * s * s - k * y * s * r + k * z * r * r = k * (x * s * s - y * s * r + z * r * r) := by grind
    omega
  · have : k * y * (p * s + q * r) - 2 * (k * x) * q * s - 2 * (k * z) * p * r = k * (y * (p * s + q * r) - 2 * x * q * s - 2 * z * p * r) := by grind
    omega
  · have : k * x * q * q - k * y * p * q + k * z * p * p = k * (x * q * q - y * p * q + z * p * p) := by grind
    omega
/-- The composite of united forms has no common divisor. -/
theorem uni_prim {a e b c : Int} (h1 : ∃ x y z : Int, x * a + y * b + z * (e * c) = 1) (h2 : ∃ x y z : Int, x * e + y * b + z * (a * c) = 1) (k : Int) (k1 : k ∣ a * e) (k2 : k ∣ b) (k3 : k ∣ c) : k ∣ 1 := by
  obtain ⟨x, y, z, h1⟩ := h1
  obtain ⟨x', y', z', h2⟩ := h2
  obtain ⟨i, hi⟩ := k1
  obtain ⟨j, hj⟩ := k2
  obtain ⟨l, hl⟩ := k3
  have h3 : (x * a + y * b + z * (e * c)) * (x' * e + y' * b + z' * (a * c)) = 1 := by rw [h1, h2]; rfl
  refine ⟨x * x' * i + j * (x * a * y' + y * (x' * e + y' * b + z' * (a * c)) + z * (e * c) * y') + l * (x * a * (z' * a) + z * e * (x' * e) + z * e * (z' * (a * c))), ?_⟩
  rw [← h3]
  have e1 : k * (x * x' * i + j * (x * a * y' + y * (x' * e + y' * b + z' * (a * c)) + z * (e * c) * y') + l * (x * a * (z' * a) + z * e * (x' * e) + z * e * (z' * (a * c)))) = x * x' * (k * i) + (k * j) * (x * a * y' + y * (x' * e + y' * b + z' * (a * c)) + z * (e * c) * y') + (k * l) * (x * a * (z' * a) + z * e * (x' * e) + z * e * (z' * (a * c))) := by grind
  rw [e1, ← hi, ← hj, ← hl]
  grind
end Go.Proofs.YtafomkclmkfjeaaGreat
namespace Go.Proofs.YtafomkclmkfjeaaGreat
set_option linter.unusedVariables false
set_option linter.unusedSimpArgs false

theorem four_canc {a x y : Int} (ha : 1 ≤ a) (h : 4 * a * x = 4 * a * y) : x = y := Int.eq_of_mul_eq_mul_left (by omega) h
theorem uni_f {a b c e c1 b1 α D : Int} (ha : 1 ≤ a) (hd : b * b - 4 * a * c = D) (bα : b1 = b + 2 * a * α) (dis : b1 * b1 - 4 * a * e * c1 = D) : e * c1 = a * α * α + b * α + c := by
  refine four_canc ha ?_
  have e1 : 4 * a * (a * α * α + b * α + c) = b1 * b1 - (b * b - 4 * a * c) := by rw [bα]; grind
  have e2 : 4 * a * (e * c1) = 4 * a * e * c1 := by grind
  rw [e1, hd, e2]; omega
theorem uni_eqf1 {a b c e c1 b1 α D : Int} (ha : 1 ≤ a) (hd : b * b - 4 * a * c = D) (bα : b1 = b + 2 * a * α) (dis : b1 * b1 - 4 * a * e * c1 = D) : Eqf (a, b1, e * c1) (a, b, c) := by
  refine ⟨1, α, 0, 1, by omega, ?_, ?_, ?_⟩
  · simp only []; omega
  · simp only []; rw [bα]; grind
  · simp only []; rw [uni_f ha hd bα dis]; grind
theorem uni_eqf2 {a e c1 b1 β D A B C x q y s hB hC : Int} (he : 1 ≤ e) (mh : MatInv A B C x q y s e hB hC) (hd : B * B - 4 * A * C = D) (bβ : b1 = hB + 2 * e * β) (dis : b1 * b1 - 4 * a * e * c1 = D) : Eqf (e, b1, a * c1) (A, B, C) ∧ MatInv A B C x (x * β + q) y (y * β + s) e b1 (a * c1) := by
  have hd2 : hB * hB - 4 * e * hC = D := by rw [cmp_dis mh, hd]
  have hf := uni_f (e := a) (c1 := c1) he hd2 bβ (by rw [← dis]; grind)
  have m := mh.norm β
  rw [← hf, show 2 * e * β + hB = b1 by omega] at m
  obtain ⟨e1, e2, e3, e4⟩ := m
  exact ⟨⟨x, x * β + q, y, y * β + s, e4, e1.symm, e2.symm, e3.symm⟩, e1, e2, e3, e4⟩
/-- What composing two class forms gives, with all that the proof of a composite needs. -/
structure Cmps (D : Int) (f g h f' g' : F3) (p1 p2 p3 p4 q1 q2 q3 q4 x y q s e hB hC b1 c1 α β : Int) : Prop where
  rf : r_impl_reduce f = some (f', (p1, p2, p3, p4))
  rg : r_impl_reduce g = some (g', (q1, q2, q3, q4))
  pf : PrRc D f'
  pg : PrRc D g'
  mf : MatInv f.1 f.2.1 f.2.2 p1 p2 p3 p4 f'.1 f'.2.1 f'.2.2
  mg : MatInv g.1 g.2.1 g.2.2 q1 q2 q3 q4 g'.1 g'.2.1 g'.2.2
  uni : Uni f'.1 f'.2.1 f'.2.2 g'.1 g'.2.1 g'.2.2 D x y q s e hB hC b1 c1 α β
  imp : r_impl_unite f' g' = some (f'.1, e, b1, c1, (1, α, 0, 1), (w64 (x + q * 0), w64 (x * β + q), w64 (y + s * 0), w64 (y * β + s)))
  spc : r_spec_coUnite f g = (r_spec_foMul (q1, q2, q3, q4) (x, q, y, s)).bind fun N1 => (r_spec_foMul (p1, p2, p3, p4) (1, α, 0, 1)).bind fun M => (r_spec_foMul N1 (1, β, 0, 1)).bind fun N => some ((f'.1, b1, e * c1), (e, b1, f'.1 * c1), M, N)
  cf : CF D (f'.1 * e, b1, c1)
  ae : f'.1 * e ≤ 250000
  ec : e * c1 ≤ 3000000000 ∧ 0 ≤ e * c1 ∧ 1 ≤ c1
  pb : p1.natAbs ≤ 2000 ∧ p2.natAbs ≤ 2000 ∧ p3.natAbs ≤ 2000 ∧ p4.natAbs ≤ 2000
  qb : q1.natAbs ≤ 2000 ∧ q2.natAbs ≤ 2000 ∧ q3.natAbs ≤ 2000 ∧ q4.natAbs ≤ 2000
  cl : Cl D (eP D (fL f) (fL g)) (fL (f'.1 * e, b1, c1))
theorem cmps_mk {D : Int} (hD1 : -2000 ≤ D) (hD2 : D < 0) {f g : F3} (hf : CF D f) (hg : CF D g) : ∃ f' g' p1 p2 p3 p4 q1 q2 q3 q4 x y q s e hB hC b1 c1 α β, ∀ h, Cmps D f g h f' g' p1 p2 p3 p4 q1 q2 q3 q4 x y q s e hB hC b1 c1 α β := by
  obtain ⟨⟨a, b, c⟩, p1, p2, p3, p4, i1, i2, i3, i4, i5, i6, i7, i8, i9, i10⟩ := red_cf hf
  obtain ⟨⟨A, B, C⟩, q1, q2, q3, q4, j1, j2, j3, j4, j5, j6, j7, j8, j9, j10⟩ := red_cf hg
  obtain ⟨x, y, q, s, e, hB, hC, b1, c1, α, β, u, k1, k2⟩ := unite_both hD1 hD2 i3 j3
  have ku := u
  obtain ⟨mh, e1, e2, ⟨m, n, hmn⟩, bα, bβ, b0, b2, dis, qb, sb, xy⟩ := u
  have ha : 1 ≤ a := i3.1
  have hd : b * b - 4 * a * c = D := i3.2.2.1
  have hD : B * B - 4 * A * C = D := j3.2.2.1
  obtain ⟨rb1, ra⟩ := prr_rb hD1 i3
  simp only [] at ra
  have hpa : 0 < A := prc_pos j3
  have E1 := uni_eqf1 (e := e) ha hd bα dis
  obtain ⟨E2, _⟩ := uni_eqf2 (a := a) e1 mh hD bβ dis
  obtain ⟨z1, z2⟩ := uni_c1 ha e1 b0 b2 hD1 hD2 dis
  have hae : a * e ≤ 25 * 10000 := Int.mul_le_mul ra e2 (by omega) (by omega)
  have hae0 : 1 * 1 ≤ a * e := Int.mul_le_mul ha e1 (by omega) (by omega)
  have hae2 : 2 * a * e = 2 * (a * e) := Int.mul_assoc ..
  have hec : e * c1 ≤ 10000 * 300000 := Int.mul_le_mul e2 (by omega) (by omega) (by omega)
  have hec0 : 0 ≤ e * c1 := Int.mul_nonneg (by omega) (by omega)
  have P1 := prim_eqf E1 i3.2.2.2
  have P2 := prim_eqf E2 j3.2.2.2
  have P := uni_prim (bez3 P1) (bez3 P2)
  have hcf : CF D (a * e, b1, c1) := by
    refine ⟨⟨by omega, by simp only []; omega, by simp only []; omega, by simp only []; omega, z1, by simp only []; omega, ?_, hD2, .inr (by simp only []; omega), ?_⟩, by simp only []; omega⟩
    · simp only []
      rw [← dis]; grind
    · intro k
      constructor
      · rintro ⟨t1, t2, t3⟩; exact P k t1 t2 t3
      · intro t
        exact ⟨Int.dvd_trans t (Int.one_dvd _), Int.dvd_trans t (Int.one_dvd _), Int.dvd_trans t (Int.one_dvd _)⟩
  have hfD : fD f = D := hf.1.dis
  have hgD : fD g = D := hg.1.dis
  have hfp : 0 < f.1 := by have := hf.1.a1; omega
  have hgp : 0 < g.1 := by have := hg.1.a1; omega
  have hcl : Cl D (eP D (fL f) (fL g)) (fL (a * e, b1, c1)) := by
    have w1 := cl_red hfp hfD i4 (prc_pos i3)
    have w2 := cl_red hgp hgD j4 (prc_pos j3)
    have w3 := cl_red (f := (a, b, c)) (g := (a, b1, e * c1)) (D := D) (prc_pos i3) hd E1 (by show 0 < a; omega)
    have w4 := cl_red (f := (A, B, C)) (g := (e, b1, a * c1)) (D := D) (prc_pos j3) hD E2 (by show 0 < e; omega)
    have w5 := cl_prod hD2 (cl_trans hD2 w3 w1) (cl_trans hD2 w4 w2)
    exact cl_trans hD2 (cl_symm w5) (cl_united dis.symm hmn)
  refine ⟨(a, b, c), (A, B, C), p1, p2, p3, p4, q1, q2, q3, q4, x, y, q, s, e, hB, hC, b1, c1, α, β, fun h => ⟨i1, j1, i3, j3, i5, j5, ku, ?_, k2 f g _ _ i2 j2, hcf, hae, ⟨hec, hec0, z1⟩, ⟨i6, i7, i8, i9⟩, ⟨j6, j7, j8, j9⟩, hcl⟩⟩
  rw [k1, times_w]
  simp only [Option.bind_some, Int.mul_one, Int.mul_zero, Int.add_zero]
theorem compose_both {D : Int} (hD1 : -2000 ≤ D) (hD2 : D < 0) {f g : F3} (hf : CF D f) (hg : CF D g) : ∃ h, r_impl_compose f g = some h ∧ r_spec_coMul f g = some h ∧ PrRc D h ∧ CF D h ∧ Cl D (eP D (fL f) (fL g)) (fL h) := by
  obtain ⟨f', g', p1, p2, p3, p4, q1, q2, q3, q4, x, y, q, s, e, hB, hC, b1, c1, α, β, k⟩ := cmps_mk hD1 hD2 hf hg
  obtain ⟨rf, rg, pf, pg, mf, mg, uni, imp, spc, cf, ae, ec, pb, qb, cl⟩ := k f
  obtain ⟨h, m1, m2, m3, m4, i1, i2, i3, i4, i5, i6, i7, i8, i9, i10⟩ := red_cf cf
  have ha : 1 ≤ f'.1 := pf.1
  have e1 := uni.e1
  have hae0 : 1 * 1 ≤ f'.1 * e := Int.mul_le_mul ha e1 (by omega) (by omega)
  have hcl : Cl D (eP D (fL f) (fL g)) (fL h) := by
    refine cl_trans hD2 cl (cl_symm (cl_red ?_ ?_ i4 (prc_pos i3)))
    · show 0 < f'.1 * e; omega
    · exact cf.1.dis
  refine ⟨h, ?_, ?_, i3, i10, hcl⟩
  · simp only [r_impl_compose, r_impl_reduced, rf, rg, imp, r_impl_united_composite, Option.bind_some, sI_eq]
    rw [w64_in (n := f'.1 * e) (by omega), i1]
    rfl
  · unfold r_spec_coMul
    rw [spc, dsc_mul, times_w]
    simp only [Option.bind_some, times_w]
    unfold r_spec_coJoined
    simp only []
    rw [nz_ne (show e ≠ 0 by omega)]
    simp only [Option.bind_some, sI_eq]
    rw [w64_in (n := f'.1 * e) (by omega), tdv (a := e * c1) (b := e) (c := c1) (by omega) rfl, w64_in (n := c1) (by
      have h1 : 1 * c1 ≤ e * c1 := Int.mul_le_mul_of_nonneg_right e1 (by omega)
      omega)]
    simp only [Option.bind_some, r_spec_reClass, i2]
theorem compose_impl {D : Int} (hD1 : -2000 ≤ D) (hD2 : D < 0) {f g : F3} (hf : CF D f) (hg : CF D g) : ∃ h, r_impl_compose f g = some h ∧ PrRc D h ∧ CF D h ∧ Cl D (eP D (fL f) (fL g)) (fL h) := by
  obtain ⟨f', g', p1, p2, p3, p4, q1, q2, q3, q4, x, y, q, s, e, hB, hC, b1, c1, α, β, k⟩ := cmps_mk hD1 hD2 hf hg
  have kk := k f
  have rf := kk.rf
  have rg := kk.rg
  have pf := kk.pf
  have uni := kk.uni
  have imp := kk.imp
  have cf := kk.cf
  have ae := kk.ae
  have cl := kk.cl
  obtain ⟨h, m1, m2, m3, m4, i1, i2, i3, i4, i5, i6, i7, i8, i9, i10⟩ := red_cf cf
  have ha : 1 ≤ f'.1 := pf.1
  have e1 := uni.e1
  have hae0 : 1 * 1 ≤ f'.1 * e := Int.mul_le_mul ha e1 (by omega) (by omega)
  refine ⟨h, ?_, i3, i10, cl_trans hD2 cl (cl_symm (cl_red (show 0 < f'.1 * e by omega) cf.1.dis i4 (prc_pos i3)))⟩
  simp only [r_impl_compose, r_impl_reduced, rf, rg, imp, r_impl_united_composite, Option.bind_some, sI_eq]
  rw [w64_in (n := f'.1 * e) (by omega), i1]
  rfl
end Go.Proofs.YtafomkclmkfjeaaGreat
