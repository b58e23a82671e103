/-
  A form of a level: its coefficients, its divisibility, its root.
  Conditions: none.
-/
import Derived.Test.YtgeajejmikaniaaLvLvR
import Derived.Test.YtgeajejmikaniaaLvUq
namespace Go.Proofs.Ytgeajejmikaniaa
set_option linter.unusedVariables false
set_option linter.unusedSimpArgs false

/-- Combinations that are the common divisor. -/
theorem bez_nat : ∀ (a b : Nat), ∃ x y : Int, x * a + y * b = (Nat.gcd a b : Int) := by
  intro a b
  induction a, b using Nat.gcd.induction with
  | H0 n => exact ⟨0, 1, by simp⟩
  | H1 m n hm ih =>
    obtain ⟨x, y, h⟩ := ih
    refine ⟨y - x * (n / m : Nat), x, ?_⟩
    rw [Nat.gcd_rec, ← h]
    have e : (n : Int) = (n % m : Nat) + m * (n / m : Nat) := by exact_mod_cast (Nat.mod_add_div n m).symm
    rw [e]
    grind
theorem bez_int (a b : Int) : ∃ x y : Int, x * a + y * b = (Int.gcd a b : Int) := by
  obtain ⟨x, y, h⟩ := bez_nat a.natAbs b.natAbs
  have sg : ∀ z : Int, ∃ t : Int, (z.natAbs : Int) = t * z := by
    intro z
    rcases Int.le_total 0 z with h | h
    · exact ⟨1, by omega⟩
    · exact ⟨-1, by omega⟩
  obtain ⟨s, hs⟩ := sg a
  obtain ⟨t, ht⟩ := sg b
  refine ⟨x * s, y * t, ?_⟩
  rw [hs, ht] at h
  rw [show Int.gcd a b = Nat.gcd a.natAbs b.natAbs from rfl, ← h]
  grind
/-- Coprime to the modulus: cancelled. -/
theorem cop_canc {a e v x : Int} (hi : e ∣ 1 - v * a) (h : e ∣ a * x) : e ∣ x := by
  obtain ⟨i, hi⟩ := hi
  obtain ⟨j, hj⟩ := h
  exact ⟨i * x + v * j, by grind⟩
theorem small_dvd {e x : Int} (h : e ∣ x) (h1 : -e < x) (h2 : x < e) : x = 0 := by
  have h3 : e.natAbs ∣ x.natAbs := Int.natAbs_dvd_natAbs.2 h
  rcases Nat.eq_zero_or_pos x.natAbs with h4 | h4
  · omega
  · have := Nat.le_of_dvd h4 h3
    omega
theorem par_eq {b h D m n : Int} (h1 : b * b - 4 * m = D) (h2 : h * h - 4 * n = D) : b % 2 = h % 2 := by
  have k : ∀ z : Int, (z * z) % 2 = z % 2 := by
    intro z
    obtain ⟨t, ht | ht⟩ : ∃ t, z = 2 * t ∨ z = 2 * t + 1 := ⟨z / 2, by omega⟩
    · rw [ht, show 2 * t * (2 * t) = 2 * (2 * t * t) by grind]; omega
    · rw [ht, show (2 * t + 1) * (2 * t + 1) = 2 * (2 * t * t + 2 * t) + 1 by grind]; omega
  have := k b
  have := k h
  omega
/-- There is a common coefficient. -/
theorem common_ex {a e b0 hB : Int} (he : 1 ≤ e) (hg : Int.gcd a e = 1) (hp : b0 % 2 = hB % 2) : ∃ k1 v1, 0 ≤ k1 ∧ k1 < e ∧ 2 * e ∣ b0 + 2 * a * k1 - hB ∧ e ∣ 1 - v1 * a := by
  obtain ⟨v1, w1, h1⟩ := bez_int a e
  rw [hg] at h1
  obtain ⟨H, hH⟩ : ∃ H, hB - b0 = 2 * H := ⟨(hB - b0) / 2, by omega⟩
  have k0 := Int.emod_nonneg (H * v1) (b := e) (by omega)
  have k2 := Int.emod_lt_of_pos (H * v1) (b := e) (by omega)
  have k3 := Int.emod_add_mul_ediv (H * v1) e
  refine ⟨H * v1 % e, v1, k0, k2, ?_, ⟨w1, by have : e * w1 = w1 * e := Int.mul_comm ..; omega⟩⟩
  refine ⟨-(H * w1) - a * (H * v1 / e), ?_⟩
  have e1 : H * v1 % e = H * v1 - e * (H * v1 / e) := by omega
  generalize H * v1 / e = W at *
  have e2 : v1 * a = 1 - w1 * e := by omega
  have e3 : ∀ k, b0 + 2 * a * k - hB = 2 * (a * k - H) := by
    intro k
    have : 2 * a * k = 2 * (a * k) := Int.mul_assoc ..
    omega
  rw [e3, e1]
  have e4 : a * (H * v1 - e * W) - H = H * (v1 * a) - H - a * e * W := by grind
  rw [e4, e2]
  grind
theorem common_uni {a e b0 hB k k1 v1 : Int} (k0 : 0 ≤ k) (k2 : k < e) (k3 : 0 ≤ k1) (k4 : k1 < e) (h1 : 2 * e ∣ b0 + 2 * a * k1 - hB) (h2 : 2 * e ∣ b0 + 2 * a * k - hB) (h3 : e ∣ 1 - v1 * a) : k = k1 := by
  have d1 : 2 * e ∣ 2 * (a * (k1 - k)) := by
    obtain ⟨i, hi⟩ := h1
    obtain ⟨j, hj⟩ := h2
    refine ⟨i - j, ?_⟩
    have e1 : 2 * (a * (k1 - k)) = 2 * a * k1 - 2 * a * k := by grind
    have e2 : 2 * e * (i - j) = 2 * e * i - 2 * e * j := Int.mul_sub ..
    rw [e1, e2]
    omega
  have d2 : e ∣ a * (k1 - k) := by
    obtain ⟨i, hi⟩ := d1
    exact ⟨i, by have : 2 * e * i = 2 * (e * i) := Int.mul_assoc ..; omega⟩
  have := small_dvd (cop_canc h3 d2) (by omega) (by omega)
  omega
/-- The common coefficient, as the reference works it out. -/
theorem common_val {a e b0 hB : Int} (ha : 1 ≤ a) (ha2 : a ≤ 30000) (he : 1 ≤ e) (he2 : e ≤ 30) (hg : Int.gcd a e = 1) (hb0 : 0 ≤ b0) (hb02 : b0 < 2 * a) (hB0 : 0 ≤ hB) (hB2 : hB < 2 * e) (hp : b0 % 2 = hB % 2) :
    ∃ k1 v1, r_spec_nuCommon b0 (2 * a) hB (2 * e) = some (b0 + 2 * a * k1, a * (2 * e), true) ∧ 0 ≤ k1 ∧ k1 < e ∧ 2 * e ∣ b0 + 2 * a * k1 - hB ∧ e ∣ 1 - v1 * a := by
  have hc : ∀ c : Int, c ∣ e → c ∣ a → c ∣ 1 := by
    intro c h1 h2
    have := Int.dvd_coe_gcd h2 h1
    rw [hg] at this
    exact this
  obtain ⟨v1, j1, j2, j3, j4⟩ := inv_val (n := e) (m := a) he (by omega) (by omega) hc
  obtain ⟨H, hH⟩ : ∃ H, hB - b0 = 2 * H := ⟨(hB - b0) / 2, by omega⟩
  have k0 := Int.emod_nonneg (H * v1) (b := e) (by omega)
  have k2 := Int.emod_lt_of_pos (H * v1) (b := e) (by omega)
  have k3 := Int.emod_add_mul_ediv (H * v1) e
  have m1 : (H * v1).natAbs ≤ 60000 * 60000 := abs_mul (by omega) (by omega)
  generalize hk : H * v1 % e = k1 at *
  have m2 : (2 * a * k1).natAbs ≤ 2 * 30000 * 30 := abs_mul (abs_mul (by omega) (by omega)) (by omega)
  have hdiv : 2 * e ∣ b0 + 2 * a * k1 - hB := by
    obtain ⟨w, hw⟩ := j2
    refine ⟨-(H * w) - a * (H * v1 / e), ?_⟩
    have e1 : k1 = H * v1 - e * (H * v1 / e) := by omega
    generalize H * v1 / e = W at *
    have e2 : v1 * a = 1 - e * w := by omega
    have e3 : b0 + 2 * a * k1 - hB = 2 * (a * k1 - H) := by
      have : 2 * a * k1 = 2 * (a * k1) := Int.mul_assoc ..
      omega
    rw [e3, e1]
    have e4 : a * (H * v1 - e * W) - H = H * (v1 * a) - H - a * e * W := by grind
    rw [e4, e2]
    grind
  have hak : 2 * a * k1 ≤ 2 * a * (e - 1) := Int.mul_le_mul_of_nonneg_left (by omega) (by omega)
  have hak0 : 0 ≤ 2 * a * k1 := Int.mul_nonneg (by omega) k0
  have hae : (a * (2 * e)).natAbs ≤ 30000 * 60 := abs_mul (by omega) (by omega)
  have hae1 : 2 * a * (e - 1) = a * (2 * e) - 2 * a := by grind
  have hae2 : 1 * 2 ≤ a * (2 * e) := Int.mul_le_mul ha (by omega) (by omega) (by omega)
  have hgg : Int.gcd (2 * a) (2 * e) = 2 := by rw [Int.gcd_mul_left, hg]; rfl
  refine ⟨k1, v1, ?_, k0, k2, hdiv, j2⟩
  unfold r_spec_nuCommon
  rw [sgcd_val (by omega) (by omega), hgg]
  simp only [Option.bind_some]
  rw [show ((2 : Nat) : Int) = 2 from rfl, nz_ne (show (2 : Int) ≠ 0 by decide), w64_in (n := hB - b0) (by omega), tz (by decide), decide_eq_true (show (2 : Int) ∣ hB - b0 from ⟨H, hH⟩)]
  simp only [Option.bind_some, Bool.not_true, cond_false]
  rw [tdv (a := 2 * a) (c := a) (by decide) rfl, tdv (a := 2 * e) (c := e) (by decide) rfl, w64_in (n := a) (by omega), w64_in (n := e) (by omega), j1]
  simp only [Option.bind_some]
  rw [tdv (a := hB - b0) (c := H) (by decide) hH.symm, w64_in (n := H) (by omega), w64_in (n := H * v1) (by omega), dsc_mod, dsc_mod_val he (by omega), hk]
  simp only [Option.bind_some, sI_eq]
  rw [w64_in (n := a * (2 * e)) (by omega), w64_in (n := 2 * a * k1) (by omega), w64_in (n := b0 + 2 * a * k1) (by omega), dsc_mod, dsc_mod_val (by omega) (by omega), Int.emod_eq_of_lt (by omega) (by omega)]
  rfl
/-- A reduced form of the discriminant without a common divisor. -/
def PrRc (D : Int) (f : Int × Int × Int) : Prop := 1 ≤ f.1 ∧ IsRed f.1 f.2.1 f.2.2 ∧ f.2.1 * f.2.1 - 4 * f.1 * f.2.2 = D ∧ ∀ k : Int, k ∣ f.1 → k ∣ f.2.1 → k ∣ f.2.2 → k ∣ 1
theorem prr_rb {D : Int} {f : Int × Int × Int} (hD1 : -2000 ≤ D) (h : PrRc D f) : Rb f.1 f.2.1 f.2.2 ∧ f.1 ≤ 25 := by
  obtain ⟨h1, h2, h3, h4⟩ := h
  obtain ⟨⟨i1, i2⟩, i3⟩ := h2
  have hbb : f.2.1 * f.2.1 ≤ f.1 * f.1 := by
    rcases Int.le_total 0 f.2.1 with h4 | h4
    · exact Int.mul_le_mul i2 i2 h4 (by omega)
    · have : (-f.2.1) * (-f.2.1) ≤ f.1 * f.1 := Int.mul_le_mul (by omega) (by omega) (by omega) (by omega)
      have e : (-f.2.1) * (-f.2.1) = f.2.1 * f.2.1 := by grind
      omega
  have h7 : 4 * f.1 * f.1 ≤ 4 * f.1 * f.2.2 := Int.mul_le_mul_of_nonneg_left (by omega) (by omega)
  have e1 : 4 * f.1 * f.1 = 4 * (f.1 * f.1) := Int.mul_assoc ..
  have ha : f.1 ≤ 25 := by
    rcases Int.lt_or_le 25 f.1 with h8 | h8
    · have : 26 * 26 ≤ f.1 * f.1 := Int.mul_le_mul (by omega) (by omega) (by omega) (by omega)
      omega
    · exact h8
  have haa : f.1 * f.1 ≤ 25 * 25 := Int.mul_le_mul ha ha (by omega) (by omega)
  have h9 : 4 * 1 * f.2.2 ≤ 4 * f.1 * f.2.2 := Int.mul_le_mul_of_nonneg_right (by omega) (by omega)
  exact ⟨⟨h1, by omega, by omega, by omega, by omega, by omega⟩, ha⟩
/-! ### The form of a level -/
/-- What the form of a level is made of: made of the form f by a matrix of determinant 1. -/
structure LvF (D n r : Int) (f h : Int × Int × Int) : Prop where
  mat : ∃ p q s t, MatInv f.1 f.2.1 f.2.2 p q s t h.1 h.2.1 h.2.2
  dvd : n ∣ h.1
  root : 2 * n ∣ h.2.1 - r
  pos : 1 ≤ h.2.2
  dis : h.2.1 * h.2.1 - 4 * h.1 * h.2.2 = D
theorem lv_step {v Bh Ch t : Int} {A B C p q r s : Int} (h : MatInv A B C p q r s v Bh Ch) : MatInv A B C (p * t + q) (-p) (r * t + s) (-r) (v * t * t + Bh * t + Ch) (-(2 * v * t + Bh)) v := (h.norm t).swap
theorem lv_dvd {n r v D b c : Int} (hg : Int.gcd v n = 1) (hr : 4 * n ∣ r * r - D) (hb : 2 * n ∣ b + r) (hd : b * b - 4 * c * v = D) : n ∣ c := by
  obtain ⟨x, y, h⟩ := bez_int v n
  rw [hg] at h
  obtain ⟨z, hz⟩ := hr
  obtain ⟨w, hw⟩ := hb
  have e1 : b = 2 * n * w - r := by omega
  have e2 : v * c = n * (z - r * w + n * w * w) := by
    have : 4 * (v * c) = 4 * (n * (z - r * w + n * w * w)) := by
      have k1 : 4 * (v * c) = b * b - D := by grind
      have k2 : D = r * r - 4 * n * z := by omega
      rw [k1, k2, e1]
      grind
    omega
  generalize z - r * w + n * w * w = W at *
  refine ⟨x * W + y * c, ?_⟩
  have : c * ((1 : Nat) : Int) = n * (x * W + y * c) := by
    rw [← h]
    have : c * (x * v + y * n) = x * (v * c) + y * n * c := by grind
    rw [this, e2]
    grind
  simpa using this
/-- The window of the coefficient. -/
theorem lv_window {m b1 : Int} (hm : 1 ≤ m) (h0 : 0 ≤ b1) (h1 : b1 < 2 * m) : m - (m - b1) % (2 * m) = if m < b1 then b1 - 2 * m else b1 := by
  split
  · rename_i h
    have : (m - b1) % (2 * m) = m - b1 + 2 * m := by
      rw [← Int.add_emod_right, Int.emod_eq_of_lt (by omega) (by omega)]
    omega
  · rename_i h
    rw [Int.emod_eq_of_lt (by omega) (by omega)]
    omega
/-- The numbers of a form of a level. -/
structure LvN (D n r v Bh Ch : Int) (k1 b c : Int) : Prop where
  k0 : 0 ≤ k1
  k2 : k1 < n
  hit : 2 * n ∣ Bh + 2 * v * k1 - (-r) % (2 * n)
  win : b = if v * n < Bh + 2 * v * k1 then Bh + 2 * v * k1 - 2 * (v * n) else Bh + 2 * v * k1
  bb : b.natAbs ≤ 900000
  dis : b * b - 4 * c * v = D
  cc : c.natAbs ≤ 300000000000
theorem lv_nums {D n r v Bh Ch : Int} {A B C x q y s : Int} (hv : 1 ≤ v) (hv2 : v ≤ 30000) (hn : 1 ≤ n) (hn2 : n ≤ 30) (hB0 : 0 ≤ Bh) (hB2 : Bh < 2 * v) (hg : Int.gcd v n = 1) (hr : 4 * n ∣ r * r - D) (hD1 : -2000 ≤ D) (hD2 : D < 0) (hm : MatInv A B C x q y s v Bh Ch) (hdis : B * B - 4 * A * C = D) :
    ∃ k1 b c, LvN D n r v Bh Ch k1 b c ∧ r_spec_nuCommon Bh (2 * v) ((-r) % (2 * n)) (2 * n) = some (Bh + 2 * v * k1, v * (2 * n), true) ∧ LvF D n r (A, B, C) (c, -b, v) ∧ (∃ v1, n ∣ 1 - v1 * v) := by
  have hdB : Bh * Bh - 4 * v * Ch = D := by rw [cmp_dis hm, hdis]
  have r0 := Int.emod_nonneg (-r) (b := 2 * n) (by omega)
  have r1 := Int.emod_lt_of_pos (-r) (b := 2 * n) (by omega)
  have r2 := Int.emod_add_mul_ediv (-r) (2 * n)
  obtain ⟨w0, hw0⟩ := hr
  have hpar : Bh % 2 = (-r) % (2 * n) % 2 := by
    have p1 := par_eq (b := Bh) (h := r) (D := D) (m := v * Ch) (n := n * w0) (by rw [← hdB]; grind) (by have : 4 * n * w0 = 4 * (n * w0) := Int.mul_assoc ..; omega)
    have : 2 * n * (-r / (2 * n)) = 2 * (n * (-r / (2 * n))) := Int.mul_assoc ..
    omega
  generalize hR : (-r) % (2 * n) = R at *
  obtain ⟨k1, v1, e1, k0, k2, hit, hinv⟩ := common_val hv hv2 hn hn2 hg hB0 hB2 r0 r1 hpar
  have hvn : 1 * 1 ≤ v * n := Int.mul_le_mul hv hn (by omega) (by omega)
  have hvn2 : v * n ≤ 30000 * 30 := Int.mul_le_mul hv2 hn2 (by omega) (by omega)
  have hk : 2 * v * k1 ≤ 2 * v * (n - 1) := Int.mul_le_mul_of_nonneg_left (by omega) (by omega)
  have hk' : 2 * v * (n - 1) = 2 * (v * n) - 2 * v := by grind
  have hk0 : 0 ≤ 2 * v * k1 := Int.mul_nonneg (by omega) k0
  have key : ∃ t, (if v * n < Bh + 2 * v * k1 then Bh + 2 * v * k1 - 2 * (v * n) else Bh + 2 * v * k1) = 2 * v * t + Bh ∧ 2 * n ∣ 2 * v * t + Bh + r := by
    have hR2 : 2 * n ∣ R + r := ⟨-(-r / (2 * n)), by rw [Int.mul_neg]; omega⟩
    obtain ⟨i, hi⟩ := hit
    obtain ⟨j, hj⟩ := hR2
    split
    · exact ⟨k1 - n, by grind, ⟨i + j - v, by grind⟩⟩
    · exact ⟨k1, by omega, ⟨i + j, by grind⟩⟩
  obtain ⟨t, ht, hdv⟩ := key
  generalize hb : (if v * n < Bh + 2 * v * k1 then Bh + 2 * v * k1 - 2 * (v * n) else Bh + 2 * v * k1) = b at *
  have hbb : b.natAbs ≤ 900000 := by
    rw [← hb]
    split <;> omega
  have hM := lv_step (t := t) hm
  have hdd := cmp_dis hM
  rw [hdis] at hdd
  rw [← ht] at hM hdd hdv
  have hdd2 : b * b - 4 * (v * t * t + Bh * t + Ch) * v = D := by rw [← hdd]; grind
  refine ⟨k1, b, v * t * t + Bh * t + Ch, ⟨k0, k2, by rw [hR]; exact hit, hb.symm, hbb, hdd2, ?_⟩, e1, ⟨⟨_, _, _, _, hM⟩, lv_dvd hg ⟨w0, hw0⟩ hdv hdd2, ?_, hv, hdd⟩, v1, hinv⟩
  · generalize v * t * t + Bh * t + Ch = c at *
    have m1 := abs_mul hbb hbb
    have m2 : 4 * c * v = 4 * (v * c) := by grind
    have m3 : (c).natAbs ≤ (v * c).natAbs := by
      rw [Int.natAbs_mul]
      exact Nat.le_mul_of_pos_left _ (by omega)
    omega
  · obtain ⟨i, hi⟩ := hdv
    exact ⟨-i, by rw [Int.mul_neg]; show -b - r = _; omega⟩
end Go.Proofs.Ytgeajejmikaniaa
