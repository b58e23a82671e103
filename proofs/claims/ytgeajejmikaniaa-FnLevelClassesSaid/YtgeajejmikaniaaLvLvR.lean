/-
  A form completed at a point, both ways.
  Conditions: none.
-/
import Derived.Test.YtgeajejmikaniaaLvLvQ
import Derived.Test.YtgeajejmikaniaaLvInv
namespace Go.Proofs.Ytgeajejmikaniaa
set_option linter.unusedVariables false
set_option linter.unusedSimpArgs false

theorem inv9 {x y : Int} (h : (x, y) ∈ ptL) : ∃ q s : Int, (bif eqI y 0 then some (0, x) else (r_impl_abs y).bind fun y6 => (r_impl_inverse x y6).bind fun y7 => (nz y).bind fun z8 => sI (w64 (Int.tdiv (w64 ((w64 (x * y7)) - 1)) y)) fun f9 => some (f9, y7)) = some (q, s) ∧ r_spec_nuBezout x y = some (1, s, -q) ∧ x * s - q * y = 1 ∧ q.natAbs ≤ 5 ∧ s.natAbs ≤ 5 ∧ 0 ≤ x ∧ x ≤ 5 ∧ 0 ≤ y ∧ y ≤ 5 := by
  simp only [ptL, List.mem_cons, Prod.mk.injEq, List.not_mem_nil, or_false] at h
  rcases h with ⟨rfl, rfl⟩ | ⟨rfl, rfl⟩ | ⟨rfl, rfl⟩ | ⟨rfl, rfl⟩ | ⟨rfl, rfl⟩ | ⟨rfl, rfl⟩ | ⟨rfl, rfl⟩ | ⟨rfl, rfl⟩ | ⟨rfl, rfl⟩ | ⟨rfl, rfl⟩ | ⟨rfl, rfl⟩ | ⟨rfl, rfl⟩ | ⟨rfl, rfl⟩ | ⟨rfl, rfl⟩ | ⟨rfl, rfl⟩ | ⟨rfl, rfl⟩ | ⟨rfl, rfl⟩ | ⟨rfl, rfl⟩ | ⟨rfl, rfl⟩ | ⟨rfl, rfl⟩ | ⟨rfl, rfl⟩
  · exact ⟨-1, 0, by decide +kernel, by decide +kernel, by decide⟩
  · exact ⟨0, 1, by decide +kernel, by decide +kernel, by decide⟩
  · exact ⟨-1, 0, by decide +kernel, by decide +kernel, by decide⟩
  · exact ⟨0, 1, by decide +kernel, by decide +kernel, by decide⟩
  · exact ⟨-1, 0, by decide +kernel, by decide +kernel, by decide⟩
  · exact ⟨0, 1, by decide +kernel, by decide +kernel, by decide⟩
  · exact ⟨1, 2, by decide +kernel, by decide +kernel, by decide⟩
  · exact ⟨-1, 0, by decide +kernel, by decide +kernel, by decide⟩
  · exact ⟨1, 1, by decide +kernel, by decide +kernel, by decide⟩
  · exact ⟨0, 1, by decide +kernel, by decide +kernel, by decide⟩
  · exact ⟨2, 3, by decide +kernel, by decide +kernel, by decide⟩
  · exact ⟨-1, 0, by decide +kernel, by decide +kernel, by decide⟩
  · exact ⟨1, 1, by decide +kernel, by decide +kernel, by decide⟩
  · exact ⟨0, 1, by decide +kernel, by decide +kernel, by decide⟩
  · exact ⟨1, 3, by decide +kernel, by decide +kernel, by decide⟩
  · exact ⟨1, 2, by decide +kernel, by decide +kernel, by decide⟩
  · exact ⟨3, 4, by decide +kernel, by decide +kernel, by decide⟩
  · exact ⟨-1, 0, by decide +kernel, by decide +kernel, by decide⟩
  · exact ⟨2, 1, by decide +kernel, by decide +kernel, by decide⟩
  · exact ⟨3, 2, by decide +kernel, by decide +kernel, by decide⟩
  · exact ⟨1, 1, by decide +kernel, by decide +kernel, by decide⟩
structure Cmp (A B C D x y v q0 s0 B0 Q Bh C1 : Int) : Prop where
  hv : A * x * x + B * x * y + C * y * y = v
  v1 : 1 ≤ v
  v2 : v ≤ 30000
  hB0 : 2 * A * x * q0 + B * (x * s0 + y * q0) + 2 * C * y * s0 = B0
  b0 : B0.natAbs ≤ 60000
  hQ : B0 / (2 * v) = Q
  q : Q.natAbs ≤ 60001
  m6 : (-Q * x).natAbs ≤ 300005
  m7 : (-Q * y).natAbs ≤ 300005
  hBh : B0 % (2 * v) = Bh
  e1 : B0 + 2 * v * -Q = Bh
  t1 : 0 ≤ Bh
  t2 : Bh < 2 * v
  e2 : 2 * A * x * (q0 + -Q * x) + B * (x * (s0 + -Q * y) + y * (q0 + -Q * x)) + 2 * C * y * (s0 + -Q * y) = Bh
  hC1 : A * (q0 + -Q * x) * (q0 + -Q * x) + B * (q0 + -Q * x) * (s0 + -Q * y) + C * (s0 + -Q * y) * (s0 + -Q * y) = C1
  em : MatInv A B C x (q0 + -Q * x) y (s0 + -Q * y) v Bh C1
  dis : Bh * Bh - 4 * v * C1 = D
  bb : Bh * Bh ≤ 3600000000
  c1 : C1.natAbs ≤ 60000
theorem cmp_e2 (A B C x y q0 s0 Q : Int) : 2 * A * x * (q0 + -Q * x) + B * (x * (s0 + -Q * y) + y * (q0 + -Q * x)) + 2 * C * y * (s0 + -Q * y) = (2 * A * x * q0 + B * (x * s0 + y * q0) + 2 * C * y * s0) + 2 * (A * x * x + B * x * y + C * y * y) * -Q := by grind
theorem cmp_dt (x s0 Q y q0 : Int) : x * (s0 + -Q * y) - (q0 + -Q * x) * y = x * s0 - q0 * y := by grind
theorem cmp_k2 (v : Int) : 4 * v * (v + 2001) = 2 * v * (2 * v) + 8004 * v := by grind
theorem cmp_dis {A B C p q r s a b c : Int} (h : MatInv A B C p q r s a b c) : b * b - 4 * a * c = B * B - 4 * A * C := by
  obtain ⟨f1, f2, f3, f4⟩ := h
  have : b * b - 4 * a * c = (B * B - 4 * A * C) * ((p * s - q * r) * (p * s - q * r)) := by
    rw [← f1, ← f2, ← f3]
    grind
  rw [this, f4]; omega
theorem cmp_b {A B C x y q0 s0 : Int} (h : Rb A B C) (i4 : q0.natAbs ≤ 5) (i5 : s0.natAbs ≤ 5) (i6 : 0 ≤ x) (i7 : x ≤ 5) (i8 : 0 ≤ y) (i9 : y ≤ 5) : (2 * A * x * q0 + B * (x * s0 + y * q0) + 2 * C * y * s0).natAbs ≤ 60000 := by
  obtain ⟨a1, a2, b1, b2, c1, c2⟩ := h
  have m1 : (2 * A * x * q0).natAbs ≤ 2 * 26 * 5 * 5 := abs_mul (abs_mul (abs_mul (by omega) (by omega)) (by omega)) (by omega)
  have m2 : (x * s0).natAbs ≤ 5 * 5 := abs_mul (by omega) (by omega)
  have m3 : (y * q0).natAbs ≤ 5 * 5 := abs_mul (by omega) (by omega)
  have m4 : (B * (x * s0 + y * q0)).natAbs ≤ 26 * 50 := abs_mul (by omega) (by omega)
  have m5 : (2 * C * y * s0).natAbs ≤ 2 * 1000 * 5 * 5 := abs_mul (abs_mul (abs_mul (by omega) (by omega)) (by omega)) (by omega)
  omega
theorem cmp_q {v B0 : Int} (v1 : 1 ≤ v) (hB : B0.natAbs ≤ 60000) : (B0 / (2 * v)).natAbs ≤ 60001 ∧ B0 + 2 * v * -(B0 / (2 * v)) = B0 % (2 * v) ∧ 0 ≤ B0 % (2 * v) ∧ B0 % (2 * v) < 2 * v := by
  have t1 := Int.emod_nonneg B0 (b := 2 * v) (by omega)
  have t2 := Int.emod_lt_of_pos B0 (b := 2 * v) (by omega)
  have t3 := Int.emod_add_mul_ediv B0 (2 * v)
  generalize hQ : B0 / (2 * v) = Q at *
  refine ⟨?_, by rw [Int.mul_neg]; omega, t1, t2⟩
  rcases Int.lt_or_le 60001 Q with h | h
  · have : 2 * v * 60002 ≤ 2 * v * Q := Int.mul_le_mul_of_nonneg_left (by omega) (by omega)
    omega
  · rcases Int.lt_or_le Q (-60001) with h' | h'
    · have : 2 * v * Q ≤ 2 * v * (-60002) := Int.mul_le_mul_of_nonneg_left (by omega) (by omega)
      omega
    · omega
theorem cmp_c {v Bh C1 D : Int} (v1 : 1 ≤ v) (v2 : v ≤ 30000) (hD1 : -2000 ≤ D) (hD2 : D ≤ 0) (t1 : 0 ≤ Bh) (t2 : Bh < 2 * v) (hdis : Bh * Bh - 4 * v * C1 = D) : Bh * Bh ≤ 3600000000 ∧ C1.natAbs ≤ 60000 := by
  have hBB : Bh * Bh ≤ 2 * v * (2 * v) := Int.mul_le_mul (by omega) (by omega) t1 (by omega)
  have hBB0 : 0 ≤ Bh * Bh := Int.mul_nonneg t1 t1
  have hBB4 : 2 * v * (2 * v) ≤ 60000 * 60000 := Int.mul_le_mul (by omega) (by omega) (by omega) (by omega)
  have hCu : C1 ≤ v + 2000 := by
    rcases Int.lt_or_le (v + 2000) C1 with h | h
    · have k1 : 4 * v * (v + 2001) ≤ 4 * v * C1 := Int.mul_le_mul_of_nonneg_left (by omega) (by omega)
      have k2 := cmp_k2 v
      omega
    · exact h
  have hCl : -2000 ≤ C1 := by
    rcases Int.lt_or_le C1 (-2000) with h | h
    · have k1 : 4 * v * C1 ≤ 4 * v * (-2001) := Int.mul_le_mul_of_nonneg_left (by omega) (by omega)
      omega
    · exact h
  omega
theorem cmp_mat {A B C x y v q0 s0 Q Bh : Int} (hv : A * x * x + B * x * y + C * y * y = v) (i3 : x * s0 - q0 * y = 1) (e2 : 2 * A * x * (q0 + -Q * x) + B * (x * (s0 + -Q * y) + y * (q0 + -Q * x)) + 2 * C * y * (s0 + -Q * y) = Bh) : MatInv A B C x (q0 + -Q * x) y (s0 + -Q * y) v Bh (A * (q0 + -Q * x) * (q0 + -Q * x) + B * (q0 + -Q * x) * (s0 + -Q * y) + C * (s0 + -Q * y) * (s0 + -Q * y)) := by
  refine ⟨hv, ?_, rfl, ?_⟩
  · rw [← e2, Int.mul_comm (q0 + -Q * x) y]
  · rw [cmp_dt x s0 Q y q0, i3]
theorem cmp_mk {A B C D x y v q0 s0 : Int} (h : Rb A B C) (hD : B * B - 4 * A * C = D) (hD1 : -2000 ≤ D) (hD2 : D ≤ 0) (hv : Vl A B C x y = v) (hv1 : 1 ≤ v) (i3 : x * s0 - q0 * y = 1) (i4 : q0.natAbs ≤ 5) (i5 : s0.natAbs ≤ 5) (i6 : 0 ≤ x) (i7 : x ≤ 5) (i8 : 0 ≤ y) (i9 : y ≤ 5) : ∃ B0 Q Bh C1, Cmp A B C D x y v q0 s0 B0 Q Bh C1 := by
  have hvb := vl_bd h i6 i7 i8 i9
  rw [hv] at hvb
  unfold Vl at hv
  have hB0b := cmp_b h i4 i5 i6 i7 i8 i9
  have ee := cmp_e2 A B C x y q0 s0
  rw [hv] at ee
  obtain ⟨hQb, e1, t1, t2⟩ := cmp_q (v := v) hv1 hB0b
  have e2 := (ee ((2 * A * x * q0 + B * (x * s0 + y * q0) + 2 * C * y * s0) / (2 * v))).trans e1
  have em := cmp_mat hv i3 e2
  have hdis := (cmp_dis em).trans hD
  obtain ⟨hBB, hC⟩ := cmp_c hv1 (by omega) hD1 hD2 t1 t2 hdis
  exact ⟨_, _, _, _, hv, hv1, by omega, rfl, hB0b, rfl, hQb, abs_mul (A := 60001) (B := 5) (by omega) (by omega), abs_mul (A := 60001) (B := 5) (by omega) (by omega), rfl, e1, t1, t2, e2, rfl, em, hdis, hBB, hC⟩
theorem cmp_impl {A B C D x y v q0 s0 B0 Q Bh C1 : Int} (h : Cmp A B C D x y v q0 s0 B0 Q Bh C1) (i4 : q0.natAbs ≤ 5) (i5 : s0.natAbs ≤ 5) (i1 : (bif eqI y 0 then some (0, x) else (r_impl_abs y).bind fun y6 => (r_impl_inverse x y6).bind fun y7 => (nz y).bind fun z8 => sI (w64 (Int.tdiv (w64 ((w64 (x * y7)) - 1)) y)) fun f9 => some (f9, y7)) = some (q0, s0)) : r_impl_Form_complete (A, B, C) x y = some ((v, Bh, C1), (x, q0 + -Q * x, y, s0 + -Q * y)) := by
  obtain ⟨hv, v1, v2, hB0, b0, hQ, q, m6, m7, hBh, e1, t1, t2, e2, hC1, em, dis, bb, c1⟩ := h
  unfold r_impl_Form_complete
  rw [i1]
  simp only [Option.bind_some, sub_w]
  rw [hv, hB0, w64_in (n := B0) (by omega), w64_in (n := v) (by omega), w64_in (n := 2 * v) (by omega), dsc_floor_val (by omega) (by omega) (by omega) (by omega), hQ]
  simp only [Option.bind_some, sI_eq]
  rw [w64_in (n := 0 - Q) (by omega), show (0 - Q) = -Q by omega, w64_in (n := -Q * x) (by omega), w64_in (n := -Q * y) (by omega), w64_in (n := q0 + -Q * x) (by omega), w64_in (n := s0 + -Q * y) (by omega)]
  rw [e2, hC1, w64_in (n := C1) (by omega), w64_in (n := Bh) (by omega)]
theorem cmp_spec {A B C D x y v q0 s0 B0 Q Bh C1 : Int} (h : Cmp A B C D x y v q0 s0 B0 Q Bh C1) (hD : B * B - 4 * A * C = D) (hD1 : -2000 ≤ D) (hD2 : D ≤ 0) (i4 : q0.natAbs ≤ 5) (i5 : s0.natAbs ≤ 5) (i2 : r_spec_nuBezout x y = some (1, s0, -q0)) : r_spec_vaComplete (A, B, C) x y = some ((v, Bh, C1), (x, q0 + -Q * x, y, s0 + -Q * y)) := by
  obtain ⟨hv, v1, v2, hB0, b0, hQ, q, m6, m7, hBh, e1, t1, t2, e2, hC1, em, dis, bb, c1⟩ := h
  unfold r_spec_vaComplete
  rw [i2]
  simp only [Option.bind_some]
  rw [dsc_value, at_w, hv, w64_in (n := v) (by omega)]
  simp only [Option.bind_some, sI_eq]
  rw [show w64 (0 - -q0) = q0 by rw [w64_in (by omega)]; omega, dsc_polar, polar_w, hB0, w64_in (n := B0) (by omega)]
  simp only [Option.bind_some]
  rw [dsc_mod, w64_in (n := 2 * v) (by omega), dsc_mod_val (by omega) (by omega), hBh]
  simp only [Option.bind_some]
  rw [nz_ne (show 2 * v ≠ 0 by omega), w64_in (n := Bh - B0) (by omega), tdv (c := -Q) (by omega) (by omega)]
  simp only [Option.bind_some]
  have x1 : x * -Q = -Q * x := Int.mul_comm _ _
  have y1 : y * -Q = -Q * y := Int.mul_comm _ _
  rw [w64_in (n := -Q) (by omega), x1, y1, w64_in (n := -Q * x) (by omega), w64_in (n := -Q * y) (by omega), w64_in (n := q0 + -Q * x) (by omega), w64_in (n := s0 + -Q * y) (by omega), w64_in (n := 2 * v * -Q) (by omega), e1, w64_in (n := Bh) (by omega), disc_eq, disc_w, hD, w64_in (n := D) (by omega)]
  simp only [Option.bind_some]
  rw [w64_in (n := 4 * v) (by omega), nz_ne (show 4 * v ≠ 0 by omega)]
  have hBB0 : 0 ≤ Bh * Bh := Int.mul_nonneg t1 t1
  simp only [Option.bind_some]
  rw [w64_in (n := Bh * Bh) (by omega), w64_in (n := Bh * Bh - D) (by omega), tdv (b := 4 * v) (c := C1) (by omega) (by omega), w64_in (n := C1) (by omega)]
/-- The completed form: its first coefficient is the value, the second one is in a range. -/
theorem complete_both {A B C D x y v : Int} (h : Rb A B C) (hD : B * B - 4 * A * C = D) (hD1 : -2000 ≤ D) (hD2 : D ≤ 0) (hm : (x, y) ∈ ptL) (hv : Vl A B C x y = v) (hv1 : 1 ≤ v) :
    ∃ q s Bh Ch, r_impl_Form_complete (A, B, C) x y = some ((v, Bh, Ch), (x, q, y, s)) ∧ r_spec_vaComplete (A, B, C) x y = some ((v, Bh, Ch), (x, q, y, s)) ∧ MatInv A B C x q y s v Bh Ch ∧ 0 ≤ Bh ∧ Bh < 2 * v ∧ v ≤ 30000 ∧ q.natAbs ≤ 400000 ∧ s.natAbs ≤ 400000 ∧ 0 ≤ x ∧ x ≤ 5 ∧ 0 ≤ y ∧ y ≤ 5 := by
  obtain ⟨q0, s0, i1, i2, i3, i4, i5, i6, i7, i8, i9⟩ := inv9 hm
  obtain ⟨B0, Q, Bh, C1, k⟩ := cmp_mk h hD hD1 hD2 hv hv1 i3 i4 i5 i6 i7 i8 i9
  have k1 := cmp_impl k i4 i5 i1
  have k2 := cmp_spec k hD hD1 hD2 i4 i5 i2
  obtain ⟨hv, v1, v2, hB0, b0, hQ, q, m6, m7, hBh, e1, t1, t2, e2, hC1, em, dis, bb, c1⟩ := k
  exact ⟨_, _, Bh, C1, k1, k2, em, t1, t2, v2, by omega, by omega, i6, i7, i8, i9⟩
end Go.Proofs.Ytgeajejmikaniaa
