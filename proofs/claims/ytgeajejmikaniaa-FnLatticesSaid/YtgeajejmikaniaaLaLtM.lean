/-
  Lattices in the plane: intersections by common remainders, both ways.
  Conditions: none.
-/
import Derived.Test.YtgeajejmikaniaaLaLtH
namespace Go.Proofs.Ytgeajejmikaniaa
set_option linter.unusedVariables false
set_option linter.unusedSimpArgs false

theorem tz {z g : Int} (hg : g ≠ 0) : eqI (Int.tmod z g) 0 = decide (g ∣ z) := by
  rw [eqI_eq, Bool.eq_iff_iff, beq_iff_eq, decide_eq_true_iff]
  exact ⟨Int.dvd_of_tmod_eq_zero, Int.tmod_eq_zero_of_dvd⟩
theorem tdv {a b c : Int} (hb : b ≠ 0) (h : b * c = a) : Int.tdiv a b = c := by
  rw [← h, Int.mul_tdiv_cancel_left _ hb]
/-! ### Inverses -/
theorem inv_run {n m : Int} : ∀ (k fu : Nat) (r nx x y : Int), 0 ≤ nx → nx ≤ k → k < fu → 1 ≤ r → r ≤ 1000 → nx ≤ 1000 → (y.natAbs : Int) * r + (x.natAbs : Int) * nx ≤ 1000 → x.natAbs ≤ 1000 → y.natAbs ≤ 1000 → n ∣ r - x * m → n ∣ nx - y * m → (∀ c : Int, c ∣ r → c ∣ nx → c ∣ 1) →
    ∃ z, r_spec_nuInverse_L8 n fu r nx x y = some (1, z) ∧ n ∣ 1 - z * m ∧ z.natAbs ≤ 1000
  | k, 0, r, nx, x, y, _, _, hf, _, _, _, _, _, _, _, _, _ => by omega
  | k, fu + 1, r, nx, x, y, h0, hk, hf, hr, hr2, hn2, hS, hx, hy, d1, d2, hc => by
    rw [r_spec_nuInverse_L8]
    by_cases hz : nx = 0
    · subst hz
      have h1 : r = 1 := Int.eq_one_of_dvd_one (by omega) (hc r ⟨1, by omega⟩ ⟨0, by omega⟩)
      subst h1
      rw [eqSelf, Bool.not_true, cond_false]
      exact ⟨x, rfl, d1, hx⟩
    · have hn1 : 1 ≤ nx := by omega
      obtain ⟨k', rfl⟩ : ∃ k', k = k' + 1 := ⟨k - 1, by omega⟩
      obtain ⟨q0, q1, q2, q3⟩ := tdiv_q (d := r) (y := nx) (by omega) hn1
      obtain ⟨s1, s2⟩ := euc_bd (b := x) (x := y) (d := r) (y := nx) (k := Int.tdiv r nx) q0 hn1 1000 hS
      have s4 := s2 (Int.mul_nonneg (by omega) q2)
      generalize hq : Int.tdiv r nx = q at *
      obtain ⟨w1, w2⟩ := bigk (k := q) (x := nx) (K := 1000) (M := 1000) (by omega) (by omega) (by decide)
      obtain ⟨w3, w4⟩ := bigk (k := q) (x := y) (K := 1000) (M := 1000) (by omega) hy (by decide)
      have hne : (!eqI nx 0) = true := by rw [eqNe hz]; rfl
      rw [hne, cond_true]
      simp only [nzOk hz, Option.bind_some, sI_eq, hq]
      rw [w64_in (n := q) (by omega), w1, w3, w64_in (n := r - q * nx) (by omega), w64_in (n := x - q * y) (by omega)]
      refine inv_run k' fu nx (r - q * nx) y (x - q * y) q2 (by omega) (by omega) hn1 hn2 (by omega) (by omega) hy (by omega) d2 ?_ fun c c1 c2 => hc c ?_ c1
      · obtain ⟨u, hu⟩ := d1
        obtain ⟨v, hv⟩ := d2
        exact ⟨u - q * v, by grind⟩
      · obtain ⟨u, hu⟩ := c1
        obtain ⟨v, hv⟩ := c2
        exact ⟨v + q * u, by grind⟩
theorem inv_val {n m : Int} (hn : 1 ≤ n) (hn2 : n ≤ 1000) (hm : m.natAbs ≤ 1000) (hc : ∀ c : Int, c ∣ n → c ∣ m → c ∣ 1) : ∃ v, r_spec_nuInverse m n = some v ∧ n ∣ 1 - v * m ∧ 0 ≤ v ∧ v < n := by
  have hF := FUge
  have m1 := Int.emod_nonneg m (b := n) (by omega)
  have m2 := Int.emod_lt_of_pos m (b := n) (by omega)
  have em := Int.emod_add_mul_ediv m n
  obtain ⟨z, e1, e2, e3⟩ := inv_run (n := n) (m := m) 1000 FU n (m % n) 0 1 m1 (by omega) (by omega) hn hn2 (by omega) (by simp; omega) (by decide) (by decide) ⟨1, by omega⟩ ⟨-(m / n), by grind⟩ fun c c1 c2 => hc c c1 (by
    obtain ⟨u, hu⟩ := c1
    obtain ⟨v, hv⟩ := c2
    exact ⟨v + u * (m / n), by grind⟩)
  have z1 := Int.emod_nonneg z (b := n) (by omega)
  have z2 := Int.emod_lt_of_pos z (b := n) (by omega)
  have ez := Int.emod_add_mul_ediv z n
  refine ⟨z % n, ?_, ?_, z1, z2⟩
  · simp only [r_spec_nuInverse, dsc_mod, dsc_mod_val hn (show n ≤ 9223372036854775807 by omega), Option.bind_some, e1, eqSelf, Bool.not_true, cond_false]
  · obtain ⟨u, hu⟩ := e2
    exact ⟨u + (z / n) * m, by grind⟩
/-! ### Common remainders -/
/-- Two moduli and their common divisor. -/
structure Md (a1 a2 g m n : Int) : Prop where
  p1 : 1 ≤ a1
  p2 : a1 ≤ 1000
  p3 : 1 ≤ a2
  p4 : a2 ≤ 1000
  gg : g = (Int.gcd a1 a2 : Int)
  g1 : 1 ≤ g
  g2 : g ≤ 1000
  e1 : a1 = g * m
  e2 : a2 = g * n
  m1 : 1 ≤ m
  m2 : m ≤ 1000
  n1 : 1 ≤ n
  n2 : n ≤ 1000
  cp : ∀ c : Int, c ∣ m → c ∣ n → c ∣ 1
theorem md_of {a1 a2 : Int} (h1 : 1 ≤ a1) (h2 : a1 ≤ 1000) (h3 : 1 ≤ a2) (h4 : a2 ≤ 1000) : ∃ g m n, Md a1 a2 g m n := by
  obtain ⟨gp, gl⟩ := gcd_pos1 (a := a1) (b := a2) h1
  obtain ⟨m, hm⟩ := Int.gcd_dvd_left a1 a2
  obtain ⟨n, hn⟩ := Int.gcd_dvd_right a1 a2
  generalize hg : (Int.gcd a1 a2 : Int) = g at *
  have b : ∀ x a : Int, a = g * x → 1 ≤ a → a ≤ 1000 → 1 ≤ x ∧ x ≤ 1000 := by
    intro x a e ha hb
    have hx : 1 ≤ x := by
      rcases Int.lt_or_le x 1 with h | h
      · have : g * x ≤ g * 0 := Int.mul_le_mul_of_nonneg_left (by omega) (by omega)
        omega
      · exact h
    have : 1 * x ≤ g * x := Int.mul_le_mul_of_nonneg_right gp (by omega)
    omega
  obtain ⟨m1, m2⟩ := b m a1 hm h1 h2
  obtain ⟨n1, n2⟩ := b n a2 hn h3 h4
  refine ⟨g, m, n, h1, h2, h3, h4, hg.symm, gp, by omega, hm, hn, m1, m2, n1, n2, fun c c1 c2 => ?_⟩
  have hd : g * c ∣ g * 1 := by
    rw [Int.mul_one]
    have : g * c ∣ (Int.gcd a1 a2 : Int) := Int.dvd_coe_gcd (by rw [hm]; exact Int.mul_dvd_mul_left g c1) (by rw [hn]; exact Int.mul_dvd_mul_left g c2)
    rw [hg] at this
    exact this
  exact Int.dvd_of_mul_dvd_mul_left (by omega) hd
theorem Md.lc {a1 a2 g m n : Int} (h : Md a1 a2 g m n) {z : Int} (h1 : a1 ∣ z) (h2 : a2 ∣ z) : m * a2 ∣ z := by
  obtain ⟨v, _, hv, _⟩ := inv_val (n := n) (m := m) h.n1 h.n2 (by have := h.m1; have := h.m2; omega) fun c c1 c2 => h.cp c c2 c1
  obtain ⟨w, hw⟩ := h1
  obtain ⟨u, hu⟩ := h2
  obtain ⟨t, ht⟩ := hv
  have e1 := h.e1
  have e2 := h.e2
  have hg : g ≠ 0 := by have := h.g1; omega
  have k : m * w = n * u := by
    apply Int.eq_of_mul_eq_mul_left hg
    grind
  exact ⟨t * w + v * u, by grind⟩
theorem com_no {a1 a2 g m n : Int} (h : Md a1 a2 g m n) {r1 r2 : Int} (b1 : r1.natAbs ≤ 1000) (b2 : r2.natAbs ≤ 1000) (hno : ¬ g ∣ r2 - r1) : r_spec_nuCommon r1 a1 r2 a2 = some (0, 0, false) := by
  have hg : g ≠ 0 := by have := h.g1; omega
  have e : w64 (r2 - r1) = r2 - r1 := w64_in (by omega)
  have p1 := h.p1
  have p2 := h.p2
  have p3 := h.p3
  have p4 := h.p4
  simp only [r_spec_nuCommon, sgcd (a := a1) (b := a2) (by omega) (by omega), ← h.gg, nzOk hg, Option.bind_some, e, tz hg, decide_eq_false hno, Bool.not_false, cond_true]
theorem com_yes {a1 a2 g m n : Int} (h : Md a1 a2 g m n) {r1 r2 : Int} (b1 : r1.natAbs ≤ 1000) (b2 : r2.natAbs ≤ 1000) (hyes : g ∣ r2 - r1) : ∃ X, r_spec_nuCommon r1 a1 r2 a2 = some (X, m * a2, true) ∧ 0 ≤ X ∧ X < m * a2 ∧ a1 ∣ X - r1 ∧ a2 ∣ X - r2 := by
  have g1 := h.g1
  have hg : g ≠ 0 := by omega
  have e : w64 (r2 - r1) = r2 - r1 := w64_in (by omega)
  have p1 := h.p1
  have p2 := h.p2
  have p3 := h.p3
  have p4 := h.p4
  have m1 := h.m1
  have m2 := h.m2
  have n1 := h.n1
  have n2 := h.n2
  have e1 := h.e1
  have e2 := h.e2
  obtain ⟨v, hv1, hv2, hv3, hv4⟩ := inv_val (n := n) (m := m) n1 n2 (by omega) fun c c1 c2 => h.cp c c2 c1
  obtain ⟨c, hc⟩ := hyes
  have cb : c.natAbs ≤ 2000 := by
    have : (r2 - r1).natAbs = g.natAbs * c.natAbs := by rw [hc, Int.natAbs_mul]
    have k : 1 * c.natAbs ≤ g.natAbs * c.natAbs := Nat.mul_le_mul_right _ (by omega)
    omega
  have d1 : Int.tdiv a1 g = m := tdv hg e1.symm
  have d2 : Int.tdiv a2 g = n := tdv hg e2.symm
  have d3 : Int.tdiv (r2 - r1) g = c := tdv hg hc.symm
  obtain ⟨w1, w2⟩ := bigk (k := c) (x := v) (K := 2000) (M := 1000) cb (by omega) (by decide)
  have y1 := Int.emod_nonneg (c * v) (b := n) (by omega)
  have y2 := Int.emod_lt_of_pos (c * v) (b := n) (by omega)
  have ey := Int.emod_add_mul_ediv (c * v) n
  obtain ⟨w3, w4⟩ := bigk (k := m) (x := a2) (K := 1000) (M := 1000) (by omega) (by omega) (by decide)
  obtain ⟨w5, w6⟩ := bigk (k := a1) (x := c * v % n) (K := 1000) (M := 1000) (by omega) (by omega) (by decide)
  have allp : 1 ≤ m * a2 := by
    have : 1 * 1 ≤ m * a2 := Int.mul_le_mul m1 p3 (by omega) (by omega)
    omega
  have x1 := Int.emod_nonneg (r1 + a1 * (c * v % n)) (b := m * a2) (by omega)
  have x2 := Int.emod_lt_of_pos (r1 + a1 * (c * v % n)) (b := m * a2) (by omega)
  have ex := Int.emod_add_mul_ediv (r1 + a1 * (c * v % n)) (m * a2)
  refine ⟨(r1 + a1 * (c * v % n)) % (m * a2), ?_, x1, x2, ?_, ?_⟩
  · simp only [r_spec_nuCommon, sgcd (a := a1) (b := a2) (by omega) (by omega), ← h.gg, nzOk hg, Option.bind_some, e, tz hg, decide_eq_true (show g ∣ r2 - r1 from ⟨c, hc⟩), Bool.not_true, cond_false, d1, d2, d3, w64_in (n := m) (by omega), w64_in (n := n) (by omega), w64_in (n := c) (by omega), hv1, w1, dsc_mod, dsc_mod_val n1 (show n ≤ 9223372036854775807 by omega), w3, w5, w64_in (n := r1 + a1 * (c * v % n)) (by omega), sI_eq, dsc_mod_val allp (show m * a2 ≤ 9223372036854775807 by omega)]
  · refine ⟨c * v % n - n * ((r1 + a1 * (c * v % n)) / (m * a2)), ?_⟩
    generalize (r1 + a1 * (c * v % n)) / (m * a2) = t at *
    generalize (r1 + a1 * (c * v % n)) % (m * a2) = X at *
    grind
  · obtain ⟨s, hs⟩ := hv2
    refine ⟨-(c * s) - m * (c * v / n) - m * ((r1 + a1 * (c * v % n)) / (m * a2)), ?_⟩
    generalize (r1 + a1 * (c * v % n)) / (m * a2) = t at *
    generalize (r1 + a1 * (c * v % n)) % (m * a2) = X at *
    generalize c * v % n = y at *
    generalize c * v / n = t2 at *
    grind
/-! ### The intersection -/
structure MeetS (a1 b1 d1 a2 b2 d2 g m n D p q e A K : Int) : Prop where
  ma : Md a1 a2 g m n
  md : Md d1 d2 D p q
  bp : 0 ≤ b1 ∧ b1 < a1 ∧ 0 ≤ b2 ∧ b2 < a2
  ee : e = q * b1 - p * b2
  aa : A = (Int.gcd g e : Int)
  ak : g = A * K
  ap : 1 ≤ A
  kp : 1 ≤ K
  kg : K ≤ g
theorem meets {a1 b1 d1 a2 b2 d2 : Int} (h1 : Lt (a1, b1, d1)) (h2 : Lt (a2, b2, d2)) : ∃ g m n D p q e A K, MeetS a1 b1 d1 a2 b2 d2 g m n D p q e A K := by
  obtain ⟨g, m, n, ma⟩ := md_of h1.a1 h1.a2 h2.a1 h2.a2
  obtain ⟨D, p, q, md⟩ := md_of h1.d1 h1.d2 h2.d1 h2.d2
  obtain ⟨Ap, Al⟩ := gcd_pos1 (a := g) (b := q * b1 - p * b2) ma.g1
  obtain ⟨K, hK⟩ := Int.gcd_dvd_left g (q * b1 - p * b2)
  have hg := ma.g1
  have hk : 1 ≤ K := by
    rcases Int.lt_or_le K 1 with h | h
    · have : (Int.gcd g (q * b1 - p * b2) : Int) * K ≤ (Int.gcd g (q * b1 - p * b2) : Int) * 0 := Int.mul_le_mul_of_nonneg_left (by omega) (by omega)
      omega
    · exact h
  have hk2 : 1 * K ≤ (Int.gcd g (q * b1 - p * b2) : Int) * K := Int.mul_le_mul_of_nonneg_right Ap (by omega)
  exact ⟨g, m, n, D, p, q, q * b1 - p * b2, _, K, ma, md, ⟨h1.b1, h1.b2, h2.b1, h2.b2⟩, rfl, rfl, hK, Ap, hk, by omega⟩
theorem MeetS.kd {a1 b1 d1 a2 b2 d2 g m n D p q e A K : Int} (h : MeetS a1 b1 d1 a2 b2 d2 g m n D p q e A K) {k : Int} (hk : 0 ≤ k) : g ∣ k * e ↔ K ∣ k := by
  have ak := h.ak
  have ap := h.ap
  constructor
  · intro h1
    have h2 : g ∣ (Int.gcd (k * g) (k * e) : Int) := Int.dvd_coe_gcd ⟨k, Int.mul_comm _ _⟩ h1
    rw [Int.gcd_mul_left, Int.natCast_mul, ← h.aa, Int.natAbs_of_nonneg hk, ak, Int.mul_comm k A] at h2
    exact Int.dvd_of_mul_dvd_mul_left (by omega) h2
  · rintro ⟨t, ht⟩
    obtain ⟨f, hf⟩ : A ∣ e := by rw [h.aa]; exact Int.gcd_dvd_right ..
    exact ⟨t * f, by rw [ht, ak, hf]; grind⟩
theorem MeetS.no {a1 b1 d1 a2 b2 d2 g m n D p q e A K : Int} (h : MeetS a1 b1 d1 a2 b2 d2 g m n D p q e A K) {k : Int} (hk : 1 ≤ k) (hk2 : k < K) : ¬ g ∣ k * e := by
  rw [h.kd (by omega)]
  intro hd
  have := Int.le_of_dvd (by omega) hd
  omega
theorem MeetS.at {a1 b1 d1 a2 b2 d2 g m n D p q e A K : Int} (h : MeetS a1 b1 d1 a2 b2 d2 g m n D p q e A K) {k : Int} (hk : 1 ≤ k) (hk2 : k ≤ K) :
    w64 (k * (p * d2)) = k * (p * d2) ∧ Int.tdiv (k * (p * d2)) d1 = k * q ∧ Int.tdiv (k * (p * d2)) d2 = k * p ∧ w64 (k * q) = k * q ∧ w64 (k * p) = k * p ∧ w64 (k * q * b1) = k * q * b1 ∧ w64 (k * p * b2) = k * p * b2 ∧ w64 (k * q * b1 - k * p * b2) = k * e ∧ (k * q * b1).natAbs ≤ 1000000000 ∧ (k * p * b2).natAbs ≤ 1000000000 ∧ (k * (p * d2)).natAbs ≤ 1000000000 := by
  have kg := h.kg
  have g2 := h.ma.g2
  have p1 := h.md.m1
  have p2 := h.md.m2
  have q1 := h.md.n1
  have q2 := h.md.n2
  have x1 := h.md.p1
  have x3 := h.md.p3
  have x4 := h.md.p4
  have y2 := h.ma.p2
  have y4 := h.ma.p4
  obtain ⟨z1, z2, z3, z4⟩ := h.bp
  have e1 := h.md.e1
  have e2 := h.md.e2
  have m0 := abs_mul (x := p) (y := d2) (A := 1000) (B := 1000) (by omega) (by omega)
  have m1 := abs_mul (x := k) (y := p * d2) (A := 1000) (B := 1000 * 1000) (by omega) m0
  have m2 := abs_mul (x := k) (y := q) (A := 1000) (B := 1000) (by omega) (by omega)
  have m3 := abs_mul (x := k) (y := p) (A := 1000) (B := 1000) (by omega) (by omega)
  have m4 := abs_mul (x := k * q) (y := b1) (A := 1000 * 1000) (B := 1000) m2 (by omega)
  have m5 := abs_mul (x := k * p) (y := b2) (A := 1000 * 1000) (B := 1000) m3 (by omega)
  refine ⟨w64_abs (by omega), tdv (by omega) (by grind), tdv (by omega) (by grind), w64_abs (by omega), w64_abs (by omega), w64_abs (by omega), w64_abs (by omega), ?_, by omega, by omega, by omega⟩
  rw [w64_abs (by omega), h.ee]
  grind
theorem l13 {a1 b1 d1 a2 b2 d2 g m n D p q e A K : Int} (h : MeetS a1 b1 d1 a2 b2 d2 g m n D p q e A K) : ∀ (j fu : Nat) (k : Int), 1 ≤ k → k + j = K → j < fu → r_impl_MeetOfLattices_L13 (a1, b1, d1) (a2, b2, d2) (p * d2) g fu (k * (p * d2)) = some (K * (p * d2))
  | j, 0, k, _, _, hf => by omega
  | j, fu + 1, k, hk, hj, hf => by
    obtain ⟨v1, v2, v3, v4, v5, v6, v7, v8, v9, v10, v11⟩ := h.at hk (by omega)
    have x1 := h.md.p1
    have x3 := h.md.p3
    have g1 := h.ma.g1
    rw [r_impl_MeetOfLattices_L13]
    dsimp only
    rw [nzOk (show d1 ≠ 0 by omega), nzOk (show d2 ≠ 0 by omega), nzOk (show g ≠ 0 by omega), v2, v3, v4, v5, v6, v7, v8, tz (show g ≠ 0 by omega)]
    simp only [Option.bind_some]
    match j, hj with
    | 0, hj =>
      have e : k = K := by omega
      subst e
      rw [decide_eq_true ((h.kd (by omega)).2 ⟨1, by omega⟩), Bool.not_true, cond_false]
    | j + 1, hj =>
      obtain ⟨u1, _, _, _, _, _, _, _, _, _, _⟩ := h.at (k := k + 1) (by omega) (by omega)
      have e : k * (p * d2) + p * d2 = (k + 1) * (p * d2) := by grind
      rw [decide_eq_false (h.no hk (by omega)), Bool.not_false, cond_true, sI_eq, e, u1]
      exact l13 h j fu (k + 1) (by omega) (by omega) (by omega)
theorem l28 {a1 b1 d1 a2 b2 d2 g m n D p q e A K : Int} (h : MeetS a1 b1 d1 a2 b2 d2 g m n D p q e A K) {X r : Int} (hX1 : X < m * a2) (hX2 : a2 ∣ X - K * p * b2) (hr : 0 ≤ r) {s : Nat} (hs : X = r + a1 * s) : ∀ (j fu i : Nat), i + j = s → j < fu → r_impl_MeetOfLattices_L28 (a1, b1, d1) (a2, b2, d2) (K * (p * d2)) (m * a2) fu (r + a1 * i) = some X
  | j, 0, i, _, hf => by omega
  | j, fu + 1, i, hj, hf => by
    obtain ⟨v1, v2, v3, v4, v5, v6, v7, v8, v9, v10, v11⟩ := h.at h.kp (Int.le_refl _)
    have x3 := h.md.p3
    have p1 := h.ma.p1
    have p3 := h.ma.p3
    have p4 := h.ma.p4
    have m1 := h.ma.m1
    have m2 := h.ma.m2
    have hall := abs_mul (x := m) (y := a2) (A := 1000) (B := 1000) (by omega) (by omega)
    have hai : a1 * (i : Int) ≤ a1 * (s : Int) := Int.mul_le_mul_of_nonneg_left (by omega) (by omega)
    have hai0 : 0 ≤ a1 * (i : Int) := Int.mul_nonneg (by omega) (by omega)
    have emd : (eqI ((r + a1 * i - K * p * b2) % a2) 0) = decide (a2 ∣ r + a1 * i - K * p * b2) := by
      rw [eqI_eq, Bool.eq_iff_iff, beq_iff_eq, decide_eq_true_iff, Int.dvd_iff_emod_eq_zero]
    rw [r_impl_MeetOfLattices_L28]
    dsimp only
    rw [nzOk (show d2 ≠ 0 by omega), v3, v5, v7, w64_in (n := r + a1 * i - K * p * b2) (by omega), dsc_mod_val p3 (by omega)]
    simp only [Option.bind_some, emd]
    match j, hj with
    | 0, hj =>
      have e : (i : Int) = (s : Int) := by omega
      rw [e, ← hs, decide_eq_true hX2, Bool.not_true, cond_false]
    | j + 1, hj =>
      have hno : ¬ a2 ∣ r + a1 * i - K * p * b2 := by
        intro hd
        have h1 : a1 ∣ X - (r + a1 * i) := ⟨s - i, by rw [hs]; grind⟩
        have h2 : a2 ∣ X - (r + a1 * i) := by
          obtain ⟨u, hu⟩ := hX2
          obtain ⟨v, hv⟩ := hd
          exact ⟨u - v, by grind⟩
        have h3 := h.ma.lc h1 h2
        have h4 : a1 * ((i : Int) + 1) ≤ a1 * (s : Int) := Int.mul_le_mul_of_nonneg_left (by omega) (by omega)
        have h5 : a1 * ((i : Int) + 1) = a1 * i + a1 := by grind
        have := Int.le_of_dvd (by omega) h3
        omega
      have h4 : a1 * ((i : Int) + 1) ≤ a1 * (s : Int) := Int.mul_le_mul_of_nonneg_left (by omega) (by omega)
      have h5 : a1 * ((i : Int) + 1) = a1 * i + a1 := by grind
      rw [decide_eq_false hno, Bool.not_false, cond_true, sI_eq, w64_in (by omega)]
      have go := l28 h hX1 hX2 hr hs j fu (i + 1) (by omega) (by omega)
      rw [show r + a1 * (((i + 1 : Nat)) : Int) = r + a1 * i + a1 by push_cast; grind] at go
      exact go
def mRes (l : Int × Int × Int) : Option ((Int × Int × Int) × Bool) := if LtB l then some (l, true) else some ((0, 0, 0), false)
theorem l12 {a1 b1 d1 a2 b2 d2 g m n D p q e A K : Int} (h : MeetS a1 b1 d1 a2 b2 d2 g m n D p q e A K) : ∃ X, 0 ≤ X ∧ X < m * a2 ∧ a1 ∣ X - K * q * b1 ∧ a2 ∣ X - K * p * b2 ∧ ∀ (j fu : Nat) (k : Int), 1 ≤ k → k + j = K → j < fu →
    r_spec_MeetOfLattices_L12 (a1, b1, d1) (a2, b2, d2) (p * d2) fu k = (mRes (m * a2, X, K * (p * d2))).map .inr := by
  have x1 := h.md.p1
  have x3 := h.md.p3
  have p1 := h.ma.p1
  have p2 := h.ma.p2
  have p3 := h.ma.p3
  have p4 := h.ma.p4
  have g1 := h.ma.g1
  have key : ∀ k : Int, g ∣ (k * p * b2) % a2 - (k * q * b1) % a1 ↔ g ∣ k * e := by
    intro k
    have t1 := Int.emod_add_mul_ediv (k * q * b1) a1
    have t2 := Int.emod_add_mul_ediv (k * p * b2) a2
    have y1 := h.ma.e1
    have y2 := h.ma.e2
    have y3 := h.ee
    generalize (k * q * b1) % a1 = r1 at *
    generalize (k * p * b2) % a2 = r2 at *
    generalize (k * q * b1) / a1 = s1 at *
    generalize (k * p * b2) / a2 = s2 at *
    constructor
    · rintro ⟨u, hu⟩; exact ⟨-u + m * s1 - n * s2, by grind⟩
    · rintro ⟨u, hu⟩; exact ⟨-u + m * s1 - n * s2, by grind⟩
  have bd : ∀ c a : Int, 1 ≤ a → a ≤ 1000 → (c % a).natAbs ≤ 1000 := by
    intro c a h1 h2
    have := Int.emod_nonneg c (b := a) (by omega)
    have := Int.emod_lt_of_pos c (b := a) (by omega)
    omega
  obtain ⟨X, c1, c2, c3, c4, c5⟩ := com_yes h.ma (bd (K * q * b1) a1 p1 p2) (bd (K * p * b2) a2 p3 p4) ((key K).2 ((h.kd (by have := h.kp; omega)).2 ⟨1, by omega⟩))
  refine ⟨X, c2, c3, ?_, ?_, ?_⟩
  · obtain ⟨u, hu⟩ := c4
    have t1 := Int.emod_add_mul_ediv (K * q * b1) a1
    exact ⟨u - (K * q * b1) / a1, by grind⟩
  · obtain ⟨u, hu⟩ := c5
    have t1 := Int.emod_add_mul_ediv (K * p * b2) a2
    exact ⟨u - (K * p * b2) / a2, by grind⟩
  · intro j
    induction j with
    | zero =>
      intro fu k hk hj hf
      obtain ⟨fu, rfl⟩ : ∃ f, fu = f + 1 := ⟨fu - 1, by omega⟩
      have e : k = K := by omega
      subst e
      obtain ⟨v1, v2, v3, v4, v5, v6, v7, v8, v9, v10, v11⟩ := h.at hk (Int.le_refl _)
      rw [r_spec_MeetOfLattices_L12]
      dsimp only
      rw [sgcd (a := a1) (b := a2) (by omega) (by omega), ← h.ma.gg]
      simp only [Option.bind_some, leI_eq, decide_eq_true h.kg, cond_true, sI_eq, v1, nzOk (show d1 ≠ 0 by omega), nzOk (show d2 ≠ 0 by omega), v2, v3, v4, v5, v6, v7, dsc_mod, dsc_mod_val p1 (show a1 ≤ 9223372036854775807 by omega), dsc_mod_val p3 (show a2 ≤ 9223372036854775807 by omega), c1, Bool.not_true, cond_false, sL_val]
      unfold mRes
      cases LtB (m * a2, X, k * (p * d2)) <;> rfl
    | succ j ih =>
      intro fu k hk hj hf
      obtain ⟨fu, rfl⟩ : ∃ f, fu = f + 1 := ⟨fu - 1, by omega⟩
      obtain ⟨v1, v2, v3, v4, v5, v6, v7, v8, v9, v10, v11⟩ := h.at hk (by omega)
      have hno := com_no h.ma (bd (k * q * b1) a1 p1 p2) (bd (k * p * b2) a2 p3 p4) (fun hd => h.no hk (by omega) ((key k).1 hd))
      rw [r_spec_MeetOfLattices_L12]
      dsimp only
      rw [sgcd (a := a1) (b := a2) (by omega) (by omega), ← h.ma.gg]
      simp only [Option.bind_some, leI_eq, decide_eq_true (show k ≤ g by have := h.kg; omega), cond_true, sI_eq, v1, nzOk (show d1 ≠ 0 by omega), nzOk (show d2 ≠ 0 by omega), v2, v3, v4, v5, v6, v7, dsc_mod, dsc_mod_val p1 (show a1 ≤ 9223372036854775807 by omega), dsc_mod_val p3 (show a2 ≤ 9223372036854775807 by omega), hno, Bool.not_false, w64_in (n := k + 1) (by have := h.kg; have := h.ma.g2; omega)]
      exact ih fu (k + 1) (by omega) (by omega) (by omega)
theorem meet_val {a1 b1 d1 a2 b2 d2 : Int} (h1 : Lt (a1, b1, d1)) (h2 : Lt (a2, b2, d2)) : ∃ g m n D p q e A K X, MeetS a1 b1 d1 a2 b2 d2 g m n D p q e A K ∧ a1 ∣ X - K * q * b1 ∧ a2 ∣ X - K * p * b2 ∧ r_impl_MeetOfLattices (a1, b1, d1) (a2, b2, d2) = mRes (m * a2, X, K * (p * d2)) ∧ r_spec_MeetOfLattices (a1, b1, d1) (a2, b2, d2) = mRes (m * a2, X, K * (p * d2)) := by
  obtain ⟨g, m, n, D, p, q, e, A, K, h⟩ := meets h1 h2
  obtain ⟨X, hX0, hX1, c1, c2, c3⟩ := l12 h
  refine ⟨g, m, n, D, p, q, e, A, K, X, h, c1, c2, ?_, ?_⟩
  · have hF : FU = 1000000000 := rfl
    have x1 := h.md.p1
    have x2 := h.md.p2
    have x3 := h.md.p3
    have x4 := h.md.p4
    have p1 := h.ma.p1
    have p2 := h.ma.p2
    have p3 := h.ma.p3
    have p4 := h.ma.p4
    have g1 := h.ma.g1
    have g2 := h.ma.g2
    have D1 := h.md.g1
    have m1 := h.ma.m1
    have m2 := h.ma.m2
    have q1 := h.md.m1
    have q2 := h.md.m2
    have kp := h.kp
    have kg := h.kg
    obtain ⟨v1, v2, v3, v4, v5, v6, v7, v8, v9, v10, v11⟩ := h.at kp (Int.le_refl _)
    have a1' := (LtB_iff _).2 h1
    have a2' := (LtB_iff _).2 h2
    have t1 : Int.tdiv d1 D = p := tdv (by omega) h.md.e1.symm
    have t2 : Int.tdiv a1 g = m := tdv (by omega) h.ma.e1.symm
    have b1' := abs_mul (x := p) (y := d2) (A := 1000) (B := 1000) (by omega) (by omega)
    have b2' := abs_mul (x := m) (y := a2) (A := 1000) (B := 1000) (by omega) (by omega)
    have r13 := l13 h (K - 1).toNat FU 1 (by omega) (by omega) (by omega)
    rw [Int.one_mul] at r13
    have rr0 := Int.emod_nonneg (K * q * b1) (b := a1) (by omega)
    have rr1 := Int.emod_lt_of_pos (K * q * b1) (b := a1) (by omega)
    have em := Int.emod_add_mul_ediv (K * q * b1) a1
    obtain ⟨s, hs⟩ : ∃ s : Nat, X = K * q * b1 % a1 + a1 * s := by
      obtain ⟨u, hu⟩ := c1
      have e1 : X - K * q * b1 % a1 = a1 * (u + K * q * b1 / a1) := by
        generalize K * q * b1 / a1 = t at *
        generalize K * q * b1 % a1 = r at *
        grind
      have h0 : 0 ≤ u + K * q * b1 / a1 := by
        rcases Int.lt_or_le (u + K * q * b1 / a1) 0 with hh | hh
        · have : a1 * (u + K * q * b1 / a1) ≤ a1 * (-1) := Int.mul_le_mul_of_nonneg_left (by omega) (by omega)
          omega
        · exact hh
      obtain ⟨s, hs⟩ := Int.eq_ofNat_of_zero_le h0
      exact ⟨s, by rw [hs] at e1; omega⟩
    have hsb : s ≤ 1000000 := by
      have : 1 * (s : Int) ≤ a1 * (s : Int) := Int.mul_le_mul_of_nonneg_right p1 (by omega)
      omega
    have r28 := l28 h hX1 c2 rr0 hs s FU 0 (by omega) (by omega)
    have e0 : a1 * ((0 : Nat) : Int) = 0 := by simp
    rw [e0, Int.add_zero] at r28
    simp only [r_impl_MeetOfLattices, isL_val, a1', a2', Option.bind_some, Bool.not_true, cond_false, igcd (a := a1) (b := a2) (by omega) (by omega), igcd (a := d1) (b := d2) (by omega) (by omega), ← h.ma.gg, ← h.md.gg, nzOk (show D ≠ 0 by omega), nzOk (show g ≠ 0 by omega), nzOk (show d1 ≠ 0 by omega), t1, t2, w64_in (n := p) (by omega), w64_in (n := m) (by omega), w64_abs (n := p * d2) (by omega), w64_abs (n := m * a2) (by omega), sI_eq, r13]
    by_cases hbig : 1000 < m * a2 ∨ 1000 < K * (p * d2)
    · have hb : (bif ltI 1000 (m * a2) then true else ltI 1000 (K * (p * d2))) = true := by
        rw [ltI_eq, ltI_eq]
        rcases hbig with hh | hh
        · rw [decide_eq_true hh]; rfl
        · rw [decide_eq_true hh]; cases decide (1000 < m * a2) <;> rfl
      have hl : LtB (m * a2, X, K * (p * d2)) = false := by
        rw [Bool.eq_false_iff]
        intro hh
        have := (LtB_iff _).1 hh
        have k2 : m * a2 ≤ 1000 := this.a2
        have k4 : K * (p * d2) ≤ 1000 := this.d2
        omega
      rw [hb, cond_true]
      unfold mRes
      rw [hl]
      rfl
    · have hb : (bif ltI 1000 (m * a2) then true else ltI 1000 (K * (p * d2))) = false := by
        rw [ltI_eq, ltI_eq, decide_eq_false (by omega), decide_eq_false (by omega)]; rfl
      have hpd : 1 * 1 ≤ p * d2 := Int.mul_le_mul q1 x3 (by omega) (by omega)
      have hkd : 1 * 1 ≤ K * (p * d2) := Int.mul_le_mul kp (by omega) (by omega) (by omega)
      have hl : LtB (m * a2, X, K * (p * d2)) = true := (LtB_iff _).2 ⟨by show 1 ≤ m * a2; omega, by show m * a2 ≤ 1000; omega, by show 1 ≤ K * (p * d2); omega, by show K * (p * d2) ≤ 1000; omega, hX0, hX1⟩
      have hXm : X % (m * a2) = X := Int.emod_eq_of_lt hX0 hX1
      rw [hb, cond_false]
      simp only [v2, v4, v6, dsc_mod_val p1 (show a1 ≤ 9223372036854775807 by omega), Option.bind_some, r28, dsc_mod_val (show 1 ≤ m * a2 by omega) (show m * a2 ≤ 9223372036854775807 by omega), hXm, r_impl_validLattice, isL_val, hl, Bool.not_true, cond_false]
      unfold mRes
      rw [hl]
      rfl
  · have hF := FUge
    have x1 := h.md.p1
    have x2 := h.md.p2
    have x3 := h.md.p3
    have x4 := h.md.p4
    have D1 := h.md.g1
    have q1 := h.md.m1
    have q2 := h.md.m2
    have kp := h.kp
    have kg := h.kg
    have g2 := h.ma.g2
    have a1' := (LtB_iff _).2 h1
    have a2' := (LtB_iff _).2 h2
    have t1 : Int.tdiv d1 D = p := tdv (by omega) h.md.e1.symm
    have b1' := abs_mul (x := p) (y := d2) (A := 1000) (B := 1000) (by omega) (by omega)
    have r12 := c3 (K - 1).toNat FU 1 (by omega) (by omega) (by omega)
    simp only [r_spec_MeetOfLattices, sL_val, a1', a2', Option.bind_some, Bool.not_true, cond_false, sgcd (a := d1) (b := d2) (by omega) (by omega), ← h.md.gg, nzOk (show D ≠ 0 by omega), t1, w64_in (n := p) (by omega), w64_abs (n := p * d2) (by omega), sI_eq, r12]
    unfold mRes
    cases LtB (m * a2, X, K * (p * d2)) <;> rfl
end Go.Proofs.Ytgeajejmikaniaa
