/-
  Lattices in the plane: sums by Euclid's algorithm, both ways.
  Conditions: none.
-/
import Derived.Test.YtgeajejmikaniaaLaCur2
import Derived.Test.YtgeajejmikaniaaLaCt0
namespace Go.Proofs.Ytgeajejmikaniaa
set_option linter.unusedVariables false
set_option linter.unusedSimpArgs false

structure Lt (l : Int × Int × Int) : Prop where
  a1 : 1 ≤ l.1
  a2 : l.1 ≤ 1000
  d1 : 1 ≤ l.2.2
  d2 : l.2.2 ≤ 1000
  b1 : 0 ≤ l.2.1
  b2 : l.2.1 < l.1
def LtB (l : Int × Int × Int) : Bool := decide (1 ≤ l.1 ∧ l.1 ≤ 1000 ∧ 1 ≤ l.2.2 ∧ l.2.2 ≤ 1000 ∧ 0 ≤ l.2.1 ∧ l.2.1 < l.1)
theorem LtB_iff (l : Int × Int × Int) : LtB l = true ↔ Lt l := by
  unfold LtB
  rw [decide_eq_true_iff]
  exact ⟨fun ⟨h1, h2, h3, h4, h5, h6⟩ => ⟨h1, h2, h3, h4, h5, h6⟩, fun ⟨h1, h2, h3, h4, h5, h6⟩ => ⟨h1, h2, h3, h4, h5, h6⟩⟩
theorem isL_val (l : Int × Int × Int) : r_impl_isLattice l = some (LtB l) := by
  obtain ⟨a, b, d⟩ := l
  simp only [r_impl_isLattice, LtB, leI_eq, ltI_eq, Option.bind_some]
  congr 1
  by_cases h1 : 1 ≤ a <;> by_cases h2 : a ≤ 1000 <;> by_cases h3 : 1 ≤ d <;> by_cases h4 : d ≤ 1000 <;> by_cases h5 : 0 ≤ b <;> by_cases h6 : b < a <;> simp [h1, h2, h3, h4, h5, h6]
theorem sL_val (l : Int × Int × Int) : r_spec_laGood l = some (LtB l) := by
  obtain ⟨a, b, d⟩ := l
  simp only [r_spec_laGood, r_spec_l1In, LtB, leI_eq, Option.bind_some]
  by_cases h1 : 1 ≤ a
  · by_cases h2 : a ≤ 1000
    · have e : w64 (a - 1) = a - 1 := w64_in (by omega)
      rw [e]
      by_cases h3 : 1 ≤ d <;> by_cases h4 : d ≤ 1000 <;> by_cases h5 : 0 ≤ b <;> by_cases h6 : b < a <;> simp [h1, h2, h3, h4, h5, h6] <;> omega
    · simp [h1, h2]
  · simp [h1]
theorem gcd_of {g x y : Int} (h : ∀ c : Int, c ∣ g → (c ∣ x ↔ c ∣ y)) : Int.gcd g x = Int.gcd g y := by
  apply Nat.dvd_antisymm
  · apply Int.natCast_dvd_natCast.1
    exact Int.dvd_coe_gcd (Int.gcd_dvd_left ..) ((h _ (Int.gcd_dvd_left ..)).1 (Int.gcd_dvd_right ..))
  · apply Int.natCast_dvd_natCast.1
    exact Int.dvd_coe_gcd (Int.gcd_dvd_left ..) ((h _ (Int.gcd_dvd_left ..)).2 (Int.gcd_dvd_right ..))
/-- A step of Euclid's algorithm keeps this sum small. -/
theorem euc_bd {b x d y k : Int} (hk : 0 ≤ k) (hy : 1 ≤ y) (M : Int) (h : (x.natAbs : Int) * d + (b.natAbs : Int) * y ≤ M) : ((b - k * x).natAbs : Int) * y + (x.natAbs : Int) * (d - k * y) ≤ M ∧ ((x.natAbs : Int) * (d - k * y) ≥ 0 → ((b - k * x).natAbs : Int) ≤ M) := by
  have h1 : ((b - k * x).natAbs : Int) ≤ (b.natAbs : Int) + k * (x.natAbs : Int) := by
    have h2 : (b - k * x).natAbs ≤ b.natAbs + (k * x).natAbs := Int.natAbs_sub_le b (k * x)
    have h3 : (((k * x).natAbs : Nat) : Int) = k * (x.natAbs : Int) := by
      rw [Int.natAbs_mul, Int.natCast_mul, Int.natAbs_of_nonneg hk]
    omega
  have h4 : ((b - k * x).natAbs : Int) * y ≤ ((b.natAbs : Int) + k * (x.natAbs : Int)) * y := Int.mul_le_mul_of_nonneg_right h1 (by omega)
  have e : ((b.natAbs : Int) + k * (x.natAbs : Int)) * y + (x.natAbs : Int) * (d - k * y) = (x.natAbs : Int) * d + (b.natAbs : Int) * y := by grind
  have h5 : ((b - k * x).natAbs : Int) * 1 ≤ ((b - k * x).natAbs : Int) * y := Int.mul_le_mul_of_nonneg_left hy (by omega)
  constructor
  · omega
  · intro h6; omega
/-- Congruent by a divisor. -/
def Cg (g x y : Int) : Prop := g ∣ x - y
theorem tdiv_q {d y : Int} (hd : 0 ≤ d) (hy : 1 ≤ y) : 0 ≤ Int.tdiv d y ∧ Int.tdiv d y ≤ d ∧ 0 ≤ d - Int.tdiv d y * y ∧ d - Int.tdiv d y * y < y := by
  have h1 := Int.tmod_add_mul_tdiv d y
  have h2 := tmod_range hd (show 0 < y by omega)
  have h3 := Int.tdiv_nonneg hd (show 0 ≤ y by omega)
  have e : Int.tdiv d y * y = y * Int.tdiv d y := Int.mul_comm _ _
  have h4 : Int.tdiv d y * 1 ≤ Int.tdiv d y * y := Int.mul_le_mul_of_nonneg_left hy h3
  refine ⟨h3, by omega, by omega, by omega⟩
theorem bigk {k x : Int} {K M : Nat} (h1 : k.natAbs ≤ K) (h2 : x.natAbs ≤ M) (hKM : K * M ≤ 9000000000000) : w64 (k * x) = k * x ∧ (k * x).natAbs ≤ K * M := by
  have := abs_mul h1 h2
  exact ⟨w64_abs (by omega), this⟩
structure Euc (g b d x y bf D xf bs xs : Int) : Prop where
  c1 : Cg g bf bs
  c2 : Cg g xf xs
  b1 : bf.natAbs ≤ 1000
  b2 : xf.natAbs ≤ 1000
  b3 : bs.natAbs ≤ 2000000
  b4 : xs.natAbs ≤ 2000000
  D1 : 1 ≤ D
  D2 : D ≤ 1000
  dd : D ∣ d
  dy : D ∣ y
  co : ∃ i j, bs = i * b + j * x ∧ D = i * d + j * y
  de : xs * D = b * y - x * d ∨ xs * D = -(b * y - x * d)
theorem euc {g : Int} (hg : 1 ≤ g) (hg2 : g ≤ 1000) (li : List (Int × Int)) (ti : Int) : ∀ (k fu : Nat) (b d x y b' x' : Int), 0 ≤ y → y ≤ k → k < fu → 1 ≤ d → d ≤ 1000 → y ≤ 1000 → (x'.natAbs : Int) * d + (b'.natAbs : Int) * y ≤ 2000000 → x'.natAbs ≤ 2000000 → b'.natAbs ≤ 2000000 → b.natAbs ≤ 1000 → x.natAbs ≤ 1000 → Cg g b b' → Cg g x x' →
    ∃ bf D xf bs xs, r_impl_hermite_L14 g li ti fu b d x y = some (bf, D, xf) ∧ r_spec_laHermite_L14 g li ti fu x' y b' d = some (xs, 0, bs, D) ∧ Euc g b' d x' y bf D xf bs xs
  | k, 0, b, d, x, y, b', x', _, _, hf, _, _, _, _, _, _, _, _, _, _ => by omega
  | k, fu + 1, b, d, x, y, b', x', hy0, hyk, hf, hd, hdm, hym, hS, hx', hb', hb, hx, cb, cx => by
    rw [r_impl_hermite_L14, r_spec_laHermite_L14]
    by_cases h0 : y = 0
    · subst h0
      rw [eqSelf, Bool.not_true, cond_false, cond_false]
      refine ⟨b, d, x, b', x', rfl, rfl, cb, cx, hb, hx, hb', hx', hd, hdm, ⟨1, by omega⟩, ⟨0, by omega⟩, ⟨1, 0, by omega, by omega⟩, .inr (by grind)⟩
    · have hy1 : 1 ≤ y := by omega
      obtain ⟨k', rfl⟩ : ∃ k', k = k' + 1 := ⟨k - 1, by omega⟩
      obtain ⟨q0, q1, q2, q3⟩ := tdiv_q (d := d) (y := y) (by omega) hy1
      obtain ⟨s1, s2⟩ := euc_bd (b := b') (x := x') (d := d) (y := y) (k := Int.tdiv d y) q0 hy1 2000000 hS
      have s3 : 0 ≤ (x'.natAbs : Int) * (d - Int.tdiv d y * y) := Int.mul_nonneg (by omega) q2
      have s4 := s2 s3
      generalize hq : Int.tdiv d y = q at *
      obtain ⟨w1, w2⟩ := bigk (k := q) (x := x) (K := 1000) (M := 1000) (by omega) hx (by decide)
      obtain ⟨w3, w4⟩ := bigk (k := q) (x := x') (K := 1000) (M := 2000000) (by omega) hx' (by decide)
      obtain ⟨w5, w6⟩ := bigk (k := q) (x := y) (K := 1000) (M := 1000) (by omega) (by omega) (by decide)
      have n1 := Int.emod_nonneg (b - q * x) (b := g) (by omega)
      have n2 := Int.emod_lt_of_pos (b - q * x) (b := g) (by omega)
      have cx2 : Cg g ((b - q * x) % g) (b' - q * x') := by
        have e1 := Int.emod_add_mul_ediv (b - q * x) g
        obtain ⟨u, hu⟩ := cb
        obtain ⟨v, hv⟩ := cx
        refine ⟨u - q * v - (b - q * x) / g, ?_⟩
        generalize (b - q * x) % g = r at *
        generalize (b - q * x) / g = t at *
        grind
      have hne : (!eqI y 0) = true := by rw [eqNe h0]; rfl
      have hge : (!eqI g 0) = true := by rw [eqNe (by omega)]; rfl
      obtain ⟨bf, D, xf, bs, xs, e1, e2, e3⟩ := euc hg hg2 li ti k' fu x y ((b - q * x) % g) (d - q * y) x' (b' - q * x') q2 (by omega) (by omega) hy1 hym (by omega) (by omega) (by omega) hx' hx (by omega) cx cx2
      rw [hne, cond_true, cond_true]
      simp only [nzOk h0, Option.bind_some, sI_eq, hq]
      rw [w64_in (n := q) (by omega), w1, w3, w5, w64_in (n := b - q * x) (by omega), w64_in (n := d - q * y) (by omega), w64_in (n := b' - q * x') (by omega), hge, cond_true, dsc_mod_val hg (by omega)]
      simp only [Option.bind_some]
      refine ⟨bf, D, xf, bs, xs, e1, e2, e3.c1, e3.c2, e3.b1, e3.b2, e3.b3, e3.b4, e3.D1, e3.D2, ?_, e3.dd, ?_, ?_⟩
      · obtain ⟨u, hu⟩ := e3.dd
        obtain ⟨v, hv⟩ := e3.dy
        exact ⟨v + q * u, by grind⟩
      · obtain ⟨i, j, h1, h2⟩ := e3.co
        exact ⟨j, i - j * q, by grind, by grind⟩
      · rcases e3.de with h | h
        · right; rw [h]; grind
        · left; rw [h]; grind
theorem FU6 : ∃ m, FU = m + 1 + 1 + 1 + 1 + 1 + 1 := ⟨FU - 6, rfl⟩
theorem i14z (g : Int) (li : List (Int × Int)) (ti b d x : Int) : r_impl_hermite_L14 g li ti FU b d x 0 = some (b, d, x) := by
  obtain ⟨m, hm⟩ := FU6
  rw [hm, r_impl_hermite_L14, eqSelf, Bool.not_true, cond_false]
theorem s14z (g : Int) (li : List (Int × Int)) (ti b d x : Int) : r_spec_laHermite_L14 g li ti FU x 0 b d = some (x, 0, b, d) := by
  obtain ⟨m, hm⟩ := FU6
  rw [hm, r_spec_laHermite_L14, eqSelf, Bool.not_true, cond_false]
theorem i14s {g : Int} (hg : 1 ≤ g) (hg2 : g ≤ 1000) (li : List (Int × Int)) (ti x : Int) {y : Int} (hy : y ≠ 0) : r_impl_hermite_L14 g li ti FU 0 0 x y = some (x, y, 0) := by
  obtain ⟨m, hm⟩ := FU6
  have hge : (!eqI g 0) = true := by rw [eqNe (by omega)]; rfl
  have hne : (!eqI y 0) = true := by rw [eqNe hy]; rfl
  have e : Int.tdiv 0 y = 0 := Int.zero_tdiv y
  have e2 : w64 0 = 0 := rfl
  rw [hm, r_impl_hermite_L14, hne, cond_true]
  simp only [nzOk hy, Option.bind_some, sI_eq, e, e2, Int.zero_mul, Int.sub_zero, hge, cond_true, dsc_mod_val hg (show g ≤ 9223372036854775807 by omega), Int.zero_emod]
  rw [r_impl_hermite_L14, eqSelf, Bool.not_true, cond_false]
theorem s14s (g : Int) (li : List (Int × Int)) (ti x : Int) {y : Int} (hy : y ≠ 0) : r_spec_laHermite_L14 g li ti FU x y 0 0 = some (0, 0, x, y) := by
  obtain ⟨m, hm⟩ := FU6
  have hne : (!eqI y 0) = true := by rw [eqNe hy]; rfl
  have e : Int.tdiv 0 y = 0 := Int.zero_tdiv y
  have e2 : w64 0 = 0 := rfl
  rw [hm, r_spec_laHermite_L14, hne, cond_true]
  simp only [nzOk hy, Option.bind_some, sI_eq, e, e2, Int.zero_mul, Int.sub_zero]
  rw [r_spec_laHermite_L14, eqSelf, Bool.not_true, cond_false]
theorem igcd {a b : Int} (ha : a.natAbs ≤ 9000000000) (hb : b.natAbs ≤ 9000000000) : r_impl_gcd a b = some (Int.gcd a b : Int) := gcd_val (by omega) (by omega)
theorem sgcd {a b : Int} (ha : a.natAbs ≤ 9000000000) (hb : b.natAbs ≤ 9000000000) : r_spec_nuGcd a b = some (Int.gcd a b : Int) := sgcd_val (by omega) (by omega)
theorem gcd_pos1 {a b : Int} (h : 1 ≤ a) : 1 ≤ (Int.gcd a b : Int) ∧ (Int.gcd a b : Int) ≤ a := by
  have h1 : 0 < Int.gcd a b := Int.gcd_pos_of_ne_zero_left b (by omega)
  have h2 := Int.le_of_dvd (by omega) (Int.gcd_dvd_left a b)
  exact ⟨by omega, h2⟩
/-- What the sum of two lattices is. -/
structure SumS (a1 b1 d1 a2 b2 d2 A B D e : Int) : Prop where
  lt : Lt (A, B, D)
  de : e * D = b1 * d2 - b2 * d1
  ga : A = (Int.gcd (Int.gcd a1 a2 : Int) e : Int)
  gd : D = (Int.gcd d1 d2 : Int)
  co : ∃ i j, D = i * d1 + j * d2 ∧ A ∣ B - (i * b1 + j * b2)
theorem four {li : List (Int × Int)} {p q r s : Int × Int} (h : li = [p, q, r, s]) : getI li 0 = some p ∧ getI li 1 = some q ∧ getI li 2 = some r ∧ getI li 3 = some s ∧ (li.length : Int) = 4 := by subst h; exact ⟨rfl, rfl, rfl, rfl, rfl⟩
theorem herm {a1 b1 d1 a2 b2 d2 : Int} (h1 : Lt (a1, b1, d1)) (h2 : Lt (a2, b2, d2)) : ∃ A B D e, r_impl_hermite [(a1, 0), (b1, d1), (a2, 0), (b2, d2)] = some (A, B, D, true) ∧ r_spec_laHermite [(a1, 0), (b1, d1), (a2, 0), (b2, d2)] = some (A, B, D) ∧ SumS a1 b1 d1 a2 b2 d2 A B D e := by
  obtain ⟨x1, x2, x3, x4, x5, x6⟩ := h1
  obtain ⟨y1, y2, y3, y4, y5, y6⟩ := h2
  dsimp only at x1 x2 x3 x4 x5 x6 y1 y2 y3 y4 y5 y6
  generalize hli : [(a1, (0 : Int)), (b1, d1), (a2, 0), (b2, d2)] = li
  obtain ⟨g0, g1, g2, g3, g4⟩ := four hli.symm
  obtain ⟨gp, gl⟩ := gcd_pos1 (a := a1) (b := a2) x1
  generalize hg : (Int.gcd a1 a2 : Int) = g at *
  have m1 := Int.emod_nonneg b1 (b := g) (by omega)
  have m2 := Int.emod_lt_of_pos b1 (b := g) (by omega)
  have hS : (b2.natAbs : Int) * d1 + ((b1 % g).natAbs : Int) * d2 ≤ 2000000 := by
    have k1 : (b2.natAbs : Int) * d1 ≤ 1000 * 1000 := Int.mul_le_mul (by omega) x4 (by omega) (by omega)
    have k2 : ((b1 % g).natAbs : Int) * d2 ≤ 1000 * 1000 := Int.mul_le_mul (by omega) y4 (by omega) (by omega)
    omega
  obtain ⟨bf, D, xf, bs, xs, e1, e2, E⟩ := euc gp (by omega) li 3 1000 FU (b1 % g) d1 b2 d2 (b1 % g) b2 (by omega) (by omega) (by decide) x3 x4 y4 hS (by omega) (by omega) (by omega) (by omega) ⟨0, by omega⟩ ⟨0, by omega⟩
  obtain ⟨Ap, Al⟩ := gcd_pos1 (a := g) (b := xf) gp
  have hgx : Int.gcd g xf = Int.gcd g xs := gcd_of fun c hc => by
    obtain ⟨u, hu⟩ := hc
    obtain ⟨v, hv⟩ := E.c2
    constructor
    · rintro ⟨w, hw⟩; exact ⟨w - u * v, by grind⟩
    · rintro ⟨w, hw⟩; exact ⟨w + u * v, by grind⟩
  generalize hA : (Int.gcd g xf : Int) = A at *
  have hA2 : (Int.gcd g xs : Int) = A := by rw [← hgx]; exact hA
  have Ag : A ∣ g := by rw [← hA]; exact Int.gcd_dvd_left ..
  have hbb : bf % A = bs % A := by
    obtain ⟨u, hu⟩ := Ag
    obtain ⟨v, hv⟩ := E.c1
    rw [show bf = bs + A * (u * v) by grind, Int.add_mul_emod_self_left]
  have r1 := Int.emod_nonneg bs (b := A) (by omega)
  have r2 := Int.emod_lt_of_pos bs (b := A) (by omega)
  have hb1 : b1 % a1 = b1 := Int.emod_eq_of_lt x5 x6
  obtain ⟨m, hm⟩ := FU6
  have gz1 : Int.gcd 0 a1 = a1.natAbs := Int.zero_gcd
  have gz2 : Int.gcd a1 0 = a1.natAbs := Int.gcd_zero
  have ea1 : (a1.natAbs : Int) = a1 := by omega
  have n1 : (!eqI a1 0) = true := by rw [eqNe (by omega)]; rfl
  have n2 : (!eqI g 0) = true := by rw [eqNe (by omega)]; rfl
  have n3 : (!eqI A 0) = true := by rw [eqNe (by omega)]; rfl
  have w1 : w64 (0 + 1) = 1 := rfl
  have w2 : w64 (1 + 1) = 2 := rfl
  have w3 : w64 (2 + 1) = 3 := rfl
  have w4 : w64 (3 + 1) = 4 := rfl
  have c0 : ltI 0 4 = true := rfl
  have c1 : ltI 1 4 = true := rfl
  have c2 : ltI 2 4 = true := rfl
  have c3 : ltI 3 4 = true := rfl
  have c4 : ltI 4 4 = false := rfl
  have I : r_impl_hermite_L6 li FU 0 0 0 0 = some (A, bs % A, D) := by
    rw [hm, r_impl_hermite_L6, g4, c0, cond_true, g0]
    simp only [Option.bind_some, i14z, igcd (a := 0) (b := a1) (by omega) (by omega), gz1, ea1, n1, cond_true, dsc_mod_val x1 (show a1 ≤ 9223372036854775807 by omega), Int.zero_emod, sI_eq, w1]
    rw [r_impl_hermite_L6, g4, c1, cond_true, g1]
    simp only [Option.bind_some, i14s x1 x2 li 1 b1 (show d1 ≠ 0 by omega), igcd (a := a1) (b := 0) (by omega) (by omega), gz2, ea1, n1, cond_true, dsc_mod_val x1 (show a1 ≤ 9223372036854775807 by omega), hb1, sI_eq, w2]
    rw [r_impl_hermite_L6, g4, c2, cond_true, g2]
    simp only [Option.bind_some, i14z, igcd (a := a1) (b := a2) (by omega) (by omega), hg, n2, cond_true, dsc_mod_val gp (show g ≤ 9223372036854775807 by omega), sI_eq, w3]
    rw [r_impl_hermite_L6, g4, c3, cond_true, g3]
    simp only [Option.bind_some, e1, igcd (a := g) (b := xf) (by omega) (by have := E.b2; omega), hA, n3, cond_true, dsc_mod_val Ap (show A ≤ 9223372036854775807 by omega), hbb, sI_eq, w4]
    rw [r_impl_hermite_L6, g4, c4, cond_false]
  have p1 : ltI 0 a1 = true := by rw [ltI_eq, decide_eq_true (by omega)]
  have p2 : ltI 0 g = true := by rw [ltI_eq, decide_eq_true (by omega)]
  have p3 : ltI 0 A = true := by rw [ltI_eq, decide_eq_true (by omega)]
  have l0 : ltI 0 0 = false := rfl
  have l1 : ltI d1 0 = false := by rw [ltI_eq, decide_eq_false (by omega)]
  have l2 : ltI D 0 = false := by rw [ltI_eq, decide_eq_false (by have := E.D1; omega)]
  have S : r_spec_laHermite_L6 li FU 0 0 0 0 = some (A, bs % A, D) := by
    rw [hm, r_spec_laHermite_L6, g4, c0, cond_true, g0]
    simp only [Option.bind_some, s14z, sgcd (a := 0) (b := a1) (by omega) (by omega), gz1, ea1, l0, cond_false, p1, cond_true, dsc_mod, dsc_mod_val x1 (show a1 ≤ 9223372036854775807 by omega), Int.zero_emod, sI_eq, w1]
    rw [r_spec_laHermite_L6, g4, c1, cond_true, g1]
    simp only [Option.bind_some, s14s a1 li 1 b1 (show d1 ≠ 0 by omega), sgcd (a := a1) (b := 0) (by omega) (by omega), gz2, ea1, l1, cond_false, p1, cond_true, dsc_mod, dsc_mod_val x1 (show a1 ≤ 9223372036854775807 by omega), hb1, sI_eq, w2]
    rw [r_spec_laHermite_L6, g4, c2, cond_true, g2]
    simp only [Option.bind_some, s14z, sgcd (a := a1) (b := a2) (by omega) (by omega), hg, l1, cond_false, p2, cond_true, dsc_mod, dsc_mod_val gp (show g ≤ 9223372036854775807 by omega), sI_eq, w3]
    rw [r_spec_laHermite_L6, g4, c3, cond_true, g3]
    simp only [Option.bind_some, e2, sgcd (a := g) (b := xs) (by omega) (by have := E.b4; omega), hA2, l2, cond_false, p3, cond_true, dsc_mod, dsc_mod_val Ap (show A ≤ 9223372036854775807 by omega), sI_eq, w4]
    rw [r_spec_laHermite_L6, g4, c4, cond_false]
  have D1 := E.D1
  have D2 := E.D2
  obtain ⟨u2, hu2⟩ := E.dy
  have em := Int.emod_add_mul_ediv b1 g
  obtain ⟨e, he⟩ : ∃ e, (xs = e - g * (b1 / g) * u2 ∨ xs = -(e - g * (b1 / g) * u2)) ∧ e * D = b1 * d2 - b2 * d1 := by
    rcases E.de with h | h
    · refine ⟨xs + g * (b1 / g) * u2, .inl (by grind), ?_⟩
      generalize b1 % g = r at *
      generalize b1 / g = t at *
      grind
    · refine ⟨-xs + g * (b1 / g) * u2, .inr (by grind), ?_⟩
      generalize b1 % g = r at *
      generalize b1 / g = t at *
      grind
  refine ⟨A, bs % A, D, e, ?_, ?_, ⟨⟨Ap, by show A ≤ 1000; omega, D1, D2, r1, r2⟩, he.2, ?_, ?_, ?_⟩⟩
  · simp only [r_impl_hermite, I, Option.bind_some, eqNe (show A ≠ 0 by omega), eqNe (show D ≠ 0 by omega), cond_false, l2]
  · simp only [r_spec_laHermite, S, Option.bind_some]
  · rw [← hA2]
    congr 1
    rw [← hg] at *
    refine gcd_of fun c hc => ?_
    obtain ⟨u, hu⟩ := hc
    rcases he.1 with h | h
    · constructor
      · rintro ⟨w, hw⟩; exact ⟨w + u * (b1 / (Int.gcd a1 a2 : Int)) * u2, by grind⟩
      · rintro ⟨w, hw⟩; exact ⟨w - u * (b1 / (Int.gcd a1 a2 : Int)) * u2, by grind⟩
    · constructor
      · rintro ⟨w, hw⟩; exact ⟨-w + u * (b1 / (Int.gcd a1 a2 : Int)) * u2, by grind⟩
      · rintro ⟨w, hw⟩; exact ⟨-(w - u * (b1 / (Int.gcd a1 a2 : Int)) * u2), by grind⟩
  · obtain ⟨i, j, k1, k2⟩ := E.co
    have h3 : D ∣ (Int.gcd d1 d2 : Int) := Int.dvd_coe_gcd E.dd E.dy
    have h4 : (Int.gcd d1 d2 : Int) ∣ D := by
      obtain ⟨s, hs⟩ := Int.gcd_dvd_left d1 d2
      obtain ⟨t, ht⟩ := Int.gcd_dvd_right d1 d2
      exact ⟨i * s + j * t, by grind⟩
    exact Int.dvd_antisymm (by omega) (by omega) h3 h4
  · obtain ⟨i, j, k1, k2⟩ := E.co
    refine ⟨i, j, k2, ?_⟩
    obtain ⟨u, hu⟩ := Ag
    have em2 := Int.emod_add_mul_ediv bs A
    refine ⟨-(bs / A) - i * u * (b1 / g), ?_⟩
    generalize bs % A = r at *
    generalize bs / A = t at *
    generalize b1 % g = r' at *
    generalize b1 / g = t' at *
    grind
end Go.Proofs.Ytgeajejmikaniaa
