/-
  Sums and intersections of lattices: indices, points, sublattices.
  Conditions: none.
-/
import Derived.Test.YtgeajejmikaniaaLaLtM
namespace Go.Proofs.Ytgeajejmikaniaa
set_option linter.unusedVariables false
set_option linter.unusedSimpArgs false

/-! ### Draws -/
theorem bif3' (a b c : Bool) : ∃ x, (bif a then some b else some c : Option Bool) = some x := by cases a <;> exact ⟨_, rfl⟩
theorem number_ok {k : Nat} {c : List Int × Int × Int} (h : CurB k c) (hk : k ≤ 100000000000) : ∃ v c', r_spec_l1Cur_number c = some (v, c') ∧ CurB (k + 8) c' := by
  obtain ⟨y, c1, e1, _, _, _, h1⟩ := pick_ok 12 h (by omega)
  simp only [r_spec_l1Cur_number, e1, Option.bind_some]
  cases eqI y 0 with
  | true =>
    obtain ⟨x, c2, e2, _, h2⟩ := among_ok (l := [0, 1, -1, 1000000, -1000000, 1000001, -1000001, -9223372036854775808, 9223372036854775807, 999983, 999999, 1000]) (by simp) h1 (by omega)
    simp only [cond_true, e2, Option.bind_some]
    exact ⟨x, c2, rfl, h2.up (by omega)⟩
  | false =>
    rw [cond_false]
    obtain ⟨j, hj⟩ := bif3' (eqI y 1) (eqI y 1) (eqI y 2)
    rw [hj]
    simp only [Option.bind_some]
    cases j with
    | true =>
      obtain ⟨x1, c2, e2, _, _, _, h2⟩ := pick_ok 50000 h1 (by omega)
      obtain ⟨x2, c3, e3, _, _, _, h3⟩ := pick_ok 20 h2 (by omega)
      obtain ⟨x3, c4, e4, _, _, _, h4⟩ := pick_ok 2 h3 (by omega)
      simp only [cond_true, e2, e3, e4, Option.bind_some, sI_eq]
      exact ⟨_, c4, rfl, h4.up (by omega)⟩
    | false =>
      rw [cond_false]
      obtain ⟨j, hj⟩ := bif3' (eqI y 3) (eqI y 3) (eqI y 4)
      rw [hj]
      simp only [Option.bind_some]
      cases j with
      | true =>
        obtain ⟨x1, c2, e2, _, _, _, h2⟩ := pick_ok 2000 h1 (by omega)
        simp only [cond_true, e2, Option.bind_some]
        exact ⟨_, c2, rfl, h2.up (by omega)⟩
      | false =>
        obtain ⟨x1, c2, e2, _, _, _, h2⟩ := pick_ok 121 h1 (by omega)
        simp only [cond_false, e2, Option.bind_some, sI_eq]
        exact ⟨_, c2, rfl, h2.up (by omega)⟩
theorem lat_ok {k : Nat} {c : List Int × Int × Int} (h : CurB k c) (hk : k ≤ 1000000000) : ∃ l c', r_spec_l1Cur_lattice c = some (l, c') ∧ CurB (k + 100) c' := by
  obtain ⟨x1, c1, e1, _, _, _, h1⟩ := pick_ok 30 h (by omega)
  obtain ⟨x2, c2, e2, _, _, _, h2⟩ := pick_ok 30 h1 (by omega)
  obtain ⟨x3, c3, e3, _, _, _, h3⟩ := pick_ok 16 h2 (by omega)
  simp only [r_spec_l1Cur_lattice, e1, e2, e3, Option.bind_some, sI_eq]
  cases eqI x3 0 with
  | true =>
    obtain ⟨y1, c4, e4, h4⟩ := number_ok h3 (by omega)
    obtain ⟨y2, c5, e5, h5⟩ := number_ok h4 (by omega)
    obtain ⟨y3, c6, e6, h6⟩ := number_ok h5 (by omega)
    simp only [cond_true, e4, e5, e6, Option.bind_some]
    exact ⟨_, _, rfl, h6.up (by omega)⟩
  | false =>
    rw [cond_false]
    cases eqI x3 1 with
    | true =>
      obtain ⟨y1, c4, e4, _, h4⟩ := among_ok (l := [1000, 1001, 1, 999]) (by simp) h3 (by omega)
      obtain ⟨y2, c5, e5, _, _, _, h5⟩ := pick_ok y1 h4 (by omega)
      obtain ⟨f1, f2, f3⟩ := c4
      simp only [cond_true, e4, Option.bind_some, e5]
      exact ⟨_, _, rfl, h5.up (by omega)⟩
    | false =>
      rw [cond_false]
      cases eqI x3 2 with
      | true =>
        obtain ⟨y1, c4, e4, _, h4⟩ := among_ok (l := [1000, 1001, 0, 999]) (by simp) h3 (by omega)
        obtain ⟨y2, c5, e5, _, _, _, h5⟩ := pick_ok (w64 (1 + x1)) h4 (by omega)
        obtain ⟨f1, f2, f3⟩ := c4
        simp only [cond_true, e4, Option.bind_some, e5]
        exact ⟨_, _, rfl, h5.up (by omega)⟩
      | false =>
        rw [cond_false]
        cases eqI x3 3 with
        | true =>
          simp only [cond_true, Option.bind_some]
          exact ⟨_, _, rfl, h3.up (by omega)⟩
        | false =>
          rw [cond_false]
          obtain ⟨j, hj⟩ := bif3' (eqI x3 4) (eqI x3 4) (eqI x3 5)
          rw [hj]
          simp only [Option.bind_some]
          cases j with
          | true =>
            obtain ⟨y1, c4, e4, _, _, _, h4⟩ := pick_ok 6 h3 (by omega)
            obtain ⟨y2, c5, e5, _, _, _, h5⟩ := pick_ok (w64 (1 + x1)) h4 (by omega)
            simp only [cond_true, e4, e5, Option.bind_some]
            exact ⟨_, _, rfl, h5.up (by omega)⟩
          | false =>
            obtain ⟨y2, c5, e5, _, _, _, h5⟩ := pick_ok (w64 (1 + x1)) h3 (by omega)
            obtain ⟨f1, f2, f3⟩ := c3
            simp only [cond_false, Option.bind_some, e5]
            exact ⟨_, _, rfl, h5.up (by omega)⟩
/-! ### Points -/
def Has (l : Int × Int × Int) (x y : Int) : Prop := ∃ t, y = l.2.2 * t ∧ l.1 ∣ x - t * l.2.1
theorem has_val {l : Int × Int × Int} (h : Lt l) {x y : Int} (hx : x.natAbs ≤ 10000) (hy : y.natAbs ≤ 10000) : ∃ b, r_impl_Lattice_has l x y = some b ∧ (b = true ↔ Has l x y) := by
  obtain ⟨a, b, d⟩ := l
  obtain ⟨a1, a2, d1, d2, b1, b2⟩ := h
  dsimp only at a1 a2 d1 d2 b1 b2
  simp only [r_impl_Lattice_has, nzOk (show d ≠ 0 by omega), nzOk (show a ≠ 0 by omega), Option.bind_some, tz (show d ≠ 0 by omega)]
  by_cases hd : d ∣ y
  · obtain ⟨t, ht⟩ := hd
    have tb : t.natAbs ≤ 10000 := by
      have e : y.natAbs = d.natAbs * t.natAbs := by rw [ht, Int.natAbs_mul]
      have : 1 * t.natAbs ≤ d.natAbs * t.natAbs := Nat.mul_le_mul_right _ (by omega)
      omega
    have e1 : Int.tdiv y d = t := tdv (by omega) ht.symm
    have m1 := abs_mul (x := t) (y := b) (A := 10000) (B := 1000) tb (by omega)
    rw [decide_eq_true (show d ∣ y from ⟨t, ht⟩), cond_true, e1, w64_in (n := t) (by omega), w64_abs (n := t * b) (by omega), w64_abs (n := x - t * b) (by omega), tz (show a ≠ 0 by omega)]
    refine ⟨_, rfl, ?_⟩
    rw [decide_eq_true_iff]
    constructor
    · intro hh; exact ⟨t, ht, hh⟩
    · rintro ⟨t', ht', hh⟩
      have : t' = t := by
        apply Int.eq_of_mul_eq_mul_left (show d ≠ 0 by omega)
        dsimp only at ht'
        omega
      rw [this] at hh
      exact hh
  · rw [decide_eq_false hd, cond_false]
    refine ⟨false, rfl, ?_⟩
    constructor
    · intro hh; cases hh
    · rintro ⟨t, ht, _⟩
      exact (hd ⟨t, ht⟩).elim
theorem plain_val {x y : Int} (hx : x.natAbs ≤ 10000) (hy : y.natAbs ≤ 10000) : r_impl_isPlain (x, y) = some true := by
  simp only [r_impl_isPlain, abs_val (n := x) (by omega), abs_val (n := y) (by omega), Option.bind_some, leI_eq]
  rw [decide_eq_true (by omega), cond_true, decide_eq_true (by omega)]
  rfl
theorem in_val {l : Int × Int × Int} (h : Lt l) {p : Int × Int} (hx : p.1.natAbs ≤ 10000) (hy : p.2.natAbs ≤ 10000) : ∃ b, r_impl_IsInLattice l p = some (b, true) ∧ (b = true ↔ Has l p.1 p.2) := by
  obtain ⟨x, y⟩ := p
  obtain ⟨b, h1, h2⟩ := has_val h (x := x) (y := y) hx hy
  refine ⟨b, ?_, h2⟩
  simp only [r_impl_IsInLattice, isL_val, (LtB_iff l).2 h, plain_val hx hy, h1, Option.bind_some, Bool.not_true, cond_false]
theorem sub_val {a b : Int × Int × Int} (ha : Lt a) (hb : Lt b) (h1 : Has b a.1 0) (h2 : Has b a.2.1 a.2.2) : r_impl_IsSublattice a b = some (true, true) := by
  obtain ⟨x1, x2, x3, x4, x5, x6⟩ := ha
  obtain ⟨b1, e1, e2⟩ := has_val hb (x := a.1) (y := 0) (by omega) (by omega)
  obtain ⟨b2, e3, e4⟩ := has_val hb (x := a.2.1) (y := a.2.2) (by omega) (by omega)
  have f1 := e2.2 h1
  have f2 := e4.2 h2
  subst f1 f2
  simp only [r_impl_IsSublattice, isL_val, (LtB_iff a).2 ⟨x1, x2, x3, x4, x5, x6⟩, (LtB_iff b).2 hb, e1, e3, Option.bind_some, Bool.not_true, cond_false, cond_true]
theorem idx_val {l : Int × Int × Int} (h : Lt l) : r_impl_LatticeIndex l = some (l.1 * l.2.2, true) := by
  obtain ⟨x1, x2, x3, x4, x5, x6⟩ := h
  have := abs_mul (x := l.1) (y := l.2.2) (A := 1000) (B := 1000) (by omega) (by omega)
  simp only [r_impl_LatticeIndex, isL_val, (LtB_iff l).2 ⟨x1, x2, x3, x4, x5, x6⟩, Option.bind_some, Bool.not_true, cond_false, sI_eq]
  rw [w64_abs (by omega)]
/-! ### The theory -/
theorem sum_val {a1 b1 d1 a2 b2 d2 : Int} (h1 : Lt (a1, b1, d1)) (h2 : Lt (a2, b2, d2)) : ∃ A B D e, r_impl_SumOfLattices (a1, b1, d1) (a2, b2, d2) = some ((A, B, D), true) ∧ r_spec_SumOfLattices (a1, b1, d1) (a2, b2, d2) = some ((A, B, D), true) ∧ SumS a1 b1 d1 a2 b2 d2 A B D e := by
  obtain ⟨A, B, D, e, i1, i2, h⟩ := herm h1 h2
  refine ⟨A, B, D, e, ?_, ?_, h⟩
  · simp only [r_impl_SumOfLattices, isL_val, (LtB_iff _).2 h1, (LtB_iff _).2 h2, Option.bind_some, Bool.not_true, cond_false, r_impl_Lattice_basis, List.length_cons, List.length_nil, roomOk (show 0 + 1 + 1 + (0 + 1 + 1) ≤ 1000000000 by omega), List.cons_append, List.nil_append, r_impl_latticeOf, i1, r_impl_validLattice, (LtB_iff _).2 h.lt]
  · simp only [r_spec_SumOfLattices, sL_val, (LtB_iff _).2 h1, (LtB_iff _).2 h2, Option.bind_some, Bool.not_true, cond_false, r_spec_laBasis, List.length_cons, List.length_nil, roomOk (show 0 + 1 + 1 + (0 + 1 + 1) ≤ 1000000000 by omega), List.cons_append, List.nil_append, i2]
structure Both (a1 b1 d1 a2 b2 d2 A B D g m n p q e K X : Int) : Prop where
  g1 : 1 ≤ g
  ha1 : a1 = g * m
  ha2 : a2 = g * n
  hd1 : d1 = D * p
  hd2 : d2 = D * q
  he : e = q * b1 - p * b2
  gK : g = A * K
  Ae : A ∣ e
  co : ∃ i j, i * p + j * q = 1 ∧ A ∣ B - (i * b1 + j * b2)
  X1 : a1 ∣ X - K * q * b1
  X2 : a2 ∣ X - K * p * b2
  lc : ∀ z : Int, a1 ∣ z → a2 ∣ z → m * a2 ∣ z
  lp : ∀ z : Int, d1 ∣ z → d2 ∣ z → p * d2 ∣ z
  kg : ∀ s : Int, g ∣ s * e → K ∣ s
  D0 : D ≠ 0
theorem both_of {a1 b1 d1 a2 b2 d2 A B D e g m n D' p q e' A' K X : Int} (hs : SumS a1 b1 d1 a2 b2 d2 A B D e) (hm : MeetS a1 b1 d1 a2 b2 d2 g m n D' p q e' A' K) (x1 : a1 ∣ X - K * q * b1) (x2 : a2 ∣ X - K * p * b2) : Both a1 b1 d1 a2 b2 d2 A B D g m n p q e' K X := by
  have eD : D = D' := by rw [hs.gd, hm.md.gg]
  subst eD
  have hD : D ≠ 0 := by have := hm.md.g1; omega
  have k1 := hm.md.e1
  have k2 := hm.md.e2
  have k3 := hm.ee
  have k4 := hs.de
  have ee : e = e' := by
    apply Int.eq_of_mul_eq_mul_right hD
    grind
  subst ee
  have eA : A = A' := by rw [hs.ga, hm.aa, hm.ma.gg]
  subst eA
  refine ⟨hm.ma.g1, hm.ma.e1, hm.ma.e2, k1, k2, k3, hm.ak, by rw [hm.aa]; exact Int.gcd_dvd_right .., ?_, x1, x2, fun z => hm.ma.lc, fun z => hm.md.lc, fun s hd => ?_, hD⟩
  · obtain ⟨i, j, h1, h2⟩ := hs.co
    refine ⟨i, j, ?_, h2⟩
    apply Int.eq_of_mul_eq_mul_left hD
    grind
  · rcases Int.le_total 0 s with h | h
    · exact (hm.kd h).1 hd
    · have := (hm.kd (k := -s) (by omega)).1 (by
        obtain ⟨u, hu⟩ := hd
        exact ⟨-u, by grind⟩)
      obtain ⟨u, hu⟩ := this
      exact ⟨-u, by grind⟩
theorem Both.idx {a1 b1 d1 a2 b2 d2 A B D g m n p q e K X : Int} (h : Both a1 b1 d1 a2 b2 d2 A B D g m n p q e K X) : a1 * d1 * (a2 * d2) = m * a2 * (K * (p * d2)) * (A * D) := by
  have h1 := h.ha1
  have h3 := h.hd1
  have h5 := h.gK
  rw [h1, h3, h5]
  grind
theorem Both.m1 {a1 b1 d1 a2 b2 d2 A B D g m n p q e K X : Int} (h : Both a1 b1 d1 a2 b2 d2 A B D g m n p q e K X) {x y : Int} (hp : Has (m * a2, X, K * (p * d2)) x y) : Has (a1, b1, d1) x y ∧ Has (a2, b2, d2) x y := by
  obtain ⟨t, h1, h2⟩ := hp
  dsimp only at h1 h2
  obtain ⟨u, hu⟩ := h2
  obtain ⟨v, hv⟩ := h.X1
  obtain ⟨w, hw⟩ := h.X2
  have k1 := h.ha1
  have k2 := h.ha2
  have k3 := h.hd1
  have k4 := h.hd2
  refine ⟨⟨K * q * t, ?_, n * u + t * v, ?_⟩, ⟨K * p * t, ?_, m * u + t * w, ?_⟩⟩ <;> dsimp only
  · rw [h1, k3, k4]; grind
  · have e1 : m * a2 = a1 * n := by rw [k1, k2]; grind
    rw [e1] at hu
    grind
  · rw [h1]; grind
  · grind
theorem re3 (a u c v : Int) : a * (u - c * v) = a * u - c * (a * v) := by grind
theorem re4 (K c q b : Int) : K * c * (q * b) = c * (K * q * b) := by grind
theorem Both.m2 {a1 b1 d1 a2 b2 d2 A B D g m n p q e K X : Int} (h : Both a1 b1 d1 a2 b2 d2 A B D g m n p q e K X) {x y : Int} (hp : Has (a1, b1, d1) x y) (hq : Has (a2, b2, d2) x y) : Has (m * a2, X, K * (p * d2)) x y := by
  obtain ⟨t, h1, h2⟩ := hp
  obtain ⟨s, h3, h4⟩ := hq
  dsimp only at h1 h2 h3 h4
  have k1 := h.ha1
  have k2 := h.ha2
  have k3 := h.hd1
  have k4 := h.hd2
  have k5 := h.he
  obtain ⟨r, hr⟩ := h.lp y ⟨t, h1⟩ ⟨s, h3⟩
  have g1 := h.g1
  obtain ⟨i, j, hij, _⟩ := h.co
  have tt : p * t = q * s := by
    apply Int.eq_of_mul_eq_mul_left h.D0
    rw [← Int.mul_assoc, ← Int.mul_assoc, ← k3, ← k4, ← h1, ← h3]
  have et : t = q * (i * s + j * t) := by grind
  have es : s = p * (i * s + j * t) := by grind
  generalize hr2 : i * s + j * t = r2 at *
  obtain ⟨u, hu⟩ := h2
  obtain ⟨v, hv⟩ := h4
  have f1 : t * b1 = r2 * (q * b1) := by rw [et, Int.mul_comm q, Int.mul_assoc]
  have f2 : s * b2 = r2 * (p * b2) := by rw [es, Int.mul_comm p, Int.mul_assoc]
  have f3 : a1 * u = g * (m * u) := by rw [k1, Int.mul_assoc]
  have f4 : a2 * v = g * (n * v) := by rw [k2, Int.mul_assoc]
  obtain ⟨c, hc⟩ := h.kg r2 ⟨n * v - m * u, by rw [k5, Int.mul_sub, Int.mul_sub]; omega⟩
  refine ⟨c, ?_, ?_⟩ <;> dsimp only
  · rw [h3, es, hc]; grind
  · obtain ⟨v1, hv1⟩ := h.X1
    obtain ⟨w1, hw1⟩ := h.X2
    have s1 : X = K * q * b1 + a1 * v1 := by omega
    have s2 : X = K * p * b2 + a2 * w1 := by omega
    refine h.lc _ ⟨u - c * v1, ?_⟩ ⟨v - c * w1, ?_⟩
    · rw [re3, s1, Int.mul_add, ← re4, ← hc, ← f1]
      omega
    · rw [re3, s2, Int.mul_add, ← re4, ← hc, ← f2]
      omega
theorem re5 {A K m u t b1 p w i j q b2 f : Int} (h1 : i * p + j * q = 1) (h2 : A * f = q * b1 - p * b2) : A * K * m * u + t * b1 - p * t * (A * w + (i * b1 + j * b2)) = A * (K * m * u - p * t * w + t * j * f) := by
  have e : A * (K * m * u - p * t * w + t * j * f) = A * K * m * u - p * t * (A * w) + t * j * (A * f) := by grind
  rw [e, h2]
  have e2 : t * b1 = t * b1 * (i * p + j * q) := by rw [h1, Int.mul_one]
  grind
theorem re6 {A K m u t b1 p w i j q b2 f : Int} (h1 : i * p + j * q = 1) (h2 : A * f = q * b1 - p * b2) : A * K * m * u + t * b2 - q * t * (A * w + (i * b1 + j * b2)) = A * (K * m * u - q * t * w - t * i * f) := by
  have e : A * (K * m * u - q * t * w - t * i * f) = A * K * m * u - q * t * (A * w) - t * i * (A * f) := by grind
  rw [e, h2]
  have e2 : t * b2 = t * b2 * (i * p + j * q) := by rw [h1, Int.mul_one]
  grind
theorem Both.s1 {a1 b1 d1 a2 b2 d2 A B D g m n p q e K X : Int} (h : Both a1 b1 d1 a2 b2 d2 A B D g m n p q e K X) {x y : Int} (hp : Has (a1, b1, d1) x y ∨ Has (a2, b2, d2) x y) : Has (A, B, D) x y := by
  have k1 := h.ha1
  have k2 := h.ha2
  have k3 := h.hd1
  have k4 := h.hd2
  have k5 := h.he
  have k6 := h.gK
  obtain ⟨f, hf⟩ := h.Ae
  obtain ⟨i, j, hij, w, hw⟩ := h.co
  rcases hp with ⟨t, h1, u, h2⟩ | ⟨t, h1, u, h2⟩ <;> dsimp only at h1 h2
  · refine ⟨p * t, by rw [h1, k3]; exact Int.mul_assoc .., K * m * u - p * t * w + t * j * f, ?_⟩
    dsimp only
    have e1 : B = A * w + (i * b1 + j * b2) := by omega
    have e2 : x = a1 * u + t * b1 := by omega
    rw [e1, e2, k1, k6]
    exact re5 hij (by omega)
  · refine ⟨q * t, by rw [h1, k4]; exact Int.mul_assoc .., K * n * u - q * t * w - t * i * f, ?_⟩
    dsimp only
    have e1 : B = A * w + (i * b1 + j * b2) := by omega
    have e2 : x = a2 * u + t * b2 := by omega
    rw [e1, e2, k2, k6]
    exact re6 hij (by omega)
theorem has_b1 {l : Int × Int × Int} : Has l l.1 0 := ⟨0, by omega, ⟨1, by omega⟩⟩
theorem has_b2 {l : Int × Int × Int} : Has l l.2.1 l.2.2 := ⟨1, by omega, ⟨0, by omega⟩⟩
theorem pt_bd {a b d z : Int} (h : Lt (a, b, d)) (h0 : 0 ≤ z) : ∃ u v : Int, (bif (eqI (Int.tmod z 2) 0) then
                      (
                        sI (w64 ((w64 (b * (Int.tmod z 7))) + (w64 (a * (Int.tmod z 5))))) fun f32 =>
                        sI (w64 (d * (Int.tmod z 7))) fun f33 =>
                        some (f32, f33)
                      )
                    else
                      (
                        some (w64 ((Int.tmod z 2001) - 1000), w64 ((Int.tmod (w64 (Int.tdiv z 2001)) 401) - 200))
                      ) : Option (Int × Int)) = some (u, v) ∧ u.natAbs ≤ 10000 ∧ v.natAbs ≤ 10000 := by
  obtain ⟨x1, x2, x3, x4, x5, x6⟩ := h
  dsimp only at x1 x2 x3 x4 x5 x6
  have t7 := tmod_range h0 (show (0 : Int) < 7 by omega)
  have t5 := tmod_range h0 (show (0 : Int) < 5 by omega)
  cases eqI (Int.tmod z 2) 0 with
  | true =>
    generalize Int.tmod z 7 = s at *
    generalize Int.tmod z 5 = r at *
    have m1 := abs_mul (x := b) (y := s) (A := 999) (B := 6) (by omega) (by omega)
    have m2 := abs_mul (x := a) (y := r) (A := 1000) (B := 4) (by omega) (by omega)
    have m3 := abs_mul (x := d) (y := s) (A := 1000) (B := 6) (by omega) (by omega)
    rw [cond_true]
    simp only [sI_eq]
    rw [w64_abs (n := b * s) (by omega), w64_abs (n := a * r) (by omega), w64_abs (n := d * s) (by omega), w64_abs (by omega)]
    exact ⟨_, _, rfl, by omega, by omega⟩
  | false =>
    rw [cond_false]
    have r1 := tmod_range h0 (show (0 : Int) < 2001 by omega)
    have q0 : 0 ≤ Int.tdiv z 2001 := Int.tdiv_nonneg h0 (by omega)
    have w0 : Int.tmod (w64 (Int.tdiv z 2001)) 401 < 401 ∧ -401 < Int.tmod (w64 (Int.tdiv z 2001)) 401 := by
      generalize w64 (Int.tdiv z 2001) = y
      have := Int.tmod_lt_of_pos y (show (0 : Int) < 401 by omega)
      have := Int.lt_tmod_of_pos y (show (0 : Int) < 401 by omega)
      omega
    rw [w64_in (n := Int.tmod z 2001 - 1000) (by omega), w64_in (by omega)]
    exact ⟨_, _, rfl, by omega, by omega⟩
theorem raw_FnLattices (code more : List Int) (hc8 : ∀ x ∈ code, 0 ≤ x ∧ x ≤ 255) (hm8 : ∀ x ∈ more, 0 ≤ x ∧ x ≤ 255) : r_laws_FnLattices code more = some true := by
  rcases big_cases code more with hb | ⟨hb, hc, hm⟩
  · simp only [r_laws_FnLattices, hb, Option.bind_some, cond_true]
  obtain ⟨f, c1, e1, h1⟩ := lat_ok (CurB.start hc hc8) (by omega)
  obtain ⟨g, c2, e2, h2⟩ := lat_ok h1 (by omega)
  have ed : r_spec_DrawMeetOfLattices code = some (f, g) := by simp only [r_spec_DrawMeetOfLattices, r_spec_DrawSumOfLattices, e1, e2, Option.bind_some]
  simp only [r_laws_FnLattices, hb, ed, Option.bind_some, cond_false]
  by_cases hok : LtB f = true ∧ LtB g = true
  case neg =>
    have hn : ∀ x y : Bool, ¬ (x = true ∧ y = true) → (bif (!x) then some true else some (!y) : Option Bool) = some true := by
      intro x y h
      cases x <;> cases y <;> simp_all
    have i1 : r_impl_MeetOfLattices f g = some ((0, 0, 0), false) := by simp only [r_impl_MeetOfLattices, isL_val, Option.bind_some, hn _ _ hok, cond_true]
    have i2 : r_spec_MeetOfLattices f g = some ((0, 0, 0), false) := by simp only [r_spec_MeetOfLattices, sL_val, Option.bind_some, hn _ _ hok, cond_true]
    have i3 : r_impl_SumOfLattices f g = some ((0, 0, 0), false) := by simp only [r_impl_SumOfLattices, isL_val, Option.bind_some, hn _ _ hok, cond_true]
    have i4 : r_spec_SumOfLattices f g = some ((0, 0, 0), false) := by simp only [r_spec_SumOfLattices, sL_val, Option.bind_some, hn _ _ hok, cond_true]
    simp only [i1, i2, i3, i4, Option.bind_some, bne_self_eq_false, beq_self_eq_true, Bool.and_self, Bool.not_true, cond_false]
  obtain ⟨k1, k2⟩ := hok
  rw [LtB_iff] at k1 k2
  obtain ⟨a1, b1, d1⟩ := f
  obtain ⟨a2, b2, d2⟩ := g
  obtain ⟨A, B, D, e, s1, s2, hs⟩ := sum_val k1 k2
  obtain ⟨g, m, n, D', p, q, e', A', K, X, hm', x1, x2, m1, m2⟩ := meet_val k1 k2
  have hB := both_of hs hm' x1 x2
  unfold mRes at m1 m2
  cases hl : LtB (m * a2, X, K * (p * d2)) with
  | false =>
    rw [hl, if_neg (by simp)] at m1 m2
    simp only [m1, m2, s1, s2, Option.bind_some, bne_self_eq_false, beq_self_eq_true, Bool.and_self, Bool.not_true, cond_false]
  | true =>
    rw [hl, if_pos rfl] at m1 m2
    have k3 := (LtB_iff _).1 hl
    have k4 := hs.lt
    obtain ⟨z, ez, z0, z1⟩ := numberOf_ok hm hm8
    obtain ⟨u, v, ep, u1, v1⟩ := pt_bd k1 z0
    obtain ⟨y34, i1, j1⟩ := in_val k1 (p := (u, v)) u1 v1
    obtain ⟨y35, i2, j2⟩ := in_val k2 (p := (u, v)) u1 v1
    obtain ⟨y36, i3, j3⟩ := in_val k3 (p := (u, v)) u1 v1
    obtain ⟨y37, i4, j4⟩ := in_val k4 (p := (u, v)) u1 v1
    have o1 := sub_val k3 k1 (hB.m1 has_b1).1 (hB.m1 has_b2).1
    have o2 := sub_val k2 k4 (hB.s1 (.inr has_b1)) (hB.s1 (.inr has_b2))
    have hid : eqI (w64 (a1 * d1 * (a2 * d2))) (w64 (m * a2 * (K * (p * d2)) * (A * D))) = true := by rw [hB.idx, eqSelf]
    have q1 : y36 = (bif y34 then y35 else false) := by
      rw [Bool.eq_iff_iff, j3]
      constructor
      · intro hh
        have := hB.m1 hh
        rw [j1.2 this.1, cond_true]
        exact j2.2 this.2
      · intro hh
        cases h34 : y34 with
        | false => rw [h34] at hh; cases hh
        | true =>
          rw [h34, cond_true] at hh
          exact hB.m2 (j1.1 h34) (j2.1 hh)
    have q2 : (bif (bif y34 then true else y35) then (!y37) else false) = false := by
      cases h34 : y34 with
      | true =>
        rw [j4.2 (hB.s1 (.inl (j1.1 h34)))]
        rfl
      | false =>
        cases h35 : y35 with
        | true =>
          rw [j4.2 (hB.s1 (.inr (j2.1 h35)))]
          rfl
        | false => rfl
    simp only [m1, m2, s1, s2, Option.bind_some, bne_self_eq_false, beq_self_eq_true, Bool.and_self, Bool.not_true, cond_false, cond_true, idx_val k1, idx_val k2, idx_val k3, idx_val k4, hid, ez]
    simp only [sI_eq] at ep ⊢
    rw [ep]
    simp only [Option.bind_some, i1, i2, i3, i4, cond_true, ← q1, bne_self_eq_false, cond_false, q2, o1, o2]
end Go.Proofs.Ytgeajejmikaniaa
