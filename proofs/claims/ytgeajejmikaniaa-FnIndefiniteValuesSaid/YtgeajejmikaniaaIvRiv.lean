/-
  Indefinite forms: two cyclic forms of one class lie in one cycle.
  Conditions: none.
-/
import Derived.Test.YtgeajejmikaniaaIvDscBas
namespace Go.Proofs.Ytgeajejmikaniaa
set_option linter.unusedVariables false
set_option linter.unusedSimpArgs false

/-! ### Matrices of determinant 1 -/
structure Mv (A B C p q r s a b c : Int) : Prop where
  e1 : A * p * p + B * p * r + C * r * r = a
  e2 : 2 * A * p * q + B * (p * s + q * r) + 2 * C * r * s = b
  e3 : A * q * q + B * q * s + C * s * s = c
  dt : p * s - q * r = 1
theorem Mv.one (A B C : Int) : Mv A B C 1 0 0 1 A B C := ⟨by grind, by grind, by grind, by decide⟩
theorem Mv.disc {A B C p q r s a b c : Int} (h : Mv A B C p q r s a b c) : b * b - 4 * a * c = B * B - 4 * A * C := by
  obtain ⟨f1, f2, f3, f4⟩ := h
  have : b * b - 4 * a * c = (B * B - 4 * A * C) * ((p * s - q * r) * (p * s - q * r)) := by
    rw [← f1, ← f2, ← f3]
    grind
  rw [this, f4]; omega
theorem Mv.comp {A B C p q r s a b c p' q' r' s' x y z : Int} (h : Mv A B C p q r s a b c) (k : Mv a b c p' q' r' s' x y z) : Mv A B C (p * p' + q * r') (p * q' + q * s') (r * p' + s * r') (r * q' + s * s') x y z := by
  obtain ⟨e1, e2, e3, dt⟩ := h
  obtain ⟨f1, f2, f3, du⟩ := k
  subst e1 e2 e3
  subst f1 f2 f3
  refine ⟨by grind, by grind, by grind, ?_⟩
  have : (p * p' + q * r') * (r * q' + s * s') - (p * q' + q * s') * (r * p' + s * r') = (p * s - q * r) * (p' * s' - q' * r') := by grind
  rw [this, dt, du]; rfl
theorem Mv.inv {A B C p q r s a b c : Int} (h : Mv A B C p q r s a b c) : Mv a b c s (-q) (-r) p A B C := by
  obtain ⟨e1, e2, e3, dt⟩ := h
  subst e1 e2 e3
  have k1 : (A * p * p + B * p * r + C * r * r) * s * s + (2 * A * p * q + B * (p * s + q * r) + 2 * C * r * s) * s * -r + (A * q * q + B * q * s + C * s * s) * -r * -r = A * ((p * s - q * r) * (p * s - q * r)) := by grind
  have k2 : 2 * (A * p * p + B * p * r + C * r * r) * s * -q + (2 * A * p * q + B * (p * s + q * r) + 2 * C * r * s) * (s * p + -q * -r) + 2 * (A * q * q + B * q * s + C * s * s) * -r * p = B * ((p * s - q * r) * (p * s - q * r)) := by grind
  have k3 : (A * p * p + B * p * r + C * r * r) * -q * -q + (2 * A * p * q + B * (p * s + q * r) + 2 * C * r * s) * -q * p + (A * q * q + B * q * s + C * s * s) * p * p = C * ((p * s - q * r) * (p * s - q * r)) := by grind
  rw [dt] at k1 k2 k3
  exact ⟨by rw [k1]; simp, by rw [k2]; simp, by rw [k3]; simp, by grind⟩
theorem Mv.neg {A B C p q r s a b c : Int} (h : Mv A B C p q r s a b c) : Mv A B C (-p) (-q) (-r) (-s) a b c := by
  obtain ⟨e1, e2, e3, dt⟩ := h
  exact ⟨by rw [← e1]; grind, by rw [← e2]; grind, by rw [← e3]; grind, by grind⟩
/-- The basis turned: (w, -v) for (v, w), behind and ahead; and all signs changed. -/
theorem Mv.turn {A B C p q r s a b c : Int} (h : Mv A B C p q r s a b c) : Mv A B C (-q) p (-s) r c (-b) a := by
  obtain ⟨e1, e2, e3, dt⟩ := h
  exact ⟨by rw [← e3]; grind, by rw [← e2]; grind, e1, by grind⟩
theorem Mv.turnl {A B C p q r s a b c : Int} (h : Mv A B C p q r s a b c) : Mv C (-B) A r s (-p) (-q) a b c := by
  obtain ⟨e1, e2, e3, dt⟩ := h
  exact ⟨by rw [← e1]; grind, by rw [← e2]; grind, by rw [← e3]; grind, by grind⟩
theorem Mv.sgn {A B C p q r s a b c : Int} (h : Mv A B C p q r s a b c) : Mv (-A) (-B) (-C) p q r s (-a) (-b) (-c) := by
  obtain ⟨e1, e2, e3, dt⟩ := h
  exact ⟨by rw [← e1]; grind, by rw [← e2]; grind, by rw [← e3]; grind, dt⟩
theorem Mv.left {A B C p q r s a b c : Int} (h : Mv A B C p q r s a b c) : Mv A (B + 2 * A) (A + B + C) (p - r) (q - s) r s a b c := by
  obtain ⟨e1, e2, e3, dt⟩ := h
  exact ⟨by rw [← e1]; grind, by rw [← e2]; grind, by rw [← e3]; grind, by grind⟩
theorem Mv.right {A B C p q r s a b c : Int} (h : Mv A B C p q r s a b c) : Mv (A + B + C) (B + 2 * C) C p q (r - p) (s - q) a b c := by
  obtain ⟨e1, e2, e3, dt⟩ := h
  exact ⟨by rw [← e1]; grind, by rw [← e2]; grind, by rw [← e3]; grind, by grind⟩
/-! ### The river -/
def stp (f : Int × Int × Int) : Int × Int × Int := if 0 < f.1 + f.2.1 + f.2.2 then (f.1 + f.2.1 + f.2.2, f.2.1 + 2 * f.2.2, f.2.2) else (f.1, f.2.1 + 2 * f.1, f.1 + f.2.1 + f.2.2)
def itS : Nat → Int × Int × Int → Int × Int × Int
  | 0, f => f
  | m + 1, f => itS m (stp f)
theorem itS_add : ∀ (m k : Nat) (f : Int × Int × Int), itS (m + k) f = itS k (itS m f)
  | 0, k, f => by rw [Nat.zero_add]; rfl
  | m + 1, k, f => by rw [Nat.succ_add]; exact itS_add m k (stp f)
theorem pos_val {a b c x y : Int} (ha : 0 ≤ a) (hb : 0 ≤ b) (hc : 0 ≤ c) (hx : 0 ≤ x) (hy : 0 ≤ y) : 0 ≤ a * x * x + b * x * y + c * y * y := by
  have h1 := Int.mul_nonneg (Int.mul_nonneg ha hx) hx
  have h2 := Int.mul_nonneg (Int.mul_nonneg hb hx) hy
  have h3 := Int.mul_nonneg (Int.mul_nonneg hc hy) hy
  omega
theorem neg_val {a b c x y : Int} (ha : a ≤ 0) (hb : b ≤ 0) (hc : c ≤ 0) (hx : 0 ≤ x) (hy : 0 ≤ y) : a * x * x + b * x * y + c * y * y ≤ 0 := by
  have := pos_val (a := -a) (b := -b) (c := -c) (by omega) (by omega) (by omega) hx hy
  have e : -a * x * x + -b * x * y + -c * y * y = -(a * x * x + b * x * y + c * y * y) := by grind
  omega
theorem uni_cases {p q r s : Int} (hp : 0 ≤ p) (hq : 0 ≤ q) (hr : 0 ≤ r) (hs : 0 ≤ s) (h : p * s - q * r = 1) : (p = 1 ∧ q = 0 ∧ r = 0 ∧ s = 1) ∨ (r ≤ p ∧ s ≤ q) ∨ (p ≤ r ∧ q ≤ s) := by
  rcases Int.lt_or_le r p with h1 | h1
  · rcases Int.lt_or_le q s with h2 | h2
    · have k1 : (r + 1) * (q + 1) ≤ p * s := Int.mul_le_mul (by omega) (by omega) (by omega) (by omega)
      have k2 : (r + 1) * (q + 1) = q * r + r + q + 1 := by grind
      have hr0 : r = 0 := by omega
      have hq0 : q = 0 := by omega
      subst hr0 hq0
      have k3 : 1 * s ≤ p * s := Int.mul_le_mul_of_nonneg_right (by omega) hs
      have k4 : p * 1 ≤ p * s := Int.mul_le_mul_of_nonneg_left (by omega) hp
      refine .inl ⟨?_, rfl, rfl, ?_⟩ <;> omega
    · exact .inr (.inl ⟨by omega, h2⟩)
  · rcases Int.lt_or_le s q with h2 | h2
    · rcases Int.lt_or_le p r with h3 | h3
      · have k1 : (s + 1) * (p + 1) ≤ q * r := Int.mul_le_mul (by omega) (by omega) (by omega) (by omega)
        have k2 : (s + 1) * (p + 1) = p * s + s + p + 1 := by grind
        omega
      · exact .inr (.inl ⟨by omega, by omega⟩)
    · exact .inr (.inr ⟨h1, h2⟩)
theorem sum_ne {D a b c : Int} (hD : ∀ x : Int, x * x ≠ D) (h : b * b - 4 * a * c = D) : a + b + c ≠ 0 := by
  intro e
  have hb : b = -(a + c) := by omega
  exact hD (a - c) (by rw [← h, hb]; grind)
/-- A river form made of another one by a matrix without negative entries lies behind it on the river. -/
theorem riv_con {D : Int} (hD : ∀ x : Int, x * x ≠ D) : ∀ (n : Nat) {a b c p q r s a' b' c' : Int}, 0 < a → c < 0 → b * b - 4 * a * c = D → 0 ≤ p → 0 ≤ q → 0 ≤ r → 0 ≤ s → p + q + r + s ≤ n → Mv a b c p q r s a' b' c' → ((0 < a' ∧ c' < 0) ∨ (a' < 0 ∧ 0 < c')) →
    0 < a' ∧ ∃ m, itS m (a, b, c) = (a', b', c')
  | n, a, b, c, p, q, r, s, a', b', c', ha, hc, hd, hp, hq, hr, hs, hn, hM, hg => by
    have hdt := hM.dt
    rcases uni_cases hp hq hr hs hdt with ⟨rfl, rfl, rfl, rfl⟩ | ⟨h1, h2⟩ | ⟨h1, h2⟩
    · obtain ⟨e1, e2, e3, _⟩ := hM
      have k1 : a' = a := by rw [← e1]; grind
      have k2 : b' = b := by rw [← e2]; grind
      have k3 : c' = c := by rw [← e3]; grind
      subst k1 k2 k3
      exact ⟨ha, 0, rfl⟩
    · have hrs : 1 ≤ r + s := by
        rcases Int.lt_or_le 0 (r + s) with h | h
        · omega
        · have e1 : r = 0 := by omega
          have e2 : s = 0 := by omega
          subst e1 e2
          omega
      have hL := hM.left
      have hs0 := sum_ne hD hd
      by_cases hs1 : 0 < a + b + c
      · exfalso
        have v1 := pos_val (a := a) (b := b + 2 * a) (c := a + b + c) (x := p - r) (y := r) (by omega) (by omega) (by omega) (by omega) hr
        have v2 := pos_val (a := a) (b := b + 2 * a) (c := a + b + c) (x := q - s) (y := s) (by omega) (by omega) (by omega) (by omega) hs
        rw [hL.e1] at v1
        rw [hL.e3] at v2
        omega
      · obtain ⟨m, rfl⟩ : ∃ m, n = m + 1 := ⟨n - 1, by omega⟩
        obtain ⟨k1, k, k2⟩ := riv_con hD m (a := a) (b := b + 2 * a) (c := a + b + c) ha (by omega) (by rw [← hd]; grind) (by omega) (by omega) hr hs (by omega) hL hg
        refine ⟨k1, k + 1, ?_⟩
        show itS k (stp (a, b, c)) = _
        have : stp (a, b, c) = (a, b + 2 * a, a + b + c) := by unfold stp; rw [if_neg (by omega)]
        rw [this, k2]
    · have hpq : 1 ≤ p + q := by
        rcases Int.lt_or_le 0 (p + q) with h | h
        · omega
        · have e1 : p = 0 := by omega
          have e2 : q = 0 := by omega
          subst e1 e2
          omega
      have hR := hM.right
      have hs0 := sum_ne hD hd
      by_cases hs1 : 0 < a + b + c
      · obtain ⟨m, rfl⟩ : ∃ m, n = m + 1 := ⟨n - 1, by omega⟩
        obtain ⟨k1, k, k2⟩ := riv_con hD m (a := a + b + c) (b := b + 2 * c) (c := c) hs1 hc (by rw [← hd]; grind) hp hq (by omega) (by omega) (by omega) hR hg
        refine ⟨k1, k + 1, ?_⟩
        show itS k (stp (a, b, c)) = _
        have : stp (a, b, c) = (a + b + c, b + 2 * c, c) := by unfold stp; rw [if_pos (by omega)]
        rw [this, k2]
      · exfalso
        have v1 := neg_val (a := a + b + c) (b := b + 2 * c) (c := c) (x := p) (y := r - p) (by omega) (by omega) (by omega) hp (by omega)
        have v2 := neg_val (a := a + b + c) (b := b + 2 * c) (c := c) (x := q) (y := s - q) (by omega) (by omega) (by omega) hq (by omega)
        rw [hR.e1] at v1
        rw [hR.e3] at v2
        omega
theorem sgn_mul (x y : Int) : (0 < x * y ∧ ((0 < x ∧ 0 < y) ∨ (x < 0 ∧ y < 0))) ∨ (x * y < 0 ∧ ((0 < x ∧ y < 0) ∨ (x < 0 ∧ 0 < y))) ∨ (x * y = 0 ∧ (x = 0 ∨ y = 0)) := by
  rcases Int.lt_trichotomy x 0 with h1 | h1 | h1
  · rcases Int.lt_trichotomy y 0 with h2 | h2 | h2
    · exact .inl ⟨Int.mul_pos_of_neg_of_neg h1 h2, .inr ⟨h1, h2⟩⟩
    · exact .inr (.inr ⟨by rw [h2]; simp, .inr h2⟩)
    · exact .inr (.inl ⟨Int.mul_neg_of_neg_of_pos h1 h2, .inr ⟨h1, h2⟩⟩)
  · exact .inr (.inr ⟨by rw [h1]; simp, .inl h1⟩)
  · rcases Int.lt_trichotomy y 0 with h2 | h2 | h2
    · exact .inr (.inl ⟨Int.mul_neg_of_pos_of_neg h1 h2, .inl ⟨h1, h2⟩⟩)
    · exact .inr (.inr ⟨by rw [h2]; simp, .inr h2⟩)
    · exact .inl ⟨Int.mul_pos h1 h2, .inl ⟨h1, h2⟩⟩
theorem sgn_pat {p q r s : Int} (h : p * s - q * r = 1) : (0 ≤ p ∧ 0 ≤ q ∧ 0 ≤ r ∧ 0 ≤ s) ∨ (p ≤ 0 ∧ q ≤ 0 ∧ r ≤ 0 ∧ s ≤ 0) ∨ (0 ≤ p ∧ q ≤ 0 ∧ r ≤ 0 ∧ 0 ≤ s) ∨ (p ≤ 0 ∧ 0 ≤ q ∧ 0 ≤ r ∧ s ≤ 0) ∨ (0 ≤ p ∧ q ≤ 0 ∧ 0 ≤ r ∧ s ≤ 0) ∨ (p ≤ 0 ∧ 0 ≤ q ∧ r ≤ 0 ∧ 0 ≤ s) ∨ (0 ≤ p ∧ 0 ≤ q ∧ r ≤ 0 ∧ s ≤ 0) ∨ (p ≤ 0 ∧ q ≤ 0 ∧ 0 ≤ r ∧ 0 ≤ s) := by
  have h1 := sgn_mul p s
  have h2 := sgn_mul q r
  generalize p * s = P at *
  generalize q * r = Q at *
  omega
/-- Two river forms of one class: one lies behind the other. -/
theorem riv_all {D : Int} (hD : ∀ x : Int, x * x ≠ D) {a b c p q r s a' b' c' : Int} (ha : 0 < a) (hc : c < 0) (hd : b * b - 4 * a * c = D) (hM : Mv a b c p q r s a' b' c') (ha' : 0 < a') (hc' : c' < 0) :
    (∃ m, itS m (a, b, c) = (a', b', c')) ∨ (∃ m, itS m (a', b', c') = (a, b, c)) := by
  have hd' : b' * b' - 4 * a' * c' = D := by rw [hM.disc, hd]
  have hb : ∀ x y z u : Int, ∃ n : Nat, x + y + z + u ≤ n := fun x y z u => ⟨(x + y + z + u).toNat, by omega⟩
  rcases sgn_pat hM.dt with ⟨h1, h2, h3, h4⟩ | ⟨h1, h2, h3, h4⟩ | ⟨h1, h2, h3, h4⟩ | ⟨h1, h2, h3, h4⟩ | ⟨h1, h2, h3, h4⟩ | ⟨h1, h2, h3, h4⟩ | ⟨h1, h2, h3, h4⟩ | ⟨h1, h2, h3, h4⟩
  · obtain ⟨n, hn⟩ := hb p q r s
    exact .inl (riv_con hD n ha hc hd h1 h2 h3 h4 hn hM (.inl ⟨ha', hc'⟩)).2
  · obtain ⟨n, hn⟩ := hb (-p) (-q) (-r) (-s)
    exact .inl (riv_con hD n ha hc hd (by omega) (by omega) (by omega) (by omega) hn hM.neg (.inl ⟨ha', hc'⟩)).2
  · obtain ⟨n, hn⟩ := hb s (-q) (-r) p
    exact .inr (riv_con hD n ha' hc' hd' (by omega) (by omega) (by omega) (by omega) hn hM.inv (.inl ⟨ha, hc⟩)).2
  · obtain ⟨n, hn⟩ := hb (-s) (- -q) (- -r) (-p)
    exact .inr (riv_con hD n ha' hc' hd' (by omega) (by omega) (by omega) (by omega) hn hM.inv.neg (.inl ⟨ha, hc⟩)).2
  · obtain ⟨n, hn⟩ := hb (-q) p (-s) r
    have := (riv_con hD n ha hc hd (by omega) (by omega) (by omega) (by omega) hn hM.turn (.inr ⟨hc', ha'⟩)).1
    omega
  · obtain ⟨n, hn⟩ := hb (- -q) (-p) (- -s) (-r)
    have := (riv_con hD n ha hc hd (by omega) (by omega) (by omega) (by omega) hn hM.turn.neg (.inr ⟨hc', ha'⟩)).1
    omega
  · obtain ⟨n, hn⟩ := hb (-r) p (-s) (- -q)
    have := (riv_con hD n (a := -c') (b := - -b') (c := -a') (by omega) (by omega) (by rw [← hd']; grind) (by omega) (by omega) (by omega) (by omega) hn hM.inv.turnl.sgn (.inr ⟨by omega, by omega⟩)).1
    omega
  · obtain ⟨n, hn⟩ := hb (- -r) (-p) (- -s) (- - -q)
    have := (riv_con hD n (a := -c') (b := - -b') (c := -a') (by omega) (by omega) (by rw [← hd']; grind) (by omega) (by omega) (by omega) (by omega) hn hM.inv.turnl.sgn.neg (.inr ⟨by omega, by omega⟩)).1
    omega
/-! ### Cyclic forms turn the river -/
/-- r is the square root of D, downwards; D is no square. -/
structure Sq (D r : Int) : Prop where
  r1 : 1 ≤ r
  lo : r * r < D
  hi : D < (r + 1) * (r + 1)
theorem Sq.ns {D r : Int} (h : Sq D r) (x : Int) : x * x ≠ D := by
  obtain ⟨h1, h2, h3⟩ := h
  intro e
  have key : ∀ y : Int, 0 ≤ y → y * y = D → False := by
    intro y hy e
    rcases Int.lt_or_le r y with k | k
    · have : (r + 1) * (r + 1) ≤ y * y := Int.mul_le_mul (by omega) (by omega) (by omega) (by omega)
      omega
    · have : y * y ≤ r * r := Int.mul_le_mul k k hy (by omega)
      omega
  rcases Int.le_total 0 x with k | k
  · exact key x k e
  · exact key (-x) (by omega) (by rw [← e]; grind)
/-- A cyclic form. -/
def Cy (r : Int) (f : Int × Int × Int) : Prop := 0 < f.2.1 ∧ f.2.1 ≤ r ∧ r - f.2.1 < 2 * f.1.natAbs ∧ 2 * (f.1.natAbs : Int) ≤ r + f.2.1
theorem sq_lt {D r x : Int} (h : Sq D r) (h1 : -r ≤ x) (h2 : x ≤ r) : x * x < D := by
  have : x * x ≤ r * r := by
    rcases Int.le_total 0 x with k | k
    · exact Int.mul_le_mul h2 h2 k (by have := h.r1; omega)
    · have : (-x) * (-x) ≤ r * r := Int.mul_le_mul (by omega) (by omega) (by omega) (by have := h.r1; omega)
      have e : (-x) * (-x) = x * x := by grind
      omega
  have := h.lo
  omega
theorem sq_gt {D r x : Int} (h : Sq D r) (h1 : r < x) : D < x * x := by
  have : (r + 1) * (r + 1) ≤ x * x := Int.mul_le_mul (by omega) (by omega) (by have := h.r1; omega) (by have := h.r1; omega)
  have := h.hi
  omega
theorem lt_of_sq {D r x : Int} (h : Sq D r) (h1 : x * x < D) : -r ≤ x ∧ x ≤ r := by
  constructor
  · rcases Int.lt_or_le x (-r) with k | k
    · have := sq_gt h (x := -x) (by omega)
      have e : (-x) * (-x) = x * x := by grind
      omega
    · exact k
  · rcases Int.lt_or_le r x with k | k
    · have := sq_gt h k
      omega
    · exact k
theorem gt_of_sq {D r x : Int} (h : Sq D r) (h0 : 0 ≤ x) (h1 : D < x * x) : r < x := by
  rcases Int.lt_or_le r x with k | k
  · exact k
  · have := sq_lt h (x := x) (by have := h.r1; omega) k
    omega
theorem mul_sgn_pos {x y : Int} (hx : 0 < x) (h : 0 < x * y) : 0 < y := by
  rcases Int.lt_or_le 0 y with k | k
  · exact k
  · have := Int.mul_nonpos_of_nonneg_of_nonpos (a := x) (b := y) (by omega) k
    omega
theorem mul_sgn_neg {x y : Int} (hx : 0 < x) (h : x * y < 0) : y < 0 := by
  rcases Int.lt_or_le y 0 with k | k
  · exact k
  · have := Int.mul_nonneg (a := x) (b := y) (by omega) k
    omega
theorem cy_pos {D r a b c : Int} (h : Sq D r) (hd : b * b - 4 * a * c = D) (ha : 0 < a) (hc : Cy r (a, b, c)) : c < 0 ∧ 0 < a + b + c ∧ a - b + c < 0 := by
  obtain ⟨h1, h2, h3, h4⟩ := hc
  simp only [] at h1 h2 h3 h4
  have k1 := sq_lt h (x := b) (by omega) h2
  have k2 := sq_lt h (x := 2 * a - b) (by omega) (by omega)
  have k3 := sq_gt h (x := 2 * a + b) (by omega)
  have e1 : (2 * a - b) * (2 * a - b) = b * b + 4 * (a * (a - b)) := by grind
  have e2 : (2 * a + b) * (2 * a + b) = b * b + 4 * (a * (a + b)) := by grind
  have e3 : 4 * a * c = 4 * (a * c) := Int.mul_assoc ..
  refine ⟨mul_sgn_neg (x := a) ha (by omega), mul_sgn_pos (x := a) ha ?_, mul_sgn_neg (x := a) ha ?_⟩
  · have : a * (a + b + c) = a * (a + b) + a * c := by grind
    omega
  · have : a * (a - b + c) = a * (a - b) + a * c := by grind
    omega
theorem cy_sgn {r a b c : Int} (hc : Cy r (a, b, c)) : Cy r (-a, b, -c) := by
  obtain ⟨h1, h2, h3, h4⟩ := hc
  simp only [] at h1 h2 h3 h4
  exact ⟨h1, h2, by simp only [Int.natAbs_neg]; exact h3, by simp only [Int.natAbs_neg]; exact h4⟩
theorem cy_turn {D r a b c : Int} (h : Sq D r) (hd : b * b - 4 * a * c = D) (hc : Cy r (a, b, c)) : ((0 < a ∧ c < 0) ∨ (a < 0 ∧ 0 < c)) ∧ 0 < a + b + c ∧ a - b + c < 0 := by
  rcases Int.lt_trichotomy a 0 with k | k | k
  · obtain ⟨u1, u2, u3⟩ := cy_pos (a := -a) (c := -c) h (by rw [← hd]; grind) (by omega) (cy_sgn hc)
    exact ⟨.inr ⟨k, by omega⟩, by omega, by omega⟩
  · subst k
    exfalso
    exact h.ns b (by rw [← hd]; grind)
  · obtain ⟨u1, u2, u3⟩ := cy_pos h hd k hc
    exact ⟨.inl ⟨k, u1⟩, u2, u3⟩
/-- The bounds of the last coefficient. -/
theorem cy_last {D r a b c : Int} (h : Sq D r) (hd : b * b - 4 * a * c = D) (hc : Cy r (a, b, c)) : r - b < 2 * c.natAbs ∧ 2 * (c.natAbs : Int) ≤ r + b ∧ c ≠ 0 ∧ (c.natAbs : Int) ≤ r ∧ a ≠ 0 ∧ (a.natAbs : Int) ≤ r := by
  have pos : ∀ {a b c : Int}, b * b - 4 * a * c = D → 0 < a → Cy r (a, b, c) → r - b < 2 * c.natAbs ∧ 2 * (c.natAbs : Int) ≤ r + b ∧ c ≠ 0 := by
    intro a b c hd ha hc
    obtain ⟨u1, u2, u3⟩ := cy_pos h hd ha hc
    obtain ⟨h1, h2, h3, h4⟩ := hc
    simp only [] at h1 h2 h3 h4
    have k1 : (2 * c + b) * (2 * c + b) < D := by
      have e : (2 * c + b) * (2 * c + b) = D + 4 * (c * (a + b + c)) := by rw [← hd]; grind
      have := Int.mul_neg_of_neg_of_pos u1 u2
      omega
    have k2 : D < (b - 2 * c) * (b - 2 * c) := by
      have e : (b - 2 * c) * (b - 2 * c) = D + 4 * (c * (a - b + c)) := by rw [← hd]; grind
      have := Int.mul_pos_of_neg_of_neg u1 u3
      omega
    have k3 := lt_of_sq h k1
    have k4 := gt_of_sq h (by omega) k2
    omega
  have h2 := hc.2.1
  have h4 := hc.2.2.2
  simp only [] at h2 h4
  rcases Int.lt_trichotomy a 0 with k | k | k
  · have := pos (a := -a) (b := b) (c := -c) (by rw [← hd]; grind) (by omega) (cy_sgn hc)
    omega
  · exfalso
    subst k
    exact h.ns b (by rw [← hd]; grind)
  · have := pos hd k hc
    omega
/-! ### The neighbour of a cyclic form -/
/-- The second coefficient of the neighbour. -/
def nbB (r : Int) (f : Int × Int × Int) : Int := r - (r + f.2.1) % (2 * (f.2.2.natAbs : Int))
def nb (r : Int) (f : Int × Int × Int) : Int × Int × Int := (f.2.2, nbB r f, (nbB r f * nbB r f - (f.2.1 * f.2.1 - 4 * f.1 * f.2.2)) / (4 * f.2.2))
/-- The neighbour, its matrix and its place on the river. -/
theorem nb_mk {r a b c : Int} (hc0 : c ≠ 0) : ∃ k : Int, b + nbB r (a, b, c) = 2 * (c.natAbs : Int) * k ∧ r - 2 * c.natAbs < nbB r (a, b, c) ∧ nbB r (a, b, c) ≤ r ∧
    nb r (a, b, c) = (c, nbB r (a, b, c), if 0 < c then a - k * b + k * k * c else a + k * b + k * k * c) ∧ Mv a b c 0 (-1) 1 (if 0 < c then k else -k) c (nbB r (a, b, c)) (if 0 < c then a - k * b + k * k * c else a + k * b + k * k * c) := by
  have m1 := Int.emod_nonneg (r + b) (b := 2 * (c.natAbs : Int)) (by omega)
  have m2 := Int.emod_lt_of_pos (r + b) (b := 2 * (c.natAbs : Int)) (by omega)
  have m3 := Int.emod_add_mul_ediv (r + b) (2 * (c.natAbs : Int))
  have hB : nbB r (a, b, c) = r - (r + b) % (2 * (c.natAbs : Int)) := rfl
  have hk : b + nbB r (a, b, c) = 2 * (c.natAbs : Int) * ((r + b) / (2 * (c.natAbs : Int))) := by rw [hB]; omega
  generalize (r + b) / (2 * (c.natAbs : Int)) = k at *
  have w1 : r - 2 * c.natAbs < nbB r (a, b, c) := by rw [hB]; omega
  have w2 : nbB r (a, b, c) ≤ r := by rw [hB]; omega
  have hnb : nb r (a, b, c) = (c, nbB r (a, b, c), (nbB r (a, b, c) * nbB r (a, b, c) - (b * b - 4 * a * c)) / (4 * c)) := rfl
  generalize nbB r (a, b, c) = b' at *
  have hb : b' = 2 * (c.natAbs : Int) * k - b := by omega
  have e1 : b' * b' - (b * b - 4 * a * c) = 4 * c * (if 0 < c then a - k * b + k * k * c else a + k * b + k * k * c) := by
    split
    · have : (c.natAbs : Int) = c := by omega
      rw [this] at hb
      rw [hb]; grind
    · have : (c.natAbs : Int) = -c := by omega
      rw [this] at hb
      rw [hb]; grind
  refine ⟨k, hk, w1, w2, ?_, ?_⟩
  · rw [hnb, e1, Int.mul_ediv_cancel_left _ (by omega)]
  · split
    · have : (c.natAbs : Int) = c := by omega
      rw [this] at hb
      exact ⟨by grind, by rw [hb]; grind, by grind, by grind⟩
    · have : (c.natAbs : Int) = -c := by omega
      rw [this] at hb
      exact ⟨by grind, by rw [hb]; grind, by grind, by grind⟩
theorem nb_disc {D r a b c : Int} (hc0 : c ≠ 0) (hd : b * b - 4 * a * c = D) : (nb r (a, b, c)).2.1 * (nb r (a, b, c)).2.1 - 4 * (nb r (a, b, c)).1 * (nb r (a, b, c)).2.2 = D := by
  obtain ⟨k, _, _, _, h, hM⟩ := nb_mk (r := r) (a := a) (b := b) hc0
  have := hM.disc
  rw [h, ← hd, ← this]
theorem nb_cy {D r a b c : Int} (h : Sq D r) (hd : b * b - 4 * a * c = D) (hc : Cy r (a, b, c)) : Cy r (nb r (a, b, c)) ∧ ∃ k : Int, 1 ≤ k ∧ b + nbB r (a, b, c) = 2 * (c.natAbs : Int) * k ∧ nb r (a, b, c) = (c, nbB r (a, b, c), if 0 < c then a - k * b + k * k * c else a + k * b + k * k * c) := by
  obtain ⟨l1, l2, l3, l4, _, _⟩ := cy_last h hd hc
  obtain ⟨k, k1, k2, k3, k4, _⟩ := nb_mk (r := r) (a := a) (b := b) l3
  obtain ⟨h1, h2, _, _⟩ := hc
  simp only [] at h1 h2
  generalize nbB r (a, b, c) = b' at *
  have hk : 1 ≤ k := by
    rcases Int.lt_or_le 0 k with h | h
    · exact h
    · exfalso
      have : 2 * (c.natAbs : Int) * k ≤ 2 * (c.natAbs : Int) * 0 := Int.mul_le_mul_of_nonneg_left h (by omega)
      omega
  have hk2 : 2 * (c.natAbs : Int) * 1 ≤ 2 * (c.natAbs : Int) * k := Int.mul_le_mul_of_nonneg_left hk (by omega)
  refine ⟨?_, k, hk, k1, k4⟩
  rw [k4]
  exact ⟨by simp only []; omega, by simp only []; omega, by simp only []; omega, by simp only []; omega⟩
/-- The place of a cyclic form on the river. -/
def kap (f : Int × Int × Int) : Int × Int × Int := if 0 < f.1 then f else (f.2.2, -f.2.1, f.1)
def Turn (f : Int × Int × Int) : Prop := (f.1 + f.2.1 + f.2.2) * (f.1 - f.2.1 + f.2.2) < 0
theorem kap_turn {D r a b c : Int} (h : Sq D r) (hd : b * b - 4 * a * c = D) (hc : Cy r (a, b, c)) : Turn (kap (a, b, c)) ∧ 0 < (kap (a, b, c)).1 ∧ (kap (a, b, c)).2.2 < 0 := by
  obtain ⟨u1, u2, u3⟩ := cy_turn h hd hc
  unfold kap Turn
  by_cases ha : 0 < a
  · simp only [ha, if_true]
    exact ⟨Int.mul_neg_of_pos_of_neg u2 u3, trivial, by show c < 0; omega⟩
  · simp only [ha, if_false]
    refine ⟨Int.mul_neg_of_neg_of_pos (by omega) (by omega), by omega, by omega⟩
theorem cav {a b c k i : Int} (hc : c < 0) (h0 : 0 < a) (hk : 0 < a + k * b + k * k * c) (i0 : 0 ≤ i) (i1 : i ≤ k) : 0 < a + i * b + i * i * c := by
  rcases Int.lt_trichotomy 0 k with hk0 | hk0 | hk0
  · have e : k * (a + i * b + i * i * c) = (k - i) * a + i * (a + k * b + k * k * c) + (-c) * (i * (k * (k - i))) := by grind
    have p1 := Int.mul_nonneg (a := k - i) (b := a) (by omega) (by omega)
    have p2 := Int.mul_nonneg (a := i) (b := a + k * b + k * k * c) i0 (by omega)
    have p3 := Int.mul_nonneg (a := -c) (b := i * (k * (k - i))) (by omega) (Int.mul_nonneg i0 (Int.mul_nonneg (by omega) (by omega)))
    refine mul_sgn_pos (x := k) hk0 ?_
    rw [e]
    rcases Int.lt_or_le 0 i with h | h
    · have := Int.mul_pos h hk
      omega
    · have : i = 0 := by omega
      subst this
      have := Int.mul_pos (a := k - 0) (b := a) (by omega) h0
      omega
  · have : i = 0 := by omega
    subst this
    omega
  · omega
theorem it_pos {a b c : Int} (k : Nat) (h : ∀ i : Nat, i ≤ k → 0 < a + i * b + i * i * c) : ∀ i : Nat, i ≤ k → itS i (a, b, c) = (a + i * b + i * i * c, b + 2 * i * c, c) := by
  intro i
  induction i with
  | zero => intro _; simp [itS]
  | succ i ih =>
    intro hi
    rw [itS_add i 1, ih (by omega)]
    have hp := h (i + 1) hi
    show stp _ = _
    have e : a + i * b + i * i * c + (b + 2 * i * c) + c = a + (i + 1 : Nat) * b + (i + 1 : Nat) * (i + 1 : Nat) * c := by push_cast; grind
    unfold stp
    simp only []
    rw [if_pos (by rw [e]; exact hp), e]
    have e2 : b + 2 * i * c + 2 * c = b + 2 * (i + 1 : Nat) * c := by push_cast; grind
    rw [e2]
theorem it_neg {a b c : Int} (k : Nat) (h : ∀ i : Nat, i ≤ k → a - i * b + i * i * c < 0) : ∀ i : Nat, i ≤ k → itS i (c, -b, a) = (c, -b + 2 * i * c, a - i * b + i * i * c) := by
  intro i
  induction i with
  | zero => intro _; simp [itS]
  | succ i ih =>
    intro hi
    rw [itS_add i 1, ih (by omega)]
    have hp := h (i + 1) hi
    show stp _ = _
    have e : c + (-b + 2 * i * c) + (a - i * b + i * i * c) = a - (i + 1 : Nat) * b + (i + 1 : Nat) * (i + 1 : Nat) * c := by push_cast; grind
    unfold stp
    simp only []
    rw [if_neg (by rw [e]; omega), e]
    have e2 : -b + 2 * i * c + 2 * c = -b + 2 * (i + 1 : Nat) * c := by push_cast; grind
    rw [e2]
/-- The neighbour is the next turn of the river. -/
theorem nb_next {D r a b c : Int} (h : Sq D r) (hd : b * b - 4 * a * c = D) (hc : Cy r (a, b, c)) : ∃ k : Nat, 1 ≤ k ∧ itS k (kap (a, b, c)) = kap (nb r (a, b, c)) ∧ ∀ i : Nat, 0 < i → i < k → ¬ Turn (itS i (kap (a, b, c))) := by
  obtain ⟨n1, k, hk, hkb, hnb⟩ := nb_cy h hd hc
  have hl := (cy_last h hd hc).2.2.1
  have hdn := nb_disc (r := r) hl hd
  obtain ⟨u1, u2, u3⟩ := cy_turn h hd hc
  obtain ⟨K, rfl⟩ := Int.eq_ofNat_of_zero_le (show 0 ≤ k by omega)
  rw [hnb] at n1 hdn
  have v1 : ((0 < c ∧ (if 0 < c then a - K * b + K * K * c else a + K * b + K * K * c) < 0) ∨ (c < 0 ∧ 0 < (if 0 < c then a - K * b + K * K * c else a + K * b + K * K * c))) := (cy_turn h hdn n1).1
  refine ⟨K, by omega, ?_⟩
  rw [hnb]
  by_cases hcp : 0 < c
  · have ha : a < 0 := by omega
    simp only [hcp, if_true] at v1 ⊢
    have hneg : ∀ i : Nat, i ≤ K → a - i * b + i * i * c < 0 := by
      intro i hi
      have e0 : -a + K * b + K * K * -c = -(a - K * b + K * K * c) := by grind
      have := cav (a := -a) (b := b) (c := -c) (k := K) (i := i) (by omega) (by omega) (by omega) (by omega) (by omega)
      have e : -a + i * b + i * i * -c = -(a - i * b + i * i * c) := by grind
      omega
    have hit := it_neg K hneg
    have hkap : kap (a, b, c) = (c, -b, a) := by unfold kap; rw [if_neg (by simp only []; omega)]
    rw [hkap]
    refine ⟨?_, fun i i0 i1 => ?_⟩
    · rw [hit K (Nat.le_refl _)]
      unfold kap
      rw [if_pos (by simpa using hcp)]
      have : (c.natAbs : Int) = c := by omega
      rw [this] at hkb
      have e : -b + 2 * K * c = nbB r (a, b, c) := by grind
      rw [e]
    · rw [hit i (by omega)]
      unfold Turn
      simp only []
      have m1 := hneg (i + 1) (by omega)
      have m2 := hneg (i - 1) (by omega)
      rw [show ((i - 1 : Nat) : Int) = (i : Int) - 1 by omega] at m2
      rw [show ((i + 1 : Nat) : Int) = (i : Int) + 1 by omega] at m1
      have e1 : c + (-b + 2 * i * c) + (a - i * b + i * i * c) = a - (i + 1) * b + (i + 1) * (i + 1) * c := by grind
      have e2 : c - (-b + 2 * i * c) + (a - i * b + i * i * c) = a - (i - 1) * b + (i - 1) * (i - 1) * c := by grind
      rw [e1, e2]
      have := Int.mul_pos_of_neg_of_neg m1 m2
      omega
  · have ha : 0 < a := by omega
    rw [if_neg hcp] at v1
    simp only [hcp, if_false]
    have hpos : ∀ i : Nat, i ≤ K → 0 < a + i * b + i * i * c := fun i hi => cav (k := K) (by omega) ha (by omega) (by omega) (by omega)
    have hit := it_pos K hpos
    have hkap : kap (a, b, c) = (a, b, c) := by unfold kap; rw [if_pos (by simpa using ha)]
    rw [hkap]
    refine ⟨?_, fun i i0 i1 => ?_⟩
    · rw [hit K (Nat.le_refl _)]
      unfold kap
      rw [if_neg (by simpa using hcp)]
      have : (c.natAbs : Int) = -c := by omega
      rw [this] at hkb
      have e : b + 2 * K * c = -nbB r (a, b, c) := by grind
      simp only []
      rw [e]
    · rw [hit i (by omega)]
      unfold Turn
      simp only []
      have m1 := hpos (i + 1) (by omega)
      have m2 := hpos (i - 1) (by omega)
      rw [show ((i - 1 : Nat) : Int) = (i : Int) - 1 by omega] at m2
      rw [show ((i + 1 : Nat) : Int) = (i : Int) + 1 by omega] at m1
      have e1 : a + i * b + i * i * c + (b + 2 * i * c) + c = a + (i + 1) * b + (i + 1) * (i + 1) * c := by grind
      have e2 : a + i * b + i * i * c - (b + 2 * i * c) + c = a + (i - 1) * b + (i - 1) * (i - 1) * c := by grind
      rw [e1, e2]
      have := Int.mul_pos m1 m2
      omega
def itN (r : Int) : Nat → Int × Int × Int → Int × Int × Int
  | 0, f => f
  | m + 1, f => itN r m (nb r f)
theorem itN_add (r : Int) : ∀ (m k : Nat) (f : Int × Int × Int), itN r (m + k) f = itN r k (itN r m f)
  | 0, k, f => by rw [Nat.zero_add]; rfl
  | m + 1, k, f => by rw [Nat.succ_add]; exact itN_add r m k (nb r f)
/-- A cyclic form of the discriminant. -/
def CyD (D r : Int) (f : Int × Int × Int) : Prop := Cy r f ∧ f.2.1 * f.2.1 - 4 * f.1 * f.2.2 = D
theorem CyD.nb {D r : Int} {f : Int × Int × Int} (h : Sq D r) (hf : CyD D r f) : CyD D r (nb r f) := ⟨(nb_cy h hf.2 hf.1).1, nb_disc (cy_last h hf.2 hf.1).2.2.1 hf.2⟩
theorem CyD.itN {D r : Int} (h : Sq D r) : ∀ (m : Nat) {f : Int × Int × Int}, CyD D r f → CyD D r (itN r m f)
  | 0, f, hf => hf
  | m + 1, f, hf => CyD.itN h m (hf.nb h)
theorem kap_inj {D r : Int} (h : Sq D r) {f g : Int × Int × Int} (hf : CyD D r f) (hg : CyD D r g) (e : kap f = kap g) : f = g := by
  obtain ⟨a, b, c⟩ := f
  obtain ⟨a', b', c'⟩ := g
  have p1 := hf.1.1
  have p2 := hg.1.1
  unfold kap at e
  by_cases h1 : 0 < a <;> by_cases h2 : 0 < a' <;> simp only [h1, h2, if_true, if_false, Prod.mk.injEq] at e p1 p2 ⊢ <;> omega
theorem cyc_fwd {D r : Int} (h : Sq D r) : ∀ (m : Nat) {f g : Int × Int × Int}, CyD D r f → CyD D r g → itS m (kap f) = kap g → ∃ j, itN r j f = g
  | m, f, g, hf, hg, e => by
    by_cases hm : m = 0
    · subst hm
      exact ⟨0, kap_inj h hf hg e⟩
    · obtain ⟨k, k1, k2, k3⟩ := nb_next h hf.2 hf.1
      have hle : k ≤ m := by
        rcases Nat.lt_or_ge m k with hlt | hge
        · exfalso
          refine k3 m (by omega) hlt ?_
          rw [e]
          exact (kap_turn h hg.2 hg.1).1
        · exact hge
      have e2 : itS (m - k) (kap (nb r f)) = kap g := by
        rw [← k2, ← itS_add, show k + (m - k) = m by omega]
        exact e
      obtain ⟨j, hj⟩ := cyc_fwd h (m - k) (hf.nb h) hg e2
      exact ⟨j + 1, hj⟩
  termination_by m => m
theorem kap_mv {f : Int × Int × Int} : ∃ p q r s, Mv f.1 f.2.1 f.2.2 p q r s (kap f).1 (kap f).2.1 (kap f).2.2 := by
  unfold kap
  by_cases h : 0 < f.1
  · rw [if_pos h]
    exact ⟨_, _, _, _, Mv.one _ _ _⟩
  · rw [if_neg h]
    exact ⟨_, _, _, _, (Mv.one _ _ _).turn⟩
/-- Two cyclic forms of one class: one is among the neighbours of the other. -/
theorem cyc_main {D r : Int} (h : Sq D r) {f g : Int × Int × Int} (hf : CyD D r f) (hg : CyD D r g) {p q t s : Int} (hM : Mv f.1 f.2.1 f.2.2 p q t s g.1 g.2.1 g.2.2) : (∃ j, itN r j f = g) ∨ (∃ j, itN r j g = f) := by
  obtain ⟨p1, q1, r1, s1, m1⟩ := kap_mv (f := f)
  obtain ⟨p2, q2, r2, s2, m2⟩ := kap_mv (f := g)
  obtain ⟨a, b, c⟩ := f
  obtain ⟨a', b', c'⟩ := g
  obtain ⟨_, f2, f3⟩ := kap_turn h hf.2 hf.1
  obtain ⟨_, g2, g3⟩ := kap_turn h hg.2 hg.1
  have hd := m1.disc
  rw [hf.2] at hd
  have hM2 := (m1.inv.comp hM).comp m2
  have key := riv_all h.ns f2 f3 hd hM2 g2 g3
  rcases key with ⟨m, hm⟩ | ⟨m, hm⟩
  · exact .inl (cyc_fwd h m hf hg hm)
  · exact .inr (cyc_fwd h m hg hf hm)
/-! ### The cycle closes -/
theorem nb_inj {D r : Int} (h : Sq D r) {f g : Int × Int × Int} (hf : CyD D r f) (hg : CyD D r g) (e : nb r f = nb r g) : f = g := by
  obtain ⟨a, b, c⟩ := f
  obtain ⟨a', b', c'⟩ := g
  obtain ⟨f1, f2, f3, _⟩ := cy_last (a := a) (b := b) (c := c) h hf.2 hf.1
  obtain ⟨g1, g2, g3, _⟩ := cy_last (a := a') (b := b') (c := c') h hg.2 hg.1
  obtain ⟨k, k1, _, _, k4, _⟩ := nb_mk (r := r) (a := a) (b := b) f3
  obtain ⟨l, l1, _, _, l4, _⟩ := nb_mk (r := r) (a := a') (b := b') g3
  rw [k4, l4] at e
  simp only [Prod.mk.injEq] at e
  obtain ⟨e0, e2, _⟩ := e
  subst e0
  rw [e2] at k1
  have hfb := hf.1.2.1
  have hgb := hg.1.2.1
  simp only [] at hfb hgb
  generalize hN : (c.natAbs : Int) = N at *
  have hN0 : 0 ≤ N := by omega
  have hb : b = b' := by
    have e3 : b - b' = 2 * N * (k - l) := by rw [Int.mul_sub]; omega
    rcases Int.lt_trichotomy k l with h1 | h1 | h1
    · have : 2 * N * (k - l) ≤ 2 * N * (-1) := Int.mul_le_mul_of_nonneg_left (by omega) (by omega)
      omega
    · subst h1
      simp at e3
      omega
    · have : 2 * N * 1 ≤ 2 * N * (k - l) := Int.mul_le_mul_of_nonneg_left (by omega) (by omega)
      omega
  subst hb
  have hd : a * c = a' * c := by
    have h1 := hf.2
    have h2 := hg.2
    simp only [] at h1 h2
    have e1 : 4 * a * c = 4 * (a * c) := Int.mul_assoc ..
    have e2 : 4 * a' * c = 4 * (a' * c) := Int.mul_assoc ..
    omega
  have := Int.eq_of_mul_eq_mul_right f3 hd
  rw [this]
theorem itN_succ (r : Int) (m : Nat) (f : Int × Int × Int) : itN r (m + 1) f = nb r (itN r m f) := itN_add r m 1 f
theorem itN_inj {D r : Int} (h : Sq D r) : ∀ (m : Nat) {f g : Int × Int × Int}, CyD D r f → CyD D r g → itN r m f = itN r m g → f = g
  | 0, f, g, _, _, e => e
  | m + 1, f, g, hf, hg, e => nb_inj h hf hg (itN_inj h m (hf.nb h) (hg.nb h) e)
/-- The box in which the first two coefficients of a cyclic form lie. -/
def cyCode (f : Int × Int × Int) : Int := (f.1 + 40) * 100 + f.2.1
theorem cyCode_bd {D r : Int} (h : Sq D r) (hr : r ≤ 31) {f : Int × Int × Int} (hf : CyD D r f) : 0 ≤ cyCode f ∧ cyCode f < 10000 := by
  obtain ⟨a, b, c⟩ := f
  have h1 := (cy_last h hf.2 hf.1).2.2.2.2.2
  have h2 := hf.1.1
  have h3 := hf.1.2.1
  unfold cyCode
  simp only [] at h1 h2 h3 ⊢
  omega
theorem cyCode_inj {D r : Int} (h : Sq D r) (hr : r ≤ 31) {f g : Int × Int × Int} (hf : CyD D r f) (hg : CyD D r g) (e : cyCode f = cyCode g) : f = g := by
  obtain ⟨a, b, c⟩ := f
  obtain ⟨a', b', c'⟩ := g
  have h1 := (cy_last h hf.2 hf.1).2.2.2.2
  have h2 := hf.1.1
  have h3 := hf.1.2.1
  have g1 := (cy_last h hg.2 hg.1).2.2.2.2
  have g2 := hg.1.1
  have g3 := hg.1.2.1
  unfold cyCode at e
  simp only [] at h1 h2 h3 g1 g2 g3 e
  have ea : a = a' := by omega
  have eb : b = b' := by omega
  subst ea eb
  have hd : a * c = a * c' := by
    have h1 := hf.2
    have h2 := hg.2
    simp only [] at h1 h2
    have e1 : 4 * a * c = 4 * (a * c) := Int.mul_assoc ..
    have e2 : 4 * a * c' = 4 * (a * c') := Int.mul_assoc ..
    omega
  rw [Int.eq_of_mul_eq_mul_left h1.1 hd]
theorem nd_len : ∀ (l m : List Int), l.Nodup → (∀ x ∈ l, x ∈ m) → l.length ≤ m.length
  | [], m, _, _ => by simp
  | x :: xs, m, hn, hs => by
    rw [List.nodup_cons] at hn
    have h1 := nd_len xs (m.erase x) hn.2 fun y hy => by
      have hne : y ≠ x := fun e => hn.1 (e ▸ hy)
      exact (List.mem_erase_of_ne hne).2 (hs y (by simp [hy]))
    have h2 := List.length_erase_of_mem (hs x (by simp))
    have h3 : 0 < m.length := List.length_pos_of_mem (hs x (by simp))
    simp only [List.length_cons]
    omega
/-- After at most 10000 neighbours a cyclic form comes back. -/
theorem cyc_back {D r : Int} (h : Sq D r) (hr : r ≤ 31) {f : Int × Int × Int} (hf : CyD D r f) : ∃ n : Nat, 1 ≤ n ∧ n ≤ 10000 ∧ itN r n f = f := by
  apply Classical.byContradiction
  intro hno
  have hdis : ∀ i j : Nat, i < j → j ≤ 10000 → itN r i f ≠ itN r j f := by
    intro i j hij hj e
    refine hno ⟨j - i, by omega, by omega, ?_⟩
    have e2 : itN r j f = itN r i (itN r (j - i) f) := by rw [← itN_add, show j - i + i = j by omega]
    rw [e2] at e
    exact (itN_inj h i hf (hf.itN h _) e).symm
  have hnd : ((List.range 10001).map fun i => cyCode (itN r i f)).Nodup := by
    rw [List.Nodup, List.pairwise_map]
    refine List.Pairwise.imp_of_mem ?_ (List.pairwise_lt_range (n := 10001))
    intro i j hi hj hij e
    rw [List.mem_range] at hi hj
    exact hdis i j hij (by omega) (cyCode_inj h hr (hf.itN h _) (hf.itN h _) e)
  have := nd_len _ ((List.range 10000).map fun x : Nat => (x : Int)) hnd fun x hx => by
    obtain ⟨i, _, rfl⟩ := List.mem_map.1 hx
    obtain ⟨b1, b2⟩ := cyCode_bd h hr (hf.itN h i)
    exact List.mem_map.2 ⟨(cyCode (itN r i f)).toNat, List.mem_range.2 (by omega), by omega⟩
  simp at this
/-- The cycle: its forms are all that are reached. -/
theorem cyc_list {D r : Int} (h : Sq D r) (hr : r ≤ 31) {f : Int × Int × Int} (hf : CyD D r f) : ∃ n : Nat, 1 ≤ n ∧ n ≤ 10000 ∧ itN r n f = f ∧ (∀ i, 0 < i → i < n → itN r i f ≠ f) ∧ ∀ j, ∃ i, i < n ∧ itN r j f = itN r i f := by
  have least : ∀ k : Nat, ∀ n : Nat, n ≤ k → 1 ≤ n → itN r n f = f → ∃ m, 1 ≤ m ∧ m ≤ n ∧ itN r m f = f ∧ ∀ i, 0 < i → i < m → itN r i f ≠ f := by
    intro k
    induction k with
    | zero => intro n h1 h2; omega
    | succ k ih =>
      intro n h1 h2 h3
      by_cases hex : ∃ i, 0 < i ∧ i < n ∧ itN r i f = f
      · obtain ⟨i, i1, i2, i3⟩ := hex
        obtain ⟨m, m1, m2, m3, m4⟩ := ih i (by omega) i1 i3
        exact ⟨m, m1, by omega, m3, m4⟩
      · exact ⟨n, h2, Nat.le_refl _, h3, fun i i1 i2 e => hex ⟨i, i1, i2, e⟩⟩
  obtain ⟨n0, a1, a2, a3⟩ := cyc_back h hr hf
  obtain ⟨n, n1, n2, n3, n4⟩ := least n0 n0 (Nat.le_refl _) a1 a3
  refine ⟨n, n1, by omega, n3, n4, fun j => ?_⟩
  induction j with
  | zero => exact ⟨0, by omega, rfl⟩
  | succ j ih =>
    obtain ⟨i, i1, i2⟩ := ih
    rw [itN_succ, i2, ← itN_succ]
    by_cases hi : i + 1 < n
    · exact ⟨i + 1, hi, rfl⟩
    · exact ⟨0, by omega, by rw [show i + 1 = n by omega, n3]; rfl⟩
/-- Two cyclic forms of one class: the second is in the cycle of the first. -/
theorem cyc_same {D r : Int} (h : Sq D r) (hr : r ≤ 31) {f g : Int × Int × Int} (hf : CyD D r f) (hg : CyD D r g) {p q t s : Int} (hM : Mv f.1 f.2.1 f.2.2 p q t s g.1 g.2.1 g.2.2) : ∃ j, itN r j f = g := by
  rcases cyc_main h hf hg hM with hj | ⟨j, hj⟩
  · exact hj
  · obtain ⟨n, n1, _, n3, _, _⟩ := cyc_list h hr hg
    have hper : ∀ k : Nat, itN r (k * n) g = g := by
      intro k
      induction k with
      | zero => rw [Nat.zero_mul]; rfl
      | succ k ih => rw [Nat.succ_mul, itN_add, ih, n3]
    refine ⟨j * n - j, ?_⟩
    have hle : j ≤ j * n := Nat.le_mul_of_pos_right _ n1
    rw [← hj, ← itN_add, show j + (j * n - j) = j * n by omega, hper]
end Go.Proofs.Ytgeajejmikaniaa
