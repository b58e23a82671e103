/-
  The theta series of a definite form, both ways: the numbers of points in a square at which the reduced form has each value.
  Conditions: none.
-/
import Derived.Test.YtpfnhgpepgeaiaaPgVlIm
import Derived.Test.YtpfnhgpepgeaiaaPgRlG
namespace Go.Proofs.Ytpfnhgpepgeaiaa
set_option linter.unusedVariables false
set_option linter.unusedSimpArgs false

def vT (A B C : Int) (p : Int × Int) : Int := A * p.1 * p.1 + B * p.1 * p.2 + C * p.2 * p.2
/-- The points of a square. -/
def bx : List (Int × Int) := (upz 29 (-14)).flatMap fun x => (upz 29 (-14)).map fun y => (x, y)
theorem mem_bx {p : Int × Int} : p ∈ bx ↔ (-14 ≤ p.1 ∧ p.1 ≤ 14) ∧ (-14 ≤ p.2 ∧ p.2 ≤ 14) := by
  unfold bx
  rw [List.mem_flatMap]
  constructor
  · rintro ⟨x, hx, hp⟩
    obtain ⟨y, hy, rfl⟩ := List.mem_map.1 hp
    rw [mem_upz] at hx hy
    show (-14 ≤ x ∧ x ≤ 14) ∧ (-14 ≤ y ∧ y ≤ 14)
    omega
  · rintro ⟨⟨h1, h2⟩, h3, h4⟩
    exact ⟨p.1, (mem_upz _ _ _).2 (by omega), List.mem_map.2 ⟨p.2, (mem_upz _ _ _).2 (by omega), rfl⟩⟩
theorem bx_len : bx.length = 841 := by
  unfold bx
  rw [List.length_flatMap]
  simp only [List.length_map, upz_len]
  decide
theorem bx_nodup : bx.Nodup := by
  unfold bx List.Nodup
  rw [List.pairwise_flatMap]
  refine ⟨fun x _ => ?_, (upz_lt 29 (-14)).imp ?_⟩
  · rw [List.pairwise_map]
    refine (upz_lt 29 (-14)).imp ?_
    intro a b h e
    have := (Prod.mk.inj e).2
    omega
  · intro a b h p hp q hq e
    obtain ⟨y, _, rfl⟩ := List.mem_map.1 hp
    obtain ⟨z, _, rfl⟩ := List.mem_map.1 hq
    have := (Prod.mk.inj e).1
    omega
/-- How many points have the value. -/
def TC (A B C : Int) (m : Nat) : Nat := (bx.filter fun p => decide (vT A B C p = (m : Int))).length
theorem same_len {l1 l2 : List (Int × Int)} (h1 : l1.Nodup) (h2 : l2.Nodup) (h : ∀ p, p ∈ l1 ↔ p ∈ l2) : l1.length = l2.length := ((List.perm_ext_iff_of_nodup h1 h2).2 h).length_eq
/-- A reduced form with a small discriminant. -/
structure Rf (A B C : Int) : Prop where
  a1 : 1 ≤ A
  b1 : -A ≤ B
  b2 : B ≤ A
  ac : A ≤ C
  d1 : -2000 ≤ B * B - 4 * A * C
  d2 : B * B - 4 * A * C ≤ -3
theorem Rf.big {A B C : Int} (h : Rf A B C) : A ≤ 26 ∧ C ≤ 1000 := by
  obtain ⟨a1, b1, b2, ac, d1, d2⟩ := h
  have hb : B * B ≤ A * A := by
    rcases Int.le_total 0 B with h4 | h4
    · exact sq_mono h4 b2
    · have := sq_mono (a := -B) (b := A) (by omega) (by omega)
      have e : (-B) * (-B) = B * B := by grind
      omega
  have h7 : 4 * A * A ≤ 4 * A * C := Int.mul_le_mul_of_nonneg_left ac (by omega)
  have e : 4 * A * A = 4 * (A * A) := by grind
  have hA : A ≤ 26 := by
    rcases Int.lt_or_le 26 A with h8 | h8
    · have := sq_mono (a := 27) (b := A) (by omega) (by omega)
      omega
    · exact h8
  refine ⟨hA, ?_⟩
  have h9 : (4 * 1) * C ≤ (4 * A) * C := Int.mul_le_mul_of_nonneg_right (by omega) (by omega)
  have hbb := sqn B
  have h10 : A * A ≤ 26 * 26 := sq_mono (by omega) hA
  omega
theorem Rf.key {A B C : Int} (h : Rf A B C) (p : Int × Int) : 3 * (A * (p.1 * p.1)) ≤ 4 * vT A B C p ∧ 3 * (C * (p.2 * p.2)) ≤ 4 * vT A B C p := by
  obtain ⟨a1, b1, b2, ac, d1, d2⟩ := h
  obtain ⟨x, y⟩ := p
  have hb : B * B ≤ A * A := by
    rcases Int.le_total 0 B with h4 | h4
    · exact sq_mono h4 b2
    · have := sq_mono (a := -B) (b := A) (by omega) (by omega)
      have e : (-B) * (-B) = B * B := by grind
      omega
  have h7 : A * A ≤ A * C := Int.mul_le_mul_of_nonneg_left ac (by omega)
  have hx : 0 ≤ (A * C - B * B) * (x * x) := Int.mul_nonneg (by omega) (sqn x)
  have hy : 0 ≤ (A * C - B * B) * (y * y) := Int.mul_nonneg (by omega) (sqn y)
  have s1 := sqn (2 * C * y + B * x)
  have s2 := sqn (2 * A * x + B * y)
  have e1 : 4 * C * vT A B C (x, y) = (2 * C * y + B * x) * (2 * C * y + B * x) + (A * C - B * B) * (x * x) + 3 * (C * (A * (x * x))) := by unfold vT; grind
  have e2 : 4 * A * vT A B C (x, y) = (2 * A * x + B * y) * (2 * A * x + B * y) + (A * C - B * B) * (y * y) + 3 * (A * (C * (y * y))) := by unfold vT; grind
  constructor
  · have h8 : C * (3 * (A * (x * x))) ≤ C * (4 * vT A B C (x, y)) := by
      have e3 : C * (3 * (A * (x * x))) = 3 * (C * (A * (x * x))) := by grind
      have e4 : C * (4 * vT A B C (x, y)) = 4 * C * vT A B C (x, y) := by grind
      omega
    exact Int.le_of_mul_le_mul_left h8 (by omega)
  · have h8 : A * (3 * (C * (y * y))) ≤ A * (4 * vT A B C (x, y)) := by
      have e3 : A * (3 * (C * (y * y))) = 3 * (A * (C * (y * y))) := by grind
      have e4 : A * (4 * vT A B C (x, y)) = 4 * A * vT A B C (x, y) := by grind
      omega
    exact Int.le_of_mul_le_mul_left h8 (by omega)
theorem Rf.nn {A B C : Int} (h : Rf A B C) (p : Int × Int) : 0 ≤ vT A B C p := by
  have h1 := (h.key p).1
  have h2 : 0 ≤ A * (p.1 * p.1) := Int.mul_nonneg (by have := h.a1; omega) (sqn _)
  omega
theorem le_sq {x : Int} {n : Int} (h : x * x ≤ n) (hn : n < 225) : -14 ≤ x ∧ x ≤ 14 := by
  constructor
  · rcases Int.lt_or_le x (-14) with h1 | h1
    · have := sq_mono (a := 15) (b := -x) (by omega) (by omega)
      have e : (-x) * (-x) = x * x := by grind
      omega
    · exact h1
  · rcases Int.lt_or_le 14 x with h1 | h1
    · have := sq_mono (a := 15) (b := x) (by omega) (by omega)
      omega
    · exact h1
theorem mul_ge {A q : Int} (hA : 1 ≤ A) (hq : 0 ≤ q) : q ≤ A * q := by
  have : 1 * q ≤ A * q := Int.mul_le_mul_of_nonneg_right hA hq
  omega
theorem Rf.box {A B C : Int} (h : Rf A B C) {p : Int × Int} {m : Int} (hv : vT A B C p = m) (hm : m ≤ 100) : p ∈ bx ∧ A * p.1 * p.1 ≤ 2 * m ∧ C * p.2 * p.2 ≤ 2 * m := by
  obtain ⟨h1, h2⟩ := h.key p
  have h0 := h.nn p
  have g1 := mul_ge (A := A) h.a1 (sqn p.1)
  have g2 := mul_ge (A := C) (by have := h.a1; have := h.ac; omega) (sqn p.2)
  have e1 : A * p.1 * p.1 = A * (p.1 * p.1) := by grind
  have e2 : C * p.2 * p.2 = C * (p.2 * p.2) := by grind
  refine ⟨mem_bx.2 ⟨le_sq (n := p.1 * p.1) (Int.le_refl _) (by omega), le_sq (n := p.2 * p.2) (Int.le_refl _) (by omega)⟩, by omega, by omega⟩
theorem TC_zero {A B C : Int} (h : Rf A B C) : TC A B C 0 = 1 := by
  unfold TC
  have : (bx.filter fun p => decide (vT A B C p = ((0 : Nat) : Int))).length = [((0 : Int), (0 : Int))].length := by
    refine same_len (bx_nodup.filter _) (by simp) fun p => ?_
    rw [List.mem_filter, List.mem_singleton, decide_eq_true_eq]
    constructor
    · rintro ⟨_, h1⟩
      obtain ⟨h2, h3⟩ := h.key p
      rw [h1] at h2 h3
      have g1 := mul_ge (A := A) h.a1 (sqn p.1)
      have g2 := mul_ge (A := C) (by have := h.a1; have := h.ac; omega) (sqn p.2)
      have z : ∀ x : Int, x * x ≤ 0 → x = 0 := by
        intro x hx
        rcases Int.mul_eq_zero.1 (Int.le_antisymm hx (sqn x)) with e | e <;> exact e
      obtain ⟨x, y⟩ := p
      have e1 := z x (by show x * x ≤ 0; have : x * x ≤ A * (x * x) := g1; have : 3 * (A * (x * x)) ≤ 4 * ((0 : Nat) : Int) := h2; omega)
      have e2 := z y (by show y * y ≤ 0; have : y * y ≤ C * (y * y) := g2; have : 3 * (C * (y * y)) ≤ 4 * ((0 : Nat) : Int) := h3; omega)
      rw [e1, e2]
    · rintro rfl
      exact ⟨mem_bx.2 (by decide), by unfold vT; simp⟩
  rw [this]
  rfl
/-- The series. -/
def thL (A B C : Int) (n : Nat) : List Int := (List.range (n + 1)).map fun m => (TC A B C m : Int)
theorem thL_len (A B C : Int) (n : Nat) : (thL A B C n).length = n + 1 := by simp [thL]
theorem TC_le (A B C : Int) (m : Nat) : TC A B C m ≤ 841 := by
  unfold TC
  rw [← bx_len]
  exact List.length_filter_le _ _
theorem disc_rf {A B C : Int} (h : Rf A B C) : r_impl_Form_disc (A, B, C) = some (B * B - 4 * A * C) := by
  obtain ⟨h1, h2⟩ := h.big
  obtain ⟨a1, b1, b2, ac, d1, d2⟩ := h
  exact disc_val (inN_iff.2 (by omega)) (inN_iff.2 (by omega)) (inN_iff.2 (by omega))
theorem points_TC {A B C : Int} (h : Rf A B C) {m : Nat} (h1 : 1 ≤ m) (h2 : m ≤ 100) : ∃ l, r_impl_Form_points (A, B, C) (m : Int) = some l ∧ l.length = TC A B C m := by
  obtain ⟨hA, hC⟩ := h.big
  have ha1 := h.a1
  have hb1 := h.b1
  have hb2 := h.b2
  have hac := h.ac
  obtain ⟨l, k1, k2, k3, k4⟩ := points_val (A := A) (B := B) (C := C) (n := (m : Int)) h.a1 (by omega) (by omega) (by omega) (by omega) (disc_rf h) h.d1 h.d2 (by omega) (by omega)
  refine ⟨l, k1, ?_⟩
  unfold TC
  refine same_len (k2.imp fun hlt e => ?_) (bx_nodup.filter _) fun p => ?_
  · subst e
    rcases hlt with h | ⟨_, h⟩ <;> omega
  · rw [k4, List.mem_filter, decide_eq_true_eq]
    constructor
    · intro hs
      exact ⟨(h.box (p := p) hs (by omega)).1, hs⟩
    · exact fun hs => hs.2
/-- The counts of a list of points by their values. -/
def tab (A B C : Int) (N : Nat) (V : List (Int × Int)) : List Int := (List.range (N + 1)).map fun m => ((V.filter fun p => decide (vT A B C p = ((m : Nat) : Int))).length : Int)
theorem tab_len (A B C : Int) (N : Nat) (V : List (Int × Int)) : (tab A B C N V).length = N + 1 := by simp [tab]
theorem tab_get {A B C : Int} {N : Nat} {V : List (Int × Int)} {v : Int} (h0 : 0 ≤ v) (h1 : v ≤ N) : getI (tab A B C N V) v = some ((V.filter fun p => decide (vT A B C p = v)).length : Int) := by
  obtain ⟨k, rfl⟩ := Int.eq_ofNat_of_zero_le h0
  rw [getNat (by rw [tab_len]; omega)]
  simp [tab]
theorem tab_far {A B C : Int} {N : Nat} {V : List (Int × Int)} {p : Int × Int} (h : (N : Int) < vT A B C p) : tab A B C N (V ++ [p]) = tab A B C N V := by
  unfold tab
  refine List.map_congr_left fun m hm => ?_
  rw [List.mem_range] at hm
  rw [List.filter_append]
  have : (decide (vT A B C p = (m : Int))) = false := decide_eq_false (by omega)
  simp [this]
theorem tab_set {A B C : Int} {N : Nat} {V : List (Int × Int)} {p : Int × Int} (h0 : 0 ≤ vT A B C p) (h1 : vT A B C p ≤ N) : (tab A B C N V).set (vT A B C p).toNat (((V.filter fun q => decide (vT A B C q = vT A B C p)).length : Int) + 1) = tab A B C N (V ++ [p]) := by
  refine List.ext_getElem? fun i => ?_
  rw [List.getElem?_set]
  unfold tab
  rw [List.getElem?_map, List.getElem?_map, List.length_map, List.length_range]
  by_cases hi : i < N + 1
  · rw [List.getElem?_range hi]
    simp only [Option.map_some, List.filter_append, List.length_append]
    by_cases he : (vT A B C p).toNat = i
    · rw [if_pos he, if_pos (by omega)]
      have e : ((i : Nat) : Int) = vT A B C p := by omega
      rw [e]
      simp
    · rw [if_neg he]
      have : (decide (vT A B C p = ((i : Nat) : Int))) = false := decide_eq_false (by omega)
      simp [this]
  · rw [List.getElem?_eq_none (by simp; omega), if_neg (by omega)]
    rfl
def ptS (sx sy : Bool) (x y : Int) : List (Int × Int) := if (sx && decide (x = 0)) || (sy && decide (y = 0)) then [] else [(bif sx then -x else x, bif sy then -y else y)]
def pts4 (x y : Int) : List (Int × Int) := ptS false false x y ++ ptS true false x y ++ ptS false true x y ++ ptS true true x y
theorem mem_pts4 {x y : Int} (hx : 0 ≤ x) (hy : 0 ≤ y) {p : Int × Int} : p ∈ pts4 x y ↔ (p.1 = x ∨ p.1 = -x) ∧ (p.2 = y ∨ p.2 = -y) := by
  obtain ⟨a, b⟩ := p
  unfold pts4 ptS
  by_cases h1 : x = 0 <;> by_cases h2 : y = 0 <;> simp [h1, h2] <;> omega
theorem pts4_nodup {x y : Int} (hx : 0 ≤ x) (hy : 0 ≤ y) : (pts4 x y).Nodup := by
  unfold pts4 ptS
  by_cases h1 : x = 0 <;> by_cases h2 : y = 0 <;> simp [h1, h2] <;> omega
theorem pts4_len (x y : Int) : (pts4 x y).length ≤ 4 := by
  have l1 : ∀ a b, (ptS a b x y).length ≤ 1 := by
    intro a b
    unfold ptS
    split <;> simp
  unfold pts4
  simp only [List.length_append]
  have p1 := l1 false false
  have p2 := l1 true false
  have p3 := l1 false true
  have p4 := l1 true true
  omega
theorem tbV_nil (A B C : Int) (N : Nat) : tab A B C N [] = List.replicate (N + 1) (0 : Int) := by
  unfold tab
  rw [List.eq_replicate_iff]
  simp
end Go.Proofs.Ytpfnhgpepgeaiaa
