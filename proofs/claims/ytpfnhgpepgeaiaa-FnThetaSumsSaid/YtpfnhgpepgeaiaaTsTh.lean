/-
  The theta series of a definite form, both ways: the numbers of points in a square at which the reduced form has each value.
  Conditions: none.
-/
import Derived.Test.YtpfnhgpepgeaiaaTsVlIm
import Derived.Test.YtpfnhgpepgeaiaaTsRlG
namespace Go.Proofs.Ytpfnhgpepgeaiaa
set_option linter.unusedVariables false
set_option linter.unusedSimpArgs false

def vT (A B C : Int) (p : Int × Int) : Int := A * p.1 * p.1 + B * p.1 * p.2 + C * p.2 * p.2
/-- The points of a square. -/
def bx : List (Int × Int) := (upz 29 (-14)).flatMap fun x => (upz 29 (-14)).map fun y => (x, y)
theorem mem_bx {p : Int × Int} : p ∈ bx ↔ (-14 ≤ p.1 ∧ p.1 ≤ 14) ∧ (-14 ≤ p.2 ∧ p.2 ≤ 14) := by
  unfold bx
  rw [List.mem_flatMap]
  constructor
  · rintro ⟨x, hx, hp⟩
    obtain ⟨y, hy, rfl⟩ := List.mem_map.1 hp
    rw [mem_upz] at hx hy
    show (-14 ≤ x ∧ x ≤ 14) ∧ (-14 ≤ y ∧ y ≤ 14)
    omega
  · rintro ⟨⟨h1, h2⟩, h3, h4⟩
    exact ⟨p.1, (mem_upz _ _ _).2 (by omega), List.mem_map.2 ⟨p.2, (mem_upz _ _ _).2 (by omega), rfl⟩⟩
theorem bx_len : bx.length = 841 := by
  unfold bx
  rw [List.length_flatMap]
  simp only [List.length_map, upz_len]
  decide
theorem bx_nodup : bx.Nodup := by
  unfold bx List.Nodup
  rw [List.pairwise_flatMap]
  refine ⟨fun x _ => ?_, (upz_lt 29 (-14)).imp ?_⟩
  · rw [List.pairwise_map]
    refine (upz_lt 29 (-14)).imp ?_
    intro a b h e
    have := (Prod.mk.inj e).2
    omega
  · intro a b h p hp q hq e
    obtain ⟨y, _, rfl⟩ := List.mem_map.1 hp
    obtain ⟨z, _, rfl⟩ := List.mem_map.1 hq
    have := (Prod.mk.inj e).1
    omega
/-- How many points have the value. -/
def TC (A B C : Int) (m : Nat) : Nat := (bx.filter fun p => decide (vT A B C p = (m : Int))).length
theorem same_len {l1 l2 : List (Int × Int)} (h1 : l1.Nodup) (h2 : l2.Nodup) (h : ∀ p, p ∈ l1 ↔ p ∈ l2) : l1.length = l2.length := ((List.perm_ext_iff_of_nodup h1 h2).2 h).length_eq
/-- A reduced form with a small discriminant. -/
structure Rf (A B C : Int) : Prop where
  a1 : 1 ≤ A
  b1 : -A ≤ B
  b2 : B ≤ A
  ac : A ≤ C
  d1 : -2000 ≤ B * B - 4 * A * C
  d2 : B * B - 4 * A * C ≤ -3
theorem Rf.big {A B C : Int} (h : Rf A B C) : A ≤ 26 ∧ C ≤ 1000 := by
  obtain ⟨a1, b1, b2, ac, d1, d2⟩ := h
  have hb : B * B ≤ A * A := by
    rcases Int.le_total 0 B with h4 | h4
    · exact sq_mono h4 b2
    · have := sq_mono (a := -B) (b := A) (by omega) (by omega)
      have e : (-B) * (-B) = B * B := by grind
      omega
  have h7 : 4 * A * A ≤ 4 * A * C := Int.mul_le_mul_of_nonneg_left ac (by omega)
  have e : 4 * A * A = 4 * (A * A) := by grind
  have hA : A ≤ 26 := by
    rcases Int.lt_or_le 26 A with h8 | h8
    · have := sq_mono (a := 27) (b := A) (by omega) (by omega)
      omega
    · exact h8
  refine ⟨hA, ?_⟩
  have h9 : (4 * 1) * C ≤ (4 * A) * C := Int.mul_le_mul_of_nonneg_right (by omega) (by omega)
  have hbb := sqn B
  have h10 : A * A ≤ 26 * 26 := sq_mono (by omega) hA
  omega
theorem Rf.key {A B C : Int} (h : Rf A B C) (p : Int × Int) : 3 * (A * (p.1 * p.1)) ≤ 4 * vT A B C p ∧ 3 * (C * (p.2 * p.2)) ≤ 4 * vT A B C p := by
  obtain ⟨a1, b1, b2, ac, d1, d2⟩ := h
  obtain ⟨x, y⟩ := p
  have hb : B * B ≤ A * A := by
    rcases Int.le_total 0 B with h4 | h4
    · exact sq_mono h4 b2
    · have := sq_mono (a := -B) (b := A) (by omega) (by omega)
      have e : (-B) * (-B) = B * B := by grind
      omega
  have h7 : A * A ≤ A * C := Int.mul_le_mul_of_nonneg_left ac (by omega)
  have hx : 0 ≤ (A * C - B * B) * (x * x) := Int.mul_nonneg (by omega) (sqn x)
  have hy : 0 ≤ (A * C - B * B) * (y * y) := Int.mul_nonneg (by omega) (sqn y)
  have s1 := sqn (2 * C * y + B * x)
  have s2 := sqn (2 * A * x + B * y)
  have e1 : 4 * C * vT A B C (x, y) = (2 * C * y + B * x) * (2 * C * y + B * x) + (A * C - B * B) * (x * x) + 3 * (C * (A * (x * x))) := by unfold vT; grind
  have e2 : 4 * A * vT A B C (x, y) = (2 * A * x + B * y) * (2 * A * x + B * y) + (A * C - B * B) * (y * y) + 3 * (A * (C * (y * y))) := by unfold vT; grind
  constructor
  · have h8 : C * (3 * (A * (x * x))) ≤ C * (4 * vT A B C (x, y)) := by
      have e3 : C * (3 * (A * (x * x))) = 3 * (C * (A * (x * x))) := by grind
      have e4 : C * (4 * vT A B C (x, y)) = 4 * C * vT A B C (x, y) := by grind
      omega
    exact Int.le_of_mul_le_mul_left h8 (by omega)
  · have h8 : A * (3 * (C * (y * y))) ≤ A * (4 * vT A B C (x, y)) := by
      have e3 : A * (3 * (C * (y * y))) = 3 * (A * (C * (y * y))) := by grind
      have e4 : A * (4 * vT A B C (x, y)) = 4 * A * vT A B C (x, y) := by grind
      omega
    exact Int.le_of_mul_le_mul_left h8 (by omega)
theorem Rf.nn {A B C : Int} (h : Rf A B C) (p : Int × Int) : 0 ≤ vT A B C p := by
  have h1 := (h.key p).1
  have h2 : 0 ≤ A * (p.1 * p.1) := Int.mul_nonneg (by have := h.a1; omega) (sqn _)
  omega
theorem le_sq {x : Int} {n : Int} (h : x * x ≤ n) (hn : n < 225) : -14 ≤ x ∧ x ≤ 14 := by
  constructor
  · rcases Int.lt_or_le x (-14) with h1 | h1
    · have := sq_mono (a := 15) (b := -x) (by omega) (by omega)
      have e : (-x) * (-x) = x * x := by grind
      omega
    · exact h1
  · rcases Int.lt_or_le 14 x with h1 | h1
    · have := sq_mono (a := 15) (b := x) (by omega) (by omega)
      omega
    · exact h1
theorem mul_ge {A q : Int} (hA : 1 ≤ A) (hq : 0 ≤ q) : q ≤ A * q := by
  have : 1 * q ≤ A * q := Int.mul_le_mul_of_nonneg_right hA hq
  omega
theorem Rf.box {A B C : Int} (h : Rf A B C) {p : Int × Int} {m : Int} (hv : vT A B C p = m) (hm : m ≤ 100) : p ∈ bx ∧ A * p.1 * p.1 ≤ 2 * m ∧ C * p.2 * p.2 ≤ 2 * m := by
  obtain ⟨h1, h2⟩ := h.key p
  have h0 := h.nn p
  have g1 := mul_ge (A := A) h.a1 (sqn p.1)
  have g2 := mul_ge (A := C) (by have := h.a1; have := h.ac; omega) (sqn p.2)
  have e1 : A * p.1 * p.1 = A * (p.1 * p.1) := by grind
  have e2 : C * p.2 * p.2 = C * (p.2 * p.2) := by grind
  refine ⟨mem_bx.2 ⟨le_sq (n := p.1 * p.1) (Int.le_refl _) (by omega), le_sq (n := p.2 * p.2) (Int.le_refl _) (by omega)⟩, by omega, by omega⟩
theorem TC_zero {A B C : Int} (h : Rf A B C) : TC A B C 0 = 1 := by
  unfold TC
  have : (bx.filter fun p => decide (vT A B C p = ((0 : Nat) : Int))).length = [((0 : Int), (0 : Int))].length := by
    refine same_len (bx_nodup.filter _) (by simp) fun p => ?_
    rw [List.mem_filter, List.mem_singleton, decide_eq_true_eq]
    constructor
    · rintro ⟨_, h1⟩
      obtain ⟨h2, h3⟩ := h.key p
      rw [h1] at h2 h3
      have g1 := mul_ge (A := A) h.a1 (sqn p.1)
      have g2 := mul_ge (A := C) (by have := h.a1; have := h.ac; omega) (sqn p.2)
      have z : ∀ x : Int, x * x ≤ 0 → x = 0 := by
        intro x hx
        rcases Int.mul_eq_zero.1 (Int.le_antisymm hx (sqn x)) with e | e <;> exact e
      obtain ⟨x, y⟩ := p
      have e1 := z x (by show x * x ≤ 0; have : x * x ≤ A * (x * x) := g1; have : 3 * (A * (x * x)) ≤ 4 * ((0 : Nat) : Int) := h2; omega)
      have e2 := z y (by show y * y ≤ 0; have : y * y ≤ C * (y * y) := g2; have : 3 * (C * (y * y)) ≤ 4 * ((0 : Nat) : Int) := h3; omega)
      rw [e1, e2]
    · rintro rfl
      exact ⟨mem_bx.2 (by decide), by unfold vT; simp⟩
  rw [this]
  rfl
/-- The series. -/
def thL (A B C : Int) (n : Nat) : List Int := (List.range (n + 1)).map fun m => (TC A B C m : Int)
theorem thL_len (A B C : Int) (n : Nat) : (thL A B C n).length = n + 1 := by simp [thL]
theorem TC_le (A B C : Int) (m : Nat) : TC A B C m ≤ 841 := by
  unfold TC
  rw [← bx_len]
  exact List.length_filter_le _ _
theorem disc_rf {A B C : Int} (h : Rf A B C) : r_impl_Form_disc (A, B, C) = some (B * B - 4 * A * C) := by
  obtain ⟨h1, h2⟩ := h.big
  obtain ⟨a1, b1, b2, ac, d1, d2⟩ := h
  exact disc_val (inN_iff.2 (by omega)) (inN_iff.2 (by omega)) (inN_iff.2 (by omega))
theorem points_TC {A B C : Int} (h : Rf A B C) {m : Nat} (h1 : 1 ≤ m) (h2 : m ≤ 100) : ∃ l, r_impl_Form_points (A, B, C) (m : Int) = some l ∧ l.length = TC A B C m := by
  obtain ⟨hA, hC⟩ := h.big
  have ha1 := h.a1
  have hb1 := h.b1
  have hb2 := h.b2
  have hac := h.ac
  obtain ⟨l, k1, k2, k3, k4⟩ := points_val (A := A) (B := B) (C := C) (n := (m : Int)) h.a1 (by omega) (by omega) (by omega) (by omega) (disc_rf h) h.d1 h.d2 (by omega) (by omega)
  refine ⟨l, k1, ?_⟩
  unfold TC
  refine same_len (k2.imp fun hlt e => ?_) (bx_nodup.filter _) fun p => ?_
  · subst e
    rcases hlt with h | ⟨_, h⟩ <;> omega
  · rw [k4, List.mem_filter, decide_eq_true_eq]
    constructor
    · intro hs
      exact ⟨(h.box (p := p) hs (by omega)).1, hs⟩
    · exact fun hs => hs.2
theorem theta_run {A B C : Int} (h : Rf A B C) {n : Nat} (hn : n ≤ 100) : ∀ (k fu m : Nat), m + k = n + 1 → 1 ≤ m → k < fu → r_impl_Form_theta_L6 (n : Int) (A, B, C) fu (m : Int) ((List.range m).map fun m => (TC A B C m : Int)) = some (thL A B C n)
  | k, 0, m, _, _, h => by omega
  | 0, fu + 1, m, hm, _, _ => by
    rw [r_impl_Form_theta_L6, leI_eq, decide_eq_false (by omega), cond_false]
    rw [show m = n + 1 by omega]
    rfl
  | k + 1, fu + 1, m, hm, h1, hf => by
    obtain ⟨l, k1, k2⟩ := points_TC h h1 (show m ≤ 100 by omega)
    rw [r_impl_Form_theta_L6, leI_eq, decide_eq_true (by omega), cond_true, k1]
    simp only [Option.bind_some, sI_eq, wsucc (show m < 1000000000 by omega)]
    rw [roomOk (by simp; omega), Option.bind_some]
    have := theta_run h hn k fu (m + 1) (by omega) (by omega) (by omega)
    rw [List.range_succ, List.map_append] at this
    rw [k2]
    exact this
/-- The counts of a list of points by their values. -/
def tab (A B C : Int) (N : Nat) (V : List (Int × Int)) : List Int := (List.range (N + 1)).map fun m => ((V.filter fun p => decide (vT A B C p = ((m : Nat) : Int))).length : Int)
theorem tab_len (A B C : Int) (N : Nat) (V : List (Int × Int)) : (tab A B C N V).length = N + 1 := by simp [tab]
theorem tab_get {A B C : Int} {N : Nat} {V : List (Int × Int)} {v : Int} (h0 : 0 ≤ v) (h1 : v ≤ N) : getI (tab A B C N V) v = some ((V.filter fun p => decide (vT A B C p = v)).length : Int) := by
  obtain ⟨k, rfl⟩ := Int.eq_ofNat_of_zero_le h0
  rw [getNat (by rw [tab_len]; omega)]
  simp [tab]
theorem tab_far {A B C : Int} {N : Nat} {V : List (Int × Int)} {p : Int × Int} (h : (N : Int) < vT A B C p) : tab A B C N (V ++ [p]) = tab A B C N V := by
  unfold tab
  refine List.map_congr_left fun m hm => ?_
  rw [List.mem_range] at hm
  rw [List.filter_append]
  have : (decide (vT A B C p = (m : Int))) = false := decide_eq_false (by omega)
  simp [this]
theorem tab_set {A B C : Int} {N : Nat} {V : List (Int × Int)} {p : Int × Int} (h0 : 0 ≤ vT A B C p) (h1 : vT A B C p ≤ N) : (tab A B C N V).set (vT A B C p).toNat (((V.filter fun q => decide (vT A B C q = vT A B C p)).length : Int) + 1) = tab A B C N (V ++ [p]) := by
  refine List.ext_getElem? fun i => ?_
  rw [List.getElem?_set]
  unfold tab
  rw [List.getElem?_map, List.getElem?_map, List.length_map, List.length_range]
  by_cases hi : i < N + 1
  · rw [List.getElem?_range hi]
    simp only [Option.map_some, List.filter_append, List.length_append]
    by_cases he : (vT A B C p).toNat = i
    · rw [if_pos he, if_pos (by omega)]
      have e : ((i : Nat) : Int) = vT A B C p := by omega
      rw [e]
      simp
    · rw [if_neg he]
      have : (decide (vT A B C p = ((i : Nat) : Int))) = false := decide_eq_false (by omega)
      simp [this]
  · rw [List.getElem?_eq_none (by simp; omega), if_neg (by omega)]
    rfl
def ptS (sx sy : Bool) (x y : Int) : List (Int × Int) := if (sx && decide (x = 0)) || (sy && decide (y = 0)) then [] else [(bif sx then -x else x, bif sy then -y else y)]
theorem val_rf {A B C : Int} (h : Rf A B C) {u v : Int} (hu : u.natAbs ≤ 20) (hv : v.natAbs ≤ 20) : r_spec_foValue (A, B, C) u v = some (vT A B C (u, v)) := by
  obtain ⟨hA, hC⟩ := h.big
  have ha1 := h.a1
  have hb1 := h.b1
  have hb2 := h.b2
  have hac := h.ac
  have m1 := abs_mul (x := A) (y := u) (A := 26) (B := 20) (by omega) hu
  have m2 := abs_mul (x := A * u) (y := u) (A := 26 * 20) (B := 20) m1 hu
  have m3 := abs_mul (x := B) (y := u) (A := 26) (B := 20) (by omega) hu
  have m4 := abs_mul (x := B * u) (y := v) (A := 26 * 20) (B := 20) m3 hv
  have m5 := abs_mul (x := C) (y := v) (A := 1000) (B := 20) (by omega) hv
  have m6 := abs_mul (x := C * v) (y := v) (A := 1000 * 20) (B := 20) m5 hv
  simp only [r_spec_foValue, sI_eq]
  rw [w64_abs (n := A * u) (by omega), w64_abs (n := A * u * u) (by omega), w64_abs (n := B * u) (by omega), w64_abs (n := B * u * v) (by omega), w64_abs (n := C * v) (by omega), w64_abs (n := C * v * v) (by omega), w64_abs (n := A * u * u + B * u * v) (by omega), w64_abs (by omega)]
  rfl
theorem thS_step {A B C : Int} (h : Rf A B C) {N : Nat} (hN : N ≤ 100) {x y s : Int} (hx0 : 0 ≤ x) (hx : x ≤ 15) (hy0 : 0 ≤ y) (hy : y ≤ 15) (hs0 : 0 ≤ s) (hs : s < 4) {sx sy : Bool} (h1 : eqI (Int.tmod s 2) 1 = sx) (h2 : ltI 1 s = sy) {fu : Nat} (V : List (Int × Int)) (hV : V.length ≤ 100000) :
    r_spec_thSeries_L17 (N : Int) x y (A, B, C) (fu + 1) s (tab A B C N V) = r_spec_thSeries_L17 (N : Int) x y (A, B, C) fu (s + 1) (tab A B C N (V ++ ptS sx sy x y)) := by
  rw [r_spec_thSeries_L17, ltI_eq, decide_eq_true hs, cond_true, h1, h2]
  have ex : eqI x 0 = decide (x = 0) := by rw [eqI_eq]; rfl
  have ey : eqI y 0 = decide (y = 0) := by rw [eqI_eq]; rfl
  have ju : (bif sx then sI (w64 (0 - x)) fun u22 => some u22 else some x) = some (bif sx then -x else x) := by
    cases sx
    · rfl
    · rw [cond_true, cond_true, sI_eq, w64_in (by omega)]; congr 1; omega
  have jv : (bif sy then sI (w64 (0 - y)) fun v25 => some v25 else some y) = some (bif sy then -y else y) := by
    cases sy
    · rfl
    · rw [cond_true, cond_true, sI_eq, w64_in (by omega)]; congr 1; omega
  rw [ju, jv]
  simp only [Option.bind_some, sI_eq, ex, ey]
  rw [w64_in (n := s + 1) (by omega)]
  have ec : (bif (bif sx then decide (x = 0) else false) then true else (bif sy then decide (y = 0) else false)) = ((sx && decide (x = 0)) || (sy && decide (y = 0))) := by cases sx <;> cases sy <;> cases decide (x = 0) <;> cases decide (y = 0) <;> rfl
  rw [ec]
  unfold ptS
  cases hc : ((sx && decide (x = 0)) || (sy && decide (y = 0))) with
  | true => simp
  | false =>
    rw [cond_false, if_neg (by simp)]
    generalize hu : (bif sx then -x else x) = u
    generalize hv : (bif sy then -y else y) = v
    have hub : u.natAbs ≤ 20 := by subst hu; cases sx <;> simp <;> omega
    have hvb : v.natAbs ≤ 20 := by subst hv; cases sy <;> simp <;> omega
    rw [val_rf h hub hvb]
    simp only [Option.bind_some, leI_eq]
    have hnn := h.nn (u, v)
    by_cases hle : vT A B C (u, v) ≤ (N : Int)
    · rw [decide_eq_true hle, cond_true, tab_get hnn hle]
      simp only [Option.bind_some]
      have hfl : (V.filter fun q => decide (vT A B C q = vT A B C (u, v))).length ≤ V.length := List.length_filter_le _ _
      rw [w64_in (by omega), tab_set hnn hle]
    · rw [decide_eq_false hle, cond_false, tab_far (by omega)]
def pts4 (x y : Int) : List (Int × Int) := ptS false false x y ++ ptS true false x y ++ ptS false true x y ++ ptS true true x y
theorem mem_pts4 {x y : Int} (hx : 0 ≤ x) (hy : 0 ≤ y) {p : Int × Int} : p ∈ pts4 x y ↔ (p.1 = x ∨ p.1 = -x) ∧ (p.2 = y ∨ p.2 = -y) := by
  obtain ⟨a, b⟩ := p
  unfold pts4 ptS
  by_cases h1 : x = 0 <;> by_cases h2 : y = 0 <;> simp [h1, h2] <;> omega
theorem pts4_nodup {x y : Int} (hx : 0 ≤ x) (hy : 0 ≤ y) : (pts4 x y).Nodup := by
  unfold pts4 ptS
  by_cases h1 : x = 0 <;> by_cases h2 : y = 0 <;> simp [h1, h2] <;> omega
theorem pts4_len (x y : Int) : (pts4 x y).length ≤ 4 := by
  have l1 : ∀ a b, (ptS a b x y).length ≤ 1 := by
    intro a b
    unfold ptS
    split <;> simp
  unfold pts4
  simp only [List.length_append]
  have p1 := l1 false false
  have p2 := l1 true false
  have p3 := l1 false true
  have p4 := l1 true true
  omega
theorem thS_four {A B C : Int} (h : Rf A B C) {N : Nat} (hN : N ≤ 100) {x y : Int} (hx0 : 0 ≤ x) (hx : x ≤ 15) (hy0 : 0 ≤ y) (hy : y ≤ 15) (V : List (Int × Int)) (hV : V.length ≤ 90000) :
    r_spec_thSeries_L17 (N : Int) x y (A, B, C) FU 0 (tab A B C N V) = some (tab A B C N (V ++ pts4 x y)) := by
  obtain ⟨m, hm⟩ : ∃ m, FU = m + 1 + 1 + 1 + 1 + 1 := ⟨FU - 5, rfl⟩
  have l1 : ∀ a b, (ptS a b x y).length ≤ 1 := by
    intro a b
    unfold ptS
    split <;> simp
  have p1 := l1 false false
  have p2 := l1 true false
  have p3 := l1 false true
  rw [hm, thS_step h hN hx0 hx hy0 hy (by omega) (by omega) (sx := false) (sy := false) rfl rfl V (by omega),
    thS_step h hN hx0 hx hy0 hy (by omega) (by omega) (sx := true) (sy := false) rfl rfl _ (by rw [List.length_append]; omega),
    thS_step h hN hx0 hx hy0 hy (by omega) (by omega) (sx := false) (sy := true) rfl rfl _ (by rw [List.length_append, List.length_append]; omega),
    thS_step h hN hx0 hx hy0 hy (by omega) (by omega) (sx := true) (sy := true) rfl rfl _ (by rw [List.length_append, List.length_append, List.length_append]; omega), r_spec_thSeries_L17, ltI_eq, decide_eq_false (by omega), cond_false]
  unfold pts4
  simp only [List.append_assoc]
theorem thS_col {A B C : Int} (h : Rf A B C) {N : Nat} (hN : N ≤ 100) {x : Int} (hx0 : 0 ≤ x) (hx : x ≤ 15) : ∀ (k fu : Nat) (y : Int) (V : List (Int × Int)), 0 ≤ y → y + k = 15 → k < fu → V.length + 4 * k ≤ 80000 →
    ∃ W, r_spec_thSeries_L12 (N : Int) x (A, B, C) fu y (tab A B C N V) = some (tab A B C N (V ++ W)) ∧ W.length ≤ 4 * k ∧ W.Nodup ∧ ∀ p, p ∈ W ↔ (p.1 = x ∨ p.1 = -x) ∧ (y ≤ p.2 ∨ p.2 ≤ -y) ∧ C * p.2 * p.2 ≤ 2 * N
  | k, 0, y, V, _, _, hf, _ => by omega
  | k, fu + 1, y, V, hy0, hk, hf, hl => by
    obtain ⟨hA, hC⟩ := h.big
    have hC1 : 1 ≤ C := by have := h.a1; have := h.ac; omega
    have m5 := abs_mul (x := C) (y := y) (A := 1000) (B := 15) (by omega) (by omega)
    have m6 := abs_mul (x := C * y) (y := y) (A := 1000 * 15) (B := 15) m5 (by omega)
    rw [r_spec_thSeries_L12]
    dsimp only
    rw [w64_abs (n := C * y) (by omega), w64_abs (n := C * y * y) (by omega), w64_in (n := 2 * (N : Int)) (by omega), leI_eq]
    have mono : ∀ z : Int, (y ≤ z ∨ z ≤ -y) → C * y * y ≤ C * z * z := by
      intro z hz
      have h1 : y * y ≤ z * z := by
        rcases hz with hz | hz
        · exact sq_mono hy0 hz
        · have := sq_mono (a := y) (b := -z) hy0 (by omega)
          have e : (-z) * (-z) = z * z := by grind
          omega
      have h2 : C * (y * y) ≤ C * (z * z) := Int.mul_le_mul_of_nonneg_left h1 (by omega)
      rw [Int.mul_assoc, Int.mul_assoc]
      exact h2
    by_cases hle : C * y * y ≤ 2 * (N : Int)
    · have hy14 : y ≤ 14 := by
        have e : C * y * y = C * (y * y) := by grind
        have := mul_ge hC1 (sqn y)
        exact (le_sq (x := y) (n := y * y) (Int.le_refl _) (by omega)).2
      obtain ⟨k', rfl⟩ : ∃ k', k = k' + 1 := ⟨k - 1, by omega⟩
      rw [decide_eq_true hle, cond_true, thS_four h hN hx0 hx hy0 (by omega) V (by omega)]
      simp only [Option.bind_some, sI_eq]
      rw [w64_in (n := y + 1) (by omega)]
      have p4 := pts4_len x y
      obtain ⟨W, g1, g2, g3, g4⟩ := thS_col h hN hx0 hx k' fu (y + 1) (V ++ pts4 x y) (by omega) (by omega) (by omega) (by rw [List.length_append]; omega)
      refine ⟨pts4 x y ++ W, by rw [g1, List.append_assoc], by rw [List.length_append]; omega, ?_, fun p => ?_⟩
      · rw [List.nodup_append]
        refine ⟨pts4_nodup hx0 hy0, g3, fun a ha b hb e => ?_⟩
        subst e
        have q1 := (mem_pts4 hx0 hy0).1 ha
        have q2 := (g4 a).1 hb
        omega
      · rw [List.mem_append, mem_pts4 hx0 hy0, g4]
        constructor
        · rintro (⟨q1, q2⟩ | ⟨q1, q2, q3⟩)
          · refine ⟨q1, by omega, ?_⟩
            rcases q2 with e | e
            · rw [e]; exact hle
            · rw [e]
              have : C * -y * -y = C * y * y := by grind
              omega
          · exact ⟨q1, by omega, q3⟩
        · rintro ⟨q1, q2, q3⟩
          by_cases hq : p.2 = y ∨ p.2 = -y
          · exact .inl ⟨q1, hq⟩
          · exact .inr ⟨q1, by omega, q3⟩
    · rw [decide_eq_false hle, cond_false]
      refine ⟨[], by simp, by simp, by simp, fun p => ⟨fun hp => (by cases hp), fun hp => ?_⟩⟩
      exfalso
      obtain ⟨_, q2, q3⟩ := hp
      have := mono p.2 q2
      omega
theorem thS_all {A B C : Int} (h : Rf A B C) {N : Nat} (hN : N ≤ 100) : ∀ (k fu : Nat) (x : Int) (V : List (Int × Int)), 0 ≤ x → x + k = 15 → k < fu → V.length + 60 * k ≤ 70000 →
    ∃ W, r_spec_thSeries_L7 (N : Int) (A, B, C) fu x (tab A B C N V) = some (tab A B C N (V ++ W)) ∧ W.length ≤ 60 * k ∧ W.Nodup ∧ ∀ p, p ∈ W ↔ (x ≤ p.1 ∨ p.1 ≤ -x) ∧ A * p.1 * p.1 ≤ 2 * N ∧ C * p.2 * p.2 ≤ 2 * N
  | k, 0, x, V, _, _, hf, _ => by omega
  | k, fu + 1, x, V, hx0, hk, hf, hl => by
    obtain ⟨hA, hC⟩ := h.big
    have hA1 := h.a1
    have hF := FUge
    have m5 := abs_mul (x := A) (y := x) (A := 26) (B := 15) (by omega) (by omega)
    have m6 := abs_mul (x := A * x) (y := x) (A := 26 * 15) (B := 15) m5 (by omega)
    rw [r_spec_thSeries_L7]
    dsimp only
    rw [w64_abs (n := A * x) (by omega), w64_abs (n := A * x * x) (by omega), w64_in (n := 2 * (N : Int)) (by omega), leI_eq]
    have mono : ∀ z : Int, (x ≤ z ∨ z ≤ -x) → A * x * x ≤ A * z * z := by
      intro z hz
      have h1 : x * x ≤ z * z := by
        rcases hz with hz | hz
        · exact sq_mono hx0 hz
        · have := sq_mono (a := x) (b := -z) hx0 (by omega)
          have e : (-z) * (-z) = z * z := by grind
          omega
      have h2 : A * (x * x) ≤ A * (z * z) := Int.mul_le_mul_of_nonneg_left h1 (by omega)
      rw [Int.mul_assoc, Int.mul_assoc]
      exact h2
    by_cases hle : A * x * x ≤ 2 * (N : Int)
    · have hx14 : x ≤ 14 := by
        have e : A * x * x = A * (x * x) := by grind
        have := mul_ge hA1 (sqn x)
        exact (le_sq (x := x) (n := x * x) (Int.le_refl _) (by omega)).2
      obtain ⟨k', rfl⟩ : ∃ k', k = k' + 1 := ⟨k - 1, by omega⟩
      obtain ⟨U, u1, u2, u3, u4⟩ := thS_col h hN hx0 (by omega) 15 FU 0 V (by omega) (by omega) (by omega) (by omega)
      rw [decide_eq_true hle, cond_true, u1]
      simp only [Option.bind_some, sI_eq]
      rw [w64_in (n := x + 1) (by omega)]
      obtain ⟨W, g1, g2, g3, g4⟩ := thS_all h hN k' fu (x + 1) (V ++ U) (by omega) (by omega) (by omega) (by rw [List.length_append]; omega)
      refine ⟨U ++ W, by rw [g1, List.append_assoc], by rw [List.length_append]; omega, ?_, fun p => ?_⟩
      · rw [List.nodup_append]
        refine ⟨u3, g3, fun a ha b hb e => ?_⟩
        subst e
        have q1 := (u4 a).1 ha
        have q2 := (g4 a).1 hb
        omega
      · rw [List.mem_append, u4, g4]
        constructor
        · rintro (⟨q1, q2, q3⟩ | ⟨q1, q2, q3⟩)
          · refine ⟨by omega, ?_, q3⟩
            rcases q1 with e | e
            · rw [e]; exact hle
            · rw [e]
              have : A * -x * -x = A * x * x := by grind
              omega
          · exact ⟨by omega, q2, q3⟩
        · rintro ⟨q1, q2, q3⟩
          by_cases hq : p.1 = x ∨ p.1 = -x
          · exact .inl ⟨hq, by omega, q3⟩
          · exact .inr ⟨by omega, q2, q3⟩
    · rw [decide_eq_false hle, cond_false]
      refine ⟨[], by simp, by simp, by simp, fun p => ⟨fun hp => (by cases hp), fun hp => ?_⟩⟩
      exfalso
      obtain ⟨q1, q2, _⟩ := hp
      have := mono p.1 q1
      omega
theorem tbV_nil (A B C : Int) (N : Nat) : tab A B C N [] = List.replicate (N + 1) (0 : Int) := by
  unfold tab
  rw [List.eq_replicate_iff]
  simp
theorem thS_val {A B C : Int} (h : Rf A B C) {N : Nat} (hN : N ≤ 100) : r_spec_thSeries_L7 (N : Int) (A, B, C) FU 0 (List.replicate (N + 1) 0) = some (thL A B C N) := by
  have hF := FUge
  obtain ⟨W, g1, _, g3, g4⟩ := thS_all h hN 15 FU 0 [] (by omega) (by omega) (by omega) (by simp)
  rw [tbV_nil, List.nil_append] at g1
  rw [g1]
  congr 1
  unfold tab thL TC
  refine List.map_congr_left fun m hm => ?_
  rw [List.mem_range] at hm
  congr 1
  refine same_len (g3.filter _) (bx_nodup.filter _) fun p => ?_
  rw [List.mem_filter, List.mem_filter, decide_eq_true_eq, g4]
  constructor
  · rintro ⟨_, h1⟩
    exact ⟨(h.box h1 (by omega)).1, h1⟩
  · rintro ⟨_, h1⟩
    obtain ⟨_, h2, h3⟩ := h.box h1 (by omega)
    exact ⟨⟨by omega, by omega, by omega⟩, h1⟩
end Go.Proofs.Ytpfnhgpepgeaiaa
