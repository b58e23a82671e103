/-
  The points at which a definite form has a value: the list of all of them in their order, both ways.
  Conditions: none.
-/
import Derived.Test.YtgeajejmikaniaaIvDscBas
import Derived.Test.YtgeajejmikaniaaIvCt0
namespace Go.Proofs.Ytgeajejmikaniaa
set_option linter.unusedVariables false
set_option linter.unusedSimpArgs false

theorem sqn (x : Int) : 0 ≤ x * x := by
  rcases Int.le_total 0 x with h | h
  · exact Int.mul_nonneg h h
  · exact Int.mul_nonneg_of_nonpos_of_nonpos h h
theorem root_run {q : Int} : ∀ (k n : Nat) (lo hi : Int), 0 ≤ lo → lo ≤ hi → hi ≤ 3000000000 → lo * lo ≤ q → q < (hi + 1) * (hi + 1) → hi - lo < 2 ^ k → k < n → ∃ r, r_impl_root_L4 q n lo hi = some r ∧ 0 ≤ r ∧ r ≤ 3000000000 ∧ r * r ≤ q ∧ q < (r + 1) * (r + 1)
  | 0, 0, _, _, _, _, _, _, _, _, h => by omega
  | 0, n + 1, lo, hi, h1, h2, h3, h4, h5, h6, h7 => by
    have e : lo = hi := by simp at h6; omega
    subst e
    unfold r_impl_root_L4
    rw [ltI_eq, decide_eq_false (by omega), cond_false]
    exact ⟨lo, rfl, h1, h3, h4, h5⟩
  | k + 1, 0, _, _, _, _, _, _, _, _, h => by omega
  | k + 1, n + 1, lo, hi, h1, h2, h3, h4, h5, h6, h7 => by
    unfold r_impl_root_L4
    rw [ltI_eq]
    by_cases hlt : lo < hi
    · have em : w64 (Int.tdiv (w64 (w64 (lo + hi) + 1)) 2) = (lo + hi + 1) / 2 := by
        rw [w64_in (n := lo + hi) (by omega), w64_in (n := lo + hi + 1) (by omega), Int.tdiv_eq_ediv_of_nonneg (by omega), w64_in (by omega)]
      rw [decide_eq_true hlt, cond_true, sI_eq, em]
      generalize hm : (lo + hi + 1) / 2 = m
      have m1 : lo < m := by omega
      have m2 : m ≤ hi := by omega
      have hp : (2 : Int) ^ (k + 1) = 2 * 2 ^ k := by rw [Int.pow_succ]; omega
      have hmm := abs_mul (x := m) (y := m) (A := 3000000000) (B := 3000000000) (by omega) (by omega)
      rw [w64_in (n := m * m) (by omega), leI_eq]
      by_cases hq : m * m ≤ q
      · rw [decide_eq_true hq, cond_true]
        exact root_run k n m hi (by omega) m2 h3 hq h5 (by omega) (by omega)
      · rw [decide_eq_false hq, cond_false, sI_eq, w64_in (by omega)]
        exact root_run k n lo (m - 1) h1 (by omega) (by omega) h4 (by rw [show m - 1 + 1 = m by omega]; omega) (by omega) (by omega)
    · have e : lo = hi := by omega
      subst e
      rw [decide_eq_false hlt, cond_false]
      exact ⟨lo, rfl, h1, h3, h4, h5⟩
theorem root_eq (q : Int) : ∀ (n : Nat) (lo hi : Int), r_spec_nuRoot_L4 q n lo hi = r_impl_root_L4 q n lo hi
  | 0, lo, hi => rfl
  | n + 1, lo, hi => by
    unfold r_spec_nuRoot_L4 r_impl_root_L4
    simp only [sI_eq, root_eq q n]
theorem root_val {q : Int} (h0 : 0 ≤ q) (h1 : q ≤ 1000000000000000000) : ∃ r, r_impl_root q = some r ∧ 0 ≤ r ∧ r ≤ 1000000000 ∧ r * r ≤ q ∧ q < (r + 1) * (r + 1) := by
  have hF := FUge
  obtain ⟨r, g1, g2, g3, g4, g5⟩ := root_run (q := q) 32 FU 0 3000000000 (by omega) (by omega) (by omega) (by omega) (by omega) (by decide) (by omega)
  refine ⟨r, by simp only [r_impl_root, g1, Option.bind_some], g2, ?_, g4, g5⟩
  rcases Int.lt_or_le 1000000000 r with h | h
  · have : 1000000001 * 1000000001 ≤ r * r := Int.mul_le_mul (by omega) (by omega) (by omega) (by omega)
    omega
  · exact h
theorem sroot_val {q : Int} (h0 : 0 ≤ q) (h1 : q ≤ 1000000000000000000) : ∃ r, r_spec_nuRoot q = some r ∧ 0 ≤ r ∧ r ≤ 1000000000 ∧ r * r ≤ q ∧ q < (r + 1) * (r + 1) := by
  have hF := FUge
  obtain ⟨r, g1, g2, g3, g4, g5⟩ := root_run (q := q) 32 FU 0 1000000000 (by omega) (by omega) (by omega) (by omega) (by omega) (by decide) (by omega)
  refine ⟨r, by simp only [r_spec_nuRoot, root_eq, g1, Option.bind_some], g2, ?_, g4, g5⟩
  rcases Int.lt_or_le 1000000000 r with h | h
  · have : 1000000001 * 1000000001 ≤ r * r := Int.mul_le_mul (by omega) (by omega) (by omega) (by omega)
    omega
  · exact h
/-- A square's root is known. -/
theorem root_uni {q r t : Int} (hr : 0 ≤ r) (h1 : r * r ≤ q) (h2 : q < (r + 1) * (r + 1)) (ht : t * t = q) : t = r ∨ t = -r := by
  have key : ∀ s : Int, 0 ≤ s → s * s = q → s = r := by
    intro s hs he
    rcases Int.lt_trichotomy s r with h | h | h
    · have : (s + 1) * (s + 1) ≤ r * r := Int.mul_le_mul (by omega) (by omega) (by omega) (by omega)
      have e : (s + 1) * (s + 1) = s * s + 2 * s + 1 := by grind
      omega
    · exact h
    · have : (r + 1) * (r + 1) ≤ s * s := Int.mul_le_mul (by omega) (by omega) (by omega) (by omega)
      omega
  rcases Int.le_total 0 t with h | h
  · exact .inl (key t h ht)
  · have := key (-t) (by omega) (by rw [← ht]; grind)
    right
    omega
theorem tmod_zero {a m : Int} (hm : m ≠ 0) : eqI (a.tmod m) 0 = true → m * a.tdiv m = a := by
  intro h
  rw [eqI_eq] at h
  have h := eq_of_beq h
  have := Int.tmod_add_mul_tdiv a m
  omega
theorem tmod_mul {a m y : Int} (hm : m ≠ 0) (h : m * y = a) : eqI (a.tmod m) 0 = true ∧ a.tdiv m = y := by
  subst h
  rw [Int.mul_tmod_right, Int.mul_tdiv_cancel_left _ hm]
  exact ⟨rfl, rfl⟩
/-- Points in their order. -/
def lexL (p q : Int × Int) : Prop := p.1 < q.1 ∨ (p.1 = q.1 ∧ p.2 < q.2)
def Srt (l : List (Int × Int)) : Prop := l.Pairwise lexL
theorem srt_ext : ∀ {l1 l2 : List (Int × Int)}, Srt l1 → Srt l2 → (∀ p, p ∈ l1 ↔ p ∈ l2) → l1 = l2
  | [], [], _, _, _ => rfl
  | [], q :: _, _, _, h => by have := (h q).2 List.mem_cons_self; cases this
  | p :: _, [], _, _, h => by have := (h p).1 List.mem_cons_self; cases this
  | p :: l1, q :: l2, h1, h2, h => by
    have s1 := List.pairwise_cons.1 h1
    have s2 := List.pairwise_cons.1 h2
    have irr : ∀ {x y : Int × Int}, lexL x y → lexL y x → False := by
      intro x y a b
      rcases a with a | ⟨a, a'⟩ <;> rcases b with b | ⟨b, b'⟩ <;> omega
    have e : p = q := by
      rcases List.mem_cons.1 ((h p).1 List.mem_cons_self) with e | e
      · exact e
      · rcases List.mem_cons.1 ((h q).2 List.mem_cons_self) with f | f
        · exact f.symm
        · exact absurd (irr (s1.1 q f) (s2.1 p e)) id
    subst e
    have : l1 = l2 := srt_ext s1.2 s2.2 fun x => by
      have hx := h x
      constructor
      · intro hm
        rcases List.mem_cons.1 (hx.1 (List.mem_cons_of_mem _ hm)) with e | e
        · subst e; exact absurd (irr (s1.1 x hm) (s1.1 x hm)) id
        · exact e
      · intro hm
        rcases List.mem_cons.1 (hx.2 (List.mem_cons_of_mem _ hm)) with e | e
        · subst e; exact absurd (irr (s2.1 x hm) (s2.1 x hm)) id
        · exact e
    rw [this]
/-- The form has the value at a point. -/
def Sol (A B C n : Int) (p : Int × Int) : Prop := A * p.1 * p.1 + B * p.1 * p.2 + C * p.2 * p.2 = n
theorem sol_y {A B C d n x y : Int} (hC : 1 ≤ C) (hd : B * B - 4 * A * C = d) : Sol A B C n (x, y) ↔ (2 * C * y + B * x) * (2 * C * y + B * x) = d * x * x + 4 * C * n := by
  unfold Sol
  have key : (2 * C * y + B * x) * (2 * C * y + B * x) - (d * x * x + 4 * C * n) = 4 * C * (A * x * x + B * x * y + C * y * y - n) := by subst hd; grind
  constructor
  · intro h
    have h : A * x * x + B * x * y + C * y * y = n := h
    rw [h, Int.sub_self, Int.mul_zero] at key
    omega
  · intro h
    show A * x * x + B * x * y + C * y * y = n
    rw [h, Int.sub_self] at key
    rcases Int.mul_eq_zero.1 key.symm with h1 | h1 <;> omega
theorem sol_x {A B C d n x y : Int} (hA : 1 ≤ A) (hd : B * B - 4 * A * C = d) : Sol A B C n (x, y) ↔ (2 * A * x + B * y) * (2 * A * x + B * y) = d * y * y + 4 * A * n := by
  unfold Sol
  have key : (2 * A * x + B * y) * (2 * A * x + B * y) - (d * y * y + 4 * A * n) = 4 * A * (A * x * x + B * x * y + C * y * y - n) := by subst hd; grind
  constructor
  · intro h
    have h : A * x * x + B * x * y + C * y * y = n := h
    rw [h, Int.sub_self, Int.mul_zero] at key
    omega
  · intro h
    show A * x * x + B * x * y + C * y * y = n
    rw [h, Int.sub_self] at key
    rcases Int.mul_eq_zero.1 key.symm with h1 | h1 <;> omega
end Go.Proofs.Ytgeajejmikaniaa
