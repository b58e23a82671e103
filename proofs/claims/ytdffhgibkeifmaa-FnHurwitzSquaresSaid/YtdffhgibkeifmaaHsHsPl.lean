/-
  The numbers of sums of squares for a bound are the beginning of those for a greater one.
  Conditions: none.
-/
import Derived.Test.YtdffhgibkeifmaaHsRaw
namespace Go.Proofs.Ytdffhgibkeifmaa
set_option linter.unusedVariables false
set_option linter.unusedSimpArgs false

theorem sq_bound {t x N : Int} (t0 : 0 ≤ t) (tN : t ≤ 501) (x0 : 0 ≤ x) (xM : x ≤ 40) : w64 (t + w64 (x * x)) = t + x * x ∧ 0 ≤ x * x ∧ x * x ≤ 1600 := by
  have m1 : x * x ≤ 40 * 40 := Int.mul_le_mul xM xM x0 (by omega)
  have m2 : 0 ≤ x * x := Int.mul_nonneg x0 x0
  rw [w64_in (n := x * x) (by omega), w64_in (by omega)]
  exact ⟨rfl, m2, by omega⟩
theorem x_small {t x N : Int} (t0 : 0 ≤ t) (x0 : 0 ≤ x) (h : t + x * x ≤ 500) : x ≤ 30 := by
  rcases Int.lt_or_le 30 x with h1 | h1
  · have : 31 * 31 ≤ x * x := Int.mul_le_mul (by omega) (by omega) (by omega) (by omega)
    omega
  · exact h1
theorem getI_take {α : Type} {l : List α} {M : Nat} {i : Int} (h0 : 0 ≤ i) (h : i ≤ (M : Int)) : getI (l.take (M + 1)) i = getI l i := by
  unfold getI
  rw [leI_eq, decide_eq_true h0, cond_true, cond_true, List.getElem?_take, if_pos (by omega)]
/-- What lies behind the bound is not seen. -/
theorem in_far {c c2 : List Int} {e k t : Int} {M : Nat} (t0 : 0 ≤ t) (tN : t ≤ 501) : ∀ (n : Nat) (x : Int) (b b' : List Int), 0 ≤ x → x ≤ 31 → (M : Int) < t + x * x → r_impl_squareCounts_L21 c e k 500 t n x b = some b' → b'.take (M + 1) = b.take (M + 1)
  | 0, x, b, b', _, _, _, h => by cases h
  | n + 1, x, b, b', x0, xM, hM, h => by
    unfold r_impl_squareCounts_L21 at h
    obtain ⟨e1, m1, m2⟩ := sq_bound (N := 500) t0 tN x0 (by omega : x ≤ 40)
    rw [e1, leI_eq] at h
    by_cases h1 : t + x * x ≤ 500
    · rw [decide_eq_true h1, cond_true] at h
      obtain ⟨e24, g1, h⟩ := of_bind h
      obtain ⟨e25, g2, h⟩ := of_bind h
      obtain ⟨e26, g3, h⟩ := of_bind h
      obtain ⟨e27, g4, h⟩ := of_bind h
      simp only [Option.bind_some, sI_eq] at h
      have hx := x_small (N := 500) t0 x0 h1
      rw [w64_in (n := x + 1) (by omega)] at h
      have hsq : (x + 1) * (x + 1) = x * x + 2 * x + 1 := by grind
      rw [in_far (c2 := c2) t0 tN n (x + 1) _ b' (by omega) (by omega) (by omega) h, List.take_set_of_le (by omega)]
    · rw [decide_eq_false h1, cond_false] at h
      have h := some_inj h
      rw [h]
theorem in_near {c c2 : List Int} {e k t : Int} {M : Nat} (hM5 : M ≤ 500) (t0 : 0 ≤ t) (tN : t ≤ 501) : ∀ (n : Nat) (x : Int) (b b' : List Int), 0 ≤ x → x ≤ 31 → r_impl_squareCounts_L21 c e k 500 t n x b = some b' → r_impl_squareCounts_L21 c2 e k (M : Int) t n x (b.take (M + 1)) = some (b'.take (M + 1))
  | 0, x, b, b', _, _, h => by cases h
  | n + 1, x, b, b', x0, xM, h => by
    have h' := h
    unfold r_impl_squareCounts_L21 at h ⊢
    obtain ⟨e1, m1, m2⟩ := sq_bound (N := 500) t0 tN x0 (by omega : x ≤ 40)
    rw [e1, leI_eq] at h
    rw [e1, leI_eq]
    by_cases h2 : t + x * x ≤ (M : Int)
    · have h1 : t + x * x ≤ 500 := by omega
      rw [decide_eq_true h1, cond_true] at h
      rw [decide_eq_true h2, cond_true]
      obtain ⟨e24, g1, h⟩ := of_bind h
      rw [g1] at h
      simp only [Option.bind_some, sI_eq] at h
      have g1' : getI (b.take (M + 1)) (t + x * x) = some e24 := by rw [getI_take (by omega) h2]; exact g1
      simp only [g1', Option.bind_some, sI_eq]
      have hx := x_small (N := 500) t0 x0 h1
      rw [w64_in (n := x + 1) (by omega)] at h ⊢
      have := in_near (c2 := c2) hM5 t0 tN n (x + 1) _ b' (by omega) (by omega) h
      rw [List.take_set] at this
      exact this
    · rw [decide_eq_false h2, cond_false]
      rw [in_far (c2 := c2) t0 tN (n + 1) x b b' x0 xM (by omega) h']
theorem row_far {c : List Int} {k : Int} {M : Nat} (hc : c.length ≤ 501) : ∀ (n : Nat) (t : Int) (b b' : List Int), 0 ≤ t → (M : Int) < t → r_impl_squareCounts_L15 c k 500 n t b = some b' → b'.take (M + 1) = b.take (M + 1)
  | 0, t, b, b', _, _, h => by cases h
  | n + 1, t, b, b', t0, hM, h => by
    unfold r_impl_squareCounts_L15 at h
    rw [ltI_eq] at h
    by_cases h1 : t < (c.length : Int)
    · rw [decide_eq_true h1, cond_true] at h
      obtain ⟨e18, g1, h⟩ := of_bind h
      obtain ⟨o, g2, h⟩ := of_bind h
      simp only [sI_eq] at h
      rw [w64_in (n := t + 1) (by omega)] at h
      rw [row_far hc n (t + 1) o b' (by omega) (by omega) h, in_far (c2 := c) t0 (by omega) FU 0 b o (by omega) (by omega) (by omega) g2]
    · rw [decide_eq_false h1, cond_false] at h
      rw [some_inj h]
theorem row_near {c : List Int} {k : Int} {M : Nat} (hM5 : M ≤ 500) (hc : c.length = 501) : ∀ (n : Nat) (t : Int) (b b' : List Int), 0 ≤ t → r_impl_squareCounts_L15 c k 500 n t b = some b' → r_impl_squareCounts_L15 (c.take (M + 1)) k (M : Int) n t (b.take (M + 1)) = some (b'.take (M + 1))
  | 0, t, b, b', _, h => by cases h
  | n + 1, t, b, b', t0, h => by
    have h' := h
    unfold r_impl_squareCounts_L15 at h ⊢
    rw [ltI_eq] at h
    rw [ltI_eq]
    have hl : (c.take (M + 1)).length = M + 1 := by rw [List.length_take, hc]; omega
    rw [hl]
    by_cases h2 : t < ((M + 1 : Nat) : Int)
    · have h1 : t < (c.length : Int) := by omega
      rw [decide_eq_true h1, cond_true] at h
      rw [decide_eq_true h2, cond_true]
      obtain ⟨e18, g1, h⟩ := of_bind h
      obtain ⟨o, g2, h⟩ := of_bind h
      simp only [sI_eq] at h
      have g1' : getI (c.take (M + 1)) t = some e18 := by rw [getI_take t0 (by omega)]; exact g1
      rw [g1', Option.bind_some, in_near (c2 := c.take (M + 1)) hM5 t0 (by omega) FU 0 b o (by omega) (by omega) g2, Option.bind_some, sI_eq]
      rw [w64_in (n := t + 1) (by omega)] at h ⊢
      exact row_near hM5 hc n (t + 1) o b' (by omega) h
    · rw [decide_eq_false h2, cond_false, row_far (by omega) (n + 1) t b b' t0 (by omega) h']
theorem take_rep {M : Nat} (hM5 : M ≤ 500) : (List.replicate 501 (0 : Int)).take (M + 1) = List.replicate (M + 1) (0 : Int) := by
  rw [List.take_replicate, Nat.min_eq_left (by omega)]
theorem rounds {M : Nat} (hM5 : M ≤ 500) : ∀ (n : Nat) (k : Int) (c c' : List Int), 0 ≤ k → k ≤ 100 → c.length = 501 → (∀ k c b n', r_impl_squareCounts_L15 c k 500 n' 0 (List.replicate 501 0) = some b → b.length = 501) → r_impl_squareCounts_L9 500 n k c = some c' → r_impl_squareCounts_L9 (M : Int) n k (c.take (M + 1)) = some (c'.take (M + 1))
  | 0, k, c, c', _, _, _, _, h => by cases h
  | n + 1, k, c, c', k0, kM, hc, hlen, h => by
    unfold r_impl_squareCounts_L9 at h ⊢
    cases hk : ltI 0 k with
    | false =>
      rw [hk, cond_false] at h
      rw [cond_false, some_inj h]
    | true =>
      rw [hk, cond_true] at h
      rw [cond_true]
      obtain ⟨u, g1, h⟩ := of_bind h
      obtain ⟨o, g2, h⟩ := of_bind h
      rw [ltI_eq] at hk
      have hk := of_decide_eq_true hk
      simp only [sI_eq] at h
      have e1 : w64 ((M : Int) + 1) = ((M + 1 : Nat) : Int) := by rw [w64_in (by omega)]; omega
      have e2 : mk (w64 ((M : Int) + 1)) (w64 ((M : Int) + 1)) = some () := by
        rw [e1]
        unfold mk
        simp only [leI_eq]
        rw [decide_eq_true (by omega), decide_eq_true (by omega), decide_eq_true (by omega)]
        rfl
      have g2 : r_impl_squareCounts_L15 c k 500 FU 0 (List.replicate 501 0) = some o := g2
      have g3 := row_near hM5 hc FU 0 _ o (by omega) g2
      rw [take_rep hM5] at g3
      rw [e2, Option.bind_some, e1, show Int.toNat ((M + 1 : Nat) : Int) = M + 1 by omega, g3, Option.bind_some, sI_eq]
      rw [w64_in (n := k - 1) (by omega)] at h ⊢
      exact rounds hM5 n (k - 1) o c' (by omega) (by omega) (hlen k c o FU g2) hlen h
end Go.Proofs.Ytdffhgibkeifmaa
