/-
  The first point and the completed form, both ways.
  Conditions: none.
-/
import Derived.Test.YtgeajejmikaniaaLvLvP
namespace Go.Proofs.Ytgeajejmikaniaa
set_option linter.unusedVariables false
set_option linter.unusedSimpArgs false

/-- Coefficients of a reduced form. -/
structure Rb (A B C : Int) : Prop where
  a1 : 1 ≤ A
  a2 : A ≤ 26
  b1 : -26 ≤ B
  b2 : B ≤ 26
  c1 : 1 ≤ C
  c2 : C ≤ 1000
def Vl (A B C x y : Int) : Int := A * x * x + B * x * y + C * y * y
def Gd (a A B C s x y : Int) : Prop := mxI x y = s ∧ Int.gcd x y = 1 ∧ Int.gcd (Vl A B C x y) a = 1
theorem mx_val (x y : Int) : mxI x y = max x y := by
  unfold mxI
  rw [ltI_eq]
  by_cases h : x < y
  · rw [decide_eq_true h, cond_true]; omega
  · rw [decide_eq_false h, cond_false]; omega
theorem most_eq (x y : Int) : r_spec_l1Most x y = some (mxI x y) := by
  unfold r_spec_l1Most mxI
  rw [ltI_eq, ltI_eq]
  by_cases h : x < y
  · rw [decide_eq_true h, decide_eq_false (show ¬ y < x by omega)]; rfl
  · rw [decide_eq_false h]
    by_cases h2 : y < x
    · rw [decide_eq_true h2]; rfl
    · rw [decide_eq_false h2, show x = y by omega]; rfl
theorem vl_bd {A B C x y : Int} (h : Rb A B C) (hx : 0 ≤ x) (hx2 : x ≤ 5) (hy : 0 ≤ y) (hy2 : y ≤ 5) : (Vl A B C x y).natAbs ≤ 30000 := by
  obtain ⟨a1, a2, b1, b2, c1, c2⟩ := h
  have m1 : (A * x * x).natAbs ≤ 26 * 5 * 5 := abs_mul (abs_mul (by omega) (by omega)) (by omega)
  have m2 : (B * x * y).natAbs ≤ 26 * 5 * 5 := abs_mul (abs_mul (by omega) (by omega)) (by omega)
  have m3 : (C * y * y).natAbs ≤ 1000 * 5 * 5 := abs_mul (abs_mul (by omega) (by omega)) (by omega)
  unfold Vl
  omega
theorem fp11 {a A B C s x : Int} (h : Rb A B C) (ha : 1 ≤ a) (ha2 : a ≤ 100) (hx : 0 ≤ x) (hxs : x ≤ s) (hs : s ≤ 5) : ∀ (n : Nat) (y : Int), 0 ≤ y → y ≤ s + 1 → (s + 1 - y).toNat < n →
    ∃ r, r_impl_firstPoint_L11 a (A, B, C) s x n y = some r ∧ r_spec_coPoint_L12 a (A, B, C) s x n y = some r ∧ (r = .inl () → ∀ y', y ≤ y' → y' ≤ s → ¬ Gd a A B C s x y') ∧ (∀ p, r = .inr p → p.1 = x ∧ 0 ≤ p.2 ∧ p.2 ≤ s ∧ Gd a A B C s x p.2)
  | 0, y, h0, h1, hn => by omega
  | n + 1, y, h0, h1, hn => by
    rw [r_impl_firstPoint_L11, r_spec_coPoint_L12, leI_eq]
    by_cases hy : y ≤ s
    · rw [decide_eq_true hy, cond_true, cond_true]
      have hb := vl_bd (x := x) (y := y) h hx (by omega) h0 (by omega)
      have hv : w64 (A * x * x + B * x * y + C * y * y) = Vl A B C x y := w64_abs (by unfold Vl at hb; omega)
      have e1 : r_spec_foValue (A, B, C) x y = some (Vl A B C x y) := by rw [dsc_value, at_w, hv]
      rw [at_w, hv, e1, most_eq]
      simp only [Option.bind_some]
      rw [gcd_val (a := x) (b := y) (by omega) (by omega), sgcd_val (a := x) (b := y) (by omega) (by omega), gcd_val (b := a) (by omega) (by omega), sgcd_val (b := a) (by omega) (by omega)]
      simp only [Option.bind_some]
      by_cases hG : Gd a A B C s x y
      · obtain ⟨g1, g2, g3⟩ := hG
        rw [g1, g2, g3, eqI_true]
        simp only [cond_true, Int.natCast_one, eqI_true, Option.bind_some]
        refine ⟨_, rfl, rfl, fun e => (by cases e), fun p e => ?_⟩
        cases e
        exact ⟨rfl, h0, hy, g1, g2, g3⟩
      · have hc : ∀ {α : Type} (u v : Option α), ((bif eqI (mxI x y) s then some (eqI ((Int.gcd x y : Nat) : Int) 1) else some false).bind fun b16 => (bif b16 then some (eqI ((Int.gcd (Vl A B C x y) a : Nat) : Int) 1) else some false).bind fun b20 => bif b20 then u else v) = v := by
          intro α u v
          by_cases g1 : mxI x y = s
          · rw [g1, eqI_true, cond_true, Option.bind_some]
            by_cases g2 : Int.gcd x y = 1
            · rw [g2, show ((1 : Nat) : Int) = 1 from rfl, eqI_true, cond_true, Option.bind_some]
              have g3 : ¬ Int.gcd (Vl A B C x y) a = 1 := fun g3 => hG ⟨g1, g2, g3⟩
              rw [eqI_false (show ((Int.gcd (Vl A B C x y) a : Nat) : Int) ≠ 1 by omega), cond_false]
            · rw [eqI_false (show ((Int.gcd x y : Nat) : Int) ≠ 1 by omega), cond_false, Option.bind_some, cond_false]
          · rw [eqI_false g1, cond_false, Option.bind_some, cond_false, Option.bind_some, cond_false]
        rw [hc, hc]
        simp only [sI_eq]
        rw [w64_in (n := y + 1) (by omega)]
        obtain ⟨r, k1, k2, k3, k4⟩ := fp11 h ha ha2 hx hxs hs n (y + 1) (by omega) (by omega) (by omega)
        refine ⟨r, k1, k2, fun e y' u1 u2 => ?_, k4⟩
        by_cases e2 : y' = y
        · rw [e2]; exact hG
        · exact k3 e y' (by omega) u2
    · rw [decide_eq_false hy, cond_false, cond_false]
      refine ⟨_, rfl, rfl, fun _ y' u1 u2 => by omega, fun p e => by cases e⟩
theorem fp7 {a A B C s : Int} (h : Rb A B C) (ha : 1 ≤ a) (ha2 : a ≤ 100) (hs0 : 0 ≤ s) (hs : s ≤ 5) : ∀ (n : Nat) (x : Int), 0 ≤ x → x ≤ s + 1 → (s + 1 - x).toNat < n →
    ∃ r, r_impl_firstPoint_L7 a (A, B, C) s n x = some r ∧ r_spec_coPoint_L8 a (A, B, C) s n x = some r ∧ (r = .inl () → ∀ x' y', x ≤ x' → x' ≤ s → 0 ≤ y' → y' ≤ s → ¬ Gd a A B C s x' y') ∧ (∀ p, r = .inr p → 0 ≤ p.1 ∧ p.1 ≤ s ∧ 0 ≤ p.2 ∧ p.2 ≤ s ∧ Gd a A B C s p.1 p.2)
  | 0, x, h0, h1, hn => by omega
  | n + 1, x, h0, h1, hn => by
    have hF := FUge
    rw [r_impl_firstPoint_L7, r_spec_coPoint_L8, leI_eq]
    by_cases hx : x ≤ s
    · rw [decide_eq_true hx, cond_true, cond_true]
      obtain ⟨r, k1, k2, k3, k4⟩ := fp11 h ha ha2 h0 hx hs FU 0 (by omega) (by omega) (by omega)
      rw [k1, k2]
      simp only [Option.bind_some]
      cases r with
      | inr p =>
        obtain ⟨q1, q2, q3, q4⟩ := k4 p rfl
        refine ⟨_, rfl, rfl, fun e => (by cases e), fun p' e => ?_⟩
        cases e
        rw [q1]
        exact ⟨h0, hx, q2, q3, q4⟩
      | inl u =>
        simp only [sI_eq]
        rw [w64_in (n := x + 1) (by omega)]
        obtain ⟨r, j1, j2, j3, j4⟩ := fp7 h ha ha2 hs0 hs n (x + 1) (by omega) (by omega) (by omega)
        refine ⟨r, j1, j2, fun e x' y' u1 u2 u3 u4 => ?_, j4⟩
        by_cases e2 : x' = x
        · rw [e2]; exact k3 rfl y' u3 u4
        · exact j3 e x' y' (by omega) u2 u3 u4
    · rw [decide_eq_false hx, cond_false, cond_false]
      refine ⟨_, rfl, rfl, fun _ x' y' u1 u2 => by omega, fun p e => by cases e⟩
theorem fp4 {a A B C : Int} (h : Rb A B C) (ha : 1 ≤ a) (ha2 : a ≤ 100) {t x0 y0 : Int} (ht : t ≤ 5) (hG : Gd a A B C t x0 y0) (hx0 : 0 ≤ x0) (hx1 : x0 ≤ t) (hy0 : 0 ≤ y0) (hy1 : y0 ≤ t) : ∀ (m n n' : Nat) (s : Int), 0 ≤ s → s ≤ t → (t - s).toNat ≤ m → m < n → m < n' →
    ∃ p, r_impl_firstPoint_L4 a (A, B, C) n s = some (.inr p) ∧ r_spec_coPoint_L4 a (A, B, C) n' s = some (.inr p) ∧ ∃ s', s' ≤ 5 ∧ 0 ≤ p.1 ∧ p.1 ≤ s' ∧ 0 ≤ p.2 ∧ p.2 ≤ s' ∧ Gd a A B C s' p.1 p.2
  | m, 0, n', s, h0, h1, hm, hn, hn' => by omega
  | m, n + 1, 0, s, h0, h1, hm, hn, hn' => by omega
  | m, n + 1, n' + 1, s, h0, h1, hm, hn, hn' => by
    have hF := FUge
    rw [r_impl_firstPoint_L4, r_spec_coPoint_L4, leI_eq, decide_eq_true (show s ≤ 100 by omega), cond_true]
    obtain ⟨r, k1, k2, k3, k4⟩ := fp7 h ha ha2 h0 (by omega) FU 0 (by omega) (by omega) (by omega)
    rw [k1, k2]
    simp only [Option.bind_some]
    cases r with
    | inr p =>
      obtain ⟨q1, q2, q3, q4, q5⟩ := k4 p rfl
      exact ⟨p, rfl, rfl, s, by omega, q1, q2, q3, q4, q5⟩
    | inl u =>
      have hne : s ≠ t := by
        intro e
        rw [e] at k3
        exact k3 rfl x0 y0 hx0 hx1 hy0 hy1 hG
      obtain ⟨m', rfl⟩ : ∃ m', m = m' + 1 := ⟨m - 1, by omega⟩
      simp only [sI_eq]
      rw [w64_in (n := s + 1) (by omega)]
      exact fp4 h ha ha2 ht hG hx0 hx1 hy0 hy1 m' n n' (s + 1) (by omega) (by omega) (by omega) (by omega) (by omega)
theorem ptL_of {x y s : Int} (hs : s ≤ 5) (h1 : 0 ≤ x) (h2 : x ≤ s) (h3 : 0 ≤ y) (h4 : y ≤ s) (hg : Int.gcd x y = 1) : (x, y) ∈ ptL := by
  have e1 : x = 0 ∨ x = 1 ∨ x = 2 ∨ x = 3 ∨ x = 4 ∨ x = 5 := by omega
  have e2 : y = 0 ∨ y = 1 ∨ y = 2 ∨ y = 3 ∨ y = 4 ∨ y = 5 := by omega
  rcases e1 with rfl | rfl | rfl | rfl | rfl | rfl <;> rcases e2 with rfl | rfl | rfl | rfl | rfl | rfl <;> first | decide | (exfalso; revert hg; decide)
theorem point_both {a A B C : Int} (h : Rb A B C) (ha : 1 ≤ a) (ha2 : a ≤ 30) (hp : ∀ k : Int, k ∣ A → k ∣ B → k ∣ C → k ∣ 1) : ∃ p, r_impl_firstPoint (A, B, C) a = some p ∧ r_spec_coPoint (A, B, C) a = some p ∧ p ∈ ptL ∧ Int.gcd (Vl A B C p.1 p.2) a = 1 := by
  have hF := FUge
  obtain ⟨⟨x, y⟩, hm, hg⟩ := pt_ex ha ha2 hp
  have hr : 0 ≤ x ∧ x ≤ 5 ∧ 0 ≤ y ∧ y ≤ 5 ∧ Int.gcd x y = 1 ∧ 1 ≤ max x y := by
    simp only [ptL, List.mem_cons, Prod.mk.injEq, List.not_mem_nil, or_false] at hm
    rcases hm with ⟨rfl, rfl⟩ | ⟨rfl, rfl⟩ | ⟨rfl, rfl⟩ | ⟨rfl, rfl⟩ | ⟨rfl, rfl⟩ | ⟨rfl, rfl⟩ | ⟨rfl, rfl⟩ | ⟨rfl, rfl⟩ | ⟨rfl, rfl⟩ | ⟨rfl, rfl⟩ | ⟨rfl, rfl⟩ | ⟨rfl, rfl⟩ | ⟨rfl, rfl⟩ | ⟨rfl, rfl⟩ | ⟨rfl, rfl⟩ | ⟨rfl, rfl⟩ | ⟨rfl, rfl⟩ | ⟨rfl, rfl⟩ | ⟨rfl, rfl⟩ | ⟨rfl, rfl⟩ | ⟨rfl, rfl⟩ <;> decide
  obtain ⟨r1, r2, r3, r4, r5, r6⟩ := hr
  have hG : Gd a A B C (max x y) x y := ⟨mx_val x y, r5, hg⟩
  obtain ⟨p, k1, k2, s', u1, u2, u3, u4, u5, u6⟩ := fp4 h ha (by omega) (show max x y ≤ 5 by omega) hG r1 (by omega) r3 (by omega) 5 (FU - 1) FU 1 (by omega) (by omega) (by omega) (by omega) (by omega)
  have z : r_impl_firstPoint_L4 a (A, B, C) FU 0 = some (.inr p) := by
    obtain ⟨r, j1, j2, j3, j4⟩ := fp7 h ha (by omega) (s := 0) (by omega) (by omega) FU 0 (by omega) (by omega) (by omega)
    rw [show FU = (FU - 1) + 1 from rfl, r_impl_firstPoint_L4, j1, Option.bind_some]
    cases r with
    | inr q =>
      obtain ⟨w1, w2, w3, w4, w5, w6, w7⟩ := j4 q rfl
      have e1 : q.1 = 0 := by omega
      have e2 : q.2 = 0 := by omega
      rw [e1, e2] at w6
      exact absurd w6 (by decide)
    | inl u =>
      simp only [sI_eq]
      rw [show w64 (0 + 1) = 1 from rfl]
      exact k1
  refine ⟨p, ?_, ?_, ptL_of u1 u2 u3 u4 u5 u6.2.1, u6.2.2⟩
  · simp only [r_impl_firstPoint, z, Option.bind_some]
  · simp only [r_spec_coPoint, k2, Option.bind_some]
end Go.Proofs.Ytgeajejmikaniaa
