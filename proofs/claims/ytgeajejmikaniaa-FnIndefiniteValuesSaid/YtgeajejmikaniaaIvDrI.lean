/-
  What the reference draws: it always draws something.
  Conditions: none.
-/
import Derived.Test.YtgeajejmikaniaaIvCur2
import Derived.Test.YtgeajejmikaniaaIvDscBas
import Derived.Test.YtgeajejmikaniaaIvCt0
namespace Go.Proofs.Ytgeajejmikaniaa
set_option linter.unusedVariables false
set_option linter.unusedSimpArgs false

theorem one_ok {k : Nat} {c : List Int × Int × Int} (n : Int) (h : CurB k c) (hk : k ≤ 100000000000) : ∃ b c', r_spec_l1Cur_one c n = some (b, c') ∧ CurB (k + 2) c' := by
  obtain ⟨x, c', e, _, _, _, h1⟩ := pick_ok n h (by omega)
  exact ⟨eqI x 0, c', by simp only [r_spec_l1Cur_one, e, Option.bind_some], h1⟩
theorem foMul_some (m n : Int × Int × Int × Int) : ∃ y, r_spec_foMul m n = some y := by
  simp only [r_spec_foMul, sI_eq]
  exact ⟨_, rfl⟩
theorem foAct_some (f : Int × Int × Int) (m : Int × Int × Int × Int) : ∃ y, r_spec_foAct f m = some y := by
  simp only [r_spec_foAct, r_spec_foValue, r_spec_foPolar, sI_eq, Option.bind_some]
  exact ⟨_, rfl⟩
theorem proper_run : ∀ (m fu k : Nat) (t : Int) (a b c d : Int) (cu : List Int × Int × Int), CurB k cu → k + 4 * m ≤ 100000000000 → t ≤ m → m < fu →
    ∃ p q r s c', r_spec_l1Cur_proper_L11 fu t a b c d cu.1 cu.2.1 cu.2.2 = some (p, q, r, s, c') ∧ CurB (k + 4 * m) c'
  | m, 0, k, t, a, b, c, d, cu, _, _, _, h => by omega
  | 0, fu + 1, k, t, a, b, c, d, cu, hc, hk, ht, hf => by
    rw [r_spec_l1Cur_proper_L11, ltI_eq, decide_eq_false (by omega), cond_false]
    exact ⟨_, _, _, _, _, rfl, hc⟩
  | m + 1, fu + 1, k, t, a, b, c, d, cu, hc, hk, ht, hf => by
    rw [r_spec_l1Cur_proper_L11, ltI_eq]
    by_cases h0 : 0 < t
    · obtain ⟨x, c1, e1, _, _, _, h1⟩ := pick_ok 9 hc (by omega)
      obtain ⟨y, c2, e2, _, _, _, h2⟩ := pick_ok 3 h1 (by omega)
      have e1' : r_spec_l1Cur_pick (cu.1, cu.2.1, cu.2.2) 9 = some (x, c1) := e1
      rw [decide_eq_true h0, cond_true, e1']
      simp only [Option.bind_some, sI_eq, e2]
      have hw : w64 (t - 1) ≤ (m : Int) := by rw [w64_in (by omega)]; omega
      cases eqI y 0 with
      | true =>
        obtain ⟨z, hz⟩ := foMul_some (a, b, c, d) (1, w64 (x - 4), 0, 1)
        rw [cond_true, hz, Option.bind_some]
        obtain ⟨p, q, r, s, c', g1, g2⟩ := proper_run m fu (k + 4) (w64 (t - 1)) z.1 z.2.1 z.2.2.1 z.2.2.2 c2 (h2.up (by omega)) (by omega) hw (by omega)
        exact ⟨p, q, r, s, c', g1, g2.up (by omega)⟩
      | false =>
        rw [cond_false]
        cases eqI y 1 with
        | true =>
          obtain ⟨z, hz⟩ := foMul_some (a, b, c, d) (1, 0, w64 (x - 4), 1)
          rw [cond_true, hz, Option.bind_some]
          obtain ⟨p, q, r, s, c', g1, g2⟩ := proper_run m fu (k + 4) (w64 (t - 1)) z.1 z.2.1 z.2.2.1 z.2.2.2 c2 (h2.up (by omega)) (by omega) hw (by omega)
          exact ⟨p, q, r, s, c', g1, g2.up (by omega)⟩
        | false =>
          obtain ⟨z, hz⟩ := foMul_some (a, b, c, d) (0, -1, 1, 0)
          rw [cond_false, hz, Option.bind_some]
          obtain ⟨p, q, r, s, c', g1, g2⟩ := proper_run m fu (k + 4) (w64 (t - 1)) z.1 z.2.1 z.2.2.1 z.2.2.2 c2 (h2.up (by omega)) (by omega) hw (by omega)
          exact ⟨p, q, r, s, c', g1, g2.up (by omega)⟩
    · rw [decide_eq_false h0, cond_false]
      exact ⟨_, _, _, _, _, rfl, hc.up (by omega)⟩
theorem proper_ok {k : Nat} {c : List Int × Int × Int} (h : CurB k c) (hk : k ≤ 10000000000) : ∃ m c', r_spec_l1Cur_proper c = some (m, c') ∧ CurB (k + 26) c' := by
  obtain ⟨x, c1, e1, x0, _, x2, h1⟩ := pick_ok 6 h (by omega)
  have x3 := x2 (by omega)
  have hF := FUge
  obtain ⟨p, q, r, s, c', g1, g2⟩ := proper_run 6 FU (k + 2) x 1 0 0 1 c1 h1 (by omega) (by omega) (by omega)
  exact ⟨(p, q, r, s), c', by simp only [r_spec_l1Cur_proper, e1, Option.bind_some, g1], g2.up (by omega)⟩
theorem moved_ok {k : Nat} {c : List Int × Int × Int} (f : Int × Int × Int) (h : CurB k c) (hk : k ≤ 10000000000) : ∃ g c', r_spec_l1Cur_moved c f = some (g, c') ∧ CurB (k + 26) c' := by
  obtain ⟨m, c1, e1, h1⟩ := proper_ok h hk
  obtain ⟨y, hy⟩ := foAct_some f m
  simp only [r_spec_l1Cur_moved, e1, Option.bind_some, hy, sform_val]
  cases (inN y.1 && (inN y.2.1 && inN y.2.2)) with
  | true => exact ⟨_, c1, rfl, h1⟩
  | false => exact ⟨_, c1, rfl, h1⟩
theorem bif3 {α : Type} (a b c : Bool) : ∃ x, (bif a then some b else some c : Option Bool) = some x := by cases a <;> exact ⟨_, rfl⟩
theorem number_ok {k : Nat} {c : List Int × Int × Int} (h : CurB k c) (hk : k ≤ 100000000000) : ∃ v c', r_spec_l1Cur_number c = some (v, c') ∧ CurB (k + 8) c' := by
  obtain ⟨y, c1, e1, _, _, _, h1⟩ := pick_ok 12 h (by omega)
  simp only [r_spec_l1Cur_number, e1, Option.bind_some]
  cases eqI y 0 with
  | true =>
    obtain ⟨x, c2, e2, _, h2⟩ := among_ok (l := [0, 1, -1, 1000000, -1000000, 1000001, -1000001, -9223372036854775808, 9223372036854775807, 999983, 999999, 1000]) (by simp) h1 (by omega)
    simp only [cond_true, e2, Option.bind_some]
    exact ⟨x, c2, rfl, h2.up (by omega)⟩
  | false =>
    rw [cond_false]
    obtain ⟨j, hj⟩ := bif3 (α := Int) (eqI y 1) (eqI y 1) (eqI y 2)
    rw [hj]
    simp only [Option.bind_some]
    cases j with
    | true =>
      obtain ⟨x1, c2, e2, _, _, _, h2⟩ := pick_ok 50000 h1 (by omega)
      obtain ⟨x2, c3, e3, _, _, _, h3⟩ := pick_ok 20 h2 (by omega)
      obtain ⟨x3, c4, e4, _, _, _, h4⟩ := pick_ok 2 h3 (by omega)
      simp only [cond_true, e2, e3, e4, Option.bind_some, sI_eq]
      exact ⟨_, c4, rfl, h4.up (by omega)⟩
    | false =>
      rw [cond_false]
      obtain ⟨j, hj⟩ := bif3 (α := Int) (eqI y 3) (eqI y 3) (eqI y 4)
      rw [hj]
      simp only [Option.bind_some]
      cases j with
      | true =>
        obtain ⟨x1, c2, e2, _, _, _, h2⟩ := pick_ok 2000 h1 (by omega)
        simp only [cond_true, e2, Option.bind_some]
        exact ⟨_, c2, rfl, h2.up (by omega)⟩
      | false =>
        obtain ⟨x1, c2, e2, _, _, _, h2⟩ := pick_ok 121 h1 (by omega)
        simp only [cond_false, e2, Option.bind_some, sI_eq]
        exact ⟨_, c2, rfl, h2.up (by omega)⟩
theorem form_ok {k : Nat} {c : List Int × Int × Int} (h : CurB k c) (hk : k ≤ 10000000000) : ∃ v c', r_spec_l1Cur_form c = some (v, c') ∧ CurB (k + 30) c' := by
  obtain ⟨y, c1, e1, _, _, _, h1⟩ := pick_ok 14 h (by omega)
  simp only [r_spec_l1Cur_form, e1, Option.bind_some]
  cases eqI y 0 with
  | true =>
    obtain ⟨x1, c2, e2, h2⟩ := number_ok h1 (by omega)
    obtain ⟨x2, c3, e3, h3⟩ := number_ok h2 (by omega)
    obtain ⟨x3, c4, e4, h4⟩ := number_ok h3 (by omega)
    simp only [cond_true, e2, e3, e4, Option.bind_some]
    exact ⟨_, c4, rfl, h4.up (by omega)⟩
  | false =>
    rw [cond_false]
    cases eqI y 1 with
    | true =>
      obtain ⟨x0, c2, e2, _, h2⟩ := among_ok (l := [2, 3, -1, 0, 1000]) (by simp) h1 (by omega)
      obtain ⟨x1, c3, e3, _, _, _, h3⟩ := pick_ok 20 h2 (by omega)
      obtain ⟨x2, c4, e4, _, _, _, h4⟩ := pick_ok 21 h3 (by omega)
      obtain ⟨x3, c5, e5, _, _, _, h5⟩ := pick_ok 20 h4 (by omega)
      simp only [cond_true, e2, e3, e4, e5, Option.bind_some, sI_eq]
      exact ⟨_, c5, rfl, h5.up (by omega)⟩
    | false =>
      rw [cond_false]
      cases eqI y 2 with
      | true =>
        obtain ⟨x1, c3, e3, _, _, _, h3⟩ := pick_ok 2000 h1 (by omega)
        obtain ⟨x2, c4, e4, _, _, _, h4⟩ := pick_ok 3000 h3 (by omega)
        obtain ⟨x3, c5, e5, _, _, _, h5⟩ := pick_ok 2000 h4 (by omega)
        simp only [cond_true, e3, e4, e5, Option.bind_some, sI_eq]
        exact ⟨_, c5, rfl, h5.up (by omega)⟩
      | false =>
        rw [cond_false]
        cases eqI y 3 with
        | true =>
          obtain ⟨x1, c3, e3, _, _, _, h3⟩ := pick_ok 21 h1 (by omega)
          obtain ⟨x2, c4, e4, _, _, _, h4⟩ := pick_ok 21 h3 (by omega)
          obtain ⟨x3, c5, e5, _, _, _, h5⟩ := pick_ok 21 h4 (by omega)
          simp only [cond_true, e3, e4, e5, Option.bind_some, sI_eq]
          exact ⟨_, c5, rfl, h5.up (by omega)⟩
        | false =>
          obtain ⟨x1, c3, e3, p0, _, p2, h3⟩ := pick_ok 25 h1 (by omega)
          have p3 := p2 (by omega)
          obtain ⟨x2, c4, e4, _, _, _, h4⟩ := pick_ok 40 h3 (by omega)
          have ea : w64 (1 + x1) = 1 + x1 := w64_in (by omega)
          obtain ⟨x3, c5, e5, _, _, _, h5⟩ := pick_ok (w64 (2 * (1 + x1))) h4 (by omega)
          have hz : nz (w64 (4 * (1 + x1))) = some () := nzOk (by rw [w64_in (by omega)]; omega)
          simp only [cond_false, e3, e4, ea, e5, hz, Option.bind_some, sI_eq]
          exact ⟨_, c5, rfl, h5.up (by omega)⟩
end Go.Proofs.Ytgeajejmikaniaa
