/-
  What the reference draws: it always draws something.
  Conditions: none.
-/
import Derived.Test.YtgeajejmikaniaaFpRlG
import Derived.Test.YtgeajejmikaniaaFpDisc
namespace Go.Proofs.Ytgeajejmikaniaa
set_option linter.unusedVariables false
set_option linter.unusedSimpArgs false

theorem one_ok {k : Nat} {c : List Int × Int × Int} (n : Int) (h : CurB k c) (hk : k ≤ 100000000000) : ∃ b c', r_spec_l1Cur_one c n = some (b, c') ∧ CurB (k + 2) c' := by
  obtain ⟨x, c', e, _, _, _, h1⟩ := pick_ok n h (by omega)
  exact ⟨eqI x 0, c', by simp only [r_spec_l1Cur_one, e, Option.bind_some], h1⟩
/-- A negative discriminant. -/
def OkD (d : Int) : Prop := -2000 ≤ d ∧ d ≤ -3 ∧ d % 4 ≤ 1
instance (d : Int) : Decidable (OkD d) := inferInstanceAs (Decidable (-2000 ≤ d ∧ d ≤ -3 ∧ d % 4 ≤ 1))
theorem bif3 {α : Type} (a b c : Bool) : ∃ x, (bif a then some b else some c : Option Bool) = some x := by cases a <;> exact ⟨_, rfl⟩
theorem number_ok {k : Nat} {c : List Int × Int × Int} (h : CurB k c) (hk : k ≤ 100000000000) : ∃ v c', r_spec_l1Cur_number c = some (v, c') ∧ CurB (k + 8) c' := by
  obtain ⟨y, c1, e1, _, _, _, h1⟩ := pick_ok 12 h (by omega)
  simp only [r_spec_l1Cur_number, e1, Option.bind_some]
  cases eqI y 0 with
  | true =>
    obtain ⟨x, c2, e2, _, h2⟩ := among_ok (l := [0, 1, -1, 1000000, -1000000, 1000001, -1000001, -9223372036854775808, 9223372036854775807, 999983, 999999, 1000]) (by simp) h1 (by omega)
    simp only [cond_true, e2, Option.bind_some]
    exact ⟨x, c2, rfl, h2.up (by omega)⟩
  | false =>
    rw [cond_false]
    obtain ⟨j, hj⟩ := bif3 (α := Int) (eqI y 1) (eqI y 1) (eqI y 2)
    rw [hj]
    simp only [Option.bind_some]
    cases j with
    | true =>
      obtain ⟨x1, c2, e2, _, _, _, h2⟩ := pick_ok 50000 h1 (by omega)
      obtain ⟨x2, c3, e3, _, _, _, h3⟩ := pick_ok 20 h2 (by omega)
      obtain ⟨x3, c4, e4, _, _, _, h4⟩ := pick_ok 2 h3 (by omega)
      simp only [cond_true, e2, e3, e4, Option.bind_some, sI_eq]
      exact ⟨_, c4, rfl, h4.up (by omega)⟩
    | false =>
      rw [cond_false]
      obtain ⟨j, hj⟩ := bif3 (α := Int) (eqI y 3) (eqI y 3) (eqI y 4)
      rw [hj]
      simp only [Option.bind_some]
      cases j with
      | true =>
        obtain ⟨x1, c2, e2, _, _, _, h2⟩ := pick_ok 2000 h1 (by omega)
        simp only [cond_true, e2, Option.bind_some]
        exact ⟨_, c2, rfl, h2.up (by omega)⟩
      | false =>
        obtain ⟨x1, c2, e2, _, _, _, h2⟩ := pick_ok 121 h1 (by omega)
        simp only [cond_false, e2, Option.bind_some, sI_eq]
        exact ⟨_, c2, rfl, h2.up (by omega)⟩
end Go.Proofs.Ytgeajejmikaniaa
