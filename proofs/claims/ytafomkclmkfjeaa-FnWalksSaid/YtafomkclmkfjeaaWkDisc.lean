/-
  The discriminant that is drawn: there always is one.
  Conditions: none.
-/
import Derived.Test.YtafomkclmkfjeaaWkCur2
namespace Go.Proofs.Ytafomkclmkfjeaa
set_option linter.unusedVariables false
set_option linter.unusedSimpArgs false

theorem disc_ok {k : Nat} {c : List Int × Int × Int} (h : CurB k c) (hk : k ≤ 100000000000) : ∃ d c', r_spec_l1Cur_disc c = some (d, c') ∧ CurB (k + 4) c' := by
  obtain ⟨y, c1, e1, _, _, _, h1⟩ := pick_ok 16 h (by omega)
  simp only [r_spec_l1Cur_disc, e1, Option.bind_some]
  cases eqI y 0 with
  | true =>
    obtain ⟨x, c2, e2, _, h2⟩ := among_ok (l := [-3, -4, -2000, -1999, -1996, -1995, -163, -2001, -2003, -2004, 0, 1, 5, -1, -2, -5, -9223372036854775808]) (by simp) h1 (by omega)
    simp only [cond_true, e2, Option.bind_some]
    exact ⟨x, c2, rfl, h2⟩
  | false =>
    rw [cond_false]
    generalize hj : (bif eqI y 1 then some (eqI y 1) else some (eqI y 2)) = j
    have hj2 : ∃ b, j = some b := by subst hj; cases eqI y 1 <;> exact ⟨_, rfl⟩
    obtain ⟨b, rfl⟩ := hj2
    simp only [Option.bind_some]
    cases b with
    | true =>
      obtain ⟨x, c2, e2, x1, _, x3, h2⟩ := pick_ok 1998 h1 (by omega)
      have x4 := x3 (by omega)
      simp only [cond_true, e2, Option.bind_some, sI_eq, dsc_mod]
      rw [w64_in (n := -3 - x) (by omega), dsc_mod_val (by omega) (by omega)]
      simp only [Option.bind_some]
      cases ltI 1 ((-3 - x) % 4) with
      | true =>
        simp only [cond_true, r_spec_l1Most]
        cases ltI (w64 (-3 - x - 2)) (-2000) with
        | true => exact ⟨_, c2, rfl, h2⟩
        | false => exact ⟨_, c2, rfl, h2⟩
      | false => exact ⟨_, c2, rfl, h2⟩
    | false =>
      rw [cond_false]
      generalize hj3 : (bif eqI y 3 then some (eqI y 3) else bif eqI y 4 then some (eqI y 4) else some (eqI y 5)) = j3
      have hj4 : ∃ b, j3 = some b := by subst hj3; cases eqI y 3 <;> cases eqI y 4 <;> exact ⟨_, rfl⟩
      obtain ⟨b, rfl⟩ := hj4
      simp only [Option.bind_some]
      cases b with
      | true =>
        obtain ⟨x, c2, e2, _, h2⟩ := among_ok (l := [-84, -420, -231, -260, -455, -520, -660, -1155, -1320, -1380, -1428, -1540, -399, -1092, -1560, -1785]) (by simp) h1 (by omega)
        simp only [cond_true, e2, Option.bind_some]
        exact ⟨x, c2, rfl, h2⟩
      | false =>
        rw [cond_false]
        generalize hj5 : (bif eqI y 6 then some (eqI y 6) else some (eqI y 7)) = j5
        have hj6 : ∃ b, j5 = some b := by subst hj5; cases eqI y 6 <;> exact ⟨_, rfl⟩
        obtain ⟨b, rfl⟩ := hj6
        simp only [Option.bind_some]
        cases b with
        | true =>
          obtain ⟨x, c2, e2, _, _, _, h2⟩ := pick_ok 60 h1 (by omega)
          simp only [cond_true, e2, Option.bind_some, sI_eq]
          exact ⟨_, c2, rfl, h2⟩
        | false =>
          obtain ⟨x, c2, e2, _, _, _, h2⟩ := pick_ok 50 h1 (by omega)
          simp only [cond_false, e2, Option.bind_some, sI_eq]
          exact ⟨_, c2, rfl, h2⟩
end Go.Proofs.Ytafomkclmkfjeaa
