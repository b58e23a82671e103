/-
  The drawn class forms.
  Conditions: none.
-/
import Derived.Test.YtafomkclmkfjeaaGreatIsDrw
import Derived.Test.YtafomkclmkfjeaaGreatIsCoX
namespace Go.Proofs.YtafomkclmkfjeaaGreat
set_option linter.unusedVariables false
set_option linter.unusedSimpArgs false

theorem okd_cfc {D : Int} {f : F3} (h : CFc D f) : OkD D := ⟨h.2.2.2.1, by have := cf_4 h.2.2.1; have := h.2.2.2.2; omega, cf_4 h.2.2.1⟩
theorem classForm_ok {k : Nat} {c : List Int × Int × Int} (h : CurB k c) (hk : k ≤ 100000000) : ∃ f c', r_spec_l1Cur_classForm c = some (f, c') ∧ CurB (k + 60) c' := by
  obtain ⟨b, c1, e1, h1⟩ := one_ok 12 h (by omega)
  simp only [r_spec_l1Cur_classForm, e1, Option.bind_some]
  cases b with
  | true =>
    obtain ⟨v, c2, e2, h2⟩ := definite_ok h1 (by omega)
    exact ⟨v, c2, by simp only [cond_true, e2, Option.bind_some], h2.up (by omega)⟩
  | false =>
    obtain ⟨d, c2, e2, hd, h2⟩ := goodDisc_ok h1 (by omega)
    obtain ⟨f, c3, e3, _, h3⟩ := reduced_ok hd h2 (by omega)
    obtain ⟨b, c4, e4, h4⟩ := one_ok 2 h3 (by omega)
    simp only [cond_false, e2, e3, e4, Option.bind_some]
    cases b with
    | true =>
      obtain ⟨g, c5, e5, h5⟩ := moved_ok f h4 (by omega)
      exact ⟨g, c5, by simp only [cond_true, e5, Option.bind_some], h5.up (by omega)⟩
    | false => exact ⟨f, c4, rfl, h4.up (by omega)⟩
end Go.Proofs.YtafomkclmkfjeaaGreat
