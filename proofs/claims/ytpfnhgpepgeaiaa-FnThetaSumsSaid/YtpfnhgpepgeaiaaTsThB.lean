/-
  The theta series of a drawn form and of a reduced form, both ways, as rows of counts.
  Conditions: none.
-/
import Derived.Test.YtpfnhgpepgeaiaaTsTh
import Derived.Test.YtpfnhgpepgeaiaaTsDrw
namespace Go.Proofs.Ytpfnhgpepgeaiaa
set_option linter.unusedVariables false
set_option linter.unusedSimpArgs false

def tabF (F : Nat → Int) (n : Nat) : List Int := (List.range (n + 1)).map F
theorem tabF_len (F : Nat → Int) (n : Nat) : (tabF F n).length = n + 1 := by simp [tabF]
theorem tabF_get {F : Nat → Int} {n i : Nat} (h : i ≤ n) : getI (tabF F n) (i : Int) = some (F i) := by
  rw [getNat (by rw [tabF_len]; omega)]
  simp [tabF]
theorem mkN {n : Nat} (h : n ≤ 1000000) : mk (n : Int) (n : Int) = some () := by
  unfold mk
  rw [leI_eq, leI_eq, leI_eq, decide_eq_true (by omega), decide_eq_true (by omega), decide_eq_true (by omega)]
  rfl
def tcF (A B C : Int) (m : Nat) : Int := (TC A B C m : Int)
theorem rf_of {a b c : Int} (h : r_impl_isShownForm (a, b, c) = some true) : ∃ A B C, r_impl_reduced (a, b, c) = some (A, B, C) ∧ r_spec_reClass (a, b, c) = some (A, B, C) ∧ Rf A B C := by
  obtain ⟨m, A, B, C, h1, h2, h3, h4⟩ := red_both (red_of_shown h)
  obtain ⟨_, _, _, _, h5, _⟩ := shown_true h
  have h6 := h3.neg
  obtain ⟨⟨g1, g2⟩, g3⟩ := h4
  have hd : B * B - 4 * A * C ≤ -3 := by
    have e := h3.dis
    have : (B * B) % 4 = 0 ∨ (B * B) % 4 = 1 := by
      rcases Int.emod_two_eq B with hB | hB
      · obtain ⟨k, hk⟩ : ∃ k, B = 2 * k := ⟨B / 2, by omega⟩
        left; rw [hk, show 2 * k * (2 * k) = 4 * (k * k) by grind]; omega
      · obtain ⟨k, hk⟩ : ∃ k, B = 2 * k + 1 := ⟨B / 2, by omega⟩
        right; rw [hk, show (2 * k + 1) * (2 * k + 1) = 4 * (k * k + k) + 1 by grind]; omega
    have e2 : 4 * A * C = 4 * (A * C) := by grind
    omega
  refine ⟨A, B, C, by simp only [r_impl_reduced, h1, Option.bind_some], by simp only [r_spec_reClass, h2, Option.bind_some], ⟨h3.a1, by omega, g2, by omega, ?_, hd⟩⟩
  rw [h3.dis]
  exact h5
theorem thL_tab (A B C : Int) (n : Nat) : thL A B C n = tabF (tcF A B C) n := rfl
theorem theta_both {f : Int × Int × Int} (h : r_impl_isShownForm f = some true) : ∃ A B C, Rf A B C ∧ ∀ n : Nat, n ≤ 100 → r_impl_Form_theta f (n : Int) = some (tabF (tcF A B C) n) ∧ r_spec_thSeries f (n : Int) = some (tabF (tcF A B C) n) := by
  obtain ⟨a, b, c⟩ := f
  obtain ⟨A, B, C, h1, h2, h3⟩ := rf_of h
  refine ⟨A, B, C, h3, fun n hn => ⟨?_, ?_⟩⟩
  · have hF := FUge
    have := theta_run h3 hn n FU 1 (by omega) (by omega) (by omega)
    have e1 : ((List.range 1).map fun m => (TC A B C m : Int)) = [1] := by
      rw [show List.range 1 = [0] from rfl, List.map_cons, List.map_nil, TC_zero h3]
      rfl
    rw [e1] at this
    have e2 : (((1 : Nat) : Int)) = 1 := rfl
    rw [e2] at this
    simp only [r_impl_Form_theta, h1, Option.bind_some, this, thL_tab]
  · have e1 : w64 ((n : Int) + 1) = ((n + 1 : Nat) : Int) := by rw [w64_in (by omega)]; push_cast; rfl
    simp only [r_spec_thSeries, e1, mkN (show n + 1 ≤ 1000000 by omega), h2, Option.bind_some, Int.toNat_natCast, thS_val h3 hn, thL_tab]
theorem ints_run (l : List Int) (hl : l.length ≤ 1000000) : ∀ (k fu i : Nat), i + k = l.length → k < fu → r_laws_sameInts_L5 l l fu (i : Int) = some (.inl ())
  | k, 0, i, _, hf => by omega
  | 0, fu + 1, i, hi, hf => by rw [r_laws_sameInts_L5, ltI_eq, decide_eq_false (by omega), cond_false]
  | k + 1, fu + 1, i, hi, hf => by
    rw [r_laws_sameInts_L5, ltI_eq, decide_eq_true (by omega), cond_true, getNat (show i < l.length by omega)]
    simp only [Option.bind_some, eqSelf, Bool.not_true, cond_false, sI_eq, wsucc (show i < 1000000000 by omega)]
    exact ints_run l hl k fu (i + 1) (by omega) (by omega)
theorem ints_self (l : List Int) (hl : l.length < 1000000) : r_laws_sameInts l l = some true := by
  have hF := FUge
  have := ints_run l (by omega) l.length FU 0 (by omega) (by omega)
  have e0 : (((0 : Nat) : Int)) = 0 := rfl
  rw [e0] at this
  simp only [r_laws_sameInts, eqSelf, Bool.not_true, cond_false, this, Option.bind_some]
/-- A primitive reduced form is its own reduced form. -/
theorem rf_prr {d : Int} (hd1 : -2000 ≤ d) (hd2 : d ≤ -3) {f : Int × Int × Int} (h : PrR d f) : Rf f.1 f.2.1 f.2.2 := by
  obtain ⟨h1, ⟨⟨h2, h3⟩, h4⟩, h5, h6⟩ := h
  exact ⟨h1, by omega, h3, by omega, by rw [h5]; exact hd1, by rw [h5]; exact hd2⟩
theorem red_self {d : Int} (hd1 : -2000 ≤ d) (hd2 : d ≤ -3) {f : Int × Int × Int} (h : PrR d f) : r_impl_reduced f = some f ∧ r_spec_reClass f = some f := by
  have hb := (rf_prr hd1 hd2 h).big
  obtain ⟨a, b, c⟩ := f
  obtain ⟨h1, h2, _, _⟩ := h
  have e := red_is h1 (show a ≤ 1000000 from by have : a ≤ 26 := hb.1; omega) (b := b) (c := c)
  have h2 : IsRed a b c := h2
  rw [decide_eq_true h2] at e
  obtain ⟨m, hm⟩ : ∃ m, FU = m + 1 := ⟨FU - 1, rfl⟩
  constructor
  · simp only [r_impl_reduced, r_impl_reduce, r_impl_one, Option.bind_some, hm]
    rw [r_impl_reduce_L10]
    simp only [e, Option.bind_some, Bool.not_true, cond_false]
  · simp only [r_spec_reClass, r_spec_reReduce, Option.bind_some, hm]
    rw [r_spec_reReduce_L9, dsc_is]
    simp only [e, Option.bind_some, Bool.not_true, cond_false]
theorem theta_red {d : Int} (hd1 : -2000 ≤ d) (hd2 : d ≤ -3) {f : Int × Int × Int} (h : PrR d f) {n : Nat} (hn : n ≤ 100) : r_impl_Form_theta f (n : Int) = some (tabF (tcF f.1 f.2.1 f.2.2) n) ∧ r_spec_thSeries f (n : Int) = some (tabF (tcF f.1 f.2.1 f.2.2) n) := by
  have h3 := rf_prr hd1 hd2 h
  obtain ⟨g1, g2⟩ := red_self hd1 hd2 h
  obtain ⟨A, B, C⟩ := f
  constructor
  · have hF := FUge
    have := theta_run h3 hn n FU 1 (by omega) (by omega) (by omega)
    have e1 : ((List.range 1).map fun m => (TC A B C m : Int)) = [1] := by
      rw [show List.range 1 = [0] from rfl, List.map_cons, List.map_nil, TC_zero h3]
      rfl
    dsimp only at this
    rw [e1] at this
    have e2 : (((1 : Nat) : Int)) = 1 := rfl
    rw [e2] at this
    simp only [r_impl_Form_theta, g1, Option.bind_some, this, thL_tab]
  · have e1 : w64 ((n : Int) + 1) = ((n + 1 : Nat) : Int) := by rw [w64_in (by omega)]; push_cast; rfl
    simp only [r_spec_thSeries, e1, mkN (show n + 1 ≤ 1000000 by omega), g2, Option.bind_some, Int.toNat_natCast, thS_val h3 hn, thL_tab]
end Go.Proofs.Ytpfnhgpepgeaiaa
