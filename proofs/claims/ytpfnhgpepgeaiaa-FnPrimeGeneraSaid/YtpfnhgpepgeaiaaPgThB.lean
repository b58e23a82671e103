/-
  The theta series of a drawn form and of a reduced form, both ways, as rows of counts.
  Conditions: none.
-/
import Derived.Test.YtpfnhgpepgeaiaaPgTh
import Derived.Test.YtpfnhgpepgeaiaaPgDrw
namespace Go.Proofs.Ytpfnhgpepgeaiaa
set_option linter.unusedVariables false
set_option linter.unusedSimpArgs false

def tabF (F : Nat → Int) (n : Nat) : List Int := (List.range (n + 1)).map F
theorem tabF_len (F : Nat → Int) (n : Nat) : (tabF F n).length = n + 1 := by simp [tabF]
theorem tabF_get {F : Nat → Int} {n i : Nat} (h : i ≤ n) : getI (tabF F n) (i : Int) = some (F i) := by
  rw [getNat (by rw [tabF_len]; omega)]
  simp [tabF]
theorem mkN {n : Nat} (h : n ≤ 1000000) : mk (n : Int) (n : Int) = some () := by
  unfold mk
  rw [leI_eq, leI_eq, leI_eq, decide_eq_true (by omega), decide_eq_true (by omega), decide_eq_true (by omega)]
  rfl
def tcF (A B C : Int) (m : Nat) : Int := (TC A B C m : Int)
theorem thL_tab (A B C : Int) (n : Nat) : thL A B C n = tabF (tcF A B C) n := rfl
theorem ints_run (l : List Int) (hl : l.length ≤ 1000000) : ∀ (k fu i : Nat), i + k = l.length → k < fu → r_laws_sameInts_L5 l l fu (i : Int) = some (.inl ())
  | k, 0, i, _, hf => by omega
  | 0, fu + 1, i, hi, hf => by rw [r_laws_sameInts_L5, ltI_eq, decide_eq_false (by omega), cond_false]
  | k + 1, fu + 1, i, hi, hf => by
    rw [r_laws_sameInts_L5, ltI_eq, decide_eq_true (by omega), cond_true, getNat (show i < l.length by omega)]
    simp only [Option.bind_some, eqSelf, Bool.not_true, cond_false, sI_eq, wsucc (show i < 1000000000 by omega)]
    exact ints_run l hl k fu (i + 1) (by omega) (by omega)
theorem ints_self (l : List Int) (hl : l.length < 1000000) : r_laws_sameInts l l = some true := by
  have hF := FUge
  have := ints_run l (by omega) l.length FU 0 (by omega) (by omega)
  have e0 : (((0 : Nat) : Int)) = 0 := rfl
  rw [e0] at this
  simp only [r_laws_sameInts, eqSelf, Bool.not_true, cond_false, this, Option.bind_some]
/-- A primitive reduced form is its own reduced form. -/
theorem rf_prr {d : Int} (hd1 : -2000 ≤ d) (hd2 : d ≤ -3) {f : Int × Int × Int} (h : PrR d f) : Rf f.1 f.2.1 f.2.2 := by
  obtain ⟨h1, ⟨⟨h2, h3⟩, h4⟩, h5, h6⟩ := h
  exact ⟨h1, by omega, h3, by omega, by rw [h5]; exact hd1, by rw [h5]; exact hd2⟩
end Go.Proofs.Ytpfnhgpepgeaiaa
