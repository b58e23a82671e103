/-
  Sums of four squares, worked out.
  Conditions: none.
-/
import Derived.Test.YtgeajejmikaniaaSpRaw
namespace Go.Proofs.Ytgeajejmikaniaa
set_option linter.unusedVariables false
set_option linter.unusedSimpArgs false

def fQ {α : Type} (m : Nat) (f : Nat → α) : α := Nat.casesOn (motive := fun _ => α) m (f 0) (fun k => f (Nat.succ k))
theorem fQ_eq {α : Type} (m : Nat) (f : Nat → α) : fQ m f = f m := by cases m <;> rfl
/-- The product of a row by itself. -/
def cvL (l : List Int) (k : Nat) : Nat → Int → Int
  | 0, s => s
  | i + 1, s => cvL l k i (s + l.getD i 0 * l.getD (k - i) 0)
def sqO (l : List Int) (k : Nat) : Bool := match r_impl_CountFour (k : Int), r_spec_CountFour (k : Int) with
  | some (a, true), some (b, true) => bif eqI a b then eqI (cvL l k (k + 1) 0) a else false
  | _, _ => false
def sqAll (l : List Int) : Nat → Nat → Bool
  | 0, _ => true
  | n + 1, k => bif sqO l k then fQ (Nat.succ k) fun k2 => sqAll l n k2 else false
theorem sqAll_at (l : List Int) : ∀ (n k0 : Nat), sqAll l n k0 = true → ∀ k, k0 ≤ k → k < k0 + n → sqO l k = true
  | 0, D0, _, D, h1, h2 => by omega
  | n + 1, D0, h, D, h1, h2 => by
    unfold sqAll at h
    cases h3 : sqO l D0 with
    | false => rw [h3] at h; cases h
    | true =>
      rw [h3, cond_true, fQ_eq] at h
      by_cases h5 : D = D0
      · subst h5; exact h3
      · exact sqAll_at l n (D0 + 1) h D (by omega) (by omega)
/-- How often the first numbers are sums of two squares. -/
def two : List Int := [1, 4, 4, 0, 4, 8, 0, 0, 4, 4, 8, 0, 0, 8, 0, 0, 4, 8, 4, 0, 8, 0, 0, 0, 0, 12, 8, 0, 0, 8, 0, 0, 4, 0, 8, 0, 4, 8, 0, 0, 8, 8, 0, 0, 0, 8, 0, 0, 0, 4, 12, 0, 8, 8, 0, 0, 0, 0, 8, 0, 0, 8, 0, 0, 4, 16, 0, 0, 8, 0, 0, 0, 4, 8, 8, 0, 0, 0, 0, 0, 8, 4, 8, 0, 0, 16, 0, 0, 0, 8, 8, 0, 0, 0, 0, 0, 0, 8, 4, 0, 12]
theorem two_val : r_spec_thSeries (1, 0, 1) 100 = some two := by decide +kernel
end Go.Proofs.Ytgeajejmikaniaa
