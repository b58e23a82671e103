/-
  How class numbers are worked out in every way, one discriminant at a time.
  Conditions: none.
-/
import Derived.Test.YtaegamgeljpboaaCfRaw
namespace Go.Proofs.Ytaegamgeljpboaa
set_option linter.unusedVariables false
set_option linter.unusedSimpArgs false
set_option maxRecDepth 100000

def isSm {α : Type} : Option α → Bool
  | some _ => true
  | none => false
/-- The class number by sums is that of the reduced forms. -/
def cfA (d : Int) : Bool := bif isSm (r_spec_huFundamental d) then (match r_impl_ClassNumberBySum d, r_spec_ClassNumberBySum d with
  | some x, some y => bif (bif (x.2 != y.2) then true else (!eqI x.1 y.1)) then false else (bif x.2 then (match r_impl_ClassNumber d, r_impl_ClassNumberByHalf d with
    | some c, some h => !(bif (bif (bif (!c.2) then true else (!eqI c.1 x.1)) then true else (h.2 != (ltI d (-4)))) then true else (bif h.2 then (!eqI h.1 x.1) else false))
    | _, _ => false) else true)
  | _, _ => false) else false
/-- The class number by conductors is that of the reduced forms. -/
def cfB (d : Int) : Bool := match r_impl_ClassNumberByConductor d, r_spec_ClassNumberByConductor d with
  | some x, some y => bif (bif (x.2 != y.2) then true else (!eqI x.1 y.1)) then false else (bif x.2 then (match r_impl_ClassNumber d, r_impl_OrdersAbove d, r_impl_OverDiscriminants d with
    | some c, some u, some v => bif (bif (bif (bif c.2 then (eqI c.1 x.1) else false) then u.2 else false) then v.2 else false) then (match r_laws_sameInts u.1 v.1 with
      | some b => b
      | none => false) else false
    | _, _, _ => false) else true)
  | _, _ => false
def cfBoth (d : Int) : Bool := bif cfA d then cfB d else false
def cfAll : Nat → Int → Bool
  | 0, _ => true
  | n + 1, d => bif cfBoth d then sI (d - 1) (cfAll n) else false
theorem cfAll_at : ∀ (n : Nat) (d0 : Int), cfAll n d0 = true → ∀ d, d ≤ d0 → d0 - n < d → cfBoth d = true
  | 0, d0, _, d, h1, h2 => by simp at h2; omega
  | n + 1, d0, h, d, h1, h2 => by
    unfold cfAll at h
    cases h3 : cfBoth d0 with
    | false => rw [h3] at h; cases h
    | true =>
      rw [h3, cond_true, sI_eq] at h
      by_cases h4 : d = d0
      · subst h4; exact h3
      · exact cfAll_at n (d0 - 1) h d (by omega) (by push_cast at h2; omega)
end Go.Proofs.Ytaegamgeljpboaa
