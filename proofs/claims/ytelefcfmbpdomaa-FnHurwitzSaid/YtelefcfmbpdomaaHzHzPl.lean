/-
  The class number relation for every integer from 1 to 500, worked out over the table of the Hurwitz numbers.
  Conditions: none.
-/
import Derived.Test.YtelefcfmbpdomaaHzHTab
import Derived.Test.YtelefcfmbpdomaaHzCur
namespace Go.Proofs.Ytelefcfmbpdomaa
set_option linter.unusedVariables false
set_option linter.unusedSimpArgs false

def tm (v : Int) : Nat → Int → List Int → Option (List Int)
  | 0, _, _ => none
  | n + 1, t, l =>
    bif (leI (w64 (t * t)) (w64 (4 * v))) then
      ((hTab (w64 ((w64 (4 * v)) - (w64 (t * t))))).bind fun y9 =>
        (room (l.length + ([y9]).length)).bind fun u10 =>
        sI (w64 (t + 1)) fun t11 =>
        tm v n t11 (l ++ ([y9])))
    else some l
def hNum (m : Int) : Option (Int × Bool) := bif (bif (ltI m 0) then true else (ltI 2000 m)) then some (0, false) else (hTab m).bind fun y => some (y, true)
def lL (ts : List Int) (v : Int) : Nat → Int → Option (Unit ⊕ Bool)
  | 0, _ => none
  | n + 1, t22 =>
    bif (ltI t22 ((ts.length : Int))) then
      ((getI ts t22).bind fun e26 =>
        (getI ts t22).bind fun e27 =>
        (hNum (w64 ((w64 (4 * v)) - (w64 (t22 * t22))))).bind fun y28 =>
        bif (bif (!y28.2) then true else (!eqI y28.1 e27)) then some (.inr false)
        else sI (w64 (t22 + 1)) fun t31 => lL ts v n t31)
    else some (.inl ())
def rsI (ts : List Int) : Option Int := (getI ts 0).bind fun e4 => (getI ts 0).bind fun e5 => (slc ts.length 1 ((ts.length : Int))).bind fun u6 =>
  sI (((subl ts 1 ((ts.length : Int))).length : Int)) fun t7 => r_impl_RelationSum_L10 t7 (ts, true) FU e5 0
def isU : Option (Unit ⊕ Bool) → Bool
  | some (.inl _) => true
  | _ => false
def isP (x : Option (Int × Bool)) (v : Int) : Bool := match x with
  | some (y, true) => eqI y v
  | _ => false
def hCore (v : Int) : Bool := match tm v FU 0 [] with
  | none => false
  | some ts => (match rsI ts with
    | none => false
    | some a => bif isO (r_spec_RelationSum_L7 ts FU 0 0) a then (bif isP (r_impl_DivisorSide v) a then (match r_laws_qSum ts, getI ts 0 with
      | some q, some e => bif eqI (w64 ((w64 (2 * q)) - e)) a then (bif eqI ((ts.length : Int)) 0 then false else isU (lL ts v FU 0)) else false
      | _, _ => false) else false) else false)
def hCoreAll : Nat → Int → Bool
  | 0, _ => true
  | n + 1, m => bif hCore m then sI (m + 1) (hCoreAll n) else false
theorem hCoreAll_at : ∀ (n : Nat) (m0 : Int), hCoreAll n m0 = true → ∀ m, m0 ≤ m → m < m0 + n → hCore m = true
  | 0, m0, _, m, h1, h2 => by simp at h2; omega
  | n + 1, m0, h, m, h1, h2 => by
    unfold hCoreAll at h
    cases h3 : hCore m0 with
    | false => rw [h3] at h; cases h
    | true =>
      rw [h3, cond_true, sI_eq] at h
      by_cases h4 : m = m0
      · subst h4; exact h3
      · exact hCoreAll_at n (m0 + 1) h m (by omega) (by push_cast at h2; omega)
set_option maxRecDepth 100000
theorem hC_1 : hCoreAll 100 1 = true := by decide +kernel
theorem hC_2 : hCoreAll 100 101 = true := by decide +kernel
theorem hC_3 : hCoreAll 100 201 = true := by decide +kernel
theorem hC_4 : hCoreAll 100 301 = true := by decide +kernel
theorem hC_5 : hCoreAll 100 401 = true := by decide +kernel
theorem hCore_all {v : Int} (h1 : 1 ≤ v) (h2 : v ≤ 500) : hCore v = true := by
  by_cases a : v < 101
  · exact hCoreAll_at _ _ hC_1 v (by omega) (by omega)
  by_cases a : v < 201
  · exact hCoreAll_at _ _ hC_2 v (by omega) (by omega)
  by_cases a : v < 301
  · exact hCoreAll_at _ _ hC_3 v (by omega) (by omega)
  by_cases a : v < 401
  · exact hCoreAll_at _ _ hC_4 v (by omega) (by omega)
  exact hCoreAll_at _ _ hC_5 v (by omega) (by omega)
end Go.Proofs.Ytelefcfmbpdomaa
