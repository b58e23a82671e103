/-
  Primes and genera of a discriminant: what is worked out.
  Conditions: none.
-/
import Derived.Test.YtpfnhgpepgeaiaaPgTsJc
namespace Go.Proofs.Ytpfnhgpepgeaiaa
set_option linter.unusedVariables false
set_option linter.unusedSimpArgs false

def fQ {α : Type} (m : Nat) (f : Nat → α) : α := Nat.casesOn (motive := fun _ => α) m (f 0) (fun k => f (Nat.succ k))
theorem fQ_eq {α : Type} (m : Nat) (f : Nat → α) : fQ m f = f m := by cases m <;> rfl
def pQ : List Nat := [3, 5, 7, 11, 13, 17, 19, 23, 29, 31, 37, 41, 43, 47, 53, 59, 61, 67, 71, 97, 101, 499, 997]
def eqLs : List Int → List Int → Bool
  | [], [] => true
  | a :: l, b :: m => bif eqI a b then eqLs l m else false
  | _, _ => false
def eqF (f g : Int × Int × Int) : Bool := bif eqI f.1 g.1 then (bif eqI f.2.1 g.2.1 then eqI f.2.2 g.2.2 else false) else false
/-- The values of a form as bits. -/
def rY (A B C x : Int) : Nat → Int → Nat → Nat
  | 0, _, acc => acc
  | k + 1, y, acc => sI (A * x * x + B * x * y + C * y * y) fun v => sI (y + 1) fun y2 => bif leI v 1000 then fQ (Nat.lor acc (Nat.pow 2 v.toNat)) fun a => rY A B C x k y2 a else rY A B C x k y2 acc
def rX (A B C : Int) (g : Nat) : Nat → Int → Nat → Nat
  | 0, _, acc => acc
  | k + 1, x, acc => sI (x + 1) fun x2 => fQ (rY A B C x g 0 acc) fun a => rX A B C g k x2 a
def xb (A : Nat) : Nat → Nat → Nat
  | 0, X => X
  | f + 1, X => bif Nat.ble 3989 (Nat.mul (Nat.mul 3 A) (Nat.mul (Nat.succ X) (Nat.succ X))) then X else xb A f (Nat.succ X)
def bOk (A X : Nat) : Bool := Nat.ble 3989 (Nat.mul (Nat.mul 3 A) (Nat.mul (Nat.succ X) (Nat.succ X)))
/-- A form with its genus's values and its own values as bits. -/
def rec1 (f : Int × Int × Int) : Option ((Int × Int × Int) × List Int × Nat) := match r_impl_genusValues f with
  | some v => bif Nat.ble v.length 1000 then (fQ (xb f.1.toNat 40 0) fun X => fQ (xb f.2.2.toNat 40 0) fun Y => bif bOk f.1.toNat X && bOk f.2.2.toNat Y then fQ (rX f.1 f.2.1 f.2.2 (Nat.succ Y) (Nat.succ (Nat.mul 2 X)) (-(X : Int)) 0) fun a => some (f, v, a) else none) else none
  | none => none
def recs : List (Int × Int × Int) → Option (List ((Int × Int × Int) × List Int × Nat))
  | [] => some []
  | f :: l => match rec1 f with
    | some r => match recs l with
      | some rs => some (r :: rs)
      | none => none
    | none => none
/-- The forms that have the bit. -/
def bits (p : Nat) : List ((Int × Int × Int) × List Int × Nat) → List (Int × Int × Int)
  | [] => []
  | r :: l => bif Nat.testBit r.2.2 p then r.1 :: bits p l else bits p l
def hasV (g : Int × Int × Int) (V : List Int) : List ((Int × Int × Int) × List Int × Nat) → Bool
  | [] => false
  | r :: l => bif eqF r.1 g then eqLs r.2.1 V else hasV g V l
def hasF (g : Int × Int × Int) : List (Int × Int × Int) → Bool
  | [] => false
  | r :: l => bif eqF r g then true else hasF g l
def allU : List Int → Bool
  | [] => true
  | a :: l => bif (bif eqI a 1 then true else eqI a (-1)) then allU l else false
def kqo (d : Int) (p : Nat) : Int := vl (jN 100 (d % (p : Int)).toNat p false)
def okp (d : Int) (rs : List ((Int × Int × Int) × List Int × Nat)) (na p : Nat) : Bool :=
  match r_impl_valuesAt d (p : Int) with
  | some V => match r_spec_chList d (p : Int) with
    | some W => bif eqLs V W && (Nat.beq V.length na && allU V) then (match r_impl_primeForm d (p : Int) with
      | some (f, true) => bif eqI (kqo d p) 1 then (match r_impl_reduced f with
        | some g => match r_impl_reduced (g.1, -g.2.1, g.2.2) with
          | some g' => bif hasV g V rs && hasV g' V rs then (bif hasF g (bits p rs) && hasF g' (bits p rs) then Nat.beq (bits p rs).length (bif eqF g g' then 1 else 2) else false) else false
          | none => false
        | none => false) else false
      | some (_, false) => bif eqI (kqo d p) (-1) then Nat.beq (bits p rs).length 0 else false
      | none => false) else false
    | none => false
  | none => false
def okPs (d : Int) (D2 : Nat) (rs : List ((Int × Int × Int) × List Int × Nat)) (na : Nat) : List Nat → Bool
  | [] => true
  | p :: l => bif (bif Nat.beq (Nat.gcd p D2) 1 then okp d rs na p else true) then okPs d D2 rs na l else false
def pgO (D : Nat) : Bool := match r_impl_reducedForms (-(D : Int)) with
  | some L => match recs L with
    | some rs => match r_impl_assigned (-(D : Int)) with
      | some as => fQ as.length fun na => bif Nat.ble na 1000 then okPs (-(D : Int)) (Nat.mul 2 D) rs na pQ else false
      | none => false
    | none => false
  | none => false
def pgG (D : Nat) : Bool := fQ (Nat.mod D 4) fun m => bif Nat.beq m 0 then pgO D else bif Nat.beq m 3 then pgO D else true
def pgAll : Nat → Nat → Bool
  | 0, _ => true
  | n + 1, D => bif pgG D then fQ (Nat.succ D) fun D2 => pgAll n D2 else false
theorem pgAll_at : ∀ (n D0 : Nat), pgAll n D0 = true → ∀ D, D0 ≤ D → D < D0 + n → pgG D = true
  | 0, D0, _, D, h1, h2 => by omega
  | n + 1, D0, h, D, h1, h2 => by
    unfold pgAll at h
    cases h3 : pgG D0 with
    | false => rw [h3] at h; cases h
    | true =>
      rw [h3, cond_true, fQ_eq] at h
      by_cases h5 : D = D0
      · subst h5; exact h3
      · exact pgAll_at n (D0 + 1) h D (by omega) (by omega)
end Go.Proofs.Ytpfnhgpepgeaiaa
