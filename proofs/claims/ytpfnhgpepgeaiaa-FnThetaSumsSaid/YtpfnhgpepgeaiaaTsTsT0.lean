/-
  Values of genera, and sums of series of a fundamental discriminant beside its divisor series: what is worked out.
  Conditions: none.
-/
import Derived.Test.YtpfnhgpepgeaiaaTsTsJc
namespace Go.Proofs.Ytpfnhgpepgeaiaa
set_option linter.unusedVariables false
set_option linter.unusedSimpArgs false

def fQ {α : Type} (m : Nat) (f : Nat → α) : α := Nat.casesOn (motive := fun _ => α) m (f 0) (fun k => f (Nat.succ k))
theorem fQ_eq {α : Type} (m : Nat) (f : Nat → α) : fQ m f = f m := by cases m <;> rfl
def okG (f : Int × Int × Int) : Bool := match r_impl_genusValues f with
  | some v => Nat.ble v.length 1000
  | none => false
/-- The Kronecker symbol, quickly. -/
def kq (d : Int) : Nat → Nat → Int
  | 0, _ => 0
  | f + 1, e => bif Nat.beq (Nat.mod e 2) 0 then (bif eqI (d % 2) 0 then 0 else kq d f (Nat.div e 2) * (bif eqI (d % 8) 3 then -1 else (bif eqI (d % 8) 5 then -1 else 1))) else vl (jN 100 (d % (e : Int)).toNat e false)
def sgQ (d : Int) (m : Nat) : Nat → Int → Int
  | 0, s => s
  | e + 1, s => bif Nat.beq (Nat.mod m (Nat.succ e)) 0 then sI (s + kq d 8 (Nat.succ e)) fun s => sgQ d m e s else sgQ d m e s
def qY (A B C x : Int) : Nat → Int → Nat → Nat
  | 0, _, acc => acc
  | k + 1, y, acc => sI (A * x * x + B * x * y + C * y * y) fun v => sI (y + 1) fun y2 => bif leI v 100 then fQ (Nat.add acc (Nat.pow 1048576 v.toNat)) fun a => qY A B C x k y2 a else qY A B C x k y2 acc
def qX (A B C : Int) (g : Nat) (y0 : Int) : Nat → Int → Nat → Nat
  | 0, _, acc => acc
  | k + 1, x, acc => sI (x + 1) fun x2 => fQ (qY A B C x g y0 acc) fun a => qX A B C g y0 k x2 a
def xb (A : Nat) : Nat → Nat → Nat
  | 0, X => X
  | f + 1, X => bif Nat.ble 401 (Nat.mul (Nat.mul 3 A) (Nat.mul (Nat.succ X) (Nat.succ X))) then X else xb A f (Nat.succ X)
def bOk (A X : Nat) : Bool := Nat.ble 401 (Nat.mul (Nat.mul 3 A) (Nat.mul (Nat.succ X) (Nat.succ X))) && Nat.ble X 14
def qL : List (Int × Int × Int) → Nat → Option Nat
  | [], acc => some acc
  | f :: l, acc => fQ (xb f.1.toNat 14 0) fun X => fQ (xb f.2.2.toNat 14 0) fun Y => bif bOk f.1.toNat X && bOk f.2.2.toNat Y then fQ (qX f.1 f.2.1 f.2.2 (Nat.succ (Nat.mul 2 Y)) (-(Y : Int)) (Nat.succ (Nat.mul 2 X)) (-(X : Int)) acc) fun a => qL l a else none
def dgt (N m : Nat) : Int := (Nat.mod (Nat.div N (Nat.pow 1048576 m)) 1048576 : Nat)
def wD (D : Nat) : Int := bif Nat.beq D 3 then 6 else bif Nat.beq D 4 then 4 else 2
def dvAll (D N : Nat) : Nat → Bool
  | 0 => true
  | m + 1 => bif eqI (dgt N (Nat.succ m)) (wD D * sgQ (-(D : Int)) (Nat.succ m) (Nat.succ m) 0) then dvAll D N m else false
def acAll (D N p : Nat) (c : Int) : Nat → Bool
  | 0 => true
  | m + 1 => bif eqI (dgt N (Nat.mul (Nat.succ m) p) + (bif Nat.beq (Nat.mod (Nat.succ m) p) 0 then c * dgt N (Nat.div (Nat.succ m) p) else 0)) ((1 + c) * dgt N (Nat.succ m)) then acAll D N p c m else false
def pS : List Nat := [2, 3, 5, 7, 11, 13]
def chF (D : Nat) (L : List (Int × Int × Int)) : Bool := match qL L 0 with
  | some N => bif dvAll D N 100 then pS.all fun p => sI (kq (-(D : Int)) 8 p) fun c => acAll D N p c (Nat.div 100 p) else false
  | none => false
def tsO (D : Nat) : Bool := match r_spec_reList (-(D : Int)) with
  | some L => bif L.all okG then (match r_impl_IsFundamental (-(D : Int)) with
    | some (true, true) => chF D L
    | some (b, true) => true
    | _ => false) else false
  | none => false
def tsG (D : Nat) : Bool := fQ (Nat.mod D 4) fun m => bif Nat.beq m 0 then tsO D else bif Nat.beq m 3 then tsO D else true
def tsAll : Nat → Nat → Bool
  | 0, _ => true
  | n + 1, D => bif tsG D then fQ (Nat.succ D) fun D2 => tsAll n D2 else false
theorem tsAll_at : ∀ (n D0 : Nat), tsAll n D0 = true → ∀ D, D0 ≤ D → D < D0 + n → tsG D = true
  | 0, D0, _, D, h1, h2 => by omega
  | n + 1, D0, h, D, h1, h2 => by
    unfold tsAll at h
    cases h3 : tsG D0 with
    | false => rw [h3] at h; cases h
    | true =>
      rw [h3, cond_true, fQ_eq] at h
      by_cases h5 : D = D0
      · subst h5; exact h3
      · exact tsAll_at n (D0 + 1) h D (by omega) (by omega)
end Go.Proofs.Ytpfnhgpepgeaiaa
