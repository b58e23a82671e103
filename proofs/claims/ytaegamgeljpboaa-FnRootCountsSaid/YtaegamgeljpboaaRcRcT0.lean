/-
  Primitive points and forms with a first coefficient, counted the quick way for one discriminant at a time.
  Conditions: none.
-/
import Derived.Test.YtaegamgeljpboaaRcRaw
namespace Go.Proofs.Ytaegamgeljpboaa
set_option linter.unusedVariables false
set_option linter.unusedSimpArgs false

/-- A number is worked out before it is handed on. -/
def fM {α : Type} (m : Nat) (f : Nat → α) : α := Nat.casesOn (motive := fun _ => α) m (f 0) (fun k => f (Nat.succ k))
theorem fM_eq {α : Type} (m : Nat) (f : Nat → α) : fM m f = f m := by cases m <;> rfl
/-- Is the point primitive, with a value in range? -/
def okP (x y v : Int) : Bool := bif leI v 200 then Nat.beq (Nat.gcd x.natAbs y.natAbs) 1 else false
/-- The points with x in a column: their values are counted as the digits of a number. -/
def rcY (A B C x : Int) : Nat → Int → Nat → Nat
  | 0, _, acc => acc
  | f + 1, y, acc => sI (A * x * x + B * x * y + C * y * y) fun v => fM (bif okP x y v then Nat.add acc (Nat.pow 1048576 v.natAbs) else acc) fun a => sI (y + 1) fun y2 => rcY A B C x f y2 a
def rcX (A B C : Int) (g : Nat) (y0 : Int) : Nat → Int → Nat → Nat
  | 0, _, acc => acc
  | f + 1, x, acc => fM (rcY A B C x g y0 acc) fun a => sI (x + 1) fun x2 => rcX A B C g y0 f x2 a
/-- A bound of the points' coordinates. -/
def rcB (D T : Nat) : Nat → Nat → Nat
  | 0, X => X
  | f + 1, X => bif Nat.ble (Nat.mul D (Nat.mul (Nat.succ X) (Nat.succ X))) T then fM (Nat.succ X) fun X2 => rcB D T f X2 else X
/-- The form is one of the discriminant, and the bounds are right. -/
def rcF (D : Nat) (A B C : Int) (X Y : Nat) : Bool :=
  bif leI 1 A then (bif leI A 1000 then (bif leI (-1000) B then (bif leI B 1000 then (bif leI 1 C then (bif leI C 1000 then (bif eqI (B * B - 4 * A * C) (-(D : Int)) then
  (bif Nat.ble X 40 then (bif Nat.ble Y 40 then (bif Nat.ble (Nat.mul D (Nat.mul (Nat.succ X) (Nat.succ X))) (Nat.mul 800 C.natAbs) then false else (bif Nat.ble (Nat.mul D (Nat.mul (Nat.succ Y) (Nat.succ Y))) (Nat.mul 800 A.natAbs) then false else true))
  else false) else false) else false) else false) else false) else false) else false) else false) else false
def rcL (D : Nat) : List (Int × Int × Int) → Nat → Option Nat
  | [], acc => some acc
  | f :: r, acc => sI f.1 fun A => sI f.2.1 fun B => sI f.2.2 fun C => fM (rcB D (Nat.mul 800 C.natAbs) 40 0) fun X => fM (rcB D (Nat.mul 800 A.natAbs) 40 0) fun Y =>
    bif rcF D A B C X Y then sI (-(X : Int)) fun x0 => sI (-(Y : Int)) fun y0 => fM (Nat.succ (Nat.mul 2 Y)) fun g => fM (rcX A B C g y0 (Nat.succ (Nat.mul 2 X)) x0 acc) fun a => rcL D r a else none
/-- The primitive forms with a first coefficient, counted: b is 2 k + p. -/
noncomputable def rcQ (n p m f : Nat) : Nat → Nat :=
  @Nat.rec (fun _ => Nat → Nat) (fun acc => acc) (fun k ih acc => @Nat.rec (fun _ => Nat)
    (@Nat.rec (fun _ => Nat) (ih (Nat.succ acc)) (fun _ _ => ih acc) (Nat.pred (Nat.gcd n (Nat.gcd (Nat.add (Nat.mul 2 k) p) (Nat.div (Nat.add (Nat.mul k (Nat.add k p)) m) n)))))
    (fun _ _ => ih acc) (Nat.mod (Nat.add (Nat.mul k (Nat.add k p)) m) n)) f
def rcW (D : Nat) : Nat := bif Nat.beq D 3 then 6 else bif Nat.beq D 4 then 4 else 2
noncomputable def rcN (w p m : Nat) : Nat → Nat → Nat → Bool
  | 0, _, _ => true
  | f + 1, n, H => bif Nat.beq (Nat.mod H 1048576) (Nat.mul w (rcQ n p m n 0)) then fM (Nat.div H 1048576) fun H2 => fM (Nat.succ n) fun n2 => rcN w p m f n2 H2 else false
noncomputable def rcOne (D : Nat) : Bool := match r_impl_ReducedForms (-(D : Int)) with
  | some (l, true) => bif Nat.ble l.length 100 then (match rcL D l 0 with
    | some H => fM (rcW D) fun w => fM (Nat.mod D 2) fun p => fM (Nat.div (Nat.add D p) 4) fun m => fM (Nat.div H 1048576) fun H1 => rcN w p m 200 1 H1
    | none => false) else false
  | _ => false
noncomputable def rcG (D : Nat) : Bool := fM (Nat.mod D 4) fun m => bif Nat.beq m 0 then rcOne D else bif Nat.beq m 3 then rcOne D else true
noncomputable def rcAll : Nat → Nat → Bool
  | 0, _ => true
  | n + 1, D => bif rcG D then fM (Nat.succ D) fun D2 => rcAll n D2 else false
end Go.Proofs.Ytaegamgeljpboaa
