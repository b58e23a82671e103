/-
  Operations on floats, over trees: a whole number made a float, a square root, a float cut to a whole number.
  Conditions: none.
-/
import Derived.Test.YtnifkkihamgmaaaDoorShEx
import Derived.Test.YtnifkkihamgmaaaDoorShFl
namespace Go.Proofs.YtnifkkihamgmaaaDoor
open Go.RowKit
set_option linter.unusedSimpArgs false
set_option linter.unusedVariables false

section
variable {P : Program}
theorem rd_float (ok : Nat → Prop) (w : World) (k : FloatKind) (n : Nat) : Rd ok w (.v (.float k n)) (.float k n) := .v _ rfl
theorem Y0_itof {o : Oper} {s : St} {x : Operand} {src dst : TypeId} {k2 : IntKind} {a : Int} (hs : P.underlying src = some (.int k2)) (hd : P.underlying dst = some (.float .f64)) (ho : o.op = .convert src dst x) (hx : s.ev x = .c (.v (.int k2 a))) : Y0 P o s (.c (.v (.float .f64 (floatOfInt .f64 a)))) :=
  Y0_of_run fun ok σ ac w hC => by
    refine ⟨_, ?_, rd_float _ _ _ _⟩
    unfold execOp
    rw [ho]
    simp [hC.exact hx, convert, run_underlying hs, run_underlying hd, Conv.intToFloat, floatOfInt]
theorem Y0_ftoi {o : Oper} {s : St} {x : Operand} {src dst : TypeId} {b : Nat} {a : Int} (hs : P.underlying src = some (.float .f64)) (hd : P.underlying dst = some (.int .i64)) (ho : o.op = .convert src dst x) (hx : s.ev x = .c (.v (.float .f64 b))) (h : floatToIntVal .f64 b .i64 = some a) : Y0 P o s (I a) :=
  Y0_of_run fun ok σ ac w hC => by
    refine ⟨_, ?_, rd_int _ _ _ _⟩
    unfold execOp
    rw [ho]
    have h1 := run_convert_float_int (P := P) w src dst .f64 .i64 b a (by rw [hs]; rfl) hd h
    simp [hC.exact hx, h1]
theorem Y0_fsqrt {o : Oper} {s : St} {x : Operand} {f : FuncId} {ts : Array TypeId} {b r : Nat} (hc : ∀ args w, (callFunc f args).run P w = ((Extern.MathSqrt.sqrt args).run P w).andThen fun v w' => .ok (.value v) w') (ho : o.op = .call { callee := .value (.func f), args := #[x], argTypes := ts }) (hx : s.ev x = .c (.v (.float .f64 b))) (h : fsqrt b = some r) : Y0 P o s (.c (.v (.float .f64 r))) :=
  Y0_of_run fun ok σ ac w hC => by
    refine ⟨_, ?_, rd_float _ _ _ _⟩
    have h1 : (callFunc f #[.float .f64 b]).run P w = .ok (.value (.float .f64 r)) w := by
      rw [hc]
      unfold fsqrt at h
      have h2 : (Extern.MathSqrt.sqrt #[.float .f64 b]).run P w = .ok (.float .f64 r) w := by
        show ((match FloatKind.f64.format.sqrt b with | some r => pure (.float .f64 r) | none => do pure (.float .f64 (← choose (.nanBits .f64 b b))) : Sem Value)).run P w = _
        rw [h]
        rfl
      rw [h2]
      rfl
    have h3 : (#[x] : Array Operand).map ac.eval = #[.float .f64 b] := by
      rw [List.map_toArray]
      show #[ac.eval x] = _
      rw [hC.exact hx]
    unfold execOp
    rw [ho]
    simp only [resolve, Act.eval, Deferred.ofValue, Sem.run_bind, Sem.run_pure, Result.andThen_ok, invoke, h3, Array.append_empty, Array.empty_append]
    exact h1
end
end Go.Proofs.YtnifkkihamgmaaaDoor
