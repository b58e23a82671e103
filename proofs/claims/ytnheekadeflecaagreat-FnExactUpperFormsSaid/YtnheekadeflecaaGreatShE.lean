/-
  Rules for numbers, truth values and texts.
  Conditions: none.
-/
import Derived.Test.YtnheekadeflecaaGreatShD
import Derived.WalkLawsBesides
import Derived.Laws.Small
import Derived.Laws.StructEq
namespace Go.Proofs.YtnheekadeflecaaGreat
open Go.RowKit
set_option linter.unusedSimpArgs false
set_option linter.unusedVariables false

section
variable {P : Program}

theorem evC_rel (ok : Nat → Prop) (σ : Nat → Loc) (w : World) (v : Value) : Rel ok σ w (evC v) v := by
  unfold evC
  split
  · exact Rd.nl _ _
  · rename_i cs
    split
    · rename_i h
      refine ⟨cs, rfl, ?_⟩
      have h2 : ∀ x, x ∈ cs.toList → x.oneCell' = true := List.all_eq_true.1 h
      generalize cs.toList = l at h2
      clear h
      induction l with
      | nil => exact .nil
      | cons x xs ih => exact .cons (.v x (h2 x (by simp))) (ih fun y hy => h2 y (by simp [hy]))
    · trivial
  · trivial
  · rename_i x h1 h2 h3
    refine Rd.v _ ?_
    cases v with
    | agg cs => exact (h2 cs rfl).elim
    | tuple vs => exact (h3 vs rfl).elim
    | _ => rfl
theorem Core.ev {ok : Nat → Prop} {σ : Nat → Loc} {s : St} {a : Act} {w : World} (h : Core ok σ s a w) (x : Operand) : Rel ok σ w (s.ev x) (a.eval x) := by
  cases x with
  | tmp t => exact h.tmp t
  | const v => exact evC_rel ok σ w v
  | global g => trivial
  | func f => exact Rd.v _ rfl
theorem Core.exact {ok : Nat → Prop} {σ : Nat → Loc} {s : St} {a : Act} {w : World} (h : Core ok σ s a w) {x : Operand} {v : Value} (hx : s.ev x = .c (.v v)) : a.eval x = v := by
  have h1 := h.ev x
  rw [hx] at h1
  have h2 : Rd ok w (.v v) (a.eval x) := h1
  generalize a.eval x = y at *
  cases h2
  rfl
theorem rd_int (ok : Nat → Prop) (w : World) (k : IntKind) (n : Int) : Rd ok w (.v (.int k n)) (.int k n) := .v _ rfl
theorem rd_bool (ok : Nat → Prop) (w : World) (b : Bool) : Rd ok w (.v (.bool b)) (.bool b) := .v _ rfl
theorem Y0_of_run {o : Oper} {s : St} {av : AV} (h : ∀ ok σ a w, Core ok σ s a w → ∃ v, (execOp a.eval o).run P w = .ok (.value v) w ∧ Rel ok σ w av v) : Y0 P o s av := by
  intro ok σ a w hC K Q hK
  obtain ⟨v, h1, h2⟩ := h ok σ a w hC
  unfold Oper.wp
  rw [h1]
  exact hK v h2
theorem Y0_move {o : Oper} {s : St} {x : Operand} (ho : o.op = .move x) : Y0 P o s (s.ev x) :=
  Y0_of_run fun ok σ a w hC => ⟨a.eval x, by unfold execOp; rw [ho]; rfl, hC.ev x⟩
theorem Y0_assign {o : Oper} {s : St} {x : Operand} (ho : o.op = .assign x) : Y0 P o s (s.ev x) :=
  Y0_of_run fun ok σ a w hC => ⟨a.eval x, by unfold execOp; rw [ho]; rfl, hC.ev x⟩
theorem Y0_pick {o : Oper} {s : St} {c x y : Operand} {b : Bool} (ho : o.op = .pick c x y) (hc : s.ev c = .c (.v (.bool b))) : Y0 P o s (bif b then s.ev x else s.ev y) :=
  Y0_of_run fun ok σ a w hC => by
    have h1 := hC.exact hc
    refine ⟨if b then a.eval x else a.eval y, ?_, ?_⟩
    · unfold execOp
      rw [ho]
      simp [h1, asBool]
    · cases b
      · exact hC.ev y
      · exact hC.ev x
theorem Y0_bin {o : Oper} {s : St} {x y : Operand} {op : BinOp} {t t2 : TypeId} {u v r : Value} (ho : o.op = .binOp op t x y t2) (hx : s.ev x = .c (.v u)) (hy : s.ev y = .c (.v v)) (hg : ∀ w, (eqGuard op t x y u v).run P w = .ok () w)
    (h : ∀ w, (binOp op t u v).run P w = .ok r w) (hr : r.oneCell' = true) : Y0 P o s (.c (.v r)) :=
  Y0_of_run fun ok σ a w hC => by
    refine ⟨r, ?_, Rd.v r hr⟩
    unfold execOp
    rw [ho]
    simp only [hC.exact hx, hC.exact hy, Sem.run_bind, hg, h, Result.andThen_ok, Sem.run_pure]
theorem guard_int (op : BinOp) (t : TypeId) (x y : Operand) (k : IntKind) (a b : Int) (w : World) : (eqGuard op t x y (.int k a) (.int k b)).run P w = .ok () w := by
  unfold eqGuard
  cases op <;> rfl
theorem guard_bool (op : BinOp) (t : TypeId) (x y : Operand) (a b : Bool) (w : World) : (eqGuard op t x y (.bool a) (.bool b)).run P w = .ok () w := by
  unfold eqGuard
  cases op <;> rfl
theorem guard_str (op : BinOp) (t : TypeId) (x y : Operand) (a b : ByteArray) (w : World) : (eqGuard op t x y (.string a) (.string b)).run P w = .ok () w := by
  unfold eqGuard
  cases op <;> rfl
theorem Y0_add {o : Oper} {s : St} {x y : Operand} {t t2 : TypeId} {k : IntKind} {a b : Int} (ho : o.op = .binOp .add t x y t2) (hx : s.ev x = .c (.v (.int k a))) (hy : s.ev y = .c (.v (.int k b))) : Y0 P o s (.c (.v (.int k (k.wrap (a + b))))) :=
  Y0_bin ho hx hy (guard_int _ _ _ _ _ _ _) (fun w => by simp [binOp, Op.intArith]) rfl
theorem Y0_sub {o : Oper} {s : St} {x y : Operand} {t t2 : TypeId} {k : IntKind} {a b : Int} (ho : o.op = .binOp .sub t x y t2) (hx : s.ev x = .c (.v (.int k a))) (hy : s.ev y = .c (.v (.int k b))) : Y0 P o s (.c (.v (.int k (k.wrap (a - b))))) :=
  Y0_bin ho hx hy (guard_int _ _ _ _ _ _ _) (fun w => by simp [binOp, Op.intArith]) rfl
theorem Y0_mul {o : Oper} {s : St} {x y : Operand} {t t2 : TypeId} {k : IntKind} {a b : Int} (ho : o.op = .binOp .mul t x y t2) (hx : s.ev x = .c (.v (.int k a))) (hy : s.ev y = .c (.v (.int k b))) : Y0 P o s (.c (.v (.int k (k.wrap (a * b))))) :=
  Y0_bin ho hx hy (guard_int _ _ _ _ _ _ _) (fun w => by simp [binOp, Op.intArith]) rfl
theorem Y0_quo {o : Oper} {s : St} {x y : Operand} {t t2 : TypeId} {k : IntKind} {a b : Int} (ho : o.op = .binOp .quo t x y t2) (hx : s.ev x = .c (.v (.int k a))) (hy : s.ev y = .c (.v (.int k b))) (h0 : b ≠ 0) : Y0 P o s (.c (.v (.int k (k.wrap (a.tdiv b))))) :=
  Y0_bin ho hx hy (guard_int _ _ _ _ _ _ _) (fun w => by simp [binOp, Op.intDiv, h0]) rfl
theorem Y0_rem {o : Oper} {s : St} {x y : Operand} {t t2 : TypeId} {k : IntKind} {a b : Int} (ho : o.op = .binOp .rem t x y t2) (hx : s.ev x = .c (.v (.int k a))) (hy : s.ev y = .c (.v (.int k b))) (h0 : b ≠ 0) : Y0 P o s (.c (.v (.int k (a.tmod b)))) :=
  Y0_bin ho hx hy (guard_int _ _ _ _ _ _ _) (fun w => by simp [binOp, Op.intDiv, h0]) rfl
theorem Y0_eq {o : Oper} {s : St} {x y : Operand} {t t2 : TypeId} {k : IntKind} {a b : Int} (ho : o.op = .binOp .eql t x y t2) (hx : s.ev x = .c (.v (.int k a))) (hy : s.ev y = .c (.v (.int k b))) : Y0 P o s (.c (.v (.bool (a == b)))) :=
  Y0_bin ho hx hy (guard_int _ _ _ _ _ _ _) (fun w => by simp [binOp, Op.intCmp]) rfl
theorem Y0_ne {o : Oper} {s : St} {x y : Operand} {t t2 : TypeId} {k : IntKind} {a b : Int} (ho : o.op = .binOp .neq t x y t2) (hx : s.ev x = .c (.v (.int k a))) (hy : s.ev y = .c (.v (.int k b))) : Y0 P o s (.c (.v (.bool (a != b)))) :=
  Y0_bin ho hx hy (guard_int _ _ _ _ _ _ _) (fun w => by simp [binOp, Op.intCmp]) rfl
theorem Y0_lt {o : Oper} {s : St} {x y : Operand} {t t2 : TypeId} {k : IntKind} {a b : Int} (ho : o.op = .binOp .lss t x y t2) (hx : s.ev x = .c (.v (.int k a))) (hy : s.ev y = .c (.v (.int k b))) : Y0 P o s (.c (.v (.bool (decide (a < b))))) :=
  Y0_bin ho hx hy (guard_int _ _ _ _ _ _ _) (fun w => by simp [binOp, Op.intCmp]) rfl
theorem Y0_le {o : Oper} {s : St} {x y : Operand} {t t2 : TypeId} {k : IntKind} {a b : Int} (ho : o.op = .binOp .leq t x y t2) (hx : s.ev x = .c (.v (.int k a))) (hy : s.ev y = .c (.v (.int k b))) : Y0 P o s (.c (.v (.bool (decide (a ≤ b))))) :=
  Y0_bin ho hx hy (guard_int _ _ _ _ _ _ _) (fun w => by simp [binOp, Op.intCmp]) rfl
theorem Y0_gt {o : Oper} {s : St} {x y : Operand} {t t2 : TypeId} {k : IntKind} {a b : Int} (ho : o.op = .binOp .gtr t x y t2) (hx : s.ev x = .c (.v (.int k a))) (hy : s.ev y = .c (.v (.int k b))) : Y0 P o s (.c (.v (.bool (decide (b < a))))) :=
  Y0_bin ho hx hy (guard_int _ _ _ _ _ _ _) (fun w => by simp [binOp, Op.intCmp]) rfl
theorem Y0_ge {o : Oper} {s : St} {x y : Operand} {t t2 : TypeId} {k : IntKind} {a b : Int} (ho : o.op = .binOp .geq t x y t2) (hx : s.ev x = .c (.v (.int k a))) (hy : s.ev y = .c (.v (.int k b))) : Y0 P o s (.c (.v (.bool (decide (b ≤ a))))) :=
  Y0_bin ho hx hy (guard_int _ _ _ _ _ _ _) (fun w => by simp [binOp, Op.intCmp]) rfl
theorem Y0_eqb {o : Oper} {s : St} {x y : Operand} {t t2 : TypeId} {a b : Bool} (hu : P.underlying t = some .bool) (ho : o.op = .binOp .eql t x y t2) (hx : s.ev x = .c (.v (.bool a))) (hy : s.ev y = .c (.v (.bool b))) : Y0 P o s (.c (.v (.bool (a == b)))) :=
  Y0_bin ho hx hy (guard_bool _ _ _ _ _ _) (fun w => run_eql_bool w t a b hu) rfl
theorem Y0_neb {o : Oper} {s : St} {x y : Operand} {t t2 : TypeId} {a b : Bool} (hu : P.underlying t = some .bool) (ho : o.op = .binOp .neq t x y t2) (hx : s.ev x = .c (.v (.bool a))) (hy : s.ev y = .c (.v (.bool b))) : Y0 P o s (.c (.v (.bool (a != b)))) :=
  Y0_bin ho hx hy (guard_bool _ _ _ _ _ _) (fun w => run_neq_bool w t a b hu) rfl
theorem Y0_eqs {o : Oper} {s : St} {x y : Operand} {t t2 : TypeId} {a b : ByteArray} (ho : o.op = .binOp .eql t x y t2) (hx : s.ev x = .c (.v (.string a))) (hy : s.ev y = .c (.v (.string b))) : Y0 P o s (.c (.v (.bool (a.toList == b.toList)))) :=
  Y0_bin ho hx hy (guard_str _ _ _ _ _ _) (fun w => by simp [binOp, Op.stringOp]) rfl
theorem Y0_nes {o : Oper} {s : St} {x y : Operand} {t t2 : TypeId} {a b : ByteArray} (ho : o.op = .binOp .neq t x y t2) (hx : s.ev x = .c (.v (.string a))) (hy : s.ev y = .c (.v (.string b))) : Y0 P o s (.c (.v (.bool (!(a.toList == b.toList))))) :=
  Y0_bin ho hx hy (guard_str _ _ _ _ _ _) (fun w => by simp [binOp, Op.stringOp]) rfl
theorem Y0_lts {o : Oper} {s : St} {x y : Operand} {t t2 : TypeId} {a b : ByteArray} (ho : o.op = .binOp .lss t x y t2) (hx : s.ev x = .c (.v (.string a))) (hy : s.ev y = .c (.v (.string b))) : Y0 P o s (.c (.v (.bool (Op.bytesLess a.toList b.toList)))) :=
  Y0_bin ho hx hy (guard_str _ _ _ _ _ _) (fun w => by simp [binOp, Op.stringOp]) rfl
theorem Y0_les {o : Oper} {s : St} {x y : Operand} {t t2 : TypeId} {a b : ByteArray} (ho : o.op = .binOp .leq t x y t2) (hx : s.ev x = .c (.v (.string a))) (hy : s.ev y = .c (.v (.string b))) : Y0 P o s (.c (.v (.bool ((Op.bytesLess a.toList b.toList || a.toList == b.toList))))) :=
  Y0_bin ho hx hy (guard_str _ _ _ _ _ _) (fun w => by simp [binOp, Op.stringOp]) rfl
theorem Y0_gts {o : Oper} {s : St} {x y : Operand} {t t2 : TypeId} {a b : ByteArray} (ho : o.op = .binOp .gtr t x y t2) (hx : s.ev x = .c (.v (.string a))) (hy : s.ev y = .c (.v (.string b))) : Y0 P o s (.c (.v (.bool (!(Op.bytesLess a.toList b.toList || a.toList == b.toList))))) :=
  Y0_bin ho hx hy (guard_str _ _ _ _ _ _) (fun w => by simp [binOp, Op.stringOp]) rfl
theorem Y0_ges {o : Oper} {s : St} {x y : Operand} {t t2 : TypeId} {a b : ByteArray} (ho : o.op = .binOp .geq t x y t2) (hx : s.ev x = .c (.v (.string a))) (hy : s.ev y = .c (.v (.string b))) : Y0 P o s (.c (.v (.bool (!(Op.bytesLess a.toList b.toList))))) :=
  Y0_bin ho hx hy (guard_str _ _ _ _ _ _) (fun w => by simp [binOp, Op.stringOp]) rfl
theorem Y0_cat {o : Oper} {s : St} {x y : Operand} {t t2 : TypeId} {a b : ByteArray} (ho : o.op = .binOp .add t x y t2) (hx : s.ev x = .c (.v (.string a))) (hy : s.ev y = .c (.v (.string b))) (h : a.size + b.size ≤ 9223372036854775807) : Y0 P o s (.c (.v (.string (a ++ b)))) :=
  Y0_bin ho hx hy (guard_str _ _ _ _ _ _) (fun w => by
    have h2 : ¬ ((a.size + b.size : Nat) : Int) > IntKind.i64.max := by
      have : IntKind.i64.max = 9223372036854775807 := by decide
      rw [this]
      omega
    simp only [binOp, Op.stringOp]
    rw [if_neg h2]
    rfl) rfl
theorem Y0_neg {o : Oper} {s : St} {x : Operand} {t : TypeId} {k : IntKind} {a : Int} (ho : o.op = .unOp .neg t x) (hx : s.ev x = .c (.v (.int k a))) : Y0 P o s (.c (.v (.int k (k.wrap (0 - a))))) :=
  Y0_of_run fun ok σ ac w hC => by
    refine ⟨_, ?_, rd_int _ _ _ _⟩
    unfold execOp
    rw [ho]
    simp [hC.exact hx, Op.unary, Op.intArith]
theorem Y0_not {o : Oper} {s : St} {x : Operand} {t : TypeId} {b : Bool} (ho : o.op = .unOp .not t x) (hx : s.ev x = .c (.v (.bool b))) : Y0 P o s (.c (.v (.bool (!b)))) :=
  Y0_of_run fun ok σ ac w hC => by
    refine ⟨_, ?_, rd_bool _ _ _⟩
    unfold execOp
    rw [ho]
    simp [hC.exact hx, Op.unary]
theorem Y0_conv {o : Oper} {s : St} {x : Operand} {src dst : TypeId} {k k2 : IntKind} {a : Int} (hs : P.underlying src = some (.int k2)) (hd : P.underlying dst = some (.int k)) (ho : o.op = .convert src dst x) (hx : s.ev x = .c (.v (.int k2 a))) : Y0 P o s (.c (.v (.int k (k.wrap a)))) :=
  Y0_of_run fun ok σ ac w hC => by
    refine ⟨_, ?_, rd_int _ _ _ _⟩
    unfold execOp
    rw [ho]
    simp [hC.exact hx, convert, run_underlying hs, run_underlying hd, Conv.intToInt]
def AV.nth : Nat → AV → AV
  | 0, .tc x _ => x
  | n + 1, .tc _ r => r.nth n
  | _, _ => .bot
theorem relL_nth {ok : Nat → Prop} {σ : Nat → Loc} {w : World} : ∀ (n : Nat) (av : AV) (vs : List Value), RelL ok σ w av vs → (av.nth n = .bot) ∨ ∃ v, vs[n]? = some v ∧ Rel1 ok σ w (av.nth n) v
  | 0, .tc x r, [], h => h.elim
  | 0, .tc x r, v :: vs, h => .inr ⟨v, rfl, h.1⟩
  | n + 1, .tc x r, [], h => h.elim
  | n + 1, .tc x r, v :: vs, h => by simpa [AV.nth] using relL_nth n r vs h.2
  | 0, .tn, _, _ => .inl rfl
  | n + 1, .tn, _, _ => .inl rfl
  | 0, .bot, vs, h => by cases vs <;> exact (h : False).elim
  | n + 1, .bot, vs, h => by cases vs <;> exact (h : False).elim
  | 0, .c t, vs, h => by cases vs <;> exact (h : False).elim
  | n + 1, .c t, vs, h => by cases vs <;> exact (h : False).elim
  | 0, .ag t, vs, h => by cases vs <;> exact (h : False).elim
  | n + 1, .ag t, vs, h => by cases vs <;> exact (h : False).elim
  | 0, .ow t, vs, h => by cases vs <;> exact (h : False).elim
  | n + 1, .ow t, vs, h => by cases vs <;> exact (h : False).elim
  | 0, .pt t _, vs, h => by cases vs <;> exact (h : False).elim
  | n + 1, .pt t _, vs, h => by cases vs <;> exact (h : False).elim
  | 0, .po t _ _ _, vs, h => by cases vs <;> exact (h : False).elim
  | n + 1, .po t _ _ _, vs, h => by cases vs <;> exact (h : False).elim
  | 0, .pe t, vs, h => by cases vs <;> exact (h : False).elim
  | n + 1, .pe t, vs, h => by cases vs <;> exact (h : False).elim
theorem Y0_ext {o : Oper} {s : St} {x : Operand} {n : Nat} {y r : AV} (ho : o.op = .extract x n) (hx : s.ev x = .tc y r) (hb : ((AV.tc y r).nth n) ≠ .bot) : Y0 P o s ((AV.tc y r).nth n) :=
  Y0_of_run fun ok σ a w hC => by
    have h1 := hC.ev x
    rw [hx] at h1
    obtain ⟨vs, h2, h3⟩ := h1
    rcases relL_nth n _ _ h3 with h4 | ⟨v, h4, h5⟩
    · exact absurd h4 hb
    · refine ⟨v, ?_, rel_of_rel1 h5⟩
      unfold execOp
      rw [ho]
      have h6 : vs[n]? = some v := by simpa using h4
      simp [h2, Instr.extract, h6]

end
end Go.Proofs.YtnheekadeflecaaGreat
