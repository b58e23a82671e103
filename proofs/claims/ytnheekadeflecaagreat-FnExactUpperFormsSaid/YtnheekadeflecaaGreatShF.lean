/-
  Rules for variables in memory and for values put together.
  Conditions: none.
-/
import Derived.Test.YtnheekadeflecaaGreatShE
import Derived.Laws.CopyRow
import Derived.Laws.Tables
namespace Go.Proofs.YtnheekadeflecaaGreat
open Go.RowKit
set_option linter.unusedSimpArgs false
set_option linter.unusedVariables false

theorem add_none (g o n : Nat) : (⟨g, o, none⟩ : Addr).add n = ⟨g, o + n, none⟩ := by
  unfold Addr.add
  split <;> simp_all

section
variable {P : Program}

/-- A new block of cells. -/
theorem New_box {ok : Nat → Prop} {w : World} (hok : ∀ g, ok g → g < w.heap.size) {cs : List Tr} {arr : Array Value} (T : TypeId) (h : RdL ok w cs arr.toList) :
    New w (w.alloc (.cells arr T)) ok ok (fun _ => ⟨some w.heap.size, 0, 0⟩) (.pt 0 0) [(0, .box cs)] (.pointer (some ⟨w.heap.size, 0, none⟩)) := by
  have hw : ∀ g, ok g → (w.alloc (.cells arr T)).heap[g]? = w.heap[g]? := fun g hg => Below.heap_alloc _ _ _ (hok g hg)
  refine ⟨(Below.refl _ _).alloc (Nat.le_refl _) _, fun _ h => h, fun _ h => .inl h, fun g hg => by have := hok g hg; simp; omega, ⟨_, rfl, rfl⟩, fun id e he => ?_, fun e he => ?_, fun id e he => ?_, fun id e g he hg => ?_, fun i j e f g hi hj _ _ => ?_, fun id e he => by obtain ⟨_, h2⟩ := look_one _ _ _ _ he; subst h2; rfl⟩
  · obtain ⟨h1, _⟩ := look_one _ _ _ _ he; omega
  · show (0 / 8 == e) = false
    rw [beq_eq_false_iff_ne]; omega
  · obtain ⟨h1, h2⟩ := look_one _ _ _ _ he
    subst h2
    exact ⟨w.heap.size, arr, T, rfl, heap_alloc_new w _, h.mono (fun _ h => h) hw⟩
  · have e1 : w.heap.size = g := by simpa using hg
    subst e1
    exact ⟨Nat.le_refl _, fun hg2 => by have := hok _ hg2; omega, by simp⟩
  · obtain ⟨h1, _⟩ := look_one _ _ _ _ hi
    obtain ⟨h2, _⟩ := look_one _ _ _ _ hj
    omega
/-- A new row that is a slice. -/
theorem New_arr {ok : Nat → Prop} {w : World} (hok : ∀ g, ok g → g < w.heap.size) {els : List (List Tr)} {arr : Array Value} (T : TypeId) (sz : Nat) (hsz : 0 < sz) (hel : ∀ el, el ∈ els → el.length = sz) (hmax : els.length ≤ maxLen) (h : RdL ok w els.flatten arr.toList) (hlen : arr.size = els.length * sz) :
    New w (w.alloc (.cells arr T)) ok ok (fun _ => ⟨some w.heap.size, els.length, els.length⟩) (.ow 0) [(0, .arr T sz els)] (.slice (some ⟨w.heap.size, 0, none⟩) els.length els.length) := by
  have hw : ∀ g, ok g → (w.alloc (.cells arr T)).heap[g]? = w.heap[g]? := fun g hg => Below.heap_alloc _ _ _ (hok g hg)
  refine ⟨(Below.refl _ _).alloc (Nat.le_refl _) _, fun _ h => h, fun _ h => .inl h, fun g hg => by have := hok g hg; simp; omega, rfl, fun id e he => ?_, fun e he => ?_, fun id e he => ?_, fun id e g he hg => ?_, fun i j e f g hi hj _ _ => ?_, fun id e he => by obtain ⟨_, h2⟩ := look_one _ _ _ _ he; subst h2; rfl⟩
  · obtain ⟨h1, _⟩ := look_one _ _ _ _ he; omega
  · show (0 / 8 == e) = false
    rw [beq_eq_false_iff_ne]; omega
  · obtain ⟨h1, h2⟩ := look_one _ _ _ _ he
    subst h2
    refine ⟨hsz, rfl, hel, arr.toList, ⟨by simpa using hlen, .inr ⟨w.heap.size, els.length, arr, rfl, Nat.zero_le _, heap_alloc_new w _, Nat.le_refl _, hmax, hlen, ?_⟩⟩, h.mono (fun _ h => h) hw⟩
    show arr.toList.take (els.length * sz) = arr.toList
    rw [← hlen]
    exact List.take_of_length_le (by simp)
  · have e1 : w.heap.size = g := by simpa using hg
    subst e1
    exact ⟨Nat.le_refl _, fun hg2 => by have := hok _ hg2; omega, by simp⟩
  · obtain ⟨h1, _⟩ := look_one _ _ _ _ hi
    obtain ⟨h2, _⟩ := look_one _ _ _ _ hj
    omega

theorem Y1_of_run {o : Oper} {s : St} {av : AV} {ne : List (Nat × Ent)} (h : ∀ ok σ a w, Core ok σ s a w → ∃ v w' σ', (execOp a.eval o).run P w = .ok (.value v) w' ∧ New w w' ok ok σ' av ne v) : Y1 P o s av ne := by
  intro ok σ a w hC K Q hK
  obtain ⟨v, w', σ', h1, h2⟩ := h ok σ a w hC
  unfold Oper.wp
  rw [h1]
  exact hK v w' ok σ' h2
theorem cells_one {v : Value} (h : v.oneCell' = true) : v.cells = #[v] := by
  cases v with
  | agg cs => simp [Value.oneCell'] at h
  | _ => rfl
theorem RdL_v (ok : Nat → Prop) (w : World) : ∀ (l : List Value), (l.all Value.oneCell') = true → RdL ok w (l.map Tr.v) l
  | [], _ => .nil
  | x :: xs, h => by
    simp only [List.all_cons, Bool.and_eq_true] at h
    exact .cons (.v x h.1) (RdL_v ok w xs h.2)
theorem Y1_alloc {o : Oper} {s : St} {e : TypeId} {z : Value} (ho : o.op = .alloc e) (hz : (P.info? e).bind (·.zero) = some z) (hc : cellsAll z.cells = true) : Y1 P o s (.pt 0 0) [(0, .box (z.cells.toList.map Tr.v))] :=
  Y1_of_run fun ok σ a w hC => by
    cases hi : P.info? e with
    | none => rw [hi] at hz; cases hz
    | some i =>
      have hz2 : i.zero = some z := by rw [hi] at hz; exact hz
      refine ⟨.pointer (some ⟨w.heap.size, 0, none⟩), w.alloc (.cells z.cells e), _, ?_, New_box hC.okL e (RdL_v ok w _ hc)⟩
      unfold execOp
      rw [ho]
      simp [Instr.alloc, zeroValue, typeInfo, hi, hz2, newVar, newRow]
/-- The cells of a value that is no tuple. -/
def avCells : AV → Option (List Tr)
  | .c t => some [t]
  | .ag cs => some cs
  | _ => none
theorem avCells_rel {ok : Nat → Prop} {σ : Nat → Loc} {w : World} {av : AV} {y : Value} {cs : List Tr} (h : Rel ok σ w av y) (hc : avCells av = some cs) : RdL ok w cs y.cells.toList := by
  cases av with
  | c t =>
    have h1 : Rd ok w t y := h
    injection hc with hc
    subst hc
    rw [cells_one h1.one]
    exact .cons h1 .nil
  | ag ds =>
    obtain ⟨vs, hy, hr⟩ := h
    injection hc with hc
    subst hc hy
    exact hr
  | _ => cases hc
theorem Y1_box {o : Oper} {s : St} {e : TypeId} {x : Operand} {cs : List Tr} (ho : o.op = .box e x) (hx : avCells (s.ev x) = some cs) : Y1 P o s (.pt 0 0) [(0, .box cs)] :=
  Y1_of_run fun ok σ a w hC => by
    refine ⟨.pointer (some ⟨w.heap.size, 0, none⟩), w.alloc (.cells (a.eval x).cells e), _, ?_, New_box hC.okL e (avCells_rel (hC.ev x) hx)⟩
    unfold execOp
    rw [ho]
    simp [Instr.box, newVar, newRow]

/-! ### Values of structs, put together -/
def splice {α : Type} (l : List α) (o : Nat) (m : List α) : List α := l.take o ++ m ++ l.drop (o + m.length)
theorem splice_nil {α : Type} (l : List α) (o : Nat) : splice l o [] = l := by simp [splice]
theorem splice_cons {α : Type} (l : List α) (o : Nat) (x : α) (m : List α) (h : o < l.length) : splice l o (x :: m) = splice (l.set o x) (o + 1) m := by
  unfold splice
  apply List.ext_getElem?
  intro j
  simp only [List.getElem?_append, List.length_take, List.length_append, List.length_cons, List.getElem?_take, List.getElem?_drop, List.length_set, List.getElem?_set, List.length_drop]
  have e1 : min o l.length = o := by omega
  have e2 : min (o + 1) l.length = o + 1 := by omega
  rw [e1, e2]
  by_cases h1 : j < o
  · simp only [show j < o + (m.length + 1) by omega, h1, show j < o + 1 + m.length by omega, show j < o + 1 by omega, show o ≠ j by omega, if_true, if_false]
  · by_cases h2 : j = o
    · subst h2
      simp [h]
      omega
    · by_cases h3 : j < o + 1 + m.length
      · have e3 : j - o = (j - (o + 1)) + 1 := by omega
        simp only [show j < o + (m.length + 1) by omega, h1, h3, show ¬ j < o + 1 by omega, if_true, if_false, e3, List.getElem?_cons_succ]
      · simp only [show ¬ j < o + (m.length + 1) by omega, h3, if_false]
        have e4 : o + (m.length + 1) + (j - (o + (m.length + 1))) = j := by omega
        have e5 : o + 1 + m.length + (j - (o + 1 + m.length)) = j := by omega
        rw [e4, e5, if_neg (by omega)]
theorem RdL.splice {ok : Nat → Prop} {w : World} {ts us : List Tr} {xs ys : List Value} (h : RdL ok w ts xs) (o : Nat) (h2 : RdL ok w us ys) : RdL ok w (splice ts o us) (splice xs o ys) := by
  unfold Go.Proofs.YtnheekadeflecaaGreat.splice
  rw [h2.len]
  exact ((h.take o).app h2).app (h.drop _)
theorem fold_splice : ∀ (vs : List Value) (k o : Nat) (cs : Array Value), o + k + vs.length ≤ cs.size → ((vs.zipIdx k).foldl (fun cs (p : Value × Nat) => cs.setIfInBounds (o + p.2) p.1) cs).toList = splice cs.toList (o + k) vs
  | [], k, o, cs, _ => by simp [splice_nil]
  | v :: vs, k, o, cs, h => by
    simp only [List.length_cons] at h
    rw [List.zipIdx_cons, List.foldl_cons, fold_splice vs (k + 1) o _ (by simp; omega), splice_cons _ _ _ _ (by simp; omega)]
    simp [Nat.add_assoc]

def fillT (place : Nat → Option (Nat × Nat)) (cells : List Tr) : List (Nat × AV) → Option (List Tr)
  | [] => some cells
  | (i, av) :: rest =>
    match place i, avCells av with
    | some (off, size), some cs => if cs.length ≠ size ∨ off + cs.length > cells.length then none else fillT place (splice cells off cs) rest
    | _, _ => none
inductive RelP (ok : Nat → Prop) (σ : Nat → Loc) (w : World) : List (Nat × AV) → List (Nat × Value) → Prop
  | nil : RelP ok σ w [] []
  | cons {i t x ts xs} (h : Rel ok σ w t x) (hs : RelP ok σ w ts xs) : RelP ok σ w ((i, t) :: ts) ((i, x) :: xs)
theorem splice_len {α : Type} (l : List α) (o : Nat) (m : List α) (h : o + m.length ≤ l.length) : (splice l o m).length = l.length := by
  unfold splice
  simp only [List.length_append, List.length_take, List.length_drop]
  omega
theorem fillT_rel {ok : Nat → Prop} {σ : Nat → Loc} {w : World} (place : Nat → Option (Nat × Nat)) {ps : List (Nat × AV)} {qs : List (Nat × Value)} (h : RelP ok σ w ps qs) : ∀ (cells : List Tr) (arr : Array Value) (r : List Tr), RdL ok w cells arr.toList → fillT place cells ps = some r →
    ∃ arr', Instr.fill place arr qs = some arr' ∧ RdL ok w r arr'.toList := by
  induction h with
  | nil =>
    intro cells arr r hr hf
    injection hf with hf
    subst hf
    exact ⟨arr, rfl, hr⟩
  | @cons i t x ts xs h hs ih =>
    intro cells arr r hr hf
    simp only [fillT] at hf
    cases hp : place i with
    | none => simp [hp] at hf
    | some p =>
      obtain ⟨off, size⟩ := p
      cases hc : avCells t with
      | none => simp [hp, hc] at hf
      | some cs =>
        simp only [hp, hc] at hf
        split at hf
        · cases hf
        · rename_i hcond
          have h1 := avCells_rel h hc
          have h2 := h1.len
          have h3 := hr.len
          have hsz : x.cells.size = size ∧ ¬ off + x.cells.size > arr.size := by
            simp at h2 h3
            omega
          have hspl := fold_splice x.cells.toList 0 off arr (by simp; omega)
          obtain ⟨arr', h4, h5⟩ := ih (splice cells off cs) (x.cells.zipIdx.foldl (fun cs (p : Value × Nat) => cs.setIfInBounds (off + p.2) p.1) arr) r (by
            rw [← Array.foldl_toList, Array.toList_zipIdx, hspl]
            exact hr.splice off h1) hf
          refine ⟨arr', ?_, h5⟩
          simp only [Instr.fill, hp]
          have hcond2 : (decide (x.cells.size ≠ size) || decide (off + x.cells.size > arr.size)) = false := by
            simp only [Bool.or_eq_false_iff, decide_eq_false_iff_not]
            exact ⟨by simp [hsz.1], hsz.2⟩
          rw [if_neg (by simpa using hcond2)]
          exact h4
end
end Go.Proofs.YtnheekadeflecaaGreat
