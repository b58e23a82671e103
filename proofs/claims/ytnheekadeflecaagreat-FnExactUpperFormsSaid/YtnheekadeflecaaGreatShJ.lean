/-
  Rules for calls.
  Conditions: none.
-/
import Derived.Test.YtnheekadeflecaaGreatShI
import Derived.Laws.MakeOwn
namespace Go.Proofs.YtnheekadeflecaaGreat
open Go.RowKit
set_option linter.unusedSimpArgs false
set_option linter.unusedVariables false

section
variable {P : Program}

/-! ### Calls -/
theorem run_callFunc {f : FuncId} {fn : Func} (hf : P.funcs[f]? = some fn) (hn : (fn.name == "runtime.NumGoroutine") = false) (hb : fn.body.isNone = false) (args : Array Value) (w : World) : (callFunc f args).run P w = .ok (.enter f args) w := by
  have h1 : ¬ fn.name = "runtime.NumGoroutine" := by simpa using hn
  have h2 : ¬ fn.body = none := by
    intro h
    rw [h] at hb
    cases hb
  simp [callFunc, hf, h1, h2]
def snapA (s : St) : AV → AV
  | .ow id => match s.entc id with
    | some (.arr _ _ els) => .c (.sl els)
    | _ => .bot
  | .pt id off => match s.entc id with
    | some (.box cs) => .pe (cs.drop off)
    | _ => .bot
  | .po id sz i off => match memCells s (.po id sz i off) with
    | some cs => .pe cs
    | none => .bot
  | av => av
def okAll (ok : Nat → Prop) (σ : Nat → Loc) (s : St) (g : Nat) : Prop := ok g ∨ ∃ id e, s.ent id = some e ∧ (σ id).blk = some g
theorem snap_rel {ok : Nat → Prop} {σ : Nat → Loc} {s : St} {a : Act} {w : World} (h : Core ok σ s a w) {av : AV} {y : Value} (hr : Rel ok σ w av y) : Rel (okAll ok σ s) σ w (snapA s av) y := by
  have hup : ∀ g, ok g → okAll ok σ s g := fun g hg => .inl hg
  have same : ∀ {av : AV}, Rel ok σ w av y → Rel (okAll ok σ s) σ w av y := fun h => h.mono0 hup fun _ _ => rfl
  cases av with
  | ow id =>
    simp only [snapA]
    cases he : s.entc id with
    | none => exact trivial
    | some e =>
      cases e with
      | box => exact trivial
      | pbox => exact trivial
      | parr => exact trivial
      | mp => exact trivial
      | qarr => exact trivial
      | arr T sz els =>
        simp only
        obtain ⟨h0, hn, hs, vs, h1, h2⟩ := h.entc id _ he
        have hy : y = ownVal (σ id) := hr
        cases hb : (σ id).blk with
        | none =>
          have hz : els = [] := by
            rcases Nat.eq_zero_or_pos els.length with h3 | h3
            · exact List.eq_nil_of_length_eq_zero h3
            · obtain ⟨g, hg⟩ := own_blk h1 h3
              rw [hb] at hg; cases hg
          subst hz
          rw [hy]
          unfold ownVal
          rw [hn]
          exact Rd.nl _ _
        | some g =>
          rw [hy]
          unfold ownVal
          rw [hb, hn]
          refine Rd.sl g 0 els.length _ sz els (fun i j => vs.getD (i * sz + j) undef) rfl ?_ (.inr (by obtain ⟨f, hf, _⟩ := entc_of he; exact ⟨id, f, hf, hb⟩)) hs (fun i j c hc => ?_) (fun i j c hc => ?_)
          · rcases h1.2 with ⟨_, hv0⟩ | ⟨g2, cap, cur, hv, _, hg, hnc, _⟩
            · omega
            · unfold ownVal at hv
              injection hv with _ _ h3
              omega
          all_goals
            have hc2 : ∃ el, els[i]? = some el ∧ el[j]? = some c := by
              unfold at2 at hc
              cases h3 : els[i]? with
              | none => rw [h3] at hc; cases hc
              | some el => rw [h3] at hc; exact ⟨el, rfl, hc⟩
            obtain ⟨el, h3, h4⟩ := hc2
            obtain ⟨u, h5, h6⟩ := h2.get _ c (flat_at els sz i j el c hs h3 h4)
            have h7 : vs.getD (i * sz + j) undef = u := by
              rw [List.getD_eq_getElem?_getD, h5]
              rfl
          · rw [Nat.zero_add, h7]
            exact own_vals h1 hb _ u h5
          · rw [h7]
            exact h6.mono hup fun _ _ => rfl
  | pt id off =>
    simp only [snapA]
    cases he : s.entc id with
    | none => exact trivial
    | some e =>
      cases e with
      | arr => exact trivial
      | pbox => exact trivial
      | parr => exact trivial
      | mp => exact trivial
      | qarr => exact trivial
      | box cs =>
        simp only
        obtain ⟨g, o2, h1, h2⟩ := mem_read h hr (cs := cs.drop off) (by simp [memCells, he])
        obtain ⟨g2, h3, h4⟩ := (hr : Rel1 ok σ w (.pt id off) y)
        have hgg : g2 = g ∧ off = o2 := by
          rw [h4] at h1
          injection h1 with h1
          injection h1 with h1
          injection h1 with h5 h6
          exact ⟨h5, h6⟩
        refine ⟨g, o2, .inr (by obtain ⟨f, hf, _⟩ := entc_of he; exact ⟨id, f, hf, by rw [← hgg.1]; exact h3⟩), h1, fun j c hj => ?_⟩
        obtain ⟨u, h5, h6⟩ := h2 j c hj
        exact ⟨u, h5, h6.mono hup fun _ _ => rfl⟩
  | po id sz i off =>
    simp only [snapA]
    cases hm : memCells s (.po id sz i off) with
    | none => exact trivial
    | some cs =>
      simp only
      obtain ⟨g, o2, h1, h2⟩ := mem_read h hr hm
      obtain ⟨g2, h3, h4⟩ := (hr : Rel1 ok σ w (.po id sz i off) y)
      have hgg : g2 = g := by
        rw [h4] at h1
        injection h1 with h1
        injection h1 with h1
        injection h1 with h5 h6
      have he : ∃ e, s.ent id = some e := by
        simp only [memCells] at hm
        cases he : s.entc id with
        | none => rw [he] at hm; cases hm
        | some e => obtain ⟨f, hf, _⟩ := entc_of he; exact ⟨f, hf⟩
      obtain ⟨e, he⟩ := he
      refine ⟨g, o2, .inr ⟨id, e, he, by rw [← hgg]; exact h3⟩, h1, fun j c hj => ?_⟩
      obtain ⟨u, h5, h6⟩ := h2 j c hj
      exact ⟨u, h5, h6.mono hup fun _ _ => rfl⟩
  | tn => exact same hr
  | tc x r => exact same hr
  | bot => exact same hr
  | c t => exact same hr
  | ag cs => exact same hr
  | pe cs => exact same hr
  | fn f caps => exact same hr
  | er b => exact same hr
  | vw id els m => exact same hr
  | sf id z i => exact same hr

def AV.flat : AV → Bool
  | .c t => t.flat
  | .ag cs => cs.all Tr.flat
  | .pe _ => false
  | .fn _ _ => false
  | .vw _ _ _ => false
  | .tc x r => x.flat && r.flat
  | _ => true
def flatE : List (Nat × Ent) → Bool
  | [] => true
  | (_, .arr _ _ els) :: ps => els.flatten.all Tr.flat && flatE ps
  | (_, _) :: _ => false
theorem Rel1.flat {ok ok' : Nat → Prop} {σ : Nat → Loc} {w : World} {av : AV} {y : Value} (h : Rel1 ok σ w av y) (hf : av.flat = true) : Rel1 ok' σ w av y := by
  cases av with
  | c t => exact Rd.flat h hf
  | ag cs =>
    obtain ⟨vs, h1, h2⟩ := h
    exact ⟨vs, h1, h2.flat hf⟩
  | pe cs => cases hf
  | fn f caps => cases hf
  | vw id els m => cases hf
  | _ => exact h
theorem RelL.flat {ok ok' : Nat → Prop} {σ : Nat → Loc} {w : World} {av : AV} {ys : List Value} (h : RelL ok σ w av ys) (hf : av.flat = true) : RelL ok' σ w av ys := by
  induction av generalizing ys with
  | tn => cases ys <;> exact h
  | tc x r _ ih =>
    cases ys with
    | nil => exact h.elim
    | cons y ys =>
      simp only [AV.flat, Bool.and_eq_true] at hf
      exact ⟨h.1.flat hf.1, ih h.2 hf.2⟩
  | _ => cases ys <;> exact (h : False).elim
theorem Rel.flat {ok ok' : Nat → Prop} {σ : Nat → Loc} {w : World} {av : AV} {y : Value} (h : Rel ok σ w av y) (hf : av.flat = true) : Rel ok' σ w av y := by
  cases av with
  | tn =>
    obtain ⟨vs, hy, hl⟩ := h
    exact ⟨vs, hy, hl.flat hf⟩
  | tc x r =>
    obtain ⟨vs, hy, hl⟩ := h
    exact ⟨vs, hy, hl.flat hf⟩
  | bot => trivial
  | c t => exact Rel1.flat (ok := ok) (σ := σ) (w := w) (av := .c t) h hf
  | ag cs => exact Rel1.flat (ok := ok) (σ := σ) (w := w) (av := .ag cs) h hf
  | pe cs => cases hf
  | fn f caps => cases hf
  | er b => exact h
  | vw id els m => cases hf
  | ow id => exact h
  | sf id z i => exact h
  | pt id off => exact h
  | po id sz i off => exact h
theorem flatE_look : ∀ (ne : List (Nat × Ent)), flatE ne = true → ∀ id e, ne.lookup id = some e → ∃ T sz els, e = .arr T sz els ∧ els.flatten.all Tr.flat = true
  | [], _, id, e, h => by simp at h
  | (k, .box cs) :: ps, hf, id, e, h => by cases hf
  | (k, .pbox l cs) :: ps, hf, id, e, h => by cases hf
  | (k, .parr l T sz els) :: ps, hf, id, e, h => by cases hf
  | (k, .mp b kvs) :: ps, hf, id, e, h => by cases hf
  | (k, .qarr l T sz els) :: ps, hf, id, e, h => by cases hf
  | (k, .arr T sz els) :: ps, hf, id, e, h => by
    simp only [flatE, Bool.and_eq_true] at hf
    simp only [List.lookup] at h
    split at h
    · injection h with h
      exact ⟨T, sz, els, h.symm, hf.1⟩
    · exact flatE_look ps hf.2 id e h
def evL (s : St) : List Operand → List AV
  | [] => []
  | x :: xs => s.ev x :: evL s xs
def evS (s : St) : List Operand → List AV
  | [] => []
  | x :: xs => snapA s (s.ev x) :: evS s xs
theorem evL_rel {ok : Nat → Prop} {σ : Nat → Loc} {s : St} {a : Act} {w : World} (h : Core ok σ s a w) : ∀ (xs : List Operand), RelA ok σ w (evL s xs) (xs.map a.eval)
  | [] => .nil
  | x :: xs => .cons (h.ev x) (evL_rel h xs)
theorem evS_rel {ok : Nat → Prop} {σ : Nat → Loc} {s : St} {a : Act} {w : World} (h : Core ok σ s a w) : ∀ (xs : List Operand), RelA (okAll ok σ s) σ w (evS s xs) (xs.map a.eval)
  | [] => .nil
  | x :: xs => .cons (snap_rel h (h.ev x)) (evS_rel h xs)
theorem wp_call {o : Oper} {a : Act} {w : World} {f : FuncId} {xs : Array Operand} {ts : Array TypeId} (hc : ∀ args w, (callFunc f args).run P w = .ok (.enter f args) w) (ho : o.op = .call { callee := .value (.func f), args := xs, argTypes := ts }) {K : Act → World → Prop} {Q : Exit → Act → World → Prop}
    (h : Calls P f (xs.toList.map a.eval).toArray w (fun e w' => ∃ v, e = .returned v ∧ K (a.put o.dst v) w')) : o.wp P a w K Q := by
  unfold Oper.wp execOp
  rw [ho]
  have e1 : xs.map a.eval = (xs.toList.map a.eval).toArray := by
    apply Array.ext'
    rw [Array.toList_map]
  simp only [resolve, Act.eval, Deferred.ofValue, Sem.run_bind, Sem.run_pure, Result.andThen_ok, invoke, hc, e1, Array.append_empty, Array.empty_append, Oper.upon]
  refine Calls.mono h ?_
  rintro e w' ⟨v, rfl, hK⟩
  exact hK
theorem Y1_call {o : Oper} {s : St} {f : FuncId} {xs : Array Operand} {ts : Array TypeId} {args : List AV} {av : AV} {ne : List (Nat × Ent)} (hS : CallS P f args av ne) (hc : ∀ args w, (callFunc f args).run P w = .ok (.enter f args) w)
    (ho : o.op = .call { callee := .value (.func f), args := xs, argTypes := ts }) (ha : evL s xs.toList = args) : Y1 P o s av ne := by
  intro ok σ a w hC K Q hK
  subst ha
  refine wp_call hc ho (Calls.mono (hS ok σ w _ hC.okL hC.lib (evL_rel hC xs.toList)) ?_)
  rintro e w' ⟨v, ok', σ', he, hn⟩
  exact ⟨v, he, hK v w' ok' σ' hn⟩
theorem Y1_callS {o : Oper} {s : St} {f : FuncId} {xs : Array Operand} {ts : Array TypeId} {args : List AV} {av : AV} {ne : List (Nat × Ent)} (hS : CallS P f args av ne) (hc : ∀ args w, (callFunc f args).run P w = .ok (.enter f args) w)
    (ho : o.op = .call { callee := .value (.func f), args := xs, argTypes := ts }) (ha : evS s xs.toList = args) (hf : av.flat = true) (hf2 : flatE ne = true) : Y1 P o s av ne := by
  intro ok σ a w hC K Q hK
  subst ha
  have hlt : ∀ g, okAll ok σ s g → g < w.heap.size := by
    rintro g (hg | ⟨id, e, he, hg⟩)
    · exact hC.okL g hg
    · exact (hC.blk id e g he hg).2
  refine wp_call hc ho (Calls.mono (hS (okAll ok σ s) σ w _ hlt (hC.lib.mono (fun _ h => .inl h) fun _ _ => rfl) (evS_rel hC xs.toList)) ?_)
  rintro e w' ⟨v, ok', σ', he, hn⟩
  refine ⟨v, he, hK v w' ok σ' ⟨hn.below, fun _ h => h, fun _ h => .inl h, fun g hg => Nat.lt_of_lt_of_le (hC.okL g hg) hn.below.size, hn.rel.flat hf, hn.keys, hn.ids, fun id e hl => ?_, fun id e g hl hg => ?_, hn.inj, hn.np⟩⟩
  · obtain ⟨T, sz, els, h1, h2⟩ := flatE_look ne hf2 id e hl
    subst h1
    obtain ⟨a1, a2, a3, vs, a4, a5⟩ := hn.ent id _ hl
    exact ⟨a1, a2, a3, vs, a4, a5.flat h2⟩
  · obtain ⟨b1, b2, b3⟩ := hn.blk id e g hl hg
    exact ⟨b1, fun h => by have := hC.okL g h; omega, b3⟩
end
end Go.Proofs.YtnheekadeflecaaGreat
