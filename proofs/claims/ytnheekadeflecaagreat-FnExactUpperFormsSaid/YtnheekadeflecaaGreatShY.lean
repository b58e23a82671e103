/-
  Function values with what they captured.
  Conditions: none.
-/
import Derived.Test.YtnheekadeflecaaGreatShX
namespace Go.Proofs.YtnheekadeflecaaGreat
open Go.RowKit
set_option linter.unusedSimpArgs false
set_option linter.unusedVariables false

section
variable {P : Program}
/-- A variable that nobody writes any more. -/
def frzB1 (id : Nat) (cs : List Tr) : AV → AV
  | .ow k => bif k == id then .bot else .ow k
  | .pt k o => bif k == id then .pe (cs.drop o) else .pt k o
  | .po k z i o => bif k == id then .bot else .po k z i o
  | .tc _ _ => .bot
  | av => av
def St.frzB (s : St) (id : Nat) (cs : List Tr) : St := ⟨s.T.map (frzB1 id cs), rmE id s.E⟩
theorem frzB_get (s : St) (id : Nat) (cs : List Tr) (t : Nat) : (s.frzB id cs).get t = frzB1 id cs (s.get t) := by
  unfold St.frzB St.get
  simp only [List.getElem?_map]
  cases s.T[t]? <;> rfl
theorem frzB_ent (s : St) (id : Nat) (cs : List Tr) (j : Nat) (e : Ent) (h : (s.frzB id cs).ent j = some e) : j ≠ id ∧ s.ent j = some e := by
  have h2 : (rmE id s.E).lookup j = some e := h
  rw [rmE_look] at h2
  split at h2
  · cases h2
  · rename_i hne
    exact ⟨hne, h2⟩
theorem R_frzB {B : Fr} {w0 : World} {ok0 ok : Nat → Prop} {σ : Nat → Loc} {s : St} {a : Act} {w : World} (hR : R B w0 ok0 ok σ s a w) (id : Nat) {cs : List Tr} (he : s.ent id = some (.box cs)) : R B w0 ok0 (fun g => ok g ∨ (σ id).blk = some g) σ (s.frzB id cs) a w := by
  have hup : ∀ g, ok g → ok g ∨ (σ id).blk = some g := fun g hg => .inl hg
  refine ⟨⟨by simpa [St.frzB] using hR.core.len, fun g hg => ?_, hR.core.lib.mono hup (fun _ _ => rfl), fun t => ?_, fun j e hj => ?_, fun j e g hj hg => ?_, fun i j e f g hi hj h1 h2 => ?_⟩, hR.defers, hR.below, hR.base, fun g hg => .inl (hR.old g hg), fun g hg => ?_, fun j e g hj hg => hR.own j e g (frzB_ent s id cs j e hj).2 hg⟩
  · rcases hg with hg | hg
    · exact hR.core.okL g hg
    · exact (hR.core.blk id _ g he hg).2
  · rw [frzB_get]
    have h1 := hR.core.tmp t
    generalize s.get t = av at h1
    have same : Rel (fun g => ok g ∨ (σ id).blk = some g) σ w av (a.tmps.getD t undef) := h1.mono0 hup fun _ _ => rfl
    cases av with
    | ow k =>
      simp only [frzB1]
      cases k == id with
      | false => exact same
      | true => exact trivial
    | pt k o =>
      simp only [frzB1]
      cases hk : k == id with
      | false => exact same
      | true =>
        have e1 : k = id := by simpa using hk
        subst e1
        have hle : Le ⟨s.T, [(k, .box cs)]⟩ s := ⟨Nat.le_refl _, fun t => .inr rfl, fun j e hj => by
          unfold St.ent at hj
          simp only [List.lookup] at hj
          split at hj
          · rename_i hjk
            have : j = k := by simpa using hjk
            subst this
            injection hj with hj
            subst hj
            exact he
          · cases hj⟩
        have h2 := snap_rel (hR.le hle).core h1
        have e2 : snapA ⟨s.T, [(k, .box cs)]⟩ (.pt k o) = .pe (cs.drop o) := by
          simp [snapA, St.entc, St.ent, List.lookup, Ent.core]
        rw [e2] at h2
        refine h2.mono0 (fun g hg => ?_) fun _ _ => rfl
        rcases hg with hg | ⟨j, e, hj, hg⟩
        · exact .inl hg
        · refine .inr ?_
          unfold St.ent at hj
          simp only [List.lookup] at hj
          split at hj
          · rename_i hjk
            have : j = k := by simpa using hjk
            subst this
            exact hg
          · cases hj
    | po k z i o =>
      simp only [frzB1]
      cases k == id with
      | false => exact same
      | true => exact trivial
    | tc x r => exact trivial
    | tn => exact same
    | bot => exact same
    | c t => exact same
    | ag cs => exact same
    | pe cs => exact same
    | fn f caps => exact same
    | er b => exact same
    | vw id els m => exact same
    | sf id z i => exact same
  · obtain ⟨_, h2⟩ := frzB_ent s id cs j e hj
    exact (hR.core.ent j e h2).mono hup (fun _ _ => rfl) fun _ _ => rfl
  · obtain ⟨h1, h2⟩ := frzB_ent s id cs j e hj
    obtain ⟨h3, h4⟩ := hR.core.blk j e g h2 hg
    refine ⟨fun h5 => ?_, h4⟩
    rcases h5 with h5 | h5
    · exact h3 h5
    · exact h1 (hR.core.inj _ _ _ _ _ h2 he hg h5)
  · exact hR.core.inj i j e f g (frzB_ent s id cs i e hi).2 (frzB_ent s id cs j f hj).2 h1 h2
  · rcases hg with hg | hg
    · exact hR.fresh g hg
    · exact .inr (hR.own id _ g he hg)
theorem V_freezeB {c : Code} {s s1 : St} {J : Exit → St → Prop} (id : Nat) {cs : List Tr} (he : s.ent id = some (.box cs)) (hs : s.frzB id cs = s1) (h : V P c s1 J) : V P c s J := by
  subst hs
  exact fun _ _ _ _ _ _ _ hR => h _ _ _ _ _ _ _ (R_frzB hR id he)
theorem XL_freezeB {ops : Array Oper} {rest : List Oper} {s s1 : St} {J : St → Prop} (id : Nat) {cs : List Tr} (he : s.ent id = some (.box cs)) (hs : s.frzB id cs = s1) (h : XL P ops rest s1 J) : XL P ops rest s J := by
  subst hs
  exact fun _ _ _ _ _ _ _ hR Q hQ => h _ _ _ _ _ _ _ (R_frzB hR id he) Q hQ
def evPe (s : St) : List Operand → Option (List (List Tr))
  | [] => some []
  | x :: xs => match s.ev x, evPe s xs with
    | .pe cs, some r => some (cs :: r)
    | _, _ => none
theorem evPe_rel {ok : Nat → Prop} {σ : Nat → Loc} {s : St} {a : Act} {w : World} (h : Core ok σ s a w) : ∀ (xs : List Operand) (cs : List (List Tr)), evPe s xs = some cs → PeL ok w cs (xs.map a.eval)
  | [], cs, he => by
    injection he with he
    subst he
    exact .nil
  | x :: xs, cs, he => by
    unfold evPe at he
    cases h1 : s.ev x with
    | pe c =>
      rw [h1] at he
      cases h2 : evPe s xs with
      | none => rw [h2] at he; cases he
      | some r =>
        rw [h2] at he
        injection he with he
        subst he
        have h3 := h.ev x
        rw [h1] at h3
        exact .cons h3 (evPe_rel h xs r h2)
    | _ => rw [h1] at he; cases he
theorem Y0_makeFunc {o : Oper} {s : St} {f : FuncId} {xs : Array Operand} {cs : List (List Tr)} (ho : o.op = .makeFunc (.func f) #[] xs) (hx : evPe s xs.toList = some cs) : Y0 P o s (.fn f cs) :=
  Y0_of_run fun ok σ a w hC => by
    have h1 := evPe_rel hC xs.toList cs hx
    refine ⟨.func (.func f) #[] (xs.toList.map a.eval).toArray, ?_, ⟨_, rfl, h1⟩⟩
    unfold execOp
    rw [ho]
    have e1 : xs.map a.eval = (xs.toList.map a.eval).toArray := by
      apply Array.ext'
      rw [Array.toList_map]
    simp [Instr.makeFunc, e1]
theorem pes_rel {ok : Nat → Prop} {σ : Nat → Loc} {w : World} : ∀ {cs : List (List Tr)} {ys : List Value}, PeL ok w cs ys → RelA ok σ w (cs.map AV.pe) ys
  | [], _, .nil => .nil
  | c :: cs, _, .cons h hs => .cons h (pes_rel hs)
theorem RelA.app {ok : Nat → Prop} {σ : Nat → Loc} {w : World} {ts us : List AV} {xs ys : List Value} (h : RelA ok σ w ts xs) (h2 : RelA ok σ w us ys) : RelA ok σ w (ts ++ us) (xs ++ ys) := by
  induction h with
  | nil => exact h2
  | cons h hs ih => exact .cons h ih
/-- A call of a function value. -/
theorem Y1_callF {o : Oper} {s : St} {f : FuncId} {x : Operand} {caps : List (List Tr)} {xs : Array Operand} {ts : Array TypeId} {args : List AV} {av : AV} {ne : List (Nat × Ent)} (hS : CallS P f (args ++ caps.map AV.pe) av ne) (hc : ∀ args w, (callFunc f args).run P w = .ok (.enter f args) w)
    (ho : o.op = .call { callee := .value x, args := xs, argTypes := ts }) (hx : s.ev x = .fn f caps) (ha : evL s xs.toList = args) : Y1 P o s av ne := by
  intro ok σ a w hC K Q hK
  subst ha
  have h1 := hC.ev x
  rw [hx] at h1
  obtain ⟨vs, hv, hp⟩ := (h1 : Rel1 ok σ w (.fn f caps) (a.eval x))
  unfold Oper.wp execOp
  rw [ho]
  have e1 : xs.map a.eval = (xs.toList.map a.eval).toArray := by
    apply Array.ext'
    rw [Array.toList_map]
  have e2 : (xs.toList.map a.eval).toArray ++ vs.toArray = (xs.toList.map a.eval ++ vs).toArray := by simp
  simp only [resolve, hv, Deferred.ofValue, Sem.run_bind, Sem.run_pure, Result.andThen_ok, invoke, hc, e1, Array.empty_append, e2, Oper.upon]
  refine Calls.mono (hS ok σ w _ hC.okL hC.lib ((evL_rel hC xs.toList).app (pes_rel hp))) ?_
  rintro e w' ⟨v, ok', σ', he, hn⟩
  subst he
  exact hK v w' ok' σ' hn
end
end Go.Proofs.YtnheekadeflecaaGreat
