/-
  Judgements for operations, statements and code over trees.
  Conditions: none.
-/
import Derived.Test.YtnheekadeflecaaGreatShB
namespace Go.Proofs.YtnheekadeflecaaGreat
open Go.RowKit
set_option linter.unusedSimpArgs false
set_option linter.unusedVariables false

section
variable (P : Program)

/-- An operation that reads alone. -/
def Y0 (o : Oper) (s : St) (av : AV) : Prop :=
  ∀ ok σ a w, Core ok σ s a w → ∀ K Q, (∀ v, Rel ok σ w av v → K (a.put o.dst v) w) → o.wp P a w K Q
/-- An operation that makes memory and writes none that was there. -/
def Y1 (o : Oper) (s : St) (av : AV) (ne : List (Nat × Ent)) : Prop :=
  ∀ ok σ a w, Core ok σ s a w → ∀ K Q, (∀ v w' ok' σ', New w w' ok ok' σ' av ne v → K (a.put o.dst v) w') → o.wp P a w K Q
/-- Any operation. -/
def X (o : Oper) (s s' : St) : Prop :=
  ∀ B w0 ok0 ok σ a w, R B w0 ok0 ok σ s a w → ∀ K Q, (∀ a' w' ok' σ', R B w0 ok0 ok' σ' s' a' w' → K a' w') → o.wp P a w K Q

variable {P}

theorem X_of_Y0 {o : Oper} {s : St} {av : AV} {d : Nat} (hd : o.dst = some d) (h : Y0 P o s av) : X P o s (s.put d av) := by
  intro B w0 ok0 ok σ a w hR K Q hK
  refine h ok σ a w hR.core K Q fun v hv => ?_
  rw [hd]
  exact hK _ _ _ _ (hR.put hv)
theorem X_of_Y1 {o : Oper} {s : St} {av : AV} {ne : List (Nat × Ent)} {d : Nat} (hd : o.dst = some d) (h : Y1 P o s av ne) : X P o s (s.upd d av ne) := by
  intro B w0 ok0 ok σ a w hR K Q hK
  refine h ok σ a w hR.core K Q fun v w' ok' σ' hn => ?_
  rw [hd]
  exact hK _ _ _ _ (hR.upd hn)

variable (P)
/-- The operations of a region in the text's order. -/
def XL (ops : Array Oper) (rest : List Oper) (s : St) (J : St → Prop) : Prop :=
  ∀ B w0 ok0 ok σ a w, R B w0 ok0 ok σ s a w → ∀ Q : Exit → Act → World → Prop, (∀ s' a' w' ok' σ', J s' → R B w0 ok0 ok' σ' s' a' w' → Q .normal a' w') → wpList P ops Q rest a w
def V (c : Code) (s : St) (J : Exit → St → Prop) : Prop :=
  ∀ B w0 ok0 ok σ a w, R B w0 ok0 ok σ s a w → c.wp P (fun e a' w' => ∃ s' ok' σ', J e s' ∧ R B w0 ok0 ok' σ' s' a' w') a w
variable {P}

theorem XL_nil {ops : Array Oper} {s : St} {J : St → Prop} (h : J s) : XL P ops [] s J := fun _ _ _ _ _ _ _ hR _ hQ => hQ _ _ _ _ _ h hR
theorem XL_cons {ops : Array Oper} {o : Oper} {rest : List Oper} {s s' : St} {J : St → Prop} (hg : o.guard = none) (h : X P o s s') (hk : XL P ops rest s' J) : XL P ops (o :: rest) s J := by
  intro B w0 ok0 ok σ a w hR Q hQ
  refine wpList_plain hg fun K hK => ?_
  refine h _ _ _ _ _ _ _ hR K Q fun a' w' ok' σ' hR' => hK _ _ (hk _ _ _ _ _ _ _ hR' Q hQ)
theorem XL_take {ops : Array Oper} {o : Oper} {rest : List Oper} {s s' : St} {J : St → Prop} {j t : Nat} {b : Bool} (hg : o.guard = some (j, b)) (ht : (ops[j]?).bind (·.dst) = some t) (hb : s.get t = .c (.v (.bool b)))
    (h : X P o s s') (hk : XL P ops rest s' J) : XL P ops (o :: rest) s J := by
  intro B w0 ok0 ok σ a w hR Q hQ
  refine wpList_step fun K hK => ?_
  have h1 := hR.core.tmp t
  rw [hb] at h1
  have h2 : a.tmps.getD t undef = .bool b := by
    have h3 : Rd ok w (.v (.bool b)) (a.tmps.getD t undef) := h1
    generalize a.tmps.getD t undef = y at *
    cases h3
    rfl
  have hw : Region.wanted o (yielded ops a.tmps) = true := by
    have h4 : a.tmps[t]? = some (.bool b) := by
      rw [Array.getD_eq_getD_getElem?] at h2
      cases h5 : a.tmps[t]? with
      | none => rw [h5] at h2; simp [undef] at h2
      | some y => rw [h5] at h2; simpa using h2
    simp only [Region.wanted, hg, yielded, ht, Option.bind_some, h4]
    simp
  rw [if_pos hw]
  exact h _ _ _ _ _ _ _ hR K Q fun a' w' ok' σ' hR' => hK _ _ (hk _ _ _ _ _ _ _ hR' Q hQ)
theorem XL_skip {ops : Array Oper} {o : Oper} {rest : List Oper} {s : St} {J : St → Prop} {j t d : Nat} {b c : Bool} (hg : o.guard = some (j, b)) (ht : (ops[j]?).bind (·.dst) = some t) (hb : s.get t = .c (.v (.bool c))) (hne : c ≠ b)
    (hd : o.dst = some d) (hk : XL P ops rest (s.put d .tn) J) : XL P ops (o :: rest) s J := by
  intro B w0 ok0 ok σ a w hR Q hQ
  refine wpList_step fun K hK => ?_
  have h1 := hR.core.tmp t
  rw [hb] at h1
  have h2 : a.tmps.getD t undef = .bool c := by
    have h3 : Rd ok w (.v (.bool c)) (a.tmps.getD t undef) := h1
    generalize a.tmps.getD t undef = y at *
    cases h3
    rfl
  have hw : ¬ Region.wanted o (yielded ops a.tmps) = true := by
    have h4 : a.tmps[t]? = some (.bool c) := by
      rw [Array.getD_eq_getD_getElem?] at h2
      cases h5 : a.tmps[t]? with
      | none => rw [h5] at h2; simp [undef] at h2
      | some y => rw [h5] at h2; simpa using h2
    simp only [Region.wanted, hg, yielded, ht, Option.bind_some, h4]
    simpa using hne
  rw [if_neg hw, hd]
  exact hK _ _ (hk _ _ _ _ _ _ _ (hR.put (av := .tn) ⟨#[], rfl, trivial⟩) Q hQ)

theorem XL_skip2 {ops : Array Oper} {o : Oper} {rest : List Oper} {s : St} {J : St → Prop} {j t d : Nat} {b : Bool} (hg : o.guard = some (j, b)) (ht : (ops[j]?).bind (·.dst) = some t) (hb : s.get t = .tn)
    (hd : o.dst = some d) (hk : XL P ops rest (s.put d .tn) J) : XL P ops (o :: rest) s J := by
  intro B w0 ok0 ok σ a w hR Q hQ
  refine wpList_step fun K hK => ?_
  have h1 := hR.core.tmp t
  rw [hb] at h1
  obtain ⟨vs, h2, _⟩ := h1
  have hw : ¬ Region.wanted o (yielded ops a.tmps) = true := by
    have h4 : a.tmps[t]? = some (.tuple vs) ∨ a.tmps[t]? = none := by
      rw [Array.getD_eq_getD_getElem?] at h2
      cases h5 : a.tmps[t]? with
      | none => exact .inr rfl
      | some y => rw [h5] at h2; exact .inl (by simpa using h2)
    simp only [Region.wanted, hg, yielded, ht, Option.bind_some]
    rcases h4 with h4 | h4 <;> rw [h4] <;> simp
  rw [if_neg hw, hd]
  exact hK _ _ (hk _ _ _ _ _ _ _ (hR.put (av := .tn) ⟨#[], rfl, trivial⟩) Q hQ)

/-- What follows a piece of code that ends normally. -/
def thenA (J : St → Prop) (K : Exit → St → Prop) : Exit → St → Prop
  | .normal, s => J s
  | e, s => K e s
def inBlockA (id : Nat) (K : Exit → St → Prop) : Exit → St → Prop
  | .exit id', s => bif Nat.beq id' id then K .normal s else K (.exit id') s
  | e, s => K e s

theorem V_region {id : Nat} {ops : Array Oper} {s : St} {J : Exit → St → Prop} (h : XL P ops ops.toList s (J .normal)) : V P (.region id ops false) s J := by
  intro B w0 ok0 ok σ a w hR
  exact wp_region_list (h _ _ _ _ _ _ _ hR _ fun s' a' w' ok' σ' hJ hR' => ⟨s', ok', σ', hJ, hR'⟩)
theorem V_seq {x y : Code} {s : St} {J : Exit → St → Prop} (h : V P x s (thenA (fun s' => V P y s' J) J)) : V P (.seq x y) s J := by
  intro B w0 ok0 ok σ a w hR
  refine wp_seq (wp_mono (h _ _ _ _ _ _ _ hR) ?_)
  rintro e a' w' ⟨s', ok', σ', hJ, hR'⟩
  cases e with
  | normal => exact hJ _ _ _ _ _ _ _ hR'
  | exit id => exact ⟨s', ok', σ', hJ, hR'⟩
  | goto l => exact ⟨s', ok', σ', hJ, hR'⟩
  | ret => exact ⟨s', ok', σ', hJ, hR'⟩
  | panic ch => exact ⟨s', ok', σ', hJ, hR'⟩
  | outgrown => exact ⟨s', ok', σ', hJ, hR'⟩
theorem V_mono {c : Code} {s : St} {J J' : Exit → St → Prop} (h : V P c s J) (hJ : ∀ e s', J e s' → J' e s') : V P c s J' := by
  intro B w0 ok0 ok σ a w hR
  refine wp_mono (h _ _ _ _ _ _ _ hR) ?_
  rintro e a' w' ⟨s', ok', σ', h1, hR'⟩
  exact ⟨s', ok', σ', hJ _ _ h1, hR'⟩
/-- A sequence, cut at a state that is named. -/
theorem V_cut {x y : Code} {s : St} {J : Exit → St → Prop} (M : St → Prop) (h : V P x s (thenA M J)) (h2 : ∀ s', M s' → V P y s' J) : V P (.seq x y) s J :=
  V_seq (V_mono h fun e s' hh => by cases e <;> first | exact h2 _ hh | exact hh)
theorem eval_bool {ok : Nat → Prop} {σ : Nat → Loc} {s : St} {a : Act} {w : World} (h : Core ok σ s a w) {c : Operand} {b : Bool} (hc : s.ev c = .c (.v (.bool b))) : a.eval c = .bool b := by
  cases c with
  | tmp t =>
    have h1 := h.tmp t
    have hc' : s.get t = .c (.v (.bool b)) := hc
    rw [hc'] at h1
    have h3 : Rd ok w (.v (.bool b)) (a.tmps.getD t undef) := h1
    show a.tmps.getD t undef = _
    generalize a.tmps.getD t undef = y at *
    cases h3
    rfl
  | const v =>
    have h1 : evC v = .c (.v (.bool b)) := hc
    show v = _
    unfold evC at h1
    split at h1
    · cases h1
    · split at h1 <;> cases h1
    · cases h1
    · injection h1 with h2
      injection h2
  | global g => cases hc
  | func f =>
    have h1 : AV.c (.v (.func (.func f) #[] #[])) = .c (.v (.bool b)) := hc
    cases h1
theorem V_cond {c : Operand} {x y : Code} {s : St} {J : Exit → St → Prop} {b : Bool} (hc : s.ev c = .c (.v (.bool b))) (ht : b = true → V P x s J) (hf : b = false → V P y s J) : V P (.cond c x y) s J := by
  intro B w0 ok0 ok σ a w hR
  have he := eval_bool hR.core hc
  cases b with
  | true => exact wp_cond_true he (ht rfl _ _ _ _ _ _ _ hR)
  | false => exact wp_cond_false he (hf rfl _ _ _ _ _ _ _ hR)
theorem V_block {id : Nat} {c : Code} {s : St} {J : Exit → St → Prop} (h : V P c s (inBlockA id J)) : V P (.block id c) s J := by
  intro B w0 ok0 ok σ a w hR
  refine wp_block (wp_mono (h _ _ _ _ _ _ _ hR) ?_)
  rintro e a' w' ⟨s', ok', σ', hJ, hR'⟩
  cases e with
  | exit id' =>
    simp only [inBlockA] at hJ
    simp only [Exit.inBlock]
    by_cases hid : id' = id
    · rw [if_pos hid]
      have e : Nat.beq id' id = true := by rw [hid]; exact Nat.beq_refl id
      rw [e] at hJ
      exact ⟨s', ok', σ', hJ, hR'⟩
    · rw [if_neg hid]
      have e : Nat.beq id' id = false := by
        cases h : Nat.beq id' id with
        | false => rfl
        | true => exact absurd (Nat.eq_of_beq_eq_true h) hid
      rw [e] at hJ
      exact ⟨s', ok', σ', hJ, hR'⟩
  | normal => exact ⟨s', ok', σ', hJ, hR'⟩
  | goto l => exact ⟨s', ok', σ', hJ, hR'⟩
  | ret => exact ⟨s', ok', σ', hJ, hR'⟩
  | panic ch => exact ⟨s', ok', σ', hJ, hR'⟩
  | outgrown => exact ⟨s', ok', σ', hJ, hR'⟩
theorem V_skip {s : St} {J : Exit → St → Prop} (h : J .normal s) : V P .skip s J := fun _ _ _ ok σ _ _ hR => wp_skip ⟨s, ok, σ, h, hR⟩
theorem V_exit {id : Nat} {s : St} {J : Exit → St → Prop} (h : J (.exit id) s) : V P (.exit id) s J := fun _ _ _ ok σ _ _ hR => wp_exit ⟨s, ok, σ, h, hR⟩
theorem V_ret {s : St} {J : Exit → St → Prop} (h : J .ret s) : V P .ret s J := fun _ _ _ ok σ _ _ hR => wp_ret ⟨s, ok, σ, h, hR⟩
theorem V_label {l : Nat} {s : St} {J : Exit → St → Prop} (h : J .normal s) : V P (.label l) s J := fun _ _ _ ok σ _ _ hR => wp_label ⟨s, ok, σ, h, hR⟩
/-- A loop: an invariant that bears a number, which every round lowers. -/
theorem V_loop {c : Code} {s : St} {J : Exit → St → Prop} (I : Nat → St → Prop) (n : Nat) (h0 : I n s) (round : ∀ n s, I n s → V P c s (thenA (fun s' => ∃ m, m < n ∧ I m s') J)) : V P (.loop c) s J := by
  intro B w0 ok0 ok σ a w hR
  refine wp_loop_ghost (fun n a w => ∃ s ok σ, I n s ∧ R B w0 ok0 ok σ s a w) n ⟨s, ok, σ, h0, hR⟩ ?_
  rintro n a w ⟨s, ok, σ, hI, hR⟩
  refine wp_mono (round n s hI _ _ _ _ _ _ _ hR) ?_
  rintro e a' w' ⟨s', ok', σ', hJ, hR'⟩
  cases e with
  | normal =>
    obtain ⟨m, hm, hI'⟩ := hJ
    exact ⟨m, hm, s', ok', σ', hI', hR'⟩
  | exit id => exact ⟨s', ok', σ', hJ, hR'⟩
  | goto l => exact ⟨s', ok', σ', hJ, hR'⟩
  | ret => exact ⟨s', ok', σ', hJ, hR'⟩
  | panic ch => exact ⟨s', ok', σ', hJ, hR'⟩
  | outgrown => exact ⟨s', ok', σ', hJ, hR'⟩

/-- Less is known. -/
structure Le (s' s : St) : Prop where
  len : s'.T.length ≤ s.T.length
  get : ∀ t, s'.get t = .bot ∨ s'.get t = s.get t
  ent : ∀ id e, s'.ent id = some e → s.ent id = some e
theorem R.le {B : Fr} {w0 : World} {ok0 ok : Nat → Prop} {σ : Nat → Loc} {s s' : St} {a : Act} {w : World} (h : R B w0 ok0 ok σ s a w) (hl : Le s' s) : R B w0 ok0 ok σ s' a w := by
  refine ⟨⟨Nat.le_trans hl.len h.core.len, h.core.okL, h.core.lib, fun t => ?_, fun id e he => h.core.ent id e (hl.ent id e he), fun id e g he => h.core.blk id e g (hl.ent id e he), fun i j e f g hi hj => h.core.inj i j e f g (hl.ent _ _ hi) (hl.ent _ _ hj)⟩, h.defers, h.below, h.base, h.old, h.fresh, fun id e g he => h.own id e g (hl.ent id e he)⟩
  rcases hl.get t with h1 | h1
  · rw [h1]; trivial
  · rw [h1]; exact h.core.tmp t
theorem V_le {c : Code} {s s' : St} {J : Exit → St → Prop} (hl : Le s' s) (h : V P c s' J) : V P c s J := fun _ _ _ _ _ _ _ hR => h _ _ _ _ _ _ _ (hR.le hl)

end
end Go.Proofs.YtnheekadeflecaaGreat
