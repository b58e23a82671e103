/-
  Calls over trees.
  Conditions: none.
-/
import Derived.Test.YtnheekadeflecaaGreatShC
namespace Go.Proofs.YtnheekadeflecaaGreat
open Go.RowKit
set_option linter.unusedSimpArgs false
set_option linter.unusedVariables false

inductive RelA (ok : Nat → Prop) (σ : Nat → Loc) (w : World) : List AV → List Value → Prop
  | nil : RelA ok σ w [] []
  | cons {t x ts xs} (h : Rel ok σ w t x) (hs : RelA ok σ w ts xs) : RelA ok σ w (t :: ts) (x :: xs)
theorem RelA.len {ok : Nat → Prop} {σ : Nat → Loc} {w : World} {ts : List AV} {xs : List Value} (h : RelA ok σ w ts xs) : ts.length = xs.length := by
  induction h with
  | nil => rfl
  | cons h hs ih => simp [ih]
theorem RelA.get {ok : Nat → Prop} {σ : Nat → Loc} {w : World} {ts : List AV} {xs : List Value} (h : RelA ok σ w ts xs) : ∀ (j : Nat), Rel ok σ w ((ts[j]?).getD .bot) ((xs[j]?).getD undef) := by
  induction h with
  | nil => intro j; simp; trivial
  | cons h hs ih =>
    intro j
    cases j with
    | zero => simpa using h
    | succ j => simpa using ih j

section
variable (P : Program)
/-- What a function does, said by trees alone. -/
def CallS (f : FuncId) (args : List AV) (av : AV) (ne : List (Nat × Ent)) : Prop :=
  ∀ ok σ w vs, (∀ g, ok g → g < w.heap.size) → Lb ok w → RelA ok σ w args vs → Calls P f vs.toArray w (fun e w' => ∃ v ok' σ', e = .returned v ∧ New w w' ok ok' σ' av ne v)
variable {P}

def out1 (s : St) (k t : Nat) : AV × List (Nat × Ent) :=
  match s.get t with
  | .ow id => match s.ent id with
    | some (.arr e sz els) => (.ow k, [(k, .arr e sz els)])
    | _ => (.bot, [])
  | .c x => (.c x, [])
  | .ag cs => (.ag cs, [])
  | .pe cs => (.pe cs, [])
  | _ => (.bot, [])
def outs (s : St) : Nat → List Nat → AV × List (Nat × Ent)
  | _, [] => (.tn, [])
  | k, t :: ts => (.tc (out1 s k t).1 (outs s (k + 1) ts).1, (out1 s k t).2 ++ (outs s (k + 1) ts).2)
def outAll (s : St) : List Nat → AV × List (Nat × Ent)
  | [t] => out1 s 0 t
  | ts => outs s 0 ts
def owns (s : St) : List Nat → List Nat
  | [] => []
  | t :: ts => match s.get t with
    | .ow id => id :: owns s ts
    | _ => owns s ts
def nodup : List Nat → Bool
  | [] => true
  | x :: xs => !xs.contains x && nodup xs

theorem look_one (k j : Nat) (e f : Ent) (h : [(k, e)].lookup j = some f) : j = k ∧ e = f := by
  simp only [List.lookup] at h
  cases hj : (j == k) with
  | true => rw [hj] at h; exact ⟨by simpa using hj, by simpa using h⟩
  | false => rw [hj] at h; cases h


def loc0 : Loc := ⟨none, 0, 0⟩
def outσ (σ : Nat → Loc) (s : St) (k0 : Nat) (ts : List Nat) (k : Nat) : Loc :=
  match ts[k - k0]? with
  | some t => match s.get t with
    | .ow id => σ id
    | _ => loc0
  | none => loc0



theorem out1_rel {ok : Nat → Prop} {σ σ' : Nat → Loc} {s : St} {a : Act} {w : World} (h : Core ok σ s a w) (k t : Nat) (hσ : ∀ id, s.get t = .ow id → σ' k = σ id) : Rel1 ok σ' w (out1 s k t).1 (a.tmps.getD t undef) := by
  have h1 := h.tmp t
  unfold out1
  cases hg : s.get t with
  | ow id =>
    rw [hg] at h1
    cases he : s.ent id with
    | none => simp only [he]; trivial
    | some e =>
      cases e with
      | arr T sz els =>
        simp only [he]
        show _ = _
        rw [hσ id hg]
        exact h1
      | _ => simp only [he]; trivial
  | c x => rw [hg] at h1; exact h1
  | ag cs => rw [hg] at h1; exact h1
  | pe cs => rw [hg] at h1; exact h1
  | fn f caps => trivial
  | er b => trivial
  | vw id es m => trivial
  | sf id z i => trivial
  | bot => trivial
  | pt id o => trivial
  | po id z i o => trivial
  | tn => trivial
  | tc x r => trivial
theorem out1_tup (s : St) (k t : Nat) (ok : Nat → Prop) (σ : Nat → Loc) (w : World) (v : Value) (h : Rel1 ok σ w (out1 s k t).1 v) : Rel ok σ w (out1 s k t).1 v := by
  unfold out1 at *
  cases hg : s.get t with
  | ow id =>
    rw [hg] at h
    cases he : s.ent id with
    | none => simp only [he]; trivial
    | some e => cases e <;> (simp only [he] at h ⊢; exact h)
  | c x => rw [hg] at h; exact h
  | ag cs => rw [hg] at h; exact h
  | pe cs => rw [hg] at h; exact h
  | fn f caps => trivial
  | er b => trivial
  | vw id es m => trivial
  | sf id z i => trivial
  | bot => trivial
  | pt id o => trivial
  | po id z i o => trivial
  | tn => trivial
  | tc x r => trivial
theorem out1_ment (s : St) (k t : Nat) (hk : k < 8) (e : Nat) (he : e ≠ 0) : (out1 s k t).1.ment e = false := by
  unfold out1
  cases hg : s.get t with
  | ow id =>
    cases hq : s.ent id with
    | none => simp only [hq]; rfl
    | some q =>
      cases q with
      | arr T sz els =>
        simp only [hq]
        show (k / 8 == e) = false
        rw [beq_eq_false_iff_ne]
        omega
      | _ => simp only [hq]; rfl
  | _ => rfl
theorem out1_look (s : St) (k t : Nat) (id : Nat) (e : Ent) (h : (out1 s k t).2.lookup id = some e) : id = k ∧ ∃ j, s.get t = .ow j ∧ s.ent j = some e ∧ e.pin = false := by
  unfold out1 at h
  cases hg : s.get t with
  | ow j =>
    rw [hg] at h
    cases hq : s.ent j with
    | none => simp [hq] at h
    | some q =>
      cases q with
      | arr T sz els =>
        simp only [hq] at h
        obtain ⟨h1, h2⟩ := look_one _ _ _ _ h
        subst h2
        exact ⟨h1, j, rfl, hq, rfl⟩
      | _ => simp [hq] at h
  | _ => rw [hg] at h; simp at h
theorem outs_rel {ok : Nat → Prop} {σ σ' : Nat → Loc} {s : St} {a : Act} {w : World} (h : Core ok σ s a w) : ∀ (ts : List Nat) (k : Nat), (∀ j t id, ts[j]? = some t → s.get t = .ow id → σ' (k + j) = σ id) →
    RelL ok σ' w (outs s k ts).1 (ts.map fun t => a.tmps.getD t undef)
  | [], _, _ => trivial
  | t :: ts, k, hσ => ⟨out1_rel h k t fun id hg => by simpa using hσ 0 t id rfl hg, outs_rel h ts (k + 1) fun j u id hu hg => by
      have := hσ (j + 1) u id (by simpa using hu) hg
      rw [show k + 1 + j = k + (j + 1) by omega]
      exact this⟩
theorem outs_ment (s : St) : ∀ (ts : List Nat) (k : Nat), k + ts.length ≤ 8 → ∀ e, e ≠ 0 → (outs s k ts).1.ment e = false
  | [], _, _, _, _ => rfl
  | t :: ts, k, hk, e, he => by
    simp only [List.length_cons] at hk
    simp only [outs, AV.ment, out1_ment s k t (by omega) e he, outs_ment s ts (k + 1) (by omega) e he, Bool.or_self]
theorem outs_look (s : St) : ∀ (ts : List Nat) (k id : Nat) (e : Ent), (outs s k ts).2.lookup id = some e → k ≤ id ∧ id < k + ts.length ∧ ∃ t j, ts[id - k]? = some t ∧ s.get t = .ow j ∧ s.ent j = some e ∧ e.pin = false
  | [], k, id, e, h => by simp [outs] at h
  | t :: ts, k, id, e, h => by
    simp only [outs, look_app] at h
    cases h1 : (out1 s k t).2.lookup id with
    | some f =>
      rw [h1] at h
      injection h with h
      subst h
      obtain ⟨e1, j, h2, h3⟩ := out1_look s k t id f h1
      subst e1
      exact ⟨Nat.le_refl _, by simp, t, j, by simp, h2, h3⟩
    | none =>
      rw [h1] at h
      obtain ⟨a1, a2, u, j, a3, a4⟩ := outs_look s ts (k + 1) id e h
      refine ⟨by omega, by simp; omega, u, j, ?_, a4⟩
      rw [show id - k = (id - (k + 1)) + 1 by omega]
      simpa using a3
theorem owns_mem (s : St) : ∀ (ts : List Nat) (j t id : Nat), ts[j]? = some t → s.get t = .ow id → id ∈ owns s ts
  | [], j, t, id, h, _ => by simp at h
  | u :: ts, 0, t, id, h, hg => by
    simp at h
    subst h
    simp [owns, hg]
  | u :: ts, j + 1, t, id, h, hg => by
    have := owns_mem s ts j t id (by simpa using h) hg
    unfold owns
    split
    · exact List.mem_cons_of_mem _ this
    · exact this
theorem owns_inj (s : St) : ∀ (ts : List Nat), nodup (owns s ts) = true → ∀ (i j t u id : Nat), ts[i]? = some t → ts[j]? = some u → s.get t = .ow id → s.get u = .ow id → i = j
  | [], _, i, j, t, u, id, h, _, _, _ => by simp at h
  | x :: ts, hn, i, j, t, u, id, hi, hj, gt, gu => by
    have hn2 : nodup (owns s ts) = true := by
      unfold owns at hn
      split at hn
      · simp only [nodup, Bool.and_eq_true] at hn
        exact hn.2
      · exact hn
    cases i with
    | zero =>
      cases j with
      | zero => rfl
      | succ j =>
        simp at hi
        subst hi
        exfalso
        have hm := owns_mem s ts j u id (by simpa using hj) gu
        simp only [owns, gt, nodup, Bool.and_eq_true, Bool.not_eq_true', List.contains_eq_mem, decide_eq_false_iff_not] at hn
        exact hn.1 hm
    | succ i =>
      cases j with
      | zero =>
        simp at hj
        subst hj
        exfalso
        have hm := owns_mem s ts i t id (by simpa using hi) gt
        simp only [owns, gu, nodup, Bool.and_eq_true, Bool.not_eq_true', List.contains_eq_mem, decide_eq_false_iff_not] at hn
        exact hn.1 hm
      | succ j =>
        have := owns_inj s ts hn2 i j t u id (by simpa using hi) (by simpa using hj) gt gu
        omega

theorem outσ_at {σ : Nat → Loc} {s : St} {ts : List Nat} {k j t id : Nat} (h : ts[j]? = some t) (hg : s.get t = .ow id) : outσ σ s k ts (k + j) = σ id := by
  unfold outσ
  rw [show k + j - k = j by omega, h]
  simp only [hg]

theorem new_of_out {w0 : World} {ok0 ok : Nat → Prop} {σ : Nat → Loc} {s : St} {a : Act} {w : World} (hR : R ⟨w0.heap.size, fun _ => False⟩ w0 ok0 ok σ s a w) (ts : List Nat) (hl : ts.length ≤ 8) (hd : nodup (owns s ts) = true) (av : AV) (v : Value)
    (hrel : Rel ok (outσ σ s 0 ts) w av v) (hm : ∀ e, e ≠ 0 → av.ment e = false) (ne : List (Nat × Ent)) (hne : ∀ id e, ne.lookup id = some e → (outs s 0 ts).2.lookup id = some e) :
    New w0 w ok0 ok (outσ σ s 0 ts) av ne v := by
  have look : ∀ id e, ne.lookup id = some e → id < 8 ∧ ∃ t j, ts[id]? = some t ∧ s.get t = .ow j ∧ s.ent j = some e ∧ outσ σ s 0 ts id = σ j ∧ e.pin = false := by
    intro id e he
    obtain ⟨_, h2, t, j, h3, h4, h5, h7⟩ := outs_look s ts 0 id e (hne id e he)
    have h6 := outσ_at (σ := σ) (k := 0) h3 h4
    rw [show 0 + (id - 0) = id by omega] at h6
    exact ⟨by omega, t, j, h3, h4, h5, h6, h7⟩
  refine ⟨hR.below.to, hR.old, hR.fresh, hR.core.okL, hrel, fun id e he => (look id e he).1, hm, fun id e he => ?_, fun id e g he hg => ?_, fun i j e f g hi hj h1 h2 => ?_, fun id e he => (look id e he).2.choose_spec.choose_spec.2.2.2.2⟩
  · obtain ⟨_, t, j, h3, h4, h5, h6, h7⟩ := look id e he
    rw [h6]
    exact hR.core.ent j e h5
  · obtain ⟨_, t, j, h3, h4, h5, h6, h7⟩ := look id e he
    rw [h6] at hg
    have h8 := hR.own j e g h5 hg
    rw [if_neg (by rw [h7]; decide)] at h8
    exact ⟨h8, hR.core.blk j e g h5 hg⟩
  · obtain ⟨_, t, p, a3, a4, a5, a6, _⟩ := look i e hi
    obtain ⟨_, u, q, b3, b4, b5, b6, _⟩ := look j f hj
    rw [a6] at h1
    rw [b6] at h2
    have e1 := hR.core.inj p q e f g a5 b5 h1 h2
    subst e1
    exact owns_inj s ts hd i j t u p a3 b3 a4 b4

def slots (ts : List Nat) : Array ResultVar := (ts.map ResultVar.tmp).toArray
theorem results_one {fn : Func} {t : Nat} (h : fn.results = slots [t]) (tmps : Array Value) (w : World) : (results fn tmps).run P w = .ok (tmps.getD t undef) w := by
  simp [results, h, slots]
theorem mapM_slots (tmps : Array Value) (w : World) : ∀ (ts : List Nat), ((ts.map ResultVar.tmp).mapM (m := Sem) fun | .tmp t => pure (tmps.getD t undef) | .cell a t => do loadVar t (← asAddr (tmps.getD a undef))).run P w = .ok (ts.map fun t => tmps.getD t undef) w
  | [] => by simp
  | t :: ts => by
    have ih := mapM_slots tmps w ts
    rw [List.map_cons, List.mapM_cons]
    simp only [Sem.run_bind, Sem.run_pure, Result.andThen_ok, ih, List.map_cons]
theorem results_many {fn : Func} {ts : List Nat} (h : fn.results = slots ts) (h1 : ts.length ≠ 1) (tmps : Array Value) (w : World) : (results fn tmps).run P w = .ok (.tuple (ts.map fun t => tmps.getD t undef).toArray) w := by
  have hm := mapM_slots (P := P) tmps w ts
  have h2 : ¬ (ts.map fun t => tmps.getD t undef).toArray.size = 1 := by simpa using h1
  unfold results
  rw [h]
  unfold slots
  simp only [List.mapM_toArray]
  rw [Sem.run_bind]
  have e : ∀ {α β : Type} (f : α → β) (x : Sem α), (f <$> x) = (x >>= fun y => pure (f y)) := fun _ _ => rfl
  rw [e, Sem.run_bind]
  refine (congrArg (fun r => Result.andThen (Result.andThen r _) _) hm).trans ?_
  simp only [Result.andThen_ok, Sem.run_pure]
  rw [dif_neg h2]

theorem rel_of_rel1 {ok : Nat → Prop} {σ : Nat → Loc} {w : World} {av : AV} {v : Value} (h : Rel1 ok σ w av v) : Rel ok σ w av v := by
  cases av with
  | tn => exact h.elim
  | tc x r => exact h.elim
  | _ => exact h
theorem RelA.init {ok : Nat → Prop} {σ : Nat → Loc} {w : World} {args : List AV} {vs : List Value} (h : RelA ok σ w args vs) (n t : Nat) :
    Rel ok σ w (St.get ⟨args ++ List.replicate (n - args.length) .bot, []⟩ t) ((vs.toArray ++ Array.replicate (n - vs.toArray.size) undef).getD t undef) := by
  unfold St.get
  by_cases ht : t < args.length
  · have h1 := h.get t
    have hv : t < vs.length := by rw [← h.len]; exact ht
    rw [List.getElem?_append_left ht]
    simpa [Array.getElem?_append, hv] using h1
  · rw [List.getElem?_append_right (by omega), List.getElem?_replicate]
    split <;> exact trivial

/-- A function, from its text. -/
theorem CallS_of_V {f : FuncId} {fn : Func} {c : Code} {args : List AV} {av : AV} {ne : List (Nat × Ent)} {ts : List Nat} (hf : P.funcs[f]? = some fn) (hb : fn.body = some c) (hts : fn.results = slots ts) (hl : ts.length ≤ 8) (n : Nat) (hn : fn.ntmps = n)
    (h : V P c ⟨args ++ List.replicate (n - args.length) .bot, []⟩ (fun e s => (e = .normal ∨ e = .ret) ∧ nodup (owns s ts) = true ∧ outAll s ts = (av, ne))) : CallS P f args av ne := by
  intro ok σ w vs hok hlib hargs
  refine calls_of_wp hf hb ?_
  subst hn
  have hR : R ⟨w.heap.size, fun _ => False⟩ w ok ok σ ⟨args ++ List.replicate (fn.ntmps - args.length) .bot, []⟩ { tmps := vs.toArray ++ Array.replicate (fn.ntmps - vs.toArray.size) undef, defers := [] } w := by
    refine ⟨⟨?_, hok, hlib, fun t => hargs.init fn.ntmps t, fun id e he => ?_, fun id e g he => ?_, fun i j e f g he => ?_⟩, rfl, BelowX.refl _ _, Nat.le_refl _, fun g hg => hg, fun g hg => .inl hg, fun id e g he => ?_⟩
    · simp [hargs.len]
    all_goals
      simp [St.ent] at he
  refine wp_mono (h _ _ _ _ _ _ _ hR) ?_
  rintro e a' w' ⟨s', ok', σ', ⟨he, hd, ho⟩, hR'⟩
  have fin : ∃ v, (results fn a'.tmps).run P w' = .ok v w' ∧ New w w' ok ok' (outσ σ' s' 0 ts) av ne v := by
    by_cases h1 : ts.length = 1
    · match ts, h1 with
      | [t], _ =>
        refine ⟨_, results_one hts _ _, ?_⟩
        have h2 : out1 s' 0 t = (av, ne) := ho
        refine new_of_out hR' [t] hl hd av _ ?_ ?_ ne ?_
        · have h3 := out1_rel (σ' := outσ σ' s' 0 [t]) hR'.core 0 t (fun id hg => outσ_at (ts := [t]) (k := 0) (j := 0) rfl hg)
          rw [h2] at h3
          exact rel_of_rel1 h3
        · intro e he
          have h3 := out1_ment s' 0 t (by omega) e he
          rw [h2] at h3
          exact h3
        · intro id e he
          have h3 : (out1 s' 0 t).2.lookup id = some e := by rw [h2]; exact he
          show ((out1 s' 0 t).2 ++ []).lookup id = some e
          rw [List.append_nil]
          exact h3
    · have h2 : outs s' 0 ts = (av, ne) := by
        rw [← ho]
        match ts, h1 with
        | [], _ => rfl
        | _ :: _ :: _, _ => rfl
      refine ⟨_, results_many hts h1 _ _, ?_⟩
      refine new_of_out hR' ts hl hd av _ ?_ ?_ ne ?_
      · have h3 := outs_rel (σ' := outσ σ' s' 0 ts) hR'.core ts 0 (fun j t id hj hg => outσ_at hj hg)
        rw [h2] at h3
        have h4 : av = (outs s' 0 ts).1 := by rw [h2]
        cases ts with
        | nil =>
          have h5 : av = .tn := h4
          subst h5
          exact ⟨_, rfl, by simpa using h3⟩
        | cons t ts =>
          have h5 : av = .tc (out1 s' 0 t).1 (outs s' 1 ts).1 := h4
          rw [h5] at h3 ⊢
          exact ⟨_, rfl, by simpa using h3⟩
      · intro e he
        have h3 := outs_ment s' ts 0 (by omega) e he
        rw [h2] at h3
        exact h3
      · intro id e he
        rw [h2]
        exact he
  obtain ⟨v, h1, h2⟩ := fin
  have : bodyPost P fn (fun e w' => ∃ v ok' σ', e = .returned v ∧ New w w' ok ok' σ' av ne v) .ret a' w' := ⟨hR'.defers, v, h1, v, ok', _, rfl, h2⟩
  rcases he with rfl | rfl
  · exact this
  · exact this

end
end Go.Proofs.YtnheekadeflecaaGreat
