/-
  Results of a function over trees.
  Conditions: none.
-/
import Derived.Test.YtnheekadeflecaaGreatShP
namespace Go.Proofs.YtnheekadeflecaaGreat
open Go.RowKit
set_option linter.unusedSimpArgs false
set_option linter.unusedVariables false

section
variable {P : Program}

/-! ### Results that lie in slots or in variables -/
inductive RS where
  | t (x : Nat)
  | w (x n : Nat)
def Fits (P : Program) : RS → ResultVar → Prop
  | .t x, .tmp y => x = y
  | .w x n, .cell y ty => x = y ∧ wide P ty n
  | _, _ => False
inductive FitsL (P : Program) : List RS → List ResultVar → Prop
  | nil : FitsL P [] []
  | cons {r v rs vs} (h : Fits P r v) (hs : FitsL P rs vs) : FitsL P (r :: rs) (v :: vs)
def okS (s : St) : RS → Bool
  | .t _ => true
  | .w x n => match memCells s (s.get x) with
    | some cs => decide (n ≤ cs.length)
    | none => false
def okSL (s : St) : List RS → Bool
  | [] => true
  | r :: rs => okS s r && okSL s rs
def outS (s : St) (k : Nat) : RS → AV × List (Nat × Ent)
  | .t x => out1 s k x
  | .w x n => match memCells s (s.get x) with
    | some cs => (.ag (cs.take n), [])
    | none => (.bot, [])
def outsS (s : St) : Nat → List RS → AV × List (Nat × Ent)
  | _, [] => (.tn, [])
  | k, r :: rs => (.tc (outS s k r).1 (outsS s (k + 1) rs).1, (outS s k r).2 ++ (outsS s (k + 1) rs).2)
def outAllS (s : St) : List RS → AV × List (Nat × Ent)
  | [r] => outS s 0 r
  | rs => outsS s 0 rs
def slotsS : List RS → List Nat
  | [] => []
  | .t x :: rs => x :: slotsS rs
  | .w x _ :: rs => x :: slotsS rs
/-- the own rows that are handed back, by their places -/
def ownsS (s : St) : List RS → List Nat
  | [] => []
  | .t x :: rs => (match s.get x with
    | .ow id => id :: ownsS s rs
    | _ => ownsS s rs)
  | .w _ _ :: rs => ownsS s rs
def locS (σ : Nat → Loc) (s : St) : RS → Loc
  | .t x => match s.get x with
    | .ow id => σ id
    | _ => loc0
  | .w _ _ => loc0
def outσS (σ : Nat → Loc) (s : St) (rs : List RS) (k : Nat) : Loc :=
  match rs[k]? with
  | some r => locS σ s r
  | none => loc0
def resOne (tmps : Array Value) : ResultVar → Sem Value
  | .tmp t => pure (tmps.getD t undef)
  | .cell a t => do loadVar t (← asAddr (tmps.getD a undef))
inductive RunAll (P : Program) (tmps : Array Value) (w : World) : List ResultVar → List Value → Prop
  | nil : RunAll P tmps w [] []
  | cons {r v rs vs} (h : (resOne tmps r).run P w = .ok v w) (hs : RunAll P tmps w rs vs) : RunAll P tmps w (r :: rs) (v :: vs)
theorem RunAll.run {tmps : Array Value} {w : World} {rs : List ResultVar} {vs : List Value} (h : RunAll P tmps w rs vs) : (rs.mapM (resOne tmps)).run P w = .ok vs w := by
  induction h with
  | nil => simp
  | cons h hs ih =>
    rw [List.mapM_cons]
    simp only [Sem.run_bind, Sem.run_pure, Result.andThen_ok, h, ih]
theorem RunAll.len {tmps : Array Value} {w : World} {rs : List ResultVar} {vs : List Value} (h : RunAll P tmps w rs vs) : rs.length = vs.length := by
  induction h with
  | nil => rfl
  | cons h hs ih => simp [ih]
theorem results_run {fn : Func} {rs : List ResultVar} {vs : List Value} {tmps : Array Value} {w : World} (h : fn.results = rs.toArray) (hr : RunAll P tmps w rs vs) : (results fn tmps).run P w = .ok (if h : vs.length = 1 then vs[0] else .tuple vs.toArray) w := by
  unfold results
  rw [h]
  simp only [List.mapM_toArray]
  rw [Sem.run_bind]
  have e : ∀ {α β : Type} (f : α → β) (x : Sem α), (f <$> x) = (x >>= fun y => pure (f y)) := fun _ _ => rfl
  rw [e, Sem.run_bind]
  refine (congrArg (fun r => Result.andThen (Result.andThen r _) _) hr.run).trans ?_
  simp only [Result.andThen_ok, Sem.run_pure]
  congr 1
theorem res_all {ok : Nat → Prop} {σ : Nat → Loc} {s : St} {a : Act} {w : World} (h : Core ok σ s a w) {σ' : Nat → Loc} : ∀ {rs : List RS} {vs : List ResultVar} (k : Nat), FitsL P rs vs → okSL s rs = true → (∀ (j : Nat) r, rs[j]? = some r → σ' (k + j) = locS σ s r) →
    ∃ xs, RunAll P a.tmps w vs xs ∧ RelL ok σ' w (outsS s k rs).1 xs
  | [], _, k, .nil, _, _ => ⟨[], .nil, trivial⟩
  | .t x :: rs, _, k, .cons (v := .tmp y) hf hs, hok, hσ => by
    obtain rfl : x = y := hf
    obtain ⟨xs, h1, h2⟩ := res_all h (k + 1) hs (by simpa [okSL, okS] using hok) (fun j r hj => by
      have := hσ (j + 1) r (by simpa using hj)
      rw [show k + 1 + j = k + (j + 1) by omega]
      exact this)
    refine ⟨a.tmps.getD x undef :: xs, .cons (by simp [resOne]) h1, ?_, h2⟩
    refine out1_rel h k x fun id hg => ?_
    have h3 := hσ 0 (.t x) rfl
    simp only [locS, hg] at h3
    exact h3
  | .w x n :: rs, _, k, .cons (v := .cell y ty) hf hs, hok, hσ => by
    obtain ⟨rfl, hwd⟩ := hf
    simp only [okSL, okS, Bool.and_eq_true] at hok
    obtain ⟨xs, h1, h2⟩ := res_all h (k + 1) hs hok.2 (fun j r hj => by
      have := hσ (j + 1) r (by simpa using hj)
      rw [show k + 1 + j = k + (j + 1) by omega]
      exact this)
    cases hm : memCells s (s.get x) with
    | none => rw [hm] at hok; simp at hok
    | some cs =>
      rw [hm] at hok
      have hn : n ≤ cs.length := by simpa using hok.1
      obtain ⟨g, off, h3, h4⟩ := mem_read h (h.tmp x) hm
      obtain ⟨us, h5, h6⟩ := exists_vals g off (cs.take n) 0 fun j c hj => by
        have := h4 j c (by
          rw [List.getElem?_take] at hj
          split at hj
          · exact hj
          · cases hj)
        simpa using this
      have hl : us.length = n := by rw [← h5.len]; simp; omega
      have h7 := run_loadVarN (P := P) hwd (g := g) (off := off) hl (fun j u hu => by simpa using h6 j u hu)
      refine ⟨.agg us.toArray :: xs, .cons ?_ h1, ?_, h2⟩
      · simp only [resOne, h3, asAddr, Sem.run_bind, Sem.run_pure, Result.andThen_ok, h7]
      · simp only [outS, hm]
        exact ⟨_, rfl, by simpa using h5⟩
theorem outsS_ment (s : St) : ∀ (rs : List RS) (k : Nat), k + rs.length ≤ 8 → ∀ e, e ≠ 0 → (outsS s k rs).1.ment e = false
  | [], _, _, _, _ => rfl
  | r :: rs, k, hk, e, he => by
    simp only [List.length_cons] at hk
    have h1 : (outS s k r).1.ment e = false := by
      cases r with
      | t x => exact out1_ment s k x (by omega) e he
      | w x n =>
        simp only [outS]
        cases memCells s (s.get x) <;> rfl
    simp only [outsS, AV.ment, h1, outsS_ment s rs (k + 1) (by omega) e he, Bool.or_self]
theorem outsS_look (s : St) : ∀ (rs : List RS) (k id : Nat) (e : Ent), (outsS s k rs).2.lookup id = some e → k ≤ id ∧ id < k + rs.length ∧ ∃ x j, rs[id - k]? = some (.t x) ∧ s.get x = .ow j ∧ s.ent j = some e ∧ e.pin = false
  | [], k, id, e, h => by simp [outsS] at h
  | r :: rs, k, id, e, h => by
    simp only [outsS, look_app] at h
    cases h1 : (outS s k r).2.lookup id with
    | some f =>
      rw [h1] at h
      injection h with h
      subst h
      cases r with
      | t x =>
        obtain ⟨e1, j, h2, h3⟩ := out1_look s k x id f h1
        subst e1
        exact ⟨Nat.le_refl _, by simp, x, j, by simp, h2, h3⟩
      | w x n =>
        simp only [outS] at h1
        cases hm : memCells s (s.get x) <;> simp [hm] at h1
    | none =>
      rw [h1] at h
      obtain ⟨a1, a2, u, j, a3, a4⟩ := outsS_look s rs (k + 1) id e h
      refine ⟨by omega, by simp; omega, u, j, ?_, a4⟩
      rw [show id - k = (id - (k + 1)) + 1 by omega]
      simpa using a3
theorem ownsS_mem (s : St) : ∀ (rs : List RS) (j x id : Nat), rs[j]? = some (.t x) → s.get x = .ow id → id ∈ ownsS s rs
  | [], j, x, id, h, _ => by simp at h
  | r :: rs, 0, x, id, h, hg => by
    simp at h
    subst h
    simp [ownsS, hg]
  | .t y :: rs, j + 1, x, id, h, hg => by
    have := ownsS_mem s rs j x id (by simpa using h) hg
    unfold ownsS
    split
    · exact List.mem_cons_of_mem _ this
    · exact this
  | .w y n :: rs, j + 1, x, id, h, hg => ownsS_mem s rs j x id (by simpa using h) hg
theorem ownsS_inj (s : St) : ∀ (rs : List RS), nodup (ownsS s rs) = true → ∀ (i j x y id : Nat), rs[i]? = some (.t x) → rs[j]? = some (.t y) → s.get x = .ow id → s.get y = .ow id → i = j
  | [], _, i, j, x, y, id, h, _, _, _ => by simp at h
  | r :: rs, hn, i, j, x, y, id, hi, hj, gx, gy => by
    have hn2 : nodup (ownsS s rs) = true := by
      cases r with
      | w z n => exact hn
      | t z =>
        unfold ownsS at hn
        split at hn
        · simp only [nodup, Bool.and_eq_true] at hn
          exact hn.2
        · exact hn
    have clash : ∀ (k z : Nat), r = .t z → s.get z = .ow id → ∀ u, rs[k]? = some (.t u) → s.get u = .ow id → False := by
      intro k z hr hz u hu hgu
      subst hr
      have hm := ownsS_mem s rs k u id hu hgu
      simp only [ownsS, hz, nodup, Bool.and_eq_true, Bool.not_eq_true', List.contains_eq_mem, decide_eq_false_iff_not] at hn
      exact hn.1 hm
    cases i with
    | zero =>
      cases j with
      | zero => rfl
      | succ j => exact (clash j x (by simpa using hi) gx y (by simpa using hj) gy).elim
    | succ i =>
      cases j with
      | zero => exact (clash i y (by simpa using hj) gy x (by simpa using hi) gx).elim
      | succ j =>
        have := ownsS_inj s rs hn2 i j x y id (by simpa using hi) (by simpa using hj) gx gy
        omega
def Post (rs : List RS) (av : AV) (ne : List (Nat × Ent)) (e : Exit) (s : St) : Prop := (e = .normal ∨ e = .ret) ∧ nodup (ownsS s rs) = true ∧ okSL s rs = true ∧ outAllS s rs = (av, ne)
/-- What a call brings that may write what was handed in. -/
structure NewX (B : Fr) (w w' : World) (ok ok' : Nat → Prop) (σ' : Nat → Loc) (av : AV) (ne : List (Nat × Ent)) (v : Value) : Prop where
  below : BelowX B w w'
  okM : ∀ g, ok g → ok' g
  okN : ∀ g, ok' g → ok g ∨ w.heap.size ≤ g
  okL : ∀ g, ok' g → g < w'.heap.size
  rel : Rel ok' σ' w' av v
  keys : ∀ id e, ne.lookup id = some e → id < 8
  ids : ∀ e, e ≠ 0 → av.ment e = false
  ent : ∀ id e, ne.lookup id = some e → EntOk ok' w' (σ' id) e
  blk : ∀ id e g, ne.lookup id = some e → (σ' id).blk = some g → w.heap.size ≤ g ∧ ¬ ok' g ∧ g < w'.heap.size
  inj : ∀ i j e f g, ne.lookup i = some e → ne.lookup j = some f → (σ' i).blk = some g → (σ' j).blk = some g → i = j
  np : ∀ id e, ne.lookup id = some e → e.pin = false
def Ent.pinned (l : Loc) : Ent → Ent
  | .box cs => .pbox l cs
  | .arr T sz els => .parr l T sz els
  | e => e
def pinE (σ : Nat → Loc) : List (Nat × Ent) → List (Nat × Ent)
  | [] => []
  | (k, e) :: ps => (k, e.pinned (σ k)) :: pinE σ ps
theorem pinE_look (σ : Nat → Loc) : ∀ (E : List (Nat × Ent)) (id : Nat), (pinE σ E).lookup id = (E.lookup id).map (Ent.pinned (σ id))
  | [], id => rfl
  | (k, e) :: ps, id => by
    simp only [pinE, List.lookup]
    cases h : id == k with
    | true =>
      have : id = k := by simpa using h
      subst this
      rfl
    | false => exact pinE_look σ ps id
theorem pinned_ok {ok : Nat → Prop} {w : World} {l : Loc} {e : Ent} (h : EntOk ok w l e) (hp : e.plain = true) : EntOk ok w l (e.pinned l) := by
  cases e with
  | box cs => exact ⟨rfl, h⟩
  | arr T sz els => exact ⟨rfl, h⟩
  | pbox l0 cs => cases hp
  | parr l0 T sz els => cases hp
  | mp b kvs => cases hp
  | qarr l0 T sz els => cases hp
theorem pinned_un {ok : Nat → Prop} {w : World} {l l0 : Loc} {e : Ent} (h : EntOk ok w l (e.pinned l0)) (hp : e.plain = true) : l = l0 ∧ EntOk ok w l e := by
  cases e with
  | box cs => exact h
  | arr T sz els => exact h
  | pbox l1 cs => cases hp
  | parr l1 T sz els => cases hp
  | mp b kvs => cases hp
  | qarr l0 T sz els => cases hp
theorem pinned_pin {l : Loc} {e : Ent} (hp : e.plain = true) : (e.pinned l).pin = true := by
  cases e with
  | box cs => rfl
  | arr T sz els => rfl
  | pbox l0 cs => cases hp
  | parr l0 T sz els => cases hp
  | mp b kvs => cases hp
  | qarr l0 T sz els => cases hp
def exOf (σ : Nat → Loc) (E0 : List (Nat × Ent)) (g : Nat) : Prop := ∃ id e, E0.lookup id = some e ∧ (σ id).blk = some g
structure Held (ok : Nat → Prop) (σ : Nat → Loc) (w : World) (E0 : List (Nat × Ent)) : Prop where
  ent : ∀ id e, E0.lookup id = some e → EntOk ok w (σ id) e ∧ e.plain = true
  blk : ∀ id e g, E0.lookup id = some e → (σ id).blk = some g → ¬ ok g ∧ g < w.heap.size
  inj : ∀ i j e f g, E0.lookup i = some e → E0.lookup j = some f → (σ i).blk = some g → (σ j).blk = some g → i = j
/-- What a function does that may write variables and rows that are handed in. -/
def CallR (P : Program) (f : FuncId) (args : List AV) (E0 : List (Nat × Ent)) (av : AV) (ne E1 : List (Nat × Ent)) : Prop :=
  ∀ ok σ w vs, (∀ g, ok g → g < w.heap.size) → Lb ok w → RelA ok σ w args vs → Held ok σ w E0 → Calls P f vs.toArray w (fun e w' => ∃ v ok' σ', e = .returned v ∧ NewX ⟨w.heap.size, exOf σ E0⟩ w w' ok ok' σ' av ne v ∧ ∀ id e, E1.lookup id = some e → EntOk ok' w' (σ id) e)
def HasE (s : St) : List (Nat × Ent) → Prop
  | [] => True
  | (k, e) :: ps => s.ent k = some e ∧ HasE s ps
theorem HasE_look (s : St) : ∀ (E : List (Nat × Ent)) (id : Nat) (e : Ent), HasE s E → E.lookup id = some e → s.ent id = some e
  | [], id, e, _, h => by simp at h
  | (k, f) :: ps, id, e, hs, h => by
    simp only [List.lookup] at h
    cases hk : id == k with
    | true =>
      have : id = k := by simpa using hk
      subst this
      rw [hk] at h
      injection h with h
      subst h
      exact hs.1
    | false =>
      rw [hk] at h
      exact HasE_look s ps id e hs.2 h
def noPin : List (Nat × Ent) → Bool
  | [] => true
  | p :: ps => p.2.plain && noPin ps
theorem noPin_look : ∀ (E : List (Nat × Ent)) (id : Nat) (e : Ent), noPin E = true → E.lookup id = some e → e.plain = true
  | [], id, e, _, h => by simp at h
  | (k, f) :: ps, id, e, hs, h => by
    simp only [noPin, Bool.and_eq_true, Bool.not_eq_true'] at hs
    simp only [List.lookup] at h
    cases hk : id == k with
    | true =>
      rw [hk] at h
      injection h with h
      subst h
      exact hs.1
    | false =>
      rw [hk] at h
      exact noPin_look ps id e hs.2 h
def PostR (rs : List RS) (av : AV) (ne Ep : List (Nat × Ent)) (e : Exit) (s : St) : Prop := Post rs av ne e s ∧ HasE s Ep
theorem RelA.initE {ok : Nat → Prop} {σ : Nat → Loc} {w : World} {args : List AV} {vs : List Value} (E : List (Nat × Ent)) (h : RelA ok σ w args vs) (n t : Nat) :
    Rel ok σ w (St.get ⟨args ++ List.replicate (n - args.length) .bot, E⟩ t) ((vs.toArray ++ Array.replicate (n - vs.toArray.size) undef).getD t undef) := h.init n t
/-- The same, at given places. -/
def CallRs (P : Program) (f : FuncId) (σ : Nat → Loc) (args : List AV) (E0 : List (Nat × Ent)) (av : AV) (ne E1 : List (Nat × Ent)) : Prop :=
  ∀ ok w vs, (∀ g, ok g → g < w.heap.size) → Lb ok w → RelA ok σ w args vs → Held ok σ w E0 → Calls P f vs.toArray w (fun e w' => ∃ v ok' σ', e = .returned v ∧ NewX ⟨w.heap.size, exOf σ E0⟩ w w' ok ok' σ' av ne v ∧ ∀ id e, E1.lookup id = some e → EntOk ok' w' (σ id) e)
theorem CallRs_of_text {f : FuncId} {fn : Func} {c : Code} {σ : Nat → Loc} {args : List AV} {E0 E1 : List (Nat × Ent)} {av : AV} {ne : List (Nat × Ent)} {rs : List RS} {vs : List ResultVar} (hf : P.funcs[f]? = some fn) (hb : fn.body = some c) (hvs : fn.results = vs.toArray) (hfit : FitsL P rs vs) (hl : rs.length ≤ 8) (n : Nat) (hn : fn.ntmps = n)
    (hnp : noPin E1 = true) (h : V P c ⟨args ++ List.replicate (n - args.length) .bot, pinE σ E0⟩ (PostR rs av ne (pinE σ E1))) : CallRs P f σ args E0 av ne E1 := by
  intro ok w zs hok hlib hargs hheld
  refine calls_of_wp hf hb ?_
  subst hn
  have look0 : ∀ id e, (pinE σ E0).lookup id = some e → ∃ f, E0.lookup id = some f ∧ e = f.pinned (σ id) := by
    intro id e he
    rw [pinE_look] at he
    cases h1 : E0.lookup id with
    | none => rw [h1] at he; cases he
    | some f =>
      rw [h1] at he
      injection he with he
      exact ⟨f, rfl, he.symm⟩
  have hR : R ⟨w.heap.size, exOf σ E0⟩ w ok ok σ ⟨args ++ List.replicate (fn.ntmps - args.length) .bot, pinE σ E0⟩ { tmps := zs.toArray ++ Array.replicate (fn.ntmps - zs.toArray.size) undef, defers := [] } w := by
    refine ⟨⟨?_, hok, hlib, fun t => hargs.initE _ fn.ntmps t, fun id e he => ?_, fun id e g he hg => ?_, fun i j e f g hi hj h1 h2 => ?_⟩, rfl, BelowX.refl _ _, Nat.le_refl _, fun g hg => hg, fun g hg => .inl hg, fun id e g he hg => ?_⟩
    · simp [hargs.len]
    · obtain ⟨f, h1, rfl⟩ := look0 id e he
      obtain ⟨h2, h3⟩ := hheld.ent id f h1
      exact pinned_ok h2 h3
    · obtain ⟨f, h1, rfl⟩ := look0 id e he
      exact hheld.blk id f g h1 hg
    · obtain ⟨f1, a1, rfl⟩ := look0 i e hi
      obtain ⟨f2, a2, rfl⟩ := look0 j f hj
      exact hheld.inj i j f1 f2 g a1 a2 h1 h2
    · obtain ⟨f, h1, rfl⟩ := look0 id e he
      obtain ⟨h2, h3⟩ := hheld.ent id f h1
      rw [if_pos (pinned_pin h3)]
      exact ⟨id, f, h1, hg⟩
  refine wp_mono (h _ _ _ _ _ _ _ hR) ?_
  rintro e a' w' ⟨s', ok', σ', ⟨⟨he, hd, hoks, ho⟩, hE⟩, hR'⟩
  have hσk : ∀ (j : Nat) r, rs[j]? = some r → outσS σ' s' rs (0 + j) = locS σ' s' r := fun j r hj => by
    unfold outσS
    rw [Nat.zero_add, hj]
  obtain ⟨xs, hrun, hrel⟩ := res_all (σ' := outσS σ' s' rs) hR'.core 0 hfit hoks hσk
  have hlen : rs.length = vs.length := by
    clear hrel hrun hσk ho hoks hd h hl hvs
    induction hfit with
    | nil => rfl
    | cons _ _ ih => simp [ih]
  have hres := results_run hvs hrun
  have hne2 : ∀ id e, ne.lookup id = some e → (outsS s' 0 rs).2.lookup id = some e := by
    intro id e hh
    match rs, ho with
    | [r], ho =>
      have h2 : outS s' 0 r = (av, ne) := ho
      show ((outS s' 0 r).2 ++ []).lookup id = some e
      rw [List.append_nil, h2]
      exact hh
    | [], ho =>
      have h2 : outsS s' 0 [] = (av, ne) := ho
      rw [h2]; exact hh
    | r1 :: r2 :: rs, ho =>
      have h2 : outsS s' 0 (r1 :: r2 :: rs) = (av, ne) := ho
      rw [h2]; exact hh
  have look : ∀ id e, ne.lookup id = some e → id < 8 ∧ ∃ x j, rs[id]? = some (.t x) ∧ s'.get x = .ow j ∧ s'.ent j = some e ∧ outσS σ' s' rs id = σ' j ∧ e.pin = false := by
    intro id e hh
    obtain ⟨_, h2, x, j, h3, h4, h5, h7⟩ := outsS_look s' rs 0 id e (hne2 id e hh)
    have h6 : rs[id]? = some (.t x) := h3
    refine ⟨by omega, x, j, h6, h4, h5, ?_, h7⟩
    unfold outσS
    rw [h6]
    simp only [locS, h4]
  obtain ⟨v, hv, hvr⟩ : ∃ v, (results fn a'.tmps).run P w' = .ok v w' ∧ Rel ok' (outσS σ' s' rs) w' av v := by
    refine ⟨_, hres, ?_⟩
    have hxl := hrun.len
    match rs, ho, hrel with
    | [r], ho, hrel =>
      have h2 : outS s' 0 r = (av, ne) := ho
      have h1 : xs.length = 1 := by rw [← hxl, ← hlen]; rfl
      rw [dif_pos h1]
      match xs, h1, hrel with
      | [x], _, hrel =>
        have h3 := hrel.1
        have h4 : (outS s' 0 r).1 = av := by rw [h2]
        rw [h4] at h3
        exact rel_of_rel1 h3
    | [], ho, hrel =>
      have h2 : outsS s' 0 [] = (av, ne) := ho
      have h1 : ¬ xs.length = 1 := by rw [← hxl, ← hlen]; simp
      rw [dif_neg h1]
      have h4 : av = .tn := by
        have h5 : (outsS s' 0 []).1 = av := by rw [h2]
        exact h5.symm
      subst h4
      exact ⟨_, rfl, hrel⟩
    | r1 :: r2 :: rs, ho, hrel =>
      have h2 : outsS s' 0 (r1 :: r2 :: rs) = (av, ne) := ho
      have h1 : ¬ xs.length = 1 := by rw [← hxl, ← hlen]; simp
      rw [dif_neg h1]
      have h4 : av = .tc (outS s' 0 r1).1 (outsS s' 1 (r2 :: rs)).1 := by
        have h5 : (outsS s' 0 (r1 :: r2 :: rs)).1 = av := by rw [h2]
        exact h5.symm
      subst h4
      exact ⟨_, rfl, hrel⟩
  have hment : ∀ e, e ≠ 0 → av.ment e = false := by
    intro e he
    have h1 := outsS_ment s' rs 0 (by omega) e he
    match rs, ho, h1 with
    | [r], ho, h1 =>
      have h2 : outS s' 0 r = (av, ne) := ho
      have h3 : ((outS s' 0 r).1.ment e || AV.ment e .tn) = false := h1
      rw [h2] at h3
      simpa [AV.ment] using h3
    | [], ho, h1 =>
      have h2 : outsS s' 0 [] = (av, ne) := ho
      rw [h2] at h1; exact h1
    | r1 :: r2 :: rs, ho, h1 =>
      have h2 : outsS s' 0 (r1 :: r2 :: rs) = (av, ne) := ho
      rw [h2] at h1; exact h1
  have hnew : NewX ⟨w.heap.size, exOf σ E0⟩ w w' ok ok' (outσS σ' s' rs) av ne v := by
    refine ⟨hR'.below, hR'.old, hR'.fresh, hR'.core.okL, hvr, fun id e he => (look id e he).1, hment, fun id e he => ?_, fun id e g he hg => ?_, fun i j e f g hi hj h1 h2 => ?_, fun id e he => ?_⟩
    · obtain ⟨_, t, j, h3, h4, h5, h6, _⟩ := look id e he
      rw [h6]
      exact hR'.core.ent j e h5
    · obtain ⟨_, t, j, h3, h4, h5, h6, h7⟩ := look id e he
      rw [h6] at hg
      have h8 := hR'.own j e g h5 hg
      rw [if_neg (by rw [h7]; decide)] at h8
      exact ⟨h8, hR'.core.blk j e g h5 hg⟩
    · obtain ⟨_, t, p, a3, a4, a5, a6, _⟩ := look i e hi
      obtain ⟨_, u, q, b3, b4, b5, b6, _⟩ := look j f hj
      rw [a6] at h1
      rw [b6] at h2
      have e1 := hR'.core.inj p q e f g a5 b5 h1 h2
      subst e1
      exact ownsS_inj s' rs hd i j t u p a3 b3 a4 b4
    · obtain ⟨_, t, j, h3, h4, h5, h6, h7⟩ := look id e he
      exact h7
  have hend : ∀ id e, E1.lookup id = some e → EntOk ok' w' (σ id) e := by
    intro id e he
    have h1 : (pinE σ E1).lookup id = some (e.pinned (σ id)) := by rw [pinE_look, he]; rfl
    have h2 := hR'.core.ent id _ (HasE_look s' _ id _ hE h1)
    have h3 := noPin_look E1 id e hnp he
    obtain ⟨h4, h5⟩ := pinned_un h2 h3
    rw [h4] at h5
    exact h5
  have hpost : bodyPost P fn (fun e w' => ∃ v ok' σ', e = .returned v ∧ NewX ⟨w.heap.size, exOf σ E0⟩ w w' ok ok' σ' av ne v ∧ ∀ id e, E1.lookup id = some e → EntOk ok' w' (σ id) e) .ret a' w' := ⟨hR'.defers, v, hv, v, ok', _, rfl, hnew, hend⟩
  rcases he with rfl | rfl
  · exact hpost
  · exact hpost
/-- A function that may write what is handed in, from its text. -/
theorem CallR_of_text {f : FuncId} {fn : Func} {c : Code} {args : List AV} {E0 E1 : List (Nat × Ent)} {av : AV} {ne : List (Nat × Ent)} {rs : List RS} {vs : List ResultVar} (hf : P.funcs[f]? = some fn) (hb : fn.body = some c) (hvs : fn.results = vs.toArray) (hfit : FitsL P rs vs) (hl : rs.length ≤ 8) (n : Nat) (hn : fn.ntmps = n)
    (hnp : noPin E1 = true) (h : ∀ σ, V P c ⟨args ++ List.replicate (n - args.length) .bot, pinE σ E0⟩ (PostR rs av ne (pinE σ E1))) : CallR P f args E0 av ne E1 :=
  fun ok σ w zs hok hlib hargs hheld => CallRs_of_text hf hb hvs hfit hl n hn hnp (h σ) ok w zs hok hlib hargs hheld
/-- A function, from its text. -/
theorem CallS_of_text {f : FuncId} {fn : Func} {c : Code} {args : List AV} {av : AV} {ne : List (Nat × Ent)} {rs : List RS} {vs : List ResultVar} (hf : P.funcs[f]? = some fn) (hb : fn.body = some c) (hvs : fn.results = vs.toArray) (hfit : FitsL P rs vs) (hl : rs.length ≤ 8) (n : Nat) (hn : fn.ntmps = n)
    (h : V P c ⟨args ++ List.replicate (n - args.length) .bot, []⟩ (Post rs av ne)) : CallS P f args av ne := by
  have h2 : CallR P f args [] av ne [] := CallR_of_text hf hb hvs hfit hl n hn rfl fun σ => V_mono h fun e s hp => ⟨hp, trivial⟩
  intro ok σ w zs hok hlib hargs
  refine Calls.mono (h2 ok σ w zs hok hlib hargs ⟨fun id e h => by simp at h, fun id e g h => by simp at h, fun i j e f g h => by simp at h⟩) ?_
  rintro e w' ⟨v, ok', σ', he, hn, _⟩
  have hb : Below w.heap.size w w' := ⟨hn.below.os, hn.below.tape, hn.below.output, hn.below.size, fun k hk => hn.below.block k hk fun ⟨id, e, h, _⟩ => by simp at h⟩
  exact ⟨v, ok', σ', he, hb, hn.okM, hn.okN, hn.okL, hn.rel, hn.keys, hn.ids, hn.ent, hn.blk, hn.inj, hn.np⟩
end
end Go.Proofs.YtnheekadeflecaaGreat
