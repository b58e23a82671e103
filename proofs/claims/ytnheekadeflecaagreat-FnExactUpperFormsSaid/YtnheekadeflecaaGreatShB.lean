/-
  States of a walk over trees, and what holds when one changes.
  Conditions: none.
-/
import Derived.Test.YtnheekadeflecaaGreatShA
namespace Go.Proofs.YtnheekadeflecaaGreat
open Go.RowKit
set_option linter.unusedSimpArgs false
set_option linter.unusedVariables false

structure St where
  T : List AV
  E : List (Nat × Ent)

def St.get (s : St) (t : Nat) : AV := (s.T[t]?).getD .bot
def St.ent (s : St) (id : Nat) : Option Ent := s.E.lookup id
/-- A row or a variable, wherever it came from. -/
def St.entc (s : St) (id : Nat) : Option Ent := (s.ent id).map Ent.core
def cellsAll (cs : Array Value) : Bool := cs.toList.all Value.oneCell'
def evC : Value → AV
  | .slice none 0 0 => .c (.sl [])
  | .agg cs => if cellsAll cs then .ag (cs.toList.map Tr.v) else .bot
  | .tuple _ => .bot
  | v => .c (.v v)
def St.ev (s : St) : Operand → AV
  | .tmp t => s.get t
  | .const v => evC v
  | .global _ => .bot
  | .func f => .c (.v (.func (.func f) #[] #[]))
def St.put (s : St) (d : Nat) (av : AV) : St := ⟨s.T.set d av, s.E⟩
def killE (d : Nat) : List (Nat × Ent) → List (Nat × Ent)
  | [] => []
  | p :: ps => bif p.1 / 8 == d then killE d ps else p :: killE d ps
def killT (d : Nat) : List AV → List AV
  | [] => []
  | x :: xs => (bif x.ment d then .bot else x) :: killT d xs
def St.kill (s : St) (d : Nat) : St := ⟨killT d s.T, killE d s.E⟩
def AV.shift (d : Nat) : AV → AV
  | .ow k => .ow (d * 8 + k)
  | .pt k o => .pt (d * 8 + k) o
  | .po k z i o => .po (d * 8 + k) z i o
  | .vw k els m => .vw (d * 8 + k) els m
  | .sf k z i => .sf (d * 8 + k) z i
  | .tc x r => .tc (x.shift d) (r.shift d)
  | av => av
def shiftE (d : Nat) : List (Nat × Ent) → List (Nat × Ent)
  | [] => []
  | p :: ps => (d * 8 + p.1, p.2) :: shiftE d ps
def St.upd (s : St) (d : Nat) (av : AV) (ne : List (Nat × Ent)) : St := ⟨(killT d s.T).set d (av.shift d), shiftE d ne ++ killE d s.E⟩

/-- The tables hold what they should, in memory that nobody writes. -/
def Lb (ok : Nat → Prop) (w : World) : Prop := ∀ p : Nat × (Array Value → Prop), p ∈ TB → ok p.1 ∧ ∃ cs T fz, w.heap[p.1]? = some (.cells cs T fz) ∧ p.2 cs
theorem Lb.mono {ok ok' : Nat → Prop} {w w' : World} (h : Lb ok w) (hok : ∀ g, ok g → ok' g) (hw : ∀ g, ok g → w'.heap[g]? = w.heap[g]?) : Lb ok' w' := by
  intro p hp
  obtain ⟨h1, cs, T, fz, h2, h3⟩ := h p hp
  exact ⟨hok _ h1, cs, T, fz, by rw [hw _ h1]; exact h2, h3⟩
structure Core (ok : Nat → Prop) (σ : Nat → Loc) (s : St) (a : Act) (w : World) : Prop where
  len : s.T.length ≤ a.tmps.size
  okL : ∀ g, ok g → g < w.heap.size
  lib : Lb ok w
  tmp : ∀ t, Rel ok σ w (s.get t) (a.tmps.getD t undef)
  ent : ∀ id e, s.ent id = some e → EntOk ok w (σ id) e
  blk : ∀ id e g, s.ent id = some e → (σ id).blk = some g → ¬ ok g ∧ g < w.heap.size
  inj : ∀ i j e f g, s.ent i = some e → s.ent j = some f → (σ i).blk = some g → (σ j).blk = some g → i = j

theorem Core.entc {ok : Nat → Prop} {σ : Nat → Loc} {s : St} {a : Act} {w : World} (h : Core ok σ s a w) (id : Nat) (e : Ent) (he : s.entc id = some e) : EntOk ok w (σ id) e := by
  unfold St.entc at he
  cases h1 : s.ent id with
  | none => rw [h1] at he; cases he
  | some f =>
    rw [h1] at he
    injection he with he
    subst he
    exact (h.ent id f h1).core
theorem entc_of {s : St} {id : Nat} {e : Ent} (he : s.entc id = some e) : ∃ f, s.ent id = some f ∧ f.core = e := by
  unfold St.entc at he
  cases h1 : s.ent id with
  | none => rw [h1] at he; cases he
  | some f =>
    rw [h1] at he
    injection he with he
    exact ⟨f, rfl, he⟩
/-- A frame: the heap's size at the call, and the blocks below it that the call may write. -/
structure Fr where
  n : Nat
  ex : Nat → Prop
/-- Below block number n, but for some blocks, the world w' is as w was. -/
structure BelowX (B : Fr) (w w' : World) : Prop where
  os : w'.os = w.os
  tape : w'.tape = w.tape
  output : w'.output = w.output
  size : w.heap.size ≤ w'.heap.size
  block : ∀ k, k < B.n → ¬ B.ex k → w'.heap[k]? = w.heap[k]?
theorem BelowX.refl (B : Fr) (w : World) : BelowX B w w := ⟨rfl, rfl, rfl, Nat.le_refl _, fun _ _ _ => rfl⟩
theorem BelowX.trans {B : Fr} {a b c : World} (h : BelowX B a b) (k : BelowX B b c) : BelowX B a c :=
  ⟨k.os.trans h.os, k.tape.trans h.tape, k.output.trans h.output, Nat.le_trans h.size k.size, fun i hi hx => (k.block i hi hx).trans (h.block i hi hx)⟩
theorem BelowX.of {B : Fr} {w w' : World} (h : Below w.heap.size w w') (hB : B.n ≤ w.heap.size) : BelowX B w w' := ⟨h.os, h.tape, h.output, h.size, fun k hk _ => h.block k (Nat.lt_of_lt_of_le hk hB)⟩
theorem BelowX.to {n : Nat} {w w' : World} (h : BelowX ⟨n, fun _ => False⟩ w w') : Below n w w' := ⟨h.os, h.tape, h.output, h.size, fun k hk => h.block k hk fun x => x⟩
theorem BelowX.drew {B : Fr} {a w : World} (h : BelowX B a w) : BelowX B a w.drew := ⟨h.os, h.tape, h.output, h.size, h.block⟩
theorem BelowX.grown {B : Fr} {a w w' : World} {row : Option Nat} (h : BelowX B a w) (hg : w.grownBy w' row) (hB : B.n ≤ w.heap.size) (hr : ∀ k, row = some k → B.n ≤ k) : BelowX B a w' :=
  h.trans ⟨hg.os, hg.tape, hg.output, hg.size, fun k hk _ => hg.block k (by omega) (fun e => by have := hr k e.symm; omega)⟩

structure R (B : Fr) (w0 : World) (ok0 ok : Nat → Prop) (σ : Nat → Loc) (s : St) (a : Act) (w : World) : Prop where
  core : Core ok σ s a w
  defers : a.defers = []
  below : BelowX B w0 w
  base : B.n ≤ w.heap.size
  old : ∀ g, ok0 g → ok g
  fresh : ∀ g, ok g → ok0 g ∨ B.n ≤ g
  own : ∀ id e g, s.ent id = some e → (σ id).blk = some g → if e.pin = true then B.ex g else B.n ≤ g

/-- What an operation or a call brings: a value, new rows of its own, new memory that nobody writes. -/
structure New (w w' : World) (ok ok' : Nat → Prop) (σ' : Nat → Loc) (av : AV) (ne : List (Nat × Ent)) (v : Value) : Prop where
  below : Below w.heap.size w w'
  okM : ∀ g, ok g → ok' g
  okN : ∀ g, ok' g → ok g ∨ w.heap.size ≤ g
  okL : ∀ g, ok' g → g < w'.heap.size
  rel : Rel ok' σ' w' av v
  keys : ∀ id e, ne.lookup id = some e → id < 8
  ids : ∀ e, e ≠ 0 → av.ment e = false
  ent : ∀ id e, ne.lookup id = some e → EntOk ok' w' (σ' id) e
  blk : ∀ id e g, ne.lookup id = some e → (σ' id).blk = some g → w.heap.size ≤ g ∧ ¬ ok' g ∧ g < w'.heap.size
  inj : ∀ i j e f g, ne.lookup i = some e → ne.lookup j = some f → (σ' i).blk = some g → (σ' j).blk = some g → i = j
  np : ∀ id e, ne.lookup id = some e → e.pin = false

theorem get_put (s : St) (d t : Nat) (av : AV) : (s.put d av).get t = if d = t ∧ d < s.T.length then av else s.get t := by
  unfold St.put St.get
  simp only [List.getElem?_set]
  by_cases h : d = t
  · subst h
    by_cases h2 : d < s.T.length
    · simp [h2]
    · simp [h2]
  · simp [h]
theorem getD_put (a : Act) (d t : Nat) (v : Value) : (a.put (some d) v).tmps.getD t undef = if d = t ∧ d < a.tmps.size then v else a.tmps.getD t undef := by
  unfold Act.put
  simp only [Array.getD_eq_getD_getElem?, Array.getElem?_setIfInBounds]
  by_cases h : d = t
  · subst h
    by_cases h2 : d < a.tmps.size
    · simp [h2]
    · simp [h2]
  · simp [h]
theorem size_put (a : Act) (d : Nat) (v : Value) : (a.put (some d) v).tmps.size = a.tmps.size := by simp [Act.put]
theorem rel_bot (ok : Nat → Prop) (σ : Nat → Loc) (w : World) (y : Value) : Rel ok σ w .bot y := trivial
theorem killT_get (d : Nat) : ∀ (T : List AV) (t : Nat), ((killT d T)[t]?).getD .bot = (bif ((T[t]?).getD .bot).ment d then AV.bot else (T[t]?).getD .bot)
  | [], t => by simp [killT]
  | x :: xs, 0 => by simp [killT]
  | x :: xs, t + 1 => by simpa [killT] using killT_get d xs t
theorem killT_len (d : Nat) : ∀ (T : List AV), (killT d T).length = T.length
  | [] => rfl
  | x :: xs => by simp [killT, killT_len d xs]
theorem killE_look (d : Nat) : ∀ (E : List (Nat × Ent)) (id : Nat), (killE d E).lookup id = if id / 8 = d then none else E.lookup id
  | [], id => by simp [killE]
  | p :: ps, id => by
    have ih := killE_look d ps id
    simp only [killE]
    cases hp : (p.1 / 8 == d) with
    | true =>
      simp only [cond_true, ih]
      by_cases h : id / 8 = d
      · simp [h]
      · have hne : (id == p.1) = false := by
          rw [beq_eq_false_iff_ne]
          intro e
          subst e
          exact h (by simpa using hp)
        simp only [h, if_false]
        obtain ⟨p1, p2⟩ := p
        simp [List.lookup, hne]
    | false =>
      obtain ⟨p1, p2⟩ := p
      simp only [cond_false, List.lookup]
      cases hq : (id == p1) with
      | true =>
        have e : id = p1 := by simpa using hq
        subst e
        have : ¬ id / 8 = d := by simpa using hp
        simp [this]
      | false => simpa using ih
theorem look_app : ∀ (xs ys : List (Nat × Ent)) (id : Nat), (xs ++ ys).lookup id = match xs.lookup id with | some e => some e | none => ys.lookup id
  | [], ys, id => by simp
  | (p1, p2) :: xs, ys, id => by
    simp only [List.cons_append, List.lookup]
    cases h : (id == p1) with
    | true => rfl
    | false => exact look_app xs ys id
theorem shiftE_look (d : Nat) : ∀ (ne : List (Nat × Ent)), (∀ id e, ne.lookup id = some e → id < 8) → ∀ id, (shiftE d ne).lookup id = if id / 8 = d ∧ d * 8 ≤ id then ne.lookup (id - d * 8) else (shiftE d ne).lookup id
  | _, _, id => by
    split
    · rename_i h
      rename_i ne hk
      clear hk
      induction ne with
      | nil => rfl
      | cons p ps ih =>
        obtain ⟨p1, p2⟩ := p
        simp only [shiftE, List.lookup]
        have e : (id == d * 8 + p1) = (id - d * 8 == p1) := by
          rw [Bool.eq_iff_iff, beq_iff_eq, beq_iff_eq]
          omega
        rw [e]
        cases (id - d * 8 == p1) with
        | true => rfl
        | false => exact ih
    · rfl
theorem shiftE_look2 (d : Nat) : ∀ (ne : List (Nat × Ent)) (id : Nat) (e : Ent), (shiftE d ne).lookup id = some e → d * 8 ≤ id ∧ ne.lookup (id - d * 8) = some e
  | [], id, e, h => by simp [shiftE] at h
  | (p1, p2) :: ps, id, e, h => by
    simp only [shiftE, List.lookup] at h ⊢
    cases hq : (id == d * 8 + p1) with
    | true =>
      rw [hq] at h
      have e1 : id = d * 8 + p1 := by simpa using hq
      have e2 : (id - d * 8 == p1) = true := by
        rw [beq_iff_eq]
        omega
      rw [e2]
      exact ⟨by omega, h⟩
    | false =>
      rw [hq] at h
      obtain ⟨h1, h2⟩ := shiftE_look2 d ps id e h
      have e2 : (id - d * 8 == p1) = false := by
        rw [beq_eq_false_iff_ne]
        rw [beq_eq_false_iff_ne] at hq
        omega
      rw [e2]
      exact ⟨h1, h2⟩

theorem Core.put {ok : Nat → Prop} {σ : Nat → Loc} {s : St} {a : Act} {w : World} (h : Core ok σ s a w) {d : Nat} {av : AV} {v : Value} (hr : Rel ok σ w av v) : Core ok σ (s.put d av) (a.put (some d) v) w := by
  refine ⟨by rw [size_put]; simpa [St.put] using h.len, h.okL, h.lib, fun t => ?_, h.ent, h.blk, h.inj⟩
  rw [get_put, getD_put]
  by_cases hd : d = t ∧ d < s.T.length
  · rw [if_pos hd, if_pos ⟨hd.1, Nat.lt_of_lt_of_le hd.2 h.len⟩]
    exact hr
  · rw [if_neg hd]
    by_cases hd2 : d = t ∧ d < a.tmps.size
    · rw [if_pos hd2]
      have hb : s.get t = .bot := by
        unfold St.get
        rw [List.getElem?_eq_none (by omega)]
        rfl
      rw [hb]
      trivial
    · rw [if_neg hd2]
      exact h.tmp t

theorem Rel1.shift {ok : Nat → Prop} {σ σ' : Nat → Loc} {w : World} {av : AV} {y : Value} (d : Nat) (h : Rel1 ok σ' w av y) (hs : ∀ k, av.ment (k / 8) = true → σ (d * 8 + k) = σ' k) : Rel1 ok σ w (av.shift d) y := by
  cases av with
  | ow k => show y = _; rw [hs k (by simp [AV.ment])]; exact h
  | pt k o => show ∃ g, _; rw [hs k (by simp [AV.ment])]; exact h
  | po k z i o => show ∃ g, _; rw [hs k (by simp [AV.ment])]; exact h
  | tn => exact h.elim
  | tc x r => exact h.elim
  | bot => trivial
  | c t => exact h
  | ag cs => exact h
  | pe cs => exact h
  | fn f caps => exact h
  | er b => exact h
  | vw k els m => show VwOk _ _ _ _ _ _; rw [hs k (by simp [AV.ment])]; exact h
  | sf k z i => show y = _; rw [hs k (by simp [AV.ment])]; exact h
theorem RelL.shift {ok : Nat → Prop} {σ σ' : Nat → Loc} {w : World} {av : AV} {ys : List Value} (d : Nat) (h : RelL ok σ' w av ys) (hs : ∀ k, av.ment (k / 8) = true → σ (d * 8 + k) = σ' k) : RelL ok σ w (av.shift d) ys := by
  induction av generalizing ys with
  | tn => cases ys <;> exact h
  | tc x r _ ih =>
    cases ys with
    | nil => exact h.elim
    | cons y ys => exact ⟨h.1.shift d fun k hk => hs k (by simp [AV.ment, hk]), ih h.2 fun k hk => hs k (by simp [AV.ment, hk])⟩
  | _ => cases ys <;> exact (h : False).elim
theorem Rel.shift {ok : Nat → Prop} {σ σ' : Nat → Loc} {w : World} {av : AV} {y : Value} (d : Nat) (h : Rel ok σ' w av y) (hs : ∀ k, av.ment (k / 8) = true → σ (d * 8 + k) = σ' k) : Rel ok σ w (av.shift d) y := by
  cases av with
  | tn =>
    obtain ⟨vs, hy, hl⟩ := h
    exact ⟨vs, hy, hl.shift d hs⟩
  | tc x r =>
    obtain ⟨vs, hy, hl⟩ := h
    exact ⟨vs, hy, hl.shift d hs⟩
  | bot => trivial
  | c t => exact h
  | ag cs => exact h
  | pe cs => exact h
  | fn f caps => exact h
  | er b => exact h
  | ow k => exact Rel1.shift (ok := ok) (w := w) (av := .ow k) d (h : Rel1 ok σ' w (.ow k) y) hs
  | vw k els m => exact Rel1.shift (ok := ok) (w := w) (av := .vw k els m) d (h : Rel1 ok σ' w (.vw k els m) y) hs
  | sf k z i => exact Rel1.shift (ok := ok) (w := w) (av := .sf k z i) d (h : Rel1 ok σ' w (.sf k z i) y) hs
  | pt k o => exact Rel1.shift (ok := ok) (w := w) (av := .pt k o) d (h : Rel1 ok σ' w (.pt k o) y) hs
  | po k z i o => exact Rel1.shift (ok := ok) (w := w) (av := .po k z i o) d (h : Rel1 ok σ' w (.po k z i o) y) hs

theorem killT_ment (d : Nat) (av : AV) : (bif av.ment d then AV.bot else av).ment d = false := by
  cases h : av.ment d <;> simp [AV.ment, h]

theorem Core.upd {ok ok' : Nat → Prop} {σ σ' : Nat → Loc} {s : St} {a : Act} {w w' : World} (h : Core ok σ s a w) {d : Nat} {av : AV} {ne : List (Nat × Ent)} {v : Value} (hn : New w w' ok ok' σ' av ne v) :
    Core ok' (fun id => if id / 8 = d then σ' (id % 8) else σ id) (s.upd d av ne) (a.put (some d) v) w' := by
  have hw : ∀ g, ok g → w'.heap[g]? = w.heap[g]? := fun g hg => hn.below.block g (h.okL g hg)
  have hσ : ∀ id, id / 8 ≠ d → (fun id => if id / 8 = d then σ' (id % 8) else σ id) id = σ id := fun id hid => by simp [hid]
  have look : ∀ id e, (s.upd d av ne).ent id = some e → (id / 8 = d ∧ ne.lookup (id % 8) = some e) ∨ (id / 8 ≠ d ∧ s.ent id = some e) := by
    intro id e he
    unfold St.ent St.upd at he
    rw [look_app] at he
    cases hs : (shiftE d ne).lookup id with
    | some e2 =>
      rw [hs] at he
      injection he with he
      subst he
      obtain ⟨h1, h2⟩ := shiftE_look2 d ne id _ hs
      have h3 := hn.keys _ _ h2
      have h4 : id - d * 8 = id % 8 := by omega
      rw [h4] at h2
      exact .inl ⟨by omega, h2⟩
    | none =>
      rw [hs] at he
      simp only [killE_look] at he
      by_cases hd : id / 8 = d
      · simp [hd] at he
      · rw [if_neg hd] at he
        exact .inr ⟨hd, he⟩
  have hsize : ∀ g, g < w.heap.size → g < w'.heap.size := fun g hg => Nat.lt_of_lt_of_le hg hn.below.size
  refine ⟨?_, hn.okL, h.lib.mono hn.okM hw, fun t => ?_, fun id e he => ?_, fun id e g he hg => ?_, fun i j e f g hi hj h1 h2 => ?_⟩
  · rw [size_put]
    simpa [St.upd, killT_len] using h.len
  · have hk : (s.upd d av ne).get t = if d = t ∧ d < s.T.length then av.shift d else (bif (s.get t).ment d then AV.bot else s.get t) := by
      have e := get_put (s.kill d) d t (av.shift d)
      unfold St.put St.kill St.get at e
      simp only [killT_len, killT_get] at e
      unfold St.upd St.get
      exact e
    rw [hk, getD_put]
    by_cases hd : d = t ∧ d < s.T.length
    · rw [if_pos hd, if_pos ⟨hd.1, Nat.lt_of_lt_of_le hd.2 h.len⟩]
      refine hn.rel.shift d fun k hk2 => ?_
      have hk0 : k / 8 = 0 := by
        rcases Nat.eq_zero_or_pos (k / 8) with h0 | h0
        · exact h0
        · rw [hn.ids (k / 8) (by omega)] at hk2
          cases hk2
      have e1 : (d * 8 + k) / 8 = d := by omega
      have e2 : (d * 8 + k) % 8 = k := by omega
      simp [e1, e2]
    · rw [if_neg hd]
      by_cases hd2 : d = t ∧ d < a.tmps.size
      · rw [if_pos hd2]
        have hb : s.get t = .bot := by
          unfold St.get
          rw [List.getElem?_eq_none (by omega)]
          rfl
        rw [hb]
        trivial
      · rw [if_neg hd2]
        cases hm : (s.get t).ment d with
        | true => trivial
        | false => exact (h.tmp t).mono d hn.okM hw hm hσ
  · rcases look id e he with ⟨h1, h2⟩ | ⟨h1, h2⟩
    · simpa [h1] using hn.ent _ _ h2
    · simp only [h1, if_false]
      exact (h.ent id e h2).mono hn.okM hw fun g hg => hn.below.block g (h.blk id e g h2 hg).2
  · rcases look id e he with ⟨h1, h2⟩ | ⟨h1, h2⟩
    · simp only [h1, if_true] at hg
      exact (hn.blk _ _ _ h2 hg).2
    · simp only [h1, if_false] at hg
      obtain ⟨h3, h4⟩ := h.blk id e g h2 hg
      refine ⟨fun h5 => ?_, hsize g h4⟩
      rcases hn.okN g h5 with h6 | h6
      · exact h3 h6
      · omega
  · rcases look i e hi with ⟨a1, a2⟩ | ⟨a1, a2⟩ <;> rcases look j f hj with ⟨b1, b2⟩ | ⟨b1, b2⟩
    · simp only [a1, b1, if_true] at h1 h2
      have := hn.inj _ _ _ _ _ a2 b2 h1 h2
      omega
    · simp only [a1, b1, if_true, if_false] at h1 h2
      have x1 := (hn.blk _ _ _ a2 h1).1
      have x2 := (h.blk _ _ _ b2 h2).2
      omega
    · simp only [a1, b1, if_true, if_false] at h1 h2
      have x1 := (hn.blk _ _ _ b2 h2).1
      have x2 := (h.blk _ _ _ a2 h1).2
      omega
    · simp only [a1, b1, if_false] at h1 h2
      exact h.inj _ _ _ _ _ a2 b2 h1 h2

theorem R.put {B : Fr} {w0 : World} {ok0 ok : Nat → Prop} {σ : Nat → Loc} {s : St} {a : Act} {w : World} (h : R B w0 ok0 ok σ s a w) {d : Nat} {av : AV} {v : Value} (hr : Rel ok σ w av v) : R B w0 ok0 ok σ (s.put d av) (a.put (some d) v) w :=
  ⟨h.core.put hr, h.defers, h.below, h.base, h.old, h.fresh, h.own⟩
theorem R.upd {B : Fr} {w0 : World} {ok0 ok ok' : Nat → Prop} {σ σ' : Nat → Loc} {s : St} {a : Act} {w w' : World} (h : R B w0 ok0 ok σ s a w) {d : Nat} {av : AV} {ne : List (Nat × Ent)} {v : Value} (hn : New w w' ok ok' σ' av ne v) :
    R B w0 ok0 ok' (fun id => if id / 8 = d then σ' (id % 8) else σ id) (s.upd d av ne) (a.put (some d) v) w' := by
  refine ⟨h.core.upd hn, h.defers, h.below.trans (BelowX.of hn.below h.base), Nat.le_trans h.base hn.below.size, fun g hg => hn.okM g (h.old g hg), fun g hg => ?_, fun id e g he hg => ?_⟩
  · rcases hn.okN g hg with h1 | h1
    · exact h.fresh g h1
    · exact .inr (Nat.le_trans h.base h1)
  · unfold St.ent St.upd at he
    rw [look_app] at he
    cases hs : (shiftE d ne).lookup id with
    | some e2 =>
      rw [hs] at he
      injection he with he
      subst he
      obtain ⟨h1, h2⟩ := shiftE_look2 d ne id _ hs
      have h3 := hn.keys _ _ h2
      have h4 : id - d * 8 = id % 8 := by omega
      have h5 : id / 8 = d := by omega
      rw [h4] at h2
      simp only [h5, if_true] at hg
      rw [if_neg (by rw [hn.np _ _ h2]; decide)]
      exact Nat.le_trans h.base (hn.blk _ _ _ h2 hg).1
    | none =>
      rw [hs] at he
      simp only [killE_look] at he
      by_cases hd : id / 8 = d
      · simp [hd] at he
      · rw [if_neg hd] at he
        simp only [hd, if_false] at hg
        exact h.own id e g he hg

end Go.Proofs.YtnheekadeflecaaGreat
