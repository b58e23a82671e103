/-
  Rules for maps that a call has made: making, reading, writing, and maps that nobody writes any more.
  Conditions: none.
-/
import Derived.Test.YtnheekadeflecaaGreatShZ
import Derived.MapKept
namespace Go.Proofs.YtnheekadeflecaaGreat
open Go.RowKit
set_option linter.unusedSimpArgs false
set_option linter.unusedVariables false

theorem ba_beq (a b : ByteArray) : (a == b) = decide (a = b) := by
  have h : (a == b) = (a.data == b.data) := rfl
  rw [h, Bool.eq_iff_iff, beq_iff_eq, decide_eq_true_iff]
  constructor
  · intro h
    cases a
    cases b
    exact congrArg _ h
  · intro h
    rw [h]
/-! ### Maps as lists -/
section
variable {κ ν : Type} [DecidableEq κ]
theorem ixM_none {a : κ} : ∀ {m : List (κ × ν)}, ixM a (m.map Prod.fst) = none → mGet a m = none ∧ ∀ v, mPut a v m = m ++ [(a, v)]
  | [], _ => ⟨rfl, fun _ => rfl⟩
  | p :: ps, h => by
    simp only [List.map_cons, ixM] at h
    by_cases e : a = p.1
    · rw [if_pos e] at h; cases h
    · rw [if_neg e] at h
      have h2 : ixM a (ps.map Prod.fst) = none := by simpa using h
      obtain ⟨k1, k2⟩ := ixM_none h2
      exact ⟨by unfold mGet; rw [if_neg e, k1], fun v => by unfold mPut; rw [if_neg e, k2]; rfl⟩
theorem ixM_some {a : κ} : ∀ {m : List (κ × ν)} {j : Nat}, ixM a (m.map Prod.fst) = some j → ∃ v0, m[j]? = some (a, v0) ∧ mGet a m = some v0 ∧ ∀ v, mPut a v m = m.set j (a, v)
  | [], j, h => by cases h
  | p :: ps, j, h => by
    simp only [List.map_cons, ixM] at h
    by_cases e : a = p.1
    · rw [if_pos e] at h
      injection h with h
      subst h
      refine ⟨p.2, by rw [e]; rfl, by unfold mGet; rw [if_pos e], fun v => by unfold mPut; rw [if_pos e]; rfl⟩
    · rw [if_neg e] at h
      cases h2 : ixM a (ps.map Prod.fst) with
      | none => rw [h2] at h; cases h
      | some i =>
        rw [h2] at h
        injection h with h
        subst h
        obtain ⟨v0, k1, k2, k3⟩ := ixM_some h2
        exact ⟨v0, by simpa using k1, by unfold mGet; rw [if_neg e, k2], fun v => by unfold mPut; rw [if_neg e, k3]; rfl⟩
end

section
variable {P : Program}
/-- A type of keys: what a key is, and that the model finds it. -/
structure KeyT (P : Program) {κ : Type} [DecidableEq κ] (kt : TypeId) (ek : κ → Value) : Prop where
  chk : ∀ b a w, (Instr.checkKey b 10000 kt (ek a)).run P w = .ok () w
  find : ∀ a (es : List MapEntry) (ks : List κ) w, es.map (·.key) = ks.map ek → (Instr.findKey kt (ek a) es).run P w = .ok ((ixM a ks).bind fun j => (es[j]?).map fun e => (j, e.val)) w
  bits : ∀ a, Instr.sameBits 10000 (ek a) (ek a) = true
theorem findAsking_run {κ : Type} [DecidableEq κ] {kt : TypeId} {ek : κ → Value} (heq : ∀ a b w, (Op.equal kt (ek a) (ek b)).run P w = .ok (decide (a = b)) w) (a : κ) (w : World) : ∀ (es : List MapEntry) (ks : List κ) (i : Nat), es.map (·.key) = ks.map ek →
    (Instr.findAsking kt (ek a) es i).run P w = .ok ((ixM a ks).bind fun j => (es[j]?).map fun e => (i + j, e.val)) w
  | [], [], i, _ => rfl
  | [], k :: ks, i, h => by simp at h
  | e :: es, [], i, h => by simp at h
  | e :: es, k :: ks, i, h => by
    simp only [List.map_cons, List.cons.injEq] at h
    have ih := findAsking_run heq a w es ks (i + 1) h.2
    unfold Instr.findAsking
    rw [h.1]
    simp only [Sem.run_bind, heq, Result.andThen_ok]
    by_cases e1 : a = k
    · simp [e1, ixM]
    · simp only [decide_eq_false e1, Bool.false_eq_true, if_false, ih, ixM, if_neg e1]
      cases ixM a ks with
      | none => rfl
      | some j =>
        simp only [Option.bind_some, Option.map_some, List.getElem?_cons_succ]
        rw [show i + 1 + j = i + (j + 1) by omega]
theorem keyT_ask {κ : Type} [DecidableEq κ] {kt : TypeId} {ek : κ → Value} (d : TypeDesc) (hd : P.underlying kt = some d) (chk : ∀ b a w, (Instr.checkKey b 10000 kt (ek a)).run P w = .ok () w) (heq : ∀ a b w, (Op.equal kt (ek a) (ek b)).run P w = .ok (decide (a = b)) w)
    (hnow : ∀ a b, Instr.sameNow d (ek a) (ek b) = none) (bits : ∀ a, Instr.sameBits 10000 (ek a) (ek a) = true) : KeyT P kt ek := by
  refine ⟨chk, fun a es ks w h => ?_, bits⟩
  unfold Instr.findKey
  simp only [Sem.run_bind, run_underlying hd, Result.andThen_ok]
  cases es with
  | nil =>
    cases ks with
    | nil => rfl
    | cons k ks => simp at h
  | cons e es =>
    cases ks with
    | nil => simp at h
    | cons k ks =>
      have h1 := h
      simp only [List.map_cons, List.cons.injEq] at h1
      have h2 : Instr.findNow d (ek a) (e :: es) 0 = none := by
        unfold Instr.findNow
        rw [h1.1, hnow]
      rw [h2]
      have := findAsking_run heq a w (e :: es) (k :: ks) 0 h
      simp only [Nat.zero_add] at this
      exact this
theorem findNow_run {κ : Type} [DecidableEq κ] {d : TypeDesc} {ek : κ → Value} (hs : ∀ a b, Instr.sameNow d (ek a) (ek b) = some (decide (a = b))) (a : κ) : ∀ (es : List MapEntry) (ks : List κ) (i : Nat), es.map (·.key) = ks.map ek →
    Instr.findNow d (ek a) es i = some ((ixM a ks).bind fun j => (es[j]?).map fun e => (i + j, e.val))
  | [], [], i, _ => rfl
  | [], k :: ks, i, h => by simp at h
  | e :: es, [], i, h => by simp at h
  | e :: es, k :: ks, i, h => by
    simp only [List.map_cons, List.cons.injEq] at h
    have ih := findNow_run hs a es ks (i + 1) h.2
    unfold Instr.findNow
    rw [h.1, hs]
    by_cases e1 : a = k
    · simp [e1, ixM]
    · simp only [decide_eq_false e1, ih, ixM, if_neg e1]
      cases ixM a ks with
      | none => rfl
      | some j =>
        simp only [Option.bind_some, Option.map_some, List.getElem?_cons_succ]
        rw [show i + 1 + j = i + (j + 1) by omega]
theorem keyT_now {κ : Type} [DecidableEq κ] {kt : TypeId} {ek : κ → Value} (d : TypeDesc) (hd : P.underlying kt = some d) (chk : ∀ b a w, (Instr.checkKey b 10000 kt (ek a)).run P w = .ok () w) (hs : ∀ a b, Instr.sameNow d (ek a) (ek b) = some (decide (a = b)))
    (bits : ∀ a, Instr.sameBits 10000 (ek a) (ek a) = true) : KeyT P kt ek := by
  refine ⟨chk, fun a es ks w h => ?_, bits⟩
  unfold Instr.findKey
  simp only [Sem.run_bind, run_underlying hd, Result.andThen_ok]
  have := findNow_run hs a es ks 0 h
  simp only [Nat.zero_add] at this
  rw [this]
  rfl
theorem bits_ints (n : Nat) (l : List Int) : Instr.sameBits (n + 1) (.agg (l.map (Value.int .i64)).toArray) (.agg (l.map (Value.int .i64)).toArray) = true := by
  unfold Instr.sameBits
  simp only [beq_self_eq_true, Bool.true_and, List.all_eq_true]
  intro p hp
  have : ∀ (l : List Int) (p : Value × Value), p ∈ (l.map (Value.int .i64)).zip (l.map (Value.int .i64)) → ∃ a, p = (.int .i64 a, .int .i64 a) := by
    intro l
    induction l with
    | nil => intro p hp; simp at hp
    | cons x xs ih =>
      intro p hp
      simp only [List.map_cons, List.zip_cons_cons, List.mem_cons] at hp
      rcases hp with h | h
      · exact ⟨x, h⟩
      · exact ih p h
  obtain ⟨a, rfl⟩ := this l p hp
  simp [Instr.sameBits]
theorem run_zero {t : TypeId} {z : Value} (h : (P.info? t).bind (·.zero) = some z) (w : World) : (zeroValue t).run P w = .ok z w := by
  cases hi : P.info? t with
  | none => rw [hi] at h; cases h
  | some i =>
    rw [hi] at h
    have h2 : i.zero = some z := h
    simp [zeroValue, typeInfo, hi, h2]
/-- What the model reads in a map that is a list. -/
theorem run_lookupM {κ ν : Type} [DecidableEq κ] {ek : κ → Value} {ev : ν → Value} {t kt vt : TypeId} {z : ν} (ht : P.underlying t = some (.map kt vt)) (hk : KeyT P kt ek) (hz : (P.info? vt).bind (·.zero) = some (ev z)) {w : World} {b : Nat} {es : Array MapEntry} {clock : Nat} (hb : w.heap[b]? = some (.map es clock))
    {m : List (κ × ν)} (hm : es.toList.map kvOf = m.map fun p => (ek p.1, ev p.2)) (a : κ) (co : Bool) :
    (Instr.lookup t (.map (some b)) (ek a) co).run P w = .ok (if co then .tuple #[ev (mAt a m z), .bool (mHas a m)] else ev (mAt a m z)) w := by
  have hkeys : es.toList.map (·.key) = (m.map Prod.fst).map ek := by
    have := congrArg (List.map Prod.fst) hm
    simpa [kvOf, Function.comp_def] using this
  have hf := hk.find a es.toList (m.map Prod.fst) w hkeys
  unfold Instr.lookup
  simp only [Sem.run_bind, run_underlying ht, Result.andThen_ok, MapKept.run_getObj_map hb, Sem.run_pure, hk.chk, hf]
  cases hi : ixM a (m.map Prod.fst) with
  | none =>
    obtain ⟨k1, _⟩ := ixM_none hi
    simp only [Option.bind_none, Sem.run_bind, run_zero hz, Result.andThen_ok, Sem.run_pure, mAt, mHas, k1, Option.getD_none, Option.isSome_none]
  | some j =>
    obtain ⟨v0, k1, k2, _⟩ := ixM_some hi
    have he : ∃ e, es.toList[j]? = some e ∧ e.val = ev v0 := by
      have h1 := congrArg (fun l => l[j]?) hm
      simp only [List.getElem?_map, k1, Option.map_some] at h1
      cases h2 : es.toList[j]? with
      | none => rw [h2] at h1; cases h1
      | some e =>
        rw [h2] at h1
        simp only [Option.map_some, Option.some.injEq, kvOf, Prod.mk.injEq] at h1
        exact ⟨e, rfl, h1.2⟩
    obtain ⟨e, e1, e2⟩ := he
    simp only [Option.bind_some, e1, Option.map_some, Sem.run_bind, Sem.run_pure, Result.andThen_ok, mAt, mHas, k2, Option.getD_some, Option.isSome_some, e2]
/-- What the model writes into a map that is a list. -/
theorem run_mapUpdateM {κ ν : Type} [DecidableEq κ] {ek : κ → Value} {ev : ν → Value} {t kt vt : TypeId} (ht : P.underlying t = some (.map kt vt)) (hk : KeyT P kt ek) {w : World} {b : Nat} {es : Array MapEntry} {clock : Nat} (hb : w.heap[b]? = some (.map es clock))
    {m : List (κ × ν)} (hm : es.toList.map kvOf = m.map fun p => (ek p.1, ev p.2)) (a : κ) (v : ν) :
    ∃ es' clock', (Instr.mapUpdate t (.map (some b)) (ek a) (ev v)).run P w = .ok () { w with heap := w.heap.setIfInBounds b (.map es' clock') } ∧ es'.toList.map kvOf = (mPut a v m).map fun p => (ek p.1, ev p.2) := by
  have hkeys : es.toList.map (·.key) = (m.map Prod.fst).map ek := by
    have := congrArg (List.map Prod.fst) hm
    simpa [kvOf, Function.comp_def] using this
  have hf := hk.find a es.toList (m.map Prod.fst) w hkeys
  cases hi : ixM a (m.map Prod.fst) with
  | none =>
    obtain ⟨_, k2⟩ := ixM_none hi
    refine ⟨es.push { key := ek a, val := ev v, born := clock }, clock + 1, ?_, ?_⟩
    · unfold Instr.mapUpdate
      rw [hi] at hf
      simp only [Sem.run_bind, run_underlying ht, Result.andThen_ok, MapKept.run_getObj_map hb, Sem.run_pure, hk.chk, hf, Option.bind_none, MapKept.run_setObj_map _ hb]
    · rw [k2]
      simp [hm, kvOf]
  | some j =>
    obtain ⟨v0, k1, _, k3⟩ := ixM_some hi
    have he : ∃ e, es.toList[j]? = some e ∧ e.key = ek a := by
      have h1 := congrArg (fun l => l[j]?) hm
      simp only [List.getElem?_map, k1, Option.map_some] at h1
      cases h2 : es.toList[j]? with
      | none => rw [h2] at h1; cases h1
      | some e =>
        rw [h2] at h1
        simp only [Option.map_some, Option.some.injEq, kvOf, Prod.mk.injEq] at h1
        exact ⟨e, rfl, h1.1⟩
    obtain ⟨e, e1, e2⟩ := he
    have e3 : es[j]? = some e := by simpa using e1
    refine ⟨es.modify j fun e => { e with key := ek a, val := ev v }, clock, ?_, ?_⟩
    · unfold Instr.mapUpdate
      rw [hi] at hf
      simp only [Sem.run_bind, run_underlying ht, Result.andThen_ok, MapKept.run_getObj_map hb, Sem.run_pure, hk.chk, hf, Option.bind_some, e1, Option.map_some, e3, Option.getD_some, e2, Instr.keyThatStays, hk.bits, if_true, MapKept.run_setObj_map _ hb]
    · rw [k3, Array.toList_modify]
      apply List.ext_getElem?
      intro i
      have h1 := congrArg (fun l => l[i]?) hm
      simp only [List.getElem?_map] at h1 ⊢
      rw [List.getElem?_modify, List.getElem?_set]
      by_cases hij : j = i
      · subst hij
        have hlt : j < m.length := (List.getElem?_eq_some_iff.1 k1).1
        simp [e1, hlt, kvOf]
      · simp only [hij, if_false, Option.map_map]
        rw [← h1]
        cases es.toList[i]? <;> rfl
/-! ### The rules -/
/-- A map of the call's own is written. -/
theorem R.writeG {B : Fr} {w0 : World} {ok0 ok : Nat → Prop} {σ : Nat → Loc} {s : St} {a : Act} {w w' : World} (h : R B w0 ok0 ok σ s a w) {id : Nat} {e e' : Ent} {g : Nat} (he : s.ent id = some e) (hg : (σ id).blk = some g) (hsize : w'.heap.size = w.heap.size)
    (hw : ∀ q, q ≠ g → w'.heap[q]? = w.heap[q]?) (hos : w'.os = w.os) (htp : w'.tape = w.tape) (hou : w'.output = w.output) (E' : List (Nat × Ent)) (hE : ∀ j, (E'.lookup j) = if j = id then some e' else s.ent j) (hok : EntOk ok w' (σ id) e') (hpin : e'.pin = e.pin) :
    R B w0 ok0 ok σ ⟨s.T, E'⟩ a w' := by
  obtain ⟨hb1, hb2⟩ := h.core.blk id e g he hg
  have hB := h.own id e g he hg
  have hwok : ∀ q, ok q → w'.heap[q]? = w.heap[q]? := fun q hq => hw q fun e => hb1 (e ▸ hq)
  have look : ∀ j f, (St.mk s.T E').ent j = some f → (j = id ∧ f = e') ∨ (j ≠ id ∧ s.ent j = some f) := by
    intro j f hj
    have h1 : E'.lookup j = some f := hj
    rw [hE] at h1
    split at h1
    · rename_i hji
      exact .inl ⟨hji, by simpa using h1.symm⟩
    · rename_i hji
      exact .inr ⟨hji, h1⟩
  refine ⟨⟨h.core.len, fun q hq => by rw [hsize]; exact h.core.okL q hq, h.core.lib.mono (fun _ h => h) hwok, fun t => ?_, fun j f hj => ?_, fun j f q hj hq => ?_, fun i j f1 f2 q hi hj h1 h2 => ?_⟩, h.defers, h.below.trans ?_, by rw [hsize]; exact h.base, h.old, h.fresh, fun j f q hj hq => ?_⟩
  · have h1 := h.core.tmp t
    exact h1.mono0 (fun _ h => h) hwok
  · rcases look j f hj with ⟨rfl, rfl⟩ | ⟨h1, h2⟩
    · exact hok
    · refine (h.core.ent j f h2).mono (fun _ h => h) hwok fun q hq => hw q fun e1 => ?_
      subst e1
      exact h1 (h.core.inj _ _ _ _ _ h2 he hq hg)
  · rw [hsize]
    rcases look j f hj with ⟨rfl, rfl⟩ | ⟨h1, h2⟩
    · exact h.core.blk _ _ _ he hq
    · exact h.core.blk _ _ _ h2 hq
  · rcases look i f1 hi with ⟨a1, a2⟩ | ⟨a1, a2⟩ <;> rcases look j f2 hj with ⟨b1, b2⟩ | ⟨b1, b2⟩
    · omega
    · subst a1
      exact h.core.inj _ _ _ _ _ he b2 h1 h2
    · subst b1
      exact h.core.inj _ _ _ _ _ a2 he h1 h2
    · exact h.core.inj _ _ _ _ _ a2 b2 h1 h2
  · refine ⟨hos, htp, hou, by rw [hsize]; exact Nat.le_refl _, fun q hq hx => hw q fun e1 => ?_⟩
    subst e1
    split at hB
    · exact hx hB
    · omega
  · rcases look j f hj with ⟨rfl, rfl⟩ | ⟨h1, h2⟩
    · rw [hpin]
      exact h.own _ _ _ he hq
    · exact h.own _ _ _ h2 hq
def trV : Tr → Option Value
  | .v x => some x
  | _ => none
/-- A slot's value that is known. -/
def keyV : AV → Option Value
  | .c (.v x) => some x
  | .ag cs => (cs.mapM trV).map fun xs => .agg xs.toArray
  | _ => none
theorem mapM_v {ok : Nat → Prop} {w : World} : ∀ (cs : List Tr) (vs xs : List Value), RdL ok w cs vs → (cs.mapM trV) = some xs → vs = xs
  | [], _, xs, .nil, h => by simpa using h
  | c :: cs, _, xs, .cons h1 h2, h => by
    rw [List.mapM_cons] at h
    cases c with
    | v x =>
      simp only [trV, Option.pure_def, Option.bind_eq_bind, Option.bind_some] at h
      cases h3 : (cs.mapM trV) with
      | none => rw [h3] at h; cases h
      | some ys =>
        rw [h3] at h
        simp only [Option.bind_some, Option.some.injEq] at h
        subst h
        have := mapM_v cs _ ys h2 h3
        subst this
        cases h1
        rfl
    | sl e => simp [trV] at h
    | mp e => simp [trV] at h
theorem keyV_eval {ok : Nat → Prop} {σ : Nat → Loc} {s : St} {a : Act} {w : World} (h : Core ok σ s a w) {x : Operand} {v : Value} (hx : keyV (s.ev x) = some v) : a.eval x = v := by
  have h1 := h.ev x
  cases hs : s.ev x with
  | c t =>
    rw [hs] at hx
    cases t with
    | v y =>
      injection hx with hx
      subst hx
      exact h.exact hs
    | sl e => cases hx
    | mp e => cases hx
  | ag cs =>
    rw [hs] at hx h1
    obtain ⟨vs, hv, hr⟩ := (h1 : Rel1 ok σ w (.ag cs) (a.eval x))
    simp only [keyV, Option.map_eq_some_iff] at hx
    obtain ⟨xs, h2, h3⟩ := hx
    have := mapM_v cs vs.toList xs hr h2
    rw [hv, ← h3, ← this]
  | bot => rw [hs] at hx; cases hx
  | ow _ => rw [hs] at hx; cases hx
  | pt _ _ => rw [hs] at hx; cases hx
  | po _ _ _ _ => rw [hs] at hx; cases hx
  | pe _ => rw [hs] at hx; cases hx
  | fn _ _ => rw [hs] at hx; cases hx
  | er _ => rw [hs] at hx; cases hx
  | vw _ _ _ => rw [hs] at hx; cases hx
  | sf _ _ _ => rw [hs] at hx; cases hx
  | tn => rw [hs] at hx; cases hx
  | tc _ _ => rw [hs] at hx; cases hx
def MpOk (P : Program) (t : TypeId) {κ ν : Type} [DecidableEq κ] (ek : κ → Value) (ev : ν → Value) (z : ν) : Prop := ∃ kt vt, P.underlying t = some (.map kt vt) ∧ KeyT P kt ek ∧ (P.info? vt).bind (·.zero) = some (ev z) ∧ ∀ v, (ev v).oneCell' = true
/-- What a slot with a map stands for. -/
def mapIn (s : St) : AV → Option (List (Value × Value))
  | .c (.mp kvs) => some kvs
  | _ => none
theorem lookup_own {ok : Nat → Prop} {σ : Nat → Loc} {s : St} {a : Act} {w : World} (h : Core ok σ s a w) {x : Operand} {id b : Nat} {kvs : List (Value × Value)} (hx : s.ev x = .c (.v (.map (some b)))) (he : s.ent id = some (.mp b kvs)) : a.eval x = .map (some b) ∧ ∃ es clock, w.heap[b]? = some (.map es clock) ∧ es.toList.map kvOf = kvs := by
  obtain ⟨h1, es, clock, h2, h3⟩ := h.ent id _ he
  exact ⟨h.exact hx, es, clock, h2, h3⟩
theorem lookup_frz {ok : Nat → Prop} {σ : Nat → Loc} {s : St} {a : Act} {w : World} (h : Core ok σ s a w) {x : Operand} {kvs : List (Value × Value)} (hx : s.ev x = .c (.mp kvs)) : ∃ b, a.eval x = .map (some b) ∧ ∃ es clock, w.heap[b]? = some (.map es clock) ∧ es.toList.map kvOf = kvs := by
  have h1 := h.ev x
  rw [hx] at h1
  have h2 : Rd ok w (.mp kvs) (a.eval x) := h1
  generalize a.eval x = y at h2
  cases h2 with
  | mp b es clock hok hb => exact ⟨b, rfl, es, clock, hb, rfl⟩
theorem Y0_lookM {o : Oper} {s : St} {x k : Operand} {t : TypeId} {κ ν : Type} [DecidableEq κ] {ek : κ → Value} {ev : ν → Value} {z : ν} {id b : Nat} {m : List (κ × ν)} {a : κ} (hm : MpOk P t ek ev z) (ho : o.op = .lookup t x k false) (hx : s.ev x = .c (.v (.map (some b)))) (he : s.ent id = some (.mp b (m.map fun p => (ek p.1, ev p.2)))) (hk : keyV (s.ev k) = some (ek a)) :
    Y0 P o s (.c (.v (ev (mAt a m z)))) :=
  Y0_of_run fun ok σ ac w hC => by
    obtain ⟨kt, vt, h1, h2, h3, h4⟩ := hm
    obtain ⟨e1, es, clock, e2, e3⟩ := lookup_own hC hx he
    have := run_lookupM h1 h2 h3 e2 e3 a false
    refine ⟨_, ?_, Rd.v _ (h4 _)⟩
    unfold execOp
    rw [ho]
    simp only [e1, keyV_eval hC hk, Sem.run_bind, this, Result.andThen_ok, Sem.run_pure]
    rfl
theorem Y0_lookM2 {o : Oper} {s : St} {x k : Operand} {t : TypeId} {κ ν : Type} [DecidableEq κ] {ek : κ → Value} {ev : ν → Value} {z : ν} {id b : Nat} {m : List (κ × ν)} {a : κ} (hm : MpOk P t ek ev z) (ho : o.op = .lookup t x k true) (hx : s.ev x = .c (.v (.map (some b)))) (he : s.ent id = some (.mp b (m.map fun p => (ek p.1, ev p.2)))) (hk : keyV (s.ev k) = some (ek a)) :
    Y0 P o s (.tc (.c (.v (ev (mAt a m z)))) (.tc (.c (.v (.bool (mHas a m)))) .tn)) :=
  Y0_of_run fun ok σ ac w hC => by
    obtain ⟨kt, vt, h1, h2, h3, h4⟩ := hm
    obtain ⟨e1, es, clock, e2, e3⟩ := lookup_own hC hx he
    have := run_lookupM h1 h2 h3 e2 e3 a true
    refine ⟨_, ?_, ⟨#[ev (mAt a m z), .bool (mHas a m)], rfl, Rd.v _ (h4 _), Rd.v _ rfl, trivial⟩⟩
    unfold execOp
    rw [ho]
    simp only [e1, keyV_eval hC hk, Sem.run_bind, this, Result.andThen_ok, Sem.run_pure]
    rfl
theorem Y0_lookF {o : Oper} {s : St} {x k : Operand} {t : TypeId} {κ ν : Type} [DecidableEq κ] {ek : κ → Value} {ev : ν → Value} {z : ν} {m : List (κ × ν)} {a : κ} (hm : MpOk P t ek ev z) (ho : o.op = .lookup t x k false) (hx : s.ev x = .c (.mp (m.map fun p => (ek p.1, ev p.2)))) (hk : keyV (s.ev k) = some (ek a)) :
    Y0 P o s (.c (.v (ev (mAt a m z)))) :=
  Y0_of_run fun ok σ ac w hC => by
    obtain ⟨kt, vt, h1, h2, h3, h4⟩ := hm
    obtain ⟨b, e1, es, clock, e2, e3⟩ := lookup_frz hC hx
    have := run_lookupM h1 h2 h3 e2 e3 a false
    refine ⟨_, ?_, Rd.v _ (h4 _)⟩
    unfold execOp
    rw [ho]
    simp only [e1, keyV_eval hC hk, Sem.run_bind, this, Result.andThen_ok, Sem.run_pure]
    rfl
theorem Y0_lookF2 {o : Oper} {s : St} {x k : Operand} {t : TypeId} {κ ν : Type} [DecidableEq κ] {ek : κ → Value} {ev : ν → Value} {z : ν} {m : List (κ × ν)} {a : κ} (hm : MpOk P t ek ev z) (ho : o.op = .lookup t x k true) (hx : s.ev x = .c (.mp (m.map fun p => (ek p.1, ev p.2)))) (hk : keyV (s.ev k) = some (ek a)) :
    Y0 P o s (.tc (.c (.v (ev (mAt a m z)))) (.tc (.c (.v (.bool (mHas a m)))) .tn)) :=
  Y0_of_run fun ok σ ac w hC => by
    obtain ⟨kt, vt, h1, h2, h3, h4⟩ := hm
    obtain ⟨b, e1, es, clock, e2, e3⟩ := lookup_frz hC hx
    have := run_lookupM h1 h2 h3 e2 e3 a true
    refine ⟨_, ?_, ⟨#[ev (mAt a m z), .bool (mHas a m)], rfl, Rd.v _ (h4 _), Rd.v _ rfl, trivial⟩⟩
    unfold execOp
    rw [ho]
    simp only [e1, keyV_eval hC hk, Sem.run_bind, this, Result.andThen_ok, Sem.run_pure]
    rfl
theorem X_putM {o : Oper} {s : St} {x k v : Operand} {t : TypeId} {κ ν : Type} [DecidableEq κ] {ek : κ → Value} {ev : ν → Value} {z : ν} {id b : Nat} {m : List (κ × ν)} {a : κ} {u : ν} (hm : MpOk P t ek ev z) (ho : o.op = .mapUpdate t x k v ∨ o.op = .insert t x k v) (hd : o.dst = none) (hx : s.ev x = .c (.v (.map (some b)))) (he : s.ent id = some (.mp b (m.map fun p => (ek p.1, ev p.2)))) (hk : keyV (s.ev k) = some (ek a)) (hv : s.ev v = .c (.v (ev u))) :
    X P o s ⟨s.T, setE id (.mp b ((mPut a u m).map fun p => (ek p.1, ev p.2))) s.E⟩ := by
  intro B w0 ok0 ok σ ac w hR K Q hK
  obtain ⟨kt, vt, h1, h2, h3, h4⟩ := hm
  obtain ⟨e1, es, clock, e2, e3⟩ := lookup_own hR.core hx he
  obtain ⟨es', clock', r1, r2⟩ := run_mapUpdateM h1 h2 e2 e3 a u
  have ek1 := keyV_eval hR.core hk
  have ev1 := hR.core.exact hv
  have hblk := (hR.core.ent id _ he).1
  have hset := MapKept.heap_set (o' := .map es' clock') e2
  have hR' := hR.writeG (w' := { w with heap := w.heap.setIfInBounds b (.map es' clock') }) he hblk (by simp) (fun q hq => hset.2 q hq) rfl rfl rfl _ (setE_look id (.mp b ((mPut a u m).map fun p => (ek p.1, ev p.2))) s.E _ he) ⟨hblk, es', clock', hset.1, r2⟩ rfl
  have hrun : (execOp ac.eval o).run P w = .ok .skip { w with heap := w.heap.setIfInBounds b (.map es' clock') } := by
    unfold execOp
    rcases ho with ho | ho <;> rw [ho] <;> simp only [e1, ek1, ev1, Sem.run_bind, r1, Result.andThen_ok, Sem.run_pure]
  unfold Oper.wp
  rw [hrun]
  show K (ac.put o.dst undef) _
  rw [hd]
  exact hK _ _ _ _ hR'
/-- A map is made: its place is known from then on. -/
theorem XL_mkmap {ops : Array Oper} {o : Oper} {rest : List Oper} {s : St} {J : St → Prop} {t : TypeId} {d : Nat} (hg : o.guard = none) (ho : o.op = .makeMap t none) (hd : o.dst = some d) (hk : ∀ b : Nat, XL P ops rest ⟨(killT d s.T).set d (.c (.v (.map (some b)))), (d * 8, .mp b []) :: killE d s.E⟩ J) : XL P ops (o :: rest) s J := by
  intro B w0 ok0 ok σ a w hR Q hQ
  refine wpList_plain hg fun K hK => ?_
  have hnew : New w (w.alloc (.map #[] 0)) ok ok (fun _ => ⟨some w.heap.size, 0, 0⟩) (.c (.v (.map (some w.heap.size)))) [(0, .mp w.heap.size [])] (.map (some w.heap.size)) := by
    have ha := MapKept.heap_alloc w (.map #[] 0)
    have hsz : (w.alloc (.map #[] 0)).heap.size = w.heap.size + 1 := by
      show (w.heap.push _).size = _
      simp
    refine ⟨⟨rfl, rfl, rfl, by omega, fun k hk => ha.2 k hk⟩, fun _ h => h, fun _ h => .inl h, fun g hg => by have := hR.core.okL g hg; omega, Rd.v _ rfl, fun id e he => ?_, fun e he => rfl, fun id e he => ?_, fun id e g he hg => ?_, fun i j e f g hi hj _ _ => ?_, fun id e he => ?_⟩
    · obtain ⟨h1, _⟩ := look_one _ _ _ _ he; omega
    · obtain ⟨h1, h2⟩ := look_one _ _ _ _ he
      subst h2
      exact ⟨rfl, #[], 0, ha.1, rfl⟩
    · have e1 : w.heap.size = g := by simpa using hg
      subst e1
      exact ⟨Nat.le_refl _, fun h => Nat.lt_irrefl _ (hR.core.okL _ h), by omega⟩
    · obtain ⟨h1, _⟩ := look_one _ _ _ _ hi
      obtain ⟨h2, _⟩ := look_one _ _ _ _ hj
      omega
    · obtain ⟨_, h2⟩ := look_one _ _ _ _ he
      subst h2; rfl
  have hrun : (execOp a.eval o).run P w = .ok (.value (.map (some w.heap.size))) (w.alloc (.map #[] 0)) := by
    unfold execOp
    rw [ho]
    simp [Instr.makeMap]
  have hR' := hR.upd (d := d) hnew
  unfold Oper.wp
  rw [hrun]
  show K (a.put o.dst _) _
  rw [hd]
  exact hK _ _ (hk w.heap.size B w0 ok0 ok (fun id => if id / 8 = d then ⟨some w.heap.size, 0, 0⟩ else σ id) _ _ hR' Q hQ)
/-- A statement, with a map's place that is known behind it. -/
theorem V_regM {id : Nat} {ops : Array Oper} {s : St} {J : Exit → St → Prop} (S : Nat → St) (m : List Bool) (ids : List Nat) (h : XL P ops ops.toList s (fun s' => ∃ b, s'.keep m ids = S b)) (hj : ∀ b, J .normal (S b)) : V P (.region id ops false) s J := by
  refine V_region fun B w0 ok0 ok σ a w hR Q hQ => ?_
  refine h _ _ _ _ _ _ _ hR Q fun s' a' w' ok' σ' hs hR' => ?_
  obtain ⟨b, hs⟩ := hs
  exact hQ _ a' w' ok' σ' (hj b) (by rw [← hs]; exact hR'.le (keep_le m ids s'))
theorem V_sregM {id : Nat} {ops : Array Oper} {y : Code} {s : St} {J : Exit → St → Prop} (S : Nat → St) (m : List Bool) (ids : List Nat) (h : XL P ops ops.toList s (fun s' => ∃ b, s'.keep m ids = S b)) (hv : ∀ b, V P y (S b) J) : V P (.seq (.region id ops false) y) s J := V_seq (V_regM S m ids h hv)
/-- A map that nobody writes any more, told by the variable that holds it. -/
theorem R_frzM {B : Fr} {w0 : World} {ok0 ok : Nat → Prop} {σ : Nat → Loc} {s : St} {a : Act} {w : World} (hR : R B w0 ok0 ok σ s a w) (id id2 j : Nat) {b : Nat} {kvs : List (Value × Value)} {cs : List Tr} (he : s.ent id = some (.mp b kvs)) (h2 : s.ent id2 = some (.box cs)) (hj : cs[j]? = some (.v (.map (some b)))) :
    R B w0 ok0 (fun g => ok g ∨ g = b) σ ⟨s.T, setE id2 (.box (cs.set j (.mp kvs))) (rmE id s.E)⟩ a w := by
  have hup : ∀ g, ok g → ok g ∨ g = b := fun g hg => .inl hg
  obtain ⟨hb1, es, clock, hb2, hb3⟩ := hR.core.ent id _ he
  have hbb := hR.core.blk id _ b he hb1
  have hne : id2 ≠ id := fun e => by rw [e, he] at h2; cases h2
  have hrm : (rmE id s.E).lookup id2 = some (.box cs) := by rw [rmE_look, if_neg hne]; exact h2
  have look : ∀ j e, (St.mk s.T (setE id2 (.box (cs.set j (.mp kvs))) (rmE id s.E))).ent j = some e → True := fun _ _ _ => trivial
  have lk : ∀ i e, (setE id2 (.box (cs.set j (.mp kvs))) (rmE id s.E)).lookup i = some e → (i = id2 ∧ e = .box (cs.set j (.mp kvs))) ∨ (i ≠ id2 ∧ i ≠ id ∧ s.ent i = some e) := by
    intro i e hi
    rw [setE_look id2 _ _ _ hrm] at hi
    by_cases h : i = id2
    · rw [if_pos h] at hi
      exact .inl ⟨h, by simpa using hi.symm⟩
    · rw [if_neg h, rmE_look] at hi
      split at hi
      · cases hi
      · rename_i hn
        exact .inr ⟨h, hn, hi⟩
  refine ⟨⟨hR.core.len, fun g hg => ?_, hR.core.lib.mono hup (fun _ _ => rfl), fun t => (hR.core.tmp t).mono0 hup fun _ _ => rfl, fun i e hi => ?_, fun i e g hi hg => ?_, fun i k e f g hi hk h1 h3 => ?_⟩, hR.defers, hR.below, hR.base, fun g hg => .inl (hR.old g hg), fun g hg => ?_, fun i e g hi hg => ?_⟩
  · rcases hg with hg | hg
    · exact hR.core.okL g hg
    · rw [hg]; exact hbb.2
  · rcases lk i e hi with ⟨rfl, rfl⟩ | ⟨_, _, h5⟩
    · obtain ⟨g, arr, T, g1, g2, g3⟩ := hR.core.ent _ _ h2
      refine ⟨g, arr, T, g1, g2, ?_⟩
      have hr := g3.mono hup (fun _ _ => rfl : ∀ g, ok g → w.heap[g]? = w.heap[g]?)
      obtain ⟨u, hu1, hu2⟩ := g3.get j _ hj
      have huv : u = .map (some b) := by cases hu2; rfl
      subst huv
      have hnew : Rd (fun g => ok g ∨ g = b) w (.mp kvs) (.map (some b)) := by
        rw [← hb3]
        exact .mp b es clock (.inr rfl) hb2
      have hset := hr.set j hnew
      have : arr.toList.set j (.map (some b)) = arr.toList := by
        apply List.ext_getElem?
        intro q
        rw [List.getElem?_set]
        split
        · rename_i hq
          subst hq
          split
          · exact hu1.symm
          · rename_i hlt
            rw [List.getElem?_eq_none (by omega)]
        · rfl
      rwa [this] at hset
    · exact (hR.core.ent i e h5).mono hup (fun _ _ => rfl) fun _ _ => rfl
  · have key : ∃ e0, s.ent i = some e0 ∧ i ≠ id := by
      rcases lk i e hi with ⟨rfl, rfl⟩ | ⟨_, h4, h5⟩
      · exact ⟨_, h2, hne⟩
      · exact ⟨e, h5, h4⟩
    obtain ⟨e0, k1, k2⟩ := key
    obtain ⟨h3, h4⟩ := hR.core.blk i e0 g k1 hg
    refine ⟨fun h5 => ?_, h4⟩
    rcases h5 with h5 | h5
    · exact h3 h5
    · exact k2 (hR.core.inj _ _ _ _ _ k1 he (by rw [hg, h5]) hb1)
  · have key : ∀ i e, (setE id2 (.box (cs.set j (.mp kvs))) (rmE id s.E)).lookup i = some e → ∃ e0, s.ent i = some e0 := by
      intro i e hi
      rcases lk i e hi with ⟨rfl, rfl⟩ | ⟨_, h4, h5⟩
      · exact ⟨_, h2⟩
      · exact ⟨e, h5⟩
    obtain ⟨e0, k1⟩ := key i e hi
    obtain ⟨f0, k2⟩ := key k f hk
    exact hR.core.inj i k e0 f0 g k1 k2 h1 h3
  · rcases hg with hg | hg
    · exact hR.fresh g hg
    · have := hR.own id _ b he hb1
      rw [if_neg (fun hc => by cases hc)] at this
      exact .inr (by rw [hg]; exact this)
  · rcases lk i e hi with ⟨rfl, rfl⟩ | ⟨_, _, h5⟩
    · have h6 : B.n ≤ g := hR.own _ _ g h2 hg
      exact h6
    · exact hR.own i e g h5 hg
theorem V_freezeM {c : Code} {s s1 : St} {J : Exit → St → Prop} (id id2 j : Nat) {b : Nat} {kvs : List (Value × Value)} {cs : List Tr} (he : s.ent id = some (.mp b kvs)) (h2 : s.ent id2 = some (.box cs)) (hj : cs[j]? = some (.v (.map (some b)))) (hs : (⟨s.T, setE id2 (.box (cs.set j (.mp kvs))) (rmE id s.E)⟩ : St) = s1) (h : V P c s1 J) : V P c s J := by
  subst hs
  exact fun _ _ _ _ _ _ _ hR => h _ _ _ _ _ _ _ (R_frzM hR id id2 j he h2 hj)
end
end Go.Proofs.YtnheekadeflecaaGreat
