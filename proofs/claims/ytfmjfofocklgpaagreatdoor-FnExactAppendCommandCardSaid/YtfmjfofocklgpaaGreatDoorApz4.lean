/-
  Rules of walks, plain functions and their laws, part 4.
  Conditions: none.
-/
import Derived.MapKept
import Derived.Test.YtfmjfofocklgpaaGreatDoorRows
import Derived.Test.YtfmjfofocklgpaaGreatDoorApz3
namespace Go.Proofs.YtfmjfofocklgpaaGreatDoor
open Go.RowKit
set_option linter.unusedSimpArgs false
set_option linter.unusedVariables false
theorem ba_beq (a b : ByteArray) : (a == b) = decide (a = b) := by
  have h : (a == b) = (a.data == b.data) := rfl
  rw [h, Bool.eq_iff_iff, beq_iff_eq, decide_eq_true_iff]
  constructor
  · intro h
    cases a
    cases b
    exact congrArg _ h
  · intro h
    rw [h]
section
variable {κ ν : Type} [DecidableEq κ]
theorem ixM_none {a : κ} : ∀ {m : List (κ × ν)}, ixM a (m.map Prod.fst) = none → mGet a m = none ∧ ∀ v, mPut a v m = m ++ [(a, v)]
  | [], _ => ⟨rfl, fun _ => rfl⟩
  | p :: ps, h => by
    simp only [List.map_cons, ixM] at h
    by_cases e : a = p.1
    · rw [if_pos e] at h; cases h
    · rw [if_neg e] at h
      have h2 : ixM a (ps.map Prod.fst) = none := by simpa using h
      obtain ⟨k1, k2⟩ := ixM_none h2
      exact ⟨by unfold mGet; rw [if_neg e, k1], fun v => by unfold mPut; rw [if_neg e, k2]; rfl⟩
theorem ixM_some {a : κ} : ∀ {m : List (κ × ν)} {j : Nat}, ixM a (m.map Prod.fst) = some j → ∃ v0, m[j]? = some (a, v0) ∧ mGet a m = some v0 ∧ ∀ v, mPut a v m = m.set j (a, v)
  | [], j, h => by cases h
  | p :: ps, j, h => by
    simp only [List.map_cons, ixM] at h
    by_cases e : a = p.1
    · rw [if_pos e] at h
      injection h with h
      subst h
      refine ⟨p.2, by rw [e]; rfl, by unfold mGet; rw [if_pos e], fun v => by unfold mPut; rw [if_pos e]; rfl⟩
    · rw [if_neg e] at h
      cases h2 : ixM a (ps.map Prod.fst) with
      | none => rw [h2] at h; cases h
      | some i =>
        rw [h2] at h
        injection h with h
        subst h
        obtain ⟨v0, k1, k2, k3⟩ := ixM_some h2
        exact ⟨v0, by simpa using k1, by unfold mGet; rw [if_neg e, k2], fun v => by unfold mPut; rw [if_neg e, k3]; rfl⟩
end
section
variable {P : Program}
/-- A type of keys: what a key is, and that the model finds it. -/
structure KeyT (P : Program) {κ : Type} [DecidableEq κ] (kt : TypeId) (ek : κ → Value) : Prop where
  chk : ∀ b a w, (Instr.checkKey b 10000 kt (ek a)).run P w = .ok () w
  find : ∀ a (es : List MapEntry) (ks : List κ) w, es.map (·.key) = ks.map ek → (Instr.findKey kt (ek a) es).run P w = .ok ((ixM a ks).bind fun j => (es[j]?).map fun e => (j, e.val)) w
  bits : ∀ a, Instr.sameBits 10000 (ek a) (ek a) = true
theorem findNow_run {κ : Type} [DecidableEq κ] {d : TypeDesc} {ek : κ → Value} (hs : ∀ a b, Instr.sameNow d (ek a) (ek b) = some (decide (a = b))) (a : κ) : ∀ (es : List MapEntry) (ks : List κ) (i : Nat), es.map (·.key) = ks.map ek →
    Instr.findNow d (ek a) es i = some ((ixM a ks).bind fun j => (es[j]?).map fun e => (i + j, e.val))
  | [], [], i, _ => rfl
  | [], k :: ks, i, h => by simp at h
  | e :: es, [], i, h => by simp at h
  | e :: es, k :: ks, i, h => by
    simp only [List.map_cons, List.cons.injEq] at h
    have ih := findNow_run hs a es ks (i + 1) h.2
    unfold Instr.findNow
    rw [h.1, hs]
    by_cases e1 : a = k
    · simp [e1, ixM]
    · simp only [decide_eq_false e1, ih, ixM, if_neg e1]
      cases ixM a ks with
      | none => rfl
      | some j =>
        simp only [Option.bind_some, Option.map_some, List.getElem?_cons_succ]
        rw [show i + 1 + j = i + (j + 1) by omega]
theorem keyT_now {κ : Type} [DecidableEq κ] {kt : TypeId} {ek : κ → Value} (d : TypeDesc) (hd : P.underlying kt = some d) (chk : ∀ b a w, (Instr.checkKey b 10000 kt (ek a)).run P w = .ok () w) (hs : ∀ a b, Instr.sameNow d (ek a) (ek b) = some (decide (a = b)))
    (bits : ∀ a, Instr.sameBits 10000 (ek a) (ek a) = true) : KeyT P kt ek := by
  refine ⟨chk, fun a es ks w h => ?_, bits⟩
  unfold Instr.findKey
  simp only [Sem.run_bind, run_underlying hd, Result.andThen_ok]
  have := findNow_run hs a es ks 0 h
  simp only [Nat.zero_add] at this
  rw [this]
  rfl
theorem run_zero {t : TypeId} {z : Value} (h : (P.info? t).bind (·.zero) = some z) (w : World) : (zeroValue t).run P w = .ok z w := by
  cases hi : P.info? t with
  | none => rw [hi] at h; cases h
  | some i =>
    rw [hi] at h
    have h2 : i.zero = some z := h
    simp [zeroValue, typeInfo, hi, h2]
/-- What the model reads in a map that is a list. -/
theorem run_lookupM {κ ν : Type} [DecidableEq κ] {ek : κ → Value} {ev : ν → Value} {t kt vt : TypeId} {z : ν} (ht : P.underlying t = some (.map kt vt)) (hk : KeyT P kt ek) (hz : (P.info? vt).bind (·.zero) = some (ev z)) {w : World} {b : Nat} {es : Array MapEntry} {clock : Nat} (hb : w.heap[b]? = some (.map es clock))
    {m : List (κ × ν)} (hm : es.toList.map kvOf = m.map fun p => (ek p.1, ev p.2)) (a : κ) (co : Bool) :
    (Instr.lookup t (.map (some b)) (ek a) co).run P w = .ok (if co then .tuple #[ev (mAt a m z), .bool (mHas a m)] else ev (mAt a m z)) w := by
  have hkeys : es.toList.map (·.key) = (m.map Prod.fst).map ek := by
    have := congrArg (List.map Prod.fst) hm
    simpa [kvOf, Function.comp_def] using this
  have hf := hk.find a es.toList (m.map Prod.fst) w hkeys
  unfold Instr.lookup
  simp only [Sem.run_bind, run_underlying ht, Result.andThen_ok, MapKept.run_getObj_map hb, Sem.run_pure, hk.chk, hf]
  cases hi : ixM a (m.map Prod.fst) with
  | none =>
    obtain ⟨k1, _⟩ := ixM_none hi
    simp only [Option.bind_none, Sem.run_bind, run_zero hz, Result.andThen_ok, Sem.run_pure, mAt, mHas, k1, Option.getD_none, Option.isSome_none]
  | some j =>
    obtain ⟨v0, k1, k2, _⟩ := ixM_some hi
    have he : ∃ e, es.toList[j]? = some e ∧ e.val = ev v0 := by
      have h1 := congrArg (fun l => l[j]?) hm
      simp only [List.getElem?_map, k1, Option.map_some] at h1
      cases h2 : es.toList[j]? with
      | none => rw [h2] at h1; cases h1
      | some e =>
        rw [h2] at h1
        simp only [Option.map_some, Option.some.injEq, kvOf, Prod.mk.injEq] at h1
        exact ⟨e, rfl, h1.2⟩
    obtain ⟨e, e1, e2⟩ := he
    simp only [Option.bind_some, e1, Option.map_some, Sem.run_bind, Sem.run_pure, Result.andThen_ok, mAt, mHas, k2, Option.getD_some, Option.isSome_some, e2]
/-- What the model writes into a map that is a list. -/
theorem run_mapUpdateM {κ ν : Type} [DecidableEq κ] {ek : κ → Value} {ev : ν → Value} {t kt vt : TypeId} (ht : P.underlying t = some (.map kt vt)) (hk : KeyT P kt ek) {w : World} {b : Nat} {es : Array MapEntry} {clock : Nat} (hb : w.heap[b]? = some (.map es clock))
    {m : List (κ × ν)} (hm : es.toList.map kvOf = m.map fun p => (ek p.1, ev p.2)) (a : κ) (v : ν) :
    ∃ es' clock', (Instr.mapUpdate t (.map (some b)) (ek a) (ev v)).run P w = .ok () { w with heap := w.heap.setIfInBounds b (.map es' clock') } ∧ es'.toList.map kvOf = (mPut a v m).map fun p => (ek p.1, ev p.2) := by
  have hkeys : es.toList.map (·.key) = (m.map Prod.fst).map ek := by
    have := congrArg (List.map Prod.fst) hm
    simpa [kvOf, Function.comp_def] using this
  have hf := hk.find a es.toList (m.map Prod.fst) w hkeys
  cases hi : ixM a (m.map Prod.fst) with
  | none =>
    obtain ⟨_, k2⟩ := ixM_none hi
    refine ⟨es.push { key := ek a, val := ev v, born := clock }, clock + 1, ?_, ?_⟩
    · unfold Instr.mapUpdate
      rw [hi] at hf
      simp only [Sem.run_bind, run_underlying ht, Result.andThen_ok, MapKept.run_getObj_map hb, Sem.run_pure, hk.chk, hf, Option.bind_none, MapKept.run_setObj_map _ hb]
    · rw [k2]
      simp [hm, kvOf]
  | some j =>
    obtain ⟨v0, k1, _, k3⟩ := ixM_some hi
    have he : ∃ e, es.toList[j]? = some e ∧ e.key = ek a := by
      have h1 := congrArg (fun l => l[j]?) hm
      simp only [List.getElem?_map, k1, Option.map_some] at h1
      cases h2 : es.toList[j]? with
      | none => rw [h2] at h1; cases h1
      | some e =>
        rw [h2] at h1
        simp only [Option.map_some, Option.some.injEq, kvOf, Prod.mk.injEq] at h1
        exact ⟨e, rfl, h1.1⟩
    obtain ⟨e, e1, e2⟩ := he
    have e3 : es[j]? = some e := by simpa using e1
    refine ⟨es.modify j fun e => { e with key := ek a, val := ev v }, clock, ?_, ?_⟩
    · unfold Instr.mapUpdate
      rw [hi] at hf
      simp only [Sem.run_bind, run_underlying ht, Result.andThen_ok, MapKept.run_getObj_map hb, Sem.run_pure, hk.chk, hf, Option.bind_some, e1, Option.map_some, e3, Option.getD_some, e2, Instr.keyThatStays, hk.bits, if_true, MapKept.run_setObj_map _ hb]
    · rw [k3, Array.toList_modify]
      apply List.ext_getElem?
      intro i
      have h1 := congrArg (fun l => l[i]?) hm
      simp only [List.getElem?_map] at h1 ⊢
      rw [List.getElem?_modify, List.getElem?_set]
      by_cases hij : j = i
      · subst hij
        have hlt : j < m.length := (List.getElem?_eq_some_iff.1 k1).1
        simp [e1, hlt, kvOf]
      · simp only [hij, if_false, Option.map_map]
        rw [← h1]
        cases es.toList[i]? <;> rfl
/-- A map of the call's own is written. -/
theorem R.writeG {B : Fr} {w0 : World} {ok0 ok : Nat → Prop} {σ : Nat → Loc} {s : St} {a : Act} {w w' : World} (h : R B w0 ok0 ok σ s a w) {id : Nat} {e e' : Ent} {g : Nat} (he : s.ent id = some e) (hg : (σ id).blk = some g) (hsize : w'.heap.size = w.heap.size)
    (hw : ∀ q, q ≠ g → w'.heap[q]? = w.heap[q]?) (hos : w'.os = w.os) (htp : w'.tape = w.tape) (hou : w'.output = w.output) (E' : List (Nat × Ent)) (hE : ∀ j, (E'.lookup j) = if j = id then some e' else s.ent j) (hok : EntOk ok w' (σ id) e') (hpin : e'.pin = e.pin) :
    R B w0 ok0 ok σ ⟨s.T, E'⟩ a w' := by
  obtain ⟨hb1, hb2⟩ := h.core.blk id e g he hg
  have hB := h.own id e g he hg
  have hwok : ∀ q, ok q → w'.heap[q]? = w.heap[q]? := fun q hq => hw q fun e => hb1 (e ▸ hq)
  have look : ∀ j f, (St.mk s.T E').ent j = some f → (j = id ∧ f = e') ∨ (j ≠ id ∧ s.ent j = some f) := by
    intro j f hj
    have h1 : E'.lookup j = some f := hj
    rw [hE] at h1
    split at h1
    · rename_i hji
      exact .inl ⟨hji, by simpa using h1.symm⟩
    · rename_i hji
      exact .inr ⟨hji, h1⟩
  refine ⟨⟨h.core.len, fun q hq => by rw [hsize]; exact h.core.okL q hq, h.core.lib.mono (fun _ h => h) hwok, fun t => ?_, fun j f hj => ?_, fun j f q hj hq => ?_, fun i j f1 f2 q hi hj h1 h2 => ?_⟩, h.defers, h.below.trans ?_, by rw [hsize]; exact h.base, h.old, h.fresh, fun j f q hj hq => ?_⟩
  · have h1 := h.core.tmp t
    exact h1.mono0 (fun _ h => h) hwok
  · rcases look j f hj with ⟨rfl, rfl⟩ | ⟨h1, h2⟩
    · exact hok
    · refine (h.core.ent j f h2).mono (fun _ h => h) hwok fun q hq => hw q fun e1 => ?_
      subst e1
      exact h1 (h.core.inj _ _ _ _ _ h2 he hq hg)
  · rw [hsize]
    rcases look j f hj with ⟨rfl, rfl⟩ | ⟨h1, h2⟩
    · exact h.core.blk _ _ _ he hq
    · exact h.core.blk _ _ _ h2 hq
  · rcases look i f1 hi with ⟨a1, a2⟩ | ⟨a1, a2⟩ <;> rcases look j f2 hj with ⟨b1, b2⟩ | ⟨b1, b2⟩
    · omega
    · subst a1
      exact h.core.inj _ _ _ _ _ he b2 h1 h2
    · subst b1
      exact h.core.inj _ _ _ _ _ a2 he h1 h2
    · exact h.core.inj _ _ _ _ _ a2 b2 h1 h2
  · refine ⟨hos, htp, hou, by rw [hsize]; exact Nat.le_refl _, fun q hq hx => hw q fun e1 => ?_⟩
    subst e1
    split at hB
    · exact hx hB
    · omega
  · rcases look j f hj with ⟨rfl, rfl⟩ | ⟨h1, h2⟩
    · rw [hpin]
      exact h.own _ _ _ he hq
    · exact h.own _ _ _ h2 hq
def trV : Tr → Option Value
  | .v x => some x
  | _ => none
/-- A slot's value that is known. -/
def keyV : AV → Option Value
  | .c (.v x) => some x
  | .ag cs => (cs.mapM trV).map fun xs => .agg xs.toArray
  | _ => none
theorem mapM_v {ok : Nat → Prop} {w : World} : ∀ (cs : List Tr) (vs xs : List Value), RdL ok w cs vs → (cs.mapM trV) = some xs → vs = xs
  | [], _, xs, .nil, h => by simpa using h
  | c :: cs, _, xs, .cons h1 h2, h => by
    rw [List.mapM_cons] at h
    cases c with
    | v x =>
      simp only [trV, Option.pure_def, Option.bind_eq_bind, Option.bind_some] at h
      cases h3 : (cs.mapM trV) with
      | none => rw [h3] at h; cases h
      | some ys =>
        rw [h3] at h
        simp only [Option.bind_some, Option.some.injEq] at h
        subst h
        have := mapM_v cs _ ys h2 h3
        subst this
        cases h1
        rfl
    | sl e => simp [trV] at h
    | mp e => simp [trV] at h
theorem keyV_eval {ok : Nat → Prop} {σ : Nat → Loc} {s : St} {a : Act} {w : World} (h : Core ok σ s a w) {x : Operand} {v : Value} (hx : keyV (s.ev x) = some v) : a.eval x = v := by
  have h1 := h.ev x
  cases hs : s.ev x with
  | c t =>
    rw [hs] at hx
    cases t with
    | v y =>
      injection hx with hx
      subst hx
      exact h.exact hs
    | sl e => cases hx
    | mp e => cases hx
  | ag cs =>
    rw [hs] at hx h1
    obtain ⟨vs, hv, hr⟩ := (h1 : Rel1 ok σ w (.ag cs) (a.eval x))
    simp only [keyV, Option.map_eq_some_iff] at hx
    obtain ⟨xs, h2, h3⟩ := hx
    have := mapM_v cs vs.toList xs hr h2
    rw [hv, ← h3, ← this]
  | bot => rw [hs] at hx; cases hx
  | ow _ => rw [hs] at hx; cases hx
  | pt _ _ => rw [hs] at hx; cases hx
  | po _ _ _ _ => rw [hs] at hx; cases hx
  | pe _ => rw [hs] at hx; cases hx
  | fn _ _ => rw [hs] at hx; cases hx
  | er _ => rw [hs] at hx; cases hx
  | vw _ _ _ => rw [hs] at hx; cases hx
  | sf _ _ _ => rw [hs] at hx; cases hx
  | tn => rw [hs] at hx; cases hx
  | tc _ _ => rw [hs] at hx; cases hx
def MpOk (P : Program) (t : TypeId) {κ ν : Type} [DecidableEq κ] (ek : κ → Value) (ev : ν → Value) (z : ν) : Prop := ∃ kt vt, P.underlying t = some (.map kt vt) ∧ KeyT P kt ek ∧ (P.info? vt).bind (·.zero) = some (ev z) ∧ ∀ v, (ev v).oneCell' = true
theorem lookup_own {ok : Nat → Prop} {σ : Nat → Loc} {s : St} {a : Act} {w : World} (h : Core ok σ s a w) {x : Operand} {id b : Nat} {kvs : List (Value × Value)} (hx : s.ev x = .c (.v (.map (some b)))) (he : s.ent id = some (.mp b kvs)) : a.eval x = .map (some b) ∧ ∃ es clock, w.heap[b]? = some (.map es clock) ∧ es.toList.map kvOf = kvs := by
  obtain ⟨h1, es, clock, h2, h3⟩ := h.ent id _ he
  exact ⟨h.exact hx, es, clock, h2, h3⟩
theorem Y0_lookM {o : Oper} {s : St} {x k : Operand} {t : TypeId} {κ ν : Type} [DecidableEq κ] {ek : κ → Value} {ev : ν → Value} {z : ν} {id b : Nat} {m : List (κ × ν)} {a : κ} (hm : MpOk P t ek ev z) (ho : o.op = .lookup t x k false) (hx : s.ev x = .c (.v (.map (some b)))) (he : s.ent id = some (.mp b (m.map fun p => (ek p.1, ev p.2)))) (hk : keyV (s.ev k) = some (ek a)) :
    Y0 P o s (.c (.v (ev (mAt a m z)))) :=
  Y0_of_run fun ok σ ac w hC => by
    obtain ⟨kt, vt, h1, h2, h3, h4⟩ := hm
    obtain ⟨e1, es, clock, e2, e3⟩ := lookup_own hC hx he
    have := run_lookupM h1 h2 h3 e2 e3 a false
    refine ⟨_, ?_, Rd.v _ (h4 _)⟩
    unfold execOp
    rw [ho]
    simp only [e1, keyV_eval hC hk, Sem.run_bind, this, Result.andThen_ok, Sem.run_pure]
    rfl
theorem X_putM {o : Oper} {s : St} {x k v : Operand} {t : TypeId} {κ ν : Type} [DecidableEq κ] {ek : κ → Value} {ev : ν → Value} {z : ν} {id b : Nat} {m : List (κ × ν)} {a : κ} {u : ν} (hm : MpOk P t ek ev z) (ho : o.op = .mapUpdate t x k v ∨ o.op = .insert t x k v) (hd : o.dst = none) (hx : s.ev x = .c (.v (.map (some b)))) (he : s.ent id = some (.mp b (m.map fun p => (ek p.1, ev p.2)))) (hk : keyV (s.ev k) = some (ek a)) (hv : s.ev v = .c (.v (ev u))) :
    X P o s ⟨s.T, setE id (.mp b ((mPut a u m).map fun p => (ek p.1, ev p.2))) s.E⟩ := by
  intro B w0 ok0 ok σ ac w hR K Q hK
  obtain ⟨kt, vt, h1, h2, h3, h4⟩ := hm
  obtain ⟨e1, es, clock, e2, e3⟩ := lookup_own hR.core hx he
  obtain ⟨es', clock', r1, r2⟩ := run_mapUpdateM h1 h2 e2 e3 a u
  have ek1 := keyV_eval hR.core hk
  have ev1 := hR.core.exact hv
  have hblk := (hR.core.ent id _ he).1
  have hset := MapKept.heap_set (o' := .map es' clock') e2
  have hR' := hR.writeG (w' := { w with heap := w.heap.setIfInBounds b (.map es' clock') }) he hblk (by simp) (fun q hq => hset.2 q hq) rfl rfl rfl _ (setE_look id (.mp b ((mPut a u m).map fun p => (ek p.1, ev p.2))) s.E _ he) ⟨hblk, es', clock', hset.1, r2⟩ rfl
  have hrun : (execOp ac.eval o).run P w = .ok .skip { w with heap := w.heap.setIfInBounds b (.map es' clock') } := by
    unfold execOp
    rcases ho with ho | ho <;> rw [ho] <;> simp only [e1, ek1, ev1, Sem.run_bind, r1, Result.andThen_ok, Sem.run_pure]
  unfold Oper.wp
  rw [hrun]
  show K (ac.put o.dst undef) _
  rw [hd]
  exact hK _ _ _ _ hR'
/-- A map is made: its place is known from then on. -/
theorem XL_mkmap {ops : Array Oper} {o : Oper} {rest : List Oper} {s : St} {J : St → Prop} {t : TypeId} {d : Nat} (hg : o.guard = none) (ho : o.op = .makeMap t none) (hd : o.dst = some d) (hk : ∀ b : Nat, XL P ops rest ⟨(killT d s.T).set d (.c (.v (.map (some b)))), (d * 8, .mp b []) :: killE d s.E⟩ J) : XL P ops (o :: rest) s J := by
  intro B w0 ok0 ok σ a w hR Q hQ
  refine wpList_plain hg fun K hK => ?_
  have hnew : New w (w.alloc (.map #[] 0)) ok ok (fun _ => ⟨some w.heap.size, 0, 0⟩) (.c (.v (.map (some w.heap.size)))) [(0, .mp w.heap.size [])] (.map (some w.heap.size)) := by
    have ha := MapKept.heap_alloc w (.map #[] 0)
    have hsz : (w.alloc (.map #[] 0)).heap.size = w.heap.size + 1 := by
      show (w.heap.push _).size = _
      simp
    refine ⟨⟨rfl, rfl, rfl, by omega, fun k hk => ha.2 k hk⟩, fun _ h => h, fun _ h => .inl h, fun g hg => by have := hR.core.okL g hg; omega, Rd.v _ rfl, fun id e he => ?_, fun e he => rfl, fun id e he => ?_, fun id e g he hg => ?_, fun i j e f g hi hj _ _ => ?_, fun id e he => ?_⟩
    · obtain ⟨h1, _⟩ := look_one _ _ _ _ he; omega
    · obtain ⟨h1, h2⟩ := look_one _ _ _ _ he
      subst h2
      exact ⟨rfl, #[], 0, ha.1, rfl⟩
    · have e1 : w.heap.size = g := by simpa using hg
      subst e1
      exact ⟨Nat.le_refl _, fun h => Nat.lt_irrefl _ (hR.core.okL _ h), by omega⟩
    · obtain ⟨h1, _⟩ := look_one _ _ _ _ hi
      obtain ⟨h2, _⟩ := look_one _ _ _ _ hj
      omega
    · obtain ⟨_, h2⟩ := look_one _ _ _ _ he
      subst h2; rfl
  have hrun : (execOp a.eval o).run P w = .ok (.value (.map (some w.heap.size))) (w.alloc (.map #[] 0)) := by
    unfold execOp
    rw [ho]
    simp [Instr.makeMap]
  have hR' := hR.upd (d := d) hnew
  unfold Oper.wp
  rw [hrun]
  show K (a.put o.dst _) _
  rw [hd]
  exact hK _ _ (hk w.heap.size B w0 ok0 ok (fun id => if id / 8 = d then ⟨some w.heap.size, 0, 0⟩ else σ id) _ _ hR' Q hQ)
/-- A statement, with a map's place that is known behind it. -/
theorem V_regM {id : Nat} {ops : Array Oper} {s : St} {J : Exit → St → Prop} (S : Nat → St) (m : List Bool) (ids : List Nat) (h : XL P ops ops.toList s (fun s' => ∃ b, s'.keep m ids = S b)) (hj : ∀ b, J .normal (S b)) : V P (.region id ops false) s J := by
  refine V_region fun B w0 ok0 ok σ a w hR Q hQ => ?_
  refine h _ _ _ _ _ _ _ hR Q fun s' a' w' ok' σ' hs hR' => ?_
  obtain ⟨b, hs⟩ := hs
  exact hQ _ a' w' ok' σ' (hj b) (by rw [← hs]; exact hR'.le (keep_le m ids s'))
theorem V_sregM {id : Nat} {ops : Array Oper} {y : Code} {s : St} {J : Exit → St → Prop} (S : Nat → St) (m : List Bool) (ids : List Nat) (h : XL P ops ops.toList s (fun s' => ∃ b, s'.keep m ids = S b)) (hv : ∀ b, V P y (S b) J) : V P (.seq (.region id ops false) y) s J := zX (V_regM S m ids h hv)
end
end Go.Proofs.YtfmjfofocklgpaaGreatDoor
namespace Go.Proofs.YtfmjfofocklgpaaGreatDoor
open Go.RowKit
set_option linter.unusedSimpArgs false
set_option linter.unusedVariables false
section
variable {P : Program}
def ren1 (j k : Nat) : AV → AV
  | .ow i => bif i == j then .ow k else bif i == k then .bot else .ow i
  | .tc _ _ => .bot
  | av => bif av.mid j || av.mid k then .bot else av
def renE (k : Nat) (e : Ent) (E : List (Nat × Ent)) : List (Nat × Ent) := match E.lookup k with
  | some _ => setE k e E
  | none => (k, e) :: E
theorem renE_look (k : Nat) (e : Ent) (E : List (Nat × Ent)) (i : Nat) : (renE k e E).lookup i = if i = k then some e else E.lookup i := by
  unfold renE
  cases h : E.lookup k with
  | some f => exact setE_look k e E f h i
  | none =>
    simp only [List.lookup]
    cases hi : (i == k) with
    | true => simp [show i = k by simpa using hi]
    | false => rw [if_neg (by simpa using hi)]
def St.ren (s : St) (j k : Nat) (e : Ent) : St := ⟨s.T.map (ren1 j k), renE k e (rmE j s.E)⟩
/-- The row that slot t holds, under the number k. -/
def St.adopt (s : St) (t k : Nat) : St :=
  match s.get t with
  | .ow j => bif j == k then s else (match s.ent j with
    | some (.arr T sz els) => s.ren j k (.arr T sz els)
    | _ => s)
  | _ => s
theorem R_ren {B : Fr} {w0 : World} {ok0 ok : Nat → Prop} {σ : Nat → Loc} {s : St} {a : Act} {w : World} (hR : R B w0 ok0 ok σ s a w) {j k : Nat} (hjk : j ≠ k) {T sz : Nat} {els : List (List Tr)} (hj : s.ent j = some (.arr T sz els)) :
    R B w0 ok0 ok (fun i => if i = k then σ j else σ i) (s.ren j k (.arr T sz els)) a w := by
  have lk : ∀ i e, (s.ren j k (.arr T sz els)).ent i = some e → (i = k ∧ e = .arr T sz els) ∨ (i ≠ k ∧ i ≠ j ∧ s.ent i = some e) := by
    intro i e hi
    have hi : (renE k (.arr T sz els) (rmE j s.E)).lookup i = some e := hi
    rw [renE_look] at hi
    by_cases h : i = k
    · rw [if_pos h] at hi
      exact .inl ⟨h, by simpa using hi.symm⟩
    · rw [if_neg h, rmE_look] at hi
      split at hi
      · cases hi
      · rename_i hn
        exact .inr ⟨h, hn, hi⟩
  have hget : ∀ t, (s.ren j k (.arr T sz els)).get t = ren1 j k (s.get t) := by
    intro t
    unfold St.ren St.get
    simp only [List.getElem?_map]
    cases s.T[t]? <;> rfl
  refine ⟨⟨by simpa [St.ren] using hR.core.len, hR.core.okL, hR.core.lib, fun t => ?_, fun i e hi => ?_, fun i e g hi hg => ?_, fun i i2 e f2 g hi hi2 h1 h2 => ?_⟩, hR.defers, hR.below, hR.base, hR.old, hR.fresh, fun i e g hi hg => ?_⟩
  · rw [hget]
    have h1 := hR.core.tmp t
    generalize s.get t = av at h1
    have same : av.mid k = false → (∀ x r, av ≠ .tc x r) → Rel ok (fun i => if i = k then σ j else σ i) w av (a.tmps.getD t undef) := fun hm _ => h1.mid k (fun _ h => h) (fun _ _ => rfl) hm (fun i hi => by simp [hi])
    have other : (∀ x r, av ≠ .tc x r) → Rel ok (fun i => if i = k then σ j else σ i) w (bif av.mid j || av.mid k then AV.bot else av) (a.tmps.getD t undef) := fun ht => by
      cases hm : (av.mid j || av.mid k) with
      | true => exact trivial
      | false =>
        simp only [Bool.or_eq_false_iff] at hm
        exact same hm.2 ht
    cases av with
    | ow i =>
      simp only [ren1]
      cases hi : (i == j) with
      | true =>
        have e1 : i = j := by simpa using hi
        subst e1
        show _ = ownVal _
        simp only [if_true]
        exact h1
      | false =>
        cases hi2 : (i == k) with
        | true => exact trivial
        | false => exact same (by simpa [AV.mid] using hi2) (fun _ _ h => by cases h)
    | tc x r => exact trivial
    | pt i o => exact other (fun _ _ h => by cases h)
    | po i z o q => exact other (fun _ _ h => by cases h)
    | tn => exact other (fun _ _ h => by cases h)
    | bot => exact other (fun _ _ h => by cases h)
    | c t => exact other (fun _ _ h => by cases h)
    | ag cs => exact other (fun _ _ h => by cases h)
    | pe cs => exact other (fun _ _ h => by cases h)
    | fn f caps => exact other (fun _ _ h => by cases h)
    | er b => exact other (fun _ _ h => by cases h)
    | vw i els m => exact other (fun _ _ h => by cases h)
    | sf i z q => exact other (fun _ _ h => by cases h)
  · rcases lk i e hi with ⟨rfl, rfl⟩ | ⟨h1, _, h2⟩
    · simp only [if_true]
      exact hR.core.ent _ _ hj
    · simp only [if_neg h1]
      exact hR.core.ent _ _ h2
  · rcases lk i e hi with ⟨rfl, rfl⟩ | ⟨h1, _, h2⟩
    · simp only [if_true] at hg
      exact hR.core.blk _ _ _ hj hg
    · simp only [if_neg h1] at hg
      exact hR.core.blk _ _ _ h2 hg
  · rcases lk i e hi with ⟨a1, _⟩ | ⟨a1, a3, a2⟩ <;> rcases lk i2 f2 hi2 with ⟨b1, _⟩ | ⟨b1, b3, b2⟩
    · rw [a1, b1]
    · simp only [a1, if_true] at h1
      simp only [if_neg b1] at h2
      exact absurd (hR.core.inj _ _ _ _ _ hj b2 h1 h2).symm b3
    · simp only [b1, if_true] at h2
      simp only [if_neg a1] at h1
      exact absurd (hR.core.inj _ _ _ _ _ hj a2 h2 h1).symm a3
    · simp only [if_neg a1] at h1
      simp only [if_neg b1] at h2
      exact hR.core.inj _ _ _ _ _ a2 b2 h1 h2
  · rcases lk i e hi with ⟨rfl, rfl⟩ | ⟨h1, _, h2⟩
    · simp only [if_true] at hg
      exact hR.own _ _ _ hj hg
    · simp only [if_neg h1] at hg
      exact hR.own _ _ _ h2 hg
theorem R_adopt {B : Fr} {w0 : World} {ok0 ok : Nat → Prop} {σ : Nat → Loc} {s : St} {a : Act} {w : World} (hR : R B w0 ok0 ok σ s a w) (t k : Nat) : ∃ σ', R B w0 ok0 ok σ' (s.adopt t k) a w := by
  unfold St.adopt
  split
  · rename_i j _
    cases hjk : (j == k) with
    | true => exact ⟨σ, hR⟩
    | false =>
      simp only [cond_false]
      split
      · rename_i T sz els h1
        exact ⟨_, R_ren hR (by simpa using hjk) h1⟩
      · exact ⟨σ, hR⟩
  · exact ⟨σ, hR⟩
theorem V_adopt (t k : Nat) {c : Code} {s : St} {J : Exit → St → Prop} (h : V P c (s.adopt t k) J) : V P c s J := fun _ _ _ _ _ _ _ hR => by
  obtain ⟨σ', hR'⟩ := R_adopt hR t k
  exact h _ _ _ _ _ _ _ hR'
end
end Go.Proofs.YtfmjfofocklgpaaGreatDoor
namespace Go.Proofs.YtfmjfofocklgpaaGreatDoor
open Go.RowKit
set_option linter.unusedVariables false
set_option linter.unusedSimpArgs false
/-- Not part of a number. -/
def pFF (x : Nat) : Bool := (x != 45) && (decide (x < 48) || decide (57 < x))
theorem pOf_ff : pOf r_impl_integersIn_1 = pFF := by
  funext x
  unfold pOf pFF r_impl_integersIn_1
  simp only [Option.bind_some, Option.getD_some, eqI_eq, qB]
  have e : ((x : Int) == 45) = (x == 45) := by rw [Bool.eq_iff_iff, beq_iff_eq, beq_iff_eq]; omega
  have e1 : decide ((x : Int) < 48) = decide (x < 48) := by rw [decide_eq_decide]; omega
  have e2 : decide ((57 : Int) < (x : Int)) = decide (57 < x) := by rw [decide_eq_decide]; omega
  rw [e, e1, e2]
  cases h1 : (x == 45) <;> cases h2 : decide (x < 48) <;> cases h3 : decide (57 < x) <;> simp_all [bne]
theorem pFF_int (x : Nat) : pFF x = (((x : Int) != 45) && (decide ((x : Int) < 48) || decide (57 < (x : Int)))) := by
  unfold pFF
  have e : ((x : Int) != 45) = (x != 45) := by rw [Bool.eq_iff_iff, bne_iff_ne, bne_iff_ne]; omega
  have e1 : decide ((x : Int) < 48) = decide (x < 48) := by rw [decide_eq_decide]; omega
  have e2 : decide ((57 : Int) < (x : Int)) = decide (57 < x) := by rw [decide_eq_decide]; omega
  rw [e, e1, e2]
theorem drew0 (W : World) : ∃ q, W = W.drewN q := ⟨0, rfl⟩
theorem ff_gives (w : World) : Go.Proofs.PredAt Tryz.prog 230 #[] (fun x : Nat => Value.int .i32 (x : Int)) pFF w := by
  intro W x hb
  unfold Go.Proofs.FnGives
  go_enter Tryz.func230, Tryz.ntmps230
  go_wp2
  · rename_i h
    go_ret
    refine ⟨?_, drew0 W⟩
    rw [pFF_int, h]
    rfl
  · go_ret
    refine ⟨?_, drew0 W⟩
    rw [pFF_int]
    rfl
  · rename_i h1 h2
    go_ret
    refine ⟨?_, drew0 W⟩
    rw [pFF_int, decide_eq_true h2, Bool.true_or, Bool.and_true]
    rfl
theorem s_strings_FieldsFunc_230 {s : ByteArray} {r : List ByteArray} (h : r_strings_FieldsFunc (pOf r_impl_integersIn_1) s = some r) : z7 Tryz.prog 229 [.c (.v (.string s)), .c (.v (.func (.func 230) #[] #[]))] (.ow 0) [(0, .arr 9 1 (r.map cStr))] := by
  rw [pOf_ff] at h
  exact s_FieldsFunc (zI Tryz.func230 (by kernel_rfl) (by kernel_rfl)) ff_gives h
end Go.Proofs.YtfmjfofocklgpaaGreatDoor
namespace Go.Proofs.YtfmjfofocklgpaaGreatDoor
open Go.RowKit
set_option linter.unusedVariables false
set_option linter.unusedSimpArgs false
set_option maxRecDepth 100000
set_option maxHeartbeats 400000
def c9 (x : ByteArray) : List Tr := [.v (.string x)]
def c3 (x : Int) : List Tr := [Ti x]
def c5 (x : Int) : List Tr := [.v (.int .u8 x)]
def c73 (x : (ByteArray × ((Int × Int × Int)))) : List Tr := [.v (.string x.1), Ti x.2.1, Ti x.2.2.1, Ti x.2.2.2]
def zv3 : Value := .int .i64 0
def zv5 : Value := .int .u8 0
def zv9 : Value := .string ByteArray.empty
def zv73 : Value := .agg #[.string ByteArray.empty, .int .i64 0, .int .i64 0, .int .i64 0]
theorem iz3 : (Tryz.prog.info? 3).map (fun i => (i.zero, i.size)) = some (some zv3, 1) := by kernel_rfl
theorem iz5 : (Tryz.prog.info? 5).map (fun i => (i.zero, i.size)) = some (some zv5, 1) := by kernel_rfl
theorem iz9 : (Tryz.prog.info? 9).map (fun i => (i.zero, i.size)) = some (some zv9, 1) := by kernel_rfl
theorem iz73 : (Tryz.prog.info? 73).map (fun i => (i.zero, i.size)) = some (some zv73, 4) := by kernel_rfl
theorem izb3 : (Tryz.prog.info? 3).map (fun i => (i.zero, i.size, i.bytes)) = some (some zv3, 1, 8) := by kernel_rfl
theorem izb9 : (Tryz.prog.info? 9).map (fun i => (i.zero, i.size, i.bytes)) = some (some zv9, 1, 16) := by kernel_rfl
theorem izb73 : (Tryz.prog.info? 73).map (fun i => (i.zero, i.size, i.bytes)) = some (some zv73, 4, 40) := by kernel_rfl
theorem sc3 : scalar Tryz.prog 3 := ⟨_, Tryz.underlying3, rfl⟩
theorem sc9 : scalar Tryz.prog 9 := ⟨_, Tryz.underlying9, rfl⟩
theorem sz3 : (Tryz.prog.info? 3).map (·.size) = some 1 := by kernel_rfl
theorem sz9 : (Tryz.prog.info? 9).map (·.size) = some 1 := by kernel_rfl
theorem sz38 : (Tryz.prog.info? 38).map (·.size) = some 3 := by kernel_rfl
theorem sz73 : (Tryz.prog.info? 73).map (·.size) = some 4 := by kernel_rfl
theorem wd38 : wide Tryz.prog 38 3 := ⟨⟨_, Tryz.underlying38, rfl⟩, by kernel_rfl⟩
theorem wd40 : wide Tryz.prog 40 7 := ⟨⟨_, Tryz.underlying40, rfl⟩, by kernel_rfl⟩
theorem wd73 : wide Tryz.prog 73 4 := ⟨⟨_, Tryz.underlying73, rfl⟩, by kernel_rfl⟩
theorem wd109 : wide Tryz.prog 109 4 := ⟨⟨_, Tryz.underlying109, rfl⟩, by kernel_rfl⟩
theorem wd178 : wide Tryz.prog 178 12 := ⟨⟨_, Tryz.underlying178, rfl⟩, by kernel_rfl⟩
def pl38 : Nat → Option (Nat × Nat) := fun i => (#[(0, 1), (1, 1), (2, 1)] : Array (Nat × Nat))[i]?
theorem bt38 : ∀ ps, Tryz.prog.built 38 ps = Instr.fill pl38 #[.int .i64 0, .int .i64 0, .int .i64 0] ps := fun ps => by kernel_rfl
def pl40 : Nat → Option (Nat × Nat) := fun i => (#[(0, 1), (1, 1), (2, 1), (3, 1), (4, 3)] : Array (Nat × Nat))[i]?
theorem bt40 : ∀ ps, Tryz.prog.built 40 ps = Instr.fill pl40 #[.int .i64 0, .string ByteArray.empty, .string ByteArray.empty, .string ByteArray.empty, .int .i64 0, .int .i64 0, .int .i64 0] ps := fun ps => by kernel_rfl
def pl73 : Nat → Option (Nat × Nat) := fun i => (#[(0, 1), (1, 3)] : Array (Nat × Nat))[i]?
theorem bt73 : ∀ ps, Tryz.prog.built 73 ps = Instr.fill pl73 #[.string ByteArray.empty, .int .i64 0, .int .i64 0, .int .i64 0] ps := fun ps => by kernel_rfl
def pl109 : Nat → Option (Nat × Nat) := fun i => (#[(0, 1), (1, 1), (2, 1), (3, 1)] : Array (Nat × Nat))[i]?
theorem bt109 : ∀ ps, Tryz.prog.built 109 ps = Instr.fill pl109 #[.int .i64 0, .int .i64 0, .int .i64 0, .int .i64 0] ps := fun ps => by kernel_rfl
def pl178 : Nat → Option (Nat × Nat) := fun i => (#[(0, 1), (1, 1), (2, 1), (3, 1), (4, 4), (8, 4)] : Array (Nat × Nat))[i]?
theorem bt178 : ∀ ps, Tryz.prog.built 178 ps = Instr.fill pl178 #[.int .i64 0, .int .i64 0, .int .i64 0, .int .i64 0, .int .i64 0, .int .i64 0, .int .i64 0, .int .i64 0, .int .i64 0, .int .i64 0, .int .i64 0, .int .i64 0] ps := fun ps => by kernel_rfl
theorem eqg38 : EqAg3 Tryz.prog .eql 38 := by
  intro a0 a1 a2 b0 b1 b2 x y w
  have hg : (eqGuard .eql 38 x y (.agg #[.int .i64 a0, .int .i64 a1, .int .i64 a2]) (.agg #[.int .i64 b0, .int .i64 b1, .int .i64 b2])).run Tryz.prog w = .ok () w := by simp [eqGuard, (by kernel_rfl : Tryz.prog.eqGuardType Tryz.prog.depth 38 = false)]
  have hf : (Tryz.prog.fieldsOf 38).toList = (match Tryz.prog.underlying 38 with | some (.struct fs) => fs.toList | _ => []) := by kernel_rfl
  refine ⟨hg, ?_⟩
  rw [run_eql_struct, run_equalIn_agg (d := 9999) (ht := by kernel_rfl) (hp := by kernel_rfl), hf, Tryz.underlying38]
  by_cases h0 : a0 = b0 <;> by_cases h1 : a1 = b1 <;> by_cases h2 : a2 = b2 <;> simp [Op.eqFields, part, go_sem, h0, h1, h2]
theorem neg38 : EqAg3 Tryz.prog .neq 38 := by
  intro a0 a1 a2 b0 b1 b2 x y w
  have hg : (eqGuard .neq 38 x y (.agg #[.int .i64 a0, .int .i64 a1, .int .i64 a2]) (.agg #[.int .i64 b0, .int .i64 b1, .int .i64 b2])).run Tryz.prog w = .ok () w := by simp [eqGuard, (by kernel_rfl : Tryz.prog.eqGuardType Tryz.prog.depth 38 = false)]
  have hf : (Tryz.prog.fieldsOf 38).toList = (match Tryz.prog.underlying 38 with | some (.struct fs) => fs.toList | _ => []) := by kernel_rfl
  refine ⟨hg, ?_⟩
  rw [run_neq_struct, run_equalIn_agg (d := 9999) (ht := by kernel_rfl) (hp := by kernel_rfl), hf, Tryz.underlying38]
  by_cases h0 : a0 = b0 <;> by_cases h1 : a1 = b1 <;> by_cases h2 : a2 = b2 <;> simp [Op.eqFields, part, go_sem, h0, h1, h2]
theorem cx_242 : ∀ args w, (callFunc 242 args).run Tryz.prog w = ((Extern.BytealgIndexByte.indexByte args).run Tryz.prog w).andThen fun v w' => .ok (.value v) w' := fun args w => run_callFunc_extern Tryz.func242 kk kk kk kk args w
def ek176 (x : ByteArray) : Value := .string x
def ev176 (x : Int) : Value := .int .i64 x
def kv176 (p : ByteArray × Int) : Value × Value := (ek176 p.1, ev176 p.2)
theorem kt176 : KeyT Tryz.prog 9 ek176 := by
  refine keyT_now (.string) Tryz.underlying9 (fun b a w => ?_) (fun a b => ?_) (fun a => ?_)
  · exact MapKept.run_checkKey Tryz.underlying9 (by simp [MapKept.IsKey, ek176]) b 9999
  · simp [ek176, Instr.sameNow, ba_beq]
  · simp [ek176, Instr.sameBits, ba_beq]
theorem mo176 : MpOk Tryz.prog 176 ek176 ev176 0 := ⟨9, 3, Tryz.underlying176, kt176, by kernel_rfl, fun _ => rfl⟩
theorem cf_spec_l1Split : ∀ args w, (callFunc 85 args).run Tryz.prog w = .ok (.enter 85 args) w := zI Tryz.func85 kk kk
theorem s_spec_l1Split {vs1 : ByteArray} {b2 : Int} {r : List ByteArray} (h : r_spec_l1Split vs1 b2 = some r) : z7 Tryz.prog 85 [.c (.v (.string vs1)), .c (.v (.int .u8 b2))] (.ow 0) [(0, .arr 9 1 (r.map c9))] := by
  refine zH (rs := [.t 4]) (vs := [.tmp 4]) Tryz.func85 rfl rfl (.cons rfl FitsL.nil) (by decide) 34 rfl ?_
  unfold r_spec_l1Split at h
  show V _ _ ⟨.c (.v (.string vs1)) :: .c (.v (.int .u8 b2)) :: bt 32 [], []⟩ _
  refine zG (mb 34 3) [] (s1 := ⟨.c (.v (.string vs1)) :: .c (.v (.int .u8 b2)) :: bt 32 [], []⟩) ?_ ?_
  ·refine L1 rfl rfl (Y1_nil (e := 9) 1 (by decide) (.inl rfl)) ?_
   exact XE
  refine zG (mb 34 35) [40] (s1 := ⟨.c (.v (.string vs1)) :: .c (.v (.int .u8 b2)) :: bt 3 (.ow 40 :: bt 28 []), [(40, .arr 9 1 ((([] : List ByteArray)).map c9))]⟩) ?_ ?_
  ·refine L1 rfl rfl (Y1_nil (e := 9) 1 (by decide) (.inl rfl)) ?_
   exact XE
  refine V_e (mb 34 99) [40] (s1 := ⟨.c (.v (.string vs1)) :: .c (.v (.int .u8 b2)) :: bt 3 (.ow 40 :: I 0 :: bt 27 []), [(40, .arr 9 1 ((([] : List ByteArray)).map c9))]⟩) ?_
  refine zX ?_
  refine V_e (mb 34 227) [40] (s1 := ⟨.c (.v (.string vs1)) :: .c (.v (.int .u8 b2)) :: bt 3 (.ow 40 :: I 0 :: I 0 :: bt 26 []), [(40, .arr 9 1 ((([] : List ByteArray)).map c9))]⟩) ?_
  obtain ⟨o7, hLo7, h⟩ := zD h
  refine V_toK (mb 34 97) [40] (s1 := ⟨.c (.v (.string vs1)) :: bt 4 (.ow 40 :: I o7.1 :: bt 27 []), [(40, .arr 9 1 (o7.2.map c9))]⟩) ?_ ?_
  ·clear h
   refine zZ (V_loop (fun n s => ∃ (vfrom3 : Int) (i4 : Int) (l5 : List ByteArray), s.keep (mb 34 227) [40] = (⟨.c (.v (.string vs1)) :: .c (.v (.int .u8 b2)) :: bt 3 (.ow 40 :: I vfrom3 :: I i4 :: bt 26 []), [(40, .arr 9 1 (l5.map c9))]⟩ : St) ∧ r_spec_l1Split_L6 b2 vs1 n vfrom3 i4 l5 = some o7) FU ⟨_, _, _,  by rfl, hLo7⟩ ?_)
   clear hLo7
   rintro n s ⟨vfrom3, i4, l5, hs, h⟩
   refine V_keep _ _ hs ?_
   clear hs
   cases n with
   | zero => cases h
   | succ n =>
    rw [r_spec_l1Split_L6] at h
    refine zX ?_
    refine zG (mb 34 2275) [40] (s1 := ⟨.c (.v (.string vs1)) :: .c (.v (.int .u8 b2)) :: bt 3 (.ow 40 :: I vfrom3 :: I i4 :: bt 3 (Bo (ltI i4 ((vs1.size : Int))) :: bt 22 [])), [(40, .arr 9 1 (l5.map c9))]⟩) ?_ ?_
    ·refine XR 2 ?_
     refine L0 rfl rfl (Y0_lens (b := vs1) Tryz.underlying9 rfl kk) ?_
     exact XE
    refine zQ rfl (fun hc8 => ?_) (fun hc8 => ?_)
    ·have h := zM h hc8
     refine zV ?_
     show V _ _ _ _
     refine zX ?_
     refine zZ ?_
     obtain ⟨e9, he9, h⟩ := zD h
     refine zG (mb 34 262371) [40] (s1 := ⟨.c (.v (.string vs1)) :: .c (.v (.int .u8 b2)) :: bt 3 (.ow 40 :: I vfrom3 :: I i4 :: bt 10 (Bo (eqI e9 b2) :: bt 15 [])), [(40, .arr 9 1 (l5.map c9))]⟩) ?_ ?_
     ·refine XR 2 ?_
      refine L0 rfl rfl (Y0_idxs (b := vs1) (k := .i64) (n := i4) (v := e9) Tryz.underlying9 rfl kk kk he9) ?_
      refine XR 1 ?_
      refine L0 rfl rfl (Y0_eqw (k := .u8) (a := e9) (b := b2) rfl kk kk) ?_
      exact XE
     refine zQ rfl (fun hc10 => ?_) (fun hc10 => ?_)
     ·have h := zM h hc10
      obtain ⟨u11, hu11, h⟩ := zD h
      obtain ⟨u12, hu12, h⟩ := zD h
      refine zG (mb 34 163) [40] (s1 := ⟨.c (.v (.string vs1)) :: .c (.v (.int .u8 b2)) :: bt 3 (.ow 40 :: .bot :: I i4 :: bt 26 []), [(40, .arr 9 1 ((l5 ++ ([vs1.extract (Int.toNat vfrom3) (Int.toNat i4)])).map c9))]⟩) ?_ ?_
      ·refine XR 4 ?_
       refine L0 rfl rfl (Y0_slices (b := vs1) (l := vfrom3) (h := i4) Tryz.underlying9 rfl kk (fun y hy => by cases hy; exact ⟨.i64, kk⟩) (fun hh => by cases hh) (fun y hy => by cases hy; exact ⟨.i64, kk⟩) (fun hh => by cases hh) (slc_some hu11)) ?_
       refine L1 rfl rfl (Y1_bslice (z := zv9) (els := [vs1.extract (Int.toNat vfrom3) (Int.toNat i4)].map c9) Tryz.underlying66 iz9 rfl (by decide) rfl kk rfl (by simp [c9]) (by decide) (by decide)) ?_
       refine zJ rfl (X_appendM (c := c9) (xs := l5) (ys := [vs1.extract (Int.toNat vfrom3) (Int.toNat i4)]) (id := 40) (z := zv9) rfl rfl Tryz.underlying66 izb9 rfl kk kk kk (fun _ => rfl) (by simp) (room_some hu12) (by decide)) ?_
       exact XE
      obtain ⟨vfrom13, hvfrom13, h⟩ := qF h
      refine V_reg (mb 34 227) [40] (s1 := ⟨.c (.v (.string vs1)) :: .c (.v (.int .u8 b2)) :: bt 3 (.ow 40 :: I vfrom13 :: I i4 :: bt 26 []), [(40, .arr 9 1 ((l5 ++ ([vs1.extract (Int.toNat vfrom3) (Int.toNat i4)])).map c9))]⟩) ?_ ?_
      ·refine XR 3 ?_
       refine zN ?_
       subst hvfrom13
       kernel_rfl
      show V _ _ _ _
      obtain ⟨i14, hi14, h⟩ := qF h
      refine V_reg (mb 34 227) [40] (s1 := ⟨.c (.v (.string vs1)) :: .c (.v (.int .u8 b2)) :: bt 3 (.ow 40 :: I vfrom13 :: I i14 :: bt 26 []), [(40, .arr 9 1 ((l5 ++ ([vs1.extract (Int.toNat vfrom3) (Int.toNat i4)])).map c9))]⟩) ?_ ?_
      ·refine XR 3 ?_
       refine zN ?_
       subst hi14
       kernel_rfl
      exact ⟨n, Nat.lt_succ_self n, _, _, _,  by rfl, h⟩
     ·have h := zK h hc10
      refine zV ?_
      show V _ _ _ _
      obtain ⟨i15, hi15, h⟩ := qF h
      refine V_reg (mb 34 227) [40] (s1 := ⟨.c (.v (.string vs1)) :: .c (.v (.int .u8 b2)) :: bt 3 (.ow 40 :: I vfrom3 :: I i15 :: bt 26 []), [(40, .arr 9 1 (l5.map c9))]⟩) ?_ ?_
      ·refine XR 3 ?_
       refine zN ?_
       subst hi15
       kernel_rfl
      exact ⟨n, Nat.lt_succ_self n, _, _, _,  by rfl, h⟩
    ·have h := zK h hc8
     refine V_exit ?_
     obtain rfl := zE h
     show St.keep _ _ _ = _
     rfl
  show V _ _ _ _
  obtain ⟨u16, hu16, h⟩ := zD h
  obtain ⟨u17, hu17, h⟩ := zD h
  obtain ⟨l18, hl18, h⟩ := zD h
  have hl18 := zE hl18
  refine zG (mb 34 16) [40] (s1 := ⟨bt 4 (.ow 40 :: bt 29 []), [(40, .arr 9 1 (l18.map c9))]⟩) ?_ ?_
  ·refine XR 3 ?_
   refine L0 rfl rfl (Y0_slices (b := vs1) (l := o7.1) (h := (vs1.size : Int)) Tryz.underlying9 rfl kk (fun y hy => by cases hy; exact ⟨.i64, kk⟩) (fun hh => by cases hh) (fun y hy => by cases hy) (fun _ => rfl) (slc_some hu16)) ?_
   refine L1 rfl rfl (Y1_bslice (z := zv9) (els := [vs1.extract (Int.toNat o7.1) (Int.toNat ((vs1.size : Int)))].map c9) Tryz.underlying66 iz9 rfl (by decide) rfl kk rfl (by simp [c9]) (by decide) (by decide)) ?_
   refine zJ rfl (X_appendM (c := c9) (xs := o7.2) (ys := [vs1.extract (Int.toNat o7.1) (Int.toNat ((vs1.size : Int)))]) (id := 40) (z := zv9) rfl rfl Tryz.underlying66 izb9 rfl kk kk kk (fun _ => rfl) (by simp) (room_some hu17) (by decide)) ?_
   refine XR 1 ?_
   refine zN ?_
   subst hl18
   kernel_rfl
  refine zR ?_
  obtain rfl := zE h
  show Post _ _ _ _ _
  exact ⟨.inr rfl, rfl, rfl, rfl⟩
theorem cf_spec_l1In : ∀ args w, (callFunc 91 args).run Tryz.prog w = .ok (.enter 91 args) w := zI Tryz.func91 kk kk
theorem s_spec_l1In {vn1 : Int} {lo2 : Int} {hi3 : Int} {r : Bool} (h : r_spec_l1In vn1 lo2 hi3 = some r) : z7 Tryz.prog 91 [I vn1, I lo2, I hi3] (Bo r) [] := by
  refine zH (rs := [.t 6]) (vs := [.tmp 6]) Tryz.func91 rfl rfl (.cons rfl FitsL.nil) (by decide) 15 rfl ?_
  unfold r_spec_l1In at h
  show V _ _ ⟨I vn1 :: I lo2 :: I hi3 :: bt 12 [], []⟩ _
  refine V_e (mb 15 7) [] (s1 := ⟨I vn1 :: I lo2 :: I hi3 :: bt 12 [], []⟩) ?_
  refine zG (mb 15 64) [] (s1 := ⟨bt 6 (Bo (bif (leI lo2 vn1) then (leI vn1 hi3) else false) :: bt 8 []), []⟩) ?_ ?_
  ·refine XR 4 ?_
   refine zP (leI lo2 vn1) (fun hc4 => ?_) (fun hc4 => ?_)
   ·refine zB _ rfl rfl kk hc4 (zA rfl (zY (I vn1) rfl kk)) ?_
    refine zB _ rfl rfl kk hc4 (zA rfl (zY (I hi3) rfl kk)) ?_
    refine zB _ rfl rfl kk hc4 (zA rfl (Y0_lew (k := .i64) (a := vn1) (b := hi3) rfl kk kk)) ?_
    refine zJ rfl (zA rfl (zW (b := leI lo2 vn1) (p := leI vn1 hi3) (q := false) rfl kk hc4 kk)) ?_
    exact XE
   ·refine zF _ rfl rfl kk hc4 rfl ?_
    refine zF _ rfl rfl kk hc4 rfl ?_
    refine zF _ rfl rfl kk hc4 rfl ?_
    refine zJ rfl (zA rfl (zT (b := leI lo2 vn1) (p := leI vn1 hi3) (q := false) rfl kk hc4 kk)) ?_
    exact XE
  refine zR ?_
  obtain rfl := zE h
  show Post _ _ _ _ _
  exact ⟨.inr rfl, rfl, rfl, rfl⟩
theorem cf_spec_lgWords : ∀ args w, (callFunc 180 args).run Tryz.prog w = .ok (.enter 180 args) w := zI Tryz.func180 kk kk
theorem s_spec_lgWords {r : List ByteArray} (h : r_spec_lgWords = some r) : z7 Tryz.prog 180 [] (.ow 0) [(0, .arr 9 1 (r.map c9))] := by
  refine zH (rs := [.t 0]) (vs := [.tmp 0]) Tryz.func180 rfl rfl (.cons rfl FitsL.nil) (by decide) 2 rfl ?_
  unfold r_spec_lgWords at h
  show V _ _ ⟨.bot :: .bot :: [], []⟩ _
  refine zG (mb 2 0) [] (s1 := ⟨.bot :: .bot :: [], []⟩) ?_ ?_
  ·refine L1 rfl rfl (Y1_nil (e := 9) 1 (by decide) (.inl rfl)) ?_
   exact XE
  obtain ⟨l1, hl1, h⟩ := zD h
  have hl1 := zE hl1
  refine zG (mb 2 1) [8] (s1 := ⟨.ow 8 :: .bot :: [], [(8, .arr 9 1 (l1.map c9))]⟩) ?_ ?_
  ·refine L1 rfl rfl (Y1_bslice (z := zv9) (els := [(⟨#[]⟩ : ByteArray), (⟨#[97, 100, 100]⟩ : ByteArray), (⟨#[100, 114, 111, 112]⟩ : ByteArray), (⟨#[109, 117, 108]⟩ : ByteArray), (⟨#[105, 110, 118]⟩ : ByteArray), (⟨#[109, 111, 118, 101]⟩ : ByteArray)].map c9) Tryz.underlying66 iz9 rfl (by decide) rfl kk rfl (by simp [c9]) (by decide) (by decide)) ?_
   refine XR 1 ?_
   refine zN ?_
   subst hl1
   kernel_rfl
  refine zR ?_
  obtain rfl := zE h
  show Post _ _ _ _ _
  exact ⟨.inr rfl, rfl, rfl, rfl⟩
theorem cf_spec_lgHasForm : ∀ args w, (callFunc 93 args).run Tryz.prog w = .ok (.enter 93 args) w := zI Tryz.func93 kk kk
theorem s_spec_lgHasForm {kind1 : Int} {r : Bool} (h : r_spec_lgHasForm kind1 = some r) : z7 Tryz.prog 93 [I kind1] (Bo r) [] := by
  refine zH (rs := [.t 2]) (vs := [.tmp 2]) Tryz.func93 rfl rfl (.cons rfl FitsL.nil) (by decide) 9 rfl ?_
  unfold r_spec_lgHasForm at h
  show V _ _ ⟨I kind1 :: bt 8 [], []⟩ _
  refine V_e (mb 9 1) [] (s1 := ⟨I kind1 :: bt 8 [], []⟩) ?_
  refine zG (mb 9 4) [] (s1 := ⟨.bot :: .bot :: Bo (bif (eqI kind1 1) then true else (eqI kind1 5)) :: bt 6 [], []⟩) ?_ ?_
  ·refine XR 3 ?_
   refine zP (eqI kind1 1) (fun hc2 => ?_) (fun hc2 => ?_)
   ·refine zL _ rfl rfl kk hc2 rfl ?_
    refine zL _ rfl rfl kk hc2 rfl ?_
    refine zJ rfl (zA rfl (zW (b := eqI kind1 1) (p := true) (q := eqI kind1 5) rfl kk hc2 kk)) ?_
    exact XE
   ·refine zB _ rfl rfl kk hc2 (zA rfl (zY (I kind1) rfl kk)) ?_
    refine zB _ rfl rfl kk hc2 (zA rfl (Y0_eqw (k := .i64) (a := kind1) (b := 5) rfl kk kk)) ?_
    refine zJ rfl (zA rfl (zT (b := eqI kind1 1) (p := true) (q := eqI kind1 5) rfl kk hc2 kk)) ?_
    exact XE
  refine zR ?_
  obtain rfl := zE h
  show Post _ _ _ _ _
  exact ⟨.inr rfl, rfl, rfl, rfl⟩
theorem cf_spec_foInside : ∀ args w, (callFunc 214 args).run Tryz.prog w = .ok (.enter 214 args) w := zI Tryz.func214 kk kk
theorem s_spec_foInside {vs1 : ByteArray} {first2 : Int} {last3 : Int} {r : (ByteArray × Bool)} (h : r_spec_foInside vs1 first2 last3 = some r) : z7 Tryz.prog 214 [.c (.v (.string vs1)), .c (.v (.int .u8 first2)), .c (.v (.int .u8 last3))] (.tc (.c (.v (.string r.1))) (.tc (Bo r.2) .tn)) [] := by
  refine zH (rs := [.t 6, .t 7]) (vs := [.tmp 6, .tmp 7]) Tryz.func214 rfl rfl (.cons rfl (.cons rfl FitsL.nil)) (by decide) 31 rfl ?_
  unfold r_spec_foInside at h
  show V _ _ ⟨.c (.v (.string vs1)) :: .c (.v (.int .u8 first2)) :: .c (.v (.int .u8 last3)) :: bt 28 [], []⟩ _
  refine V_e (mb 31 7) [] (s1 := ⟨.c (.v (.string vs1)) :: .c (.v (.int .u8 first2)) :: .c (.v (.int .u8 last3)) :: bt 28 [], []⟩) ?_
  refine zX ?_
  obtain ⟨b6, hb6, h⟩ := zD h
  obtain ⟨b9, hb9, h⟩ := zD h
  refine zG (mb 31 33554433) [] (s1 := ⟨.c (.v (.string vs1)) :: bt 24 (Bo b9 :: bt 5 []), []⟩) ?_ ?_
  ·refine XR 1 ?_
   refine L0 rfl rfl (Y0_lens (b := vs1) Tryz.underlying9 rfl kk) ?_
   refine XR 2 ?_
   refine zP (ltI ((vs1.size : Int)) 2) (fun hc4 => ?_) (fun hc4 => ?_)
   ·have hb6 := zE (zM hb6 hc4)
    refine zL _ rfl rfl kk hc4 rfl ?_
    refine zL _ rfl rfl kk hc4 rfl ?_
    refine zL _ rfl rfl kk hc4 rfl ?_
    refine zL _ rfl rfl kk hc4 rfl ?_
    refine zJ rfl (zA rfl (Y0_pickTe (b := ltI ((vs1.size : Int)) 2) (p := true) rfl kk hc4 kk hb6)) ?_
    refine XR 1 ?_
    refine zP b6 (fun hc7 => ?_) (fun hc7 => ?_)
    ·have hb9 := zE (zM hb9 hc7)
     refine zL _ rfl rfl kk hc7 rfl ?_
     refine zL _ rfl rfl kk hc7 rfl ?_
     refine zL _ rfl rfl kk hc7 rfl ?_
     refine zL _ rfl rfl kk hc7 rfl ?_
     refine zL _ rfl rfl kk hc7 rfl ?_
     refine zL _ rfl rfl kk hc7 rfl ?_
     refine zL _ rfl rfl kk hc7 rfl ?_
     refine zJ rfl (zA rfl (Y0_pickTe (b := b6) (p := true) rfl kk hc7 kk hb9)) ?_
     exact XE
    ·have hb9 := zK hb9 hc7
     obtain ⟨e8, he8, hb9⟩ := zD hb9
     have hb9 := zE hb9
     refine zB _ rfl rfl kk hc7 (zA rfl (zY (.c (.v (.string vs1))) rfl kk)) ?_
     refine zB _ rfl rfl kk hc7 (zA rfl (zY (.c (.v (.string vs1))) rfl kk)) ?_
     refine zB _ rfl rfl kk hc7 (zA rfl (Y0_lens (b := vs1) Tryz.underlying9 rfl kk)) ?_
     refine zB _ rfl rfl kk hc7 (zA rfl (Y0_sub64 (a := (vs1.size : Int)) (b := 1) rfl kk kk)) ?_
     refine zB _ rfl rfl kk hc7 (zA rfl (Y0_idxs (b := vs1) (k := .i64) (n := w64 (((vs1.size : Int)) - 1)) (v := e8) Tryz.underlying9 rfl kk kk he8)) ?_
     refine zB _ rfl rfl kk hc7 (zA rfl (zY (.c (.v (.int .u8 last3))) rfl kk)) ?_
     refine zB _ rfl rfl kk hc7 (zA rfl (Y0_new (k := .u8) (a := e8) (b := last3) rfl kk kk)) ?_
     refine zJ rfl (zA rfl (Y0_pickFe (b := b6) (p := !eqI e8 last3) rfl kk hc7 kk hb9)) ?_
     exact XE
   ·have hb6 := zK hb6 hc4
    obtain ⟨e5, he5, hb6⟩ := zD hb6
    have hb6 := zE hb6
    refine zB _ rfl rfl kk hc4 (zA rfl (zY (.c (.v (.string vs1))) rfl kk)) ?_
    refine zB _ rfl rfl kk hc4 (zA rfl (Y0_idxs (b := vs1) (k := .i64) (n := 0) (v := e5) Tryz.underlying9 rfl kk kk he5)) ?_
    refine zB _ rfl rfl kk hc4 (zA rfl (zY (.c (.v (.int .u8 first2))) rfl kk)) ?_
    refine zB _ rfl rfl kk hc4 (zA rfl (Y0_new (k := .u8) (a := e5) (b := first2) rfl kk kk)) ?_
    refine zJ rfl (zA rfl (Y0_pickFe (b := ltI ((vs1.size : Int)) 2) (p := !eqI e5 first2) rfl kk hc4 kk hb6)) ?_
    refine XR 1 ?_
    refine zP b6 (fun hc7 => ?_) (fun hc7 => ?_)
    ·have hb9 := zE (zM hb9 hc7)
     refine zL _ rfl rfl kk hc7 rfl ?_
     refine zL _ rfl rfl kk hc7 rfl ?_
     refine zL _ rfl rfl kk hc7 rfl ?_
     refine zL _ rfl rfl kk hc7 rfl ?_
     refine zL _ rfl rfl kk hc7 rfl ?_
     refine zL _ rfl rfl kk hc7 rfl ?_
     refine zL _ rfl rfl kk hc7 rfl ?_
     refine zJ rfl (zA rfl (Y0_pickTe (b := b6) (p := true) rfl kk hc7 kk hb9)) ?_
     exact XE
    ·have hb9 := zK hb9 hc7
     obtain ⟨e8, he8, hb9⟩ := zD hb9
     have hb9 := zE hb9
     refine zB _ rfl rfl kk hc7 (zA rfl (zY (.c (.v (.string vs1))) rfl kk)) ?_
     refine zB _ rfl rfl kk hc7 (zA rfl (zY (.c (.v (.string vs1))) rfl kk)) ?_
     refine zB _ rfl rfl kk hc7 (zA rfl (Y0_lens (b := vs1) Tryz.underlying9 rfl kk)) ?_
     refine zB _ rfl rfl kk hc7 (zA rfl (Y0_sub64 (a := (vs1.size : Int)) (b := 1) rfl kk kk)) ?_
     refine zB _ rfl rfl kk hc7 (zA rfl (Y0_idxs (b := vs1) (k := .i64) (n := w64 (((vs1.size : Int)) - 1)) (v := e8) Tryz.underlying9 rfl kk kk he8)) ?_
     refine zB _ rfl rfl kk hc7 (zA rfl (zY (.c (.v (.int .u8 last3))) rfl kk)) ?_
     refine zB _ rfl rfl kk hc7 (zA rfl (Y0_new (k := .u8) (a := e8) (b := last3) rfl kk kk)) ?_
     refine zJ rfl (zA rfl (Y0_pickFe (b := b6) (p := !eqI e8 last3) rfl kk hc7 kk hb9)) ?_
     exact XE
  refine zQ rfl (fun hc10 => ?_) (fun hc10 => ?_)
  ·have h := zM h hc10
   refine V_e (mb 31 192) [] (s1 := ⟨bt 6 (.c (.v (.string ((⟨#[]⟩ : ByteArray)))) :: Bo false :: bt 23 []), []⟩) ?_
   refine zR ?_
   obtain rfl := zE h
   show Post _ _ _ _ _
   exact ⟨.inr rfl, rfl, rfl, rfl⟩
  ·have h := zK h hc10
   refine zV ?_
   show V _ _ _ _
   obtain ⟨u11, hu11, h⟩ := zD h
   refine zG (mb 31 192) [] (s1 := ⟨bt 6 (.c (.v (.string (vs1.extract (Int.toNat 1) (Int.toNat (w64 (((vs1.size : Int)) - 1)))))) :: Bo true :: bt 23 []), []⟩) ?_ ?_
   ·refine XR 2 ?_
    refine L0 rfl rfl (Y0_lens (b := vs1) Tryz.underlying9 rfl kk) ?_
    refine XR 1 ?_
    refine L0 rfl rfl (Y0_slices (b := vs1) (l := 1) (h := w64 (((vs1.size : Int)) - 1)) Tryz.underlying9 rfl kk (fun y hy => by cases hy; exact ⟨.i64, kk⟩) (fun hh => by cases hh) (fun y hy => by cases hy; exact ⟨.i64, kk⟩) (fun hh => by cases hh) (slc_some hu11)) ?_
    exact XE
   refine zR ?_
   obtain rfl := zE h
   show Post _ _ _ _ _
   exact ⟨.inr rfl, rfl, rfl, rfl⟩
theorem cf_spec_nuRead : ∀ args w, (callFunc 216 args).run Tryz.prog w = .ok (.enter 216 args) w := zI Tryz.func216 kk kk
theorem s_spec_nuRead {vs1 : ByteArray} {r : Int} (h : r_spec_nuRead vs1 = some r) : z7 Tryz.prog 216 [.c (.v (.string vs1))] (I r) [] := by
  refine zH (rs := [.t 2]) (vs := [.tmp 2]) Tryz.func216 rfl rfl (.cons rfl FitsL.nil) (by decide) 44 rfl ?_
  unfold r_spec_nuRead at h
  show V _ _ ⟨.c (.v (.string vs1)) :: bt 43 [], []⟩ _
  refine V_e (mb 44 1) [] (s1 := ⟨.c (.v (.string vs1)) :: bt 43 [], []⟩) ?_
  refine zX ?_
  obtain ⟨y2, hy2, h⟩ := zD h
  obtain ⟨b6, hb6, h⟩ := zD h
  refine zG (mb 44 262145) [] (s1 := ⟨.c (.v (.string vs1)) :: bt 17 (Bo b6 :: bt 25 []), []⟩) ?_ ?_
  ·refine XR 1 ?_
   refine L0 rfl rfl (Y0_lens (b := vs1) Tryz.underlying9 rfl kk) ?_
   refine XC (s_spec_l1In hy2) cf_spec_l1In rfl rfl rfl ?_
   refine XR 2 ?_
   refine zP (!y2) (fun hc3 => ?_) (fun hc3 => ?_)
   ·have hb6 := zE (zM hb6 hc3)
    refine zL _ rfl rfl kk hc3 rfl ?_
    refine zL _ rfl rfl kk hc3 rfl ?_
    refine zL _ rfl rfl kk hc3 rfl ?_
    refine zL _ rfl rfl kk hc3 rfl ?_
    refine qA rfl rfl kk rfl ?_
    refine qA rfl rfl kk rfl ?_
    refine qA rfl rfl kk rfl ?_
    refine zL _ rfl rfl kk hc3 rfl ?_
    refine zJ rfl (zA rfl (Y0_pickTe (b := !y2) (p := true) rfl kk hc3 kk hb6)) ?_
    exact XE
   ·have hb6 := zK hb6 hc3
    obtain ⟨e4, he4, hb6⟩ := zD hb6
    have hb6 := zE hb6
    refine zB _ rfl rfl kk hc3 (zA rfl (zY (.c (.v (.string vs1))) rfl kk)) ?_
    refine zB _ rfl rfl kk hc3 (zA rfl (Y0_idxs (b := vs1) (k := .i64) (n := 0) (v := e4) Tryz.underlying9 rfl kk kk he4)) ?_
    refine zB _ rfl rfl kk hc3 (zA rfl (Y0_eqw (k := .u8) (a := e4) (b := 48) rfl kk kk)) ?_
    refine zB _ rfl rfl kk hc3 (zA rfl (zY (Bo (eqI e4 48)) rfl kk)) ?_
    refine zP (eqI e4 48) (fun hc5 => ?_) (fun hc5 => ?_)
    ·refine zB _ rfl rfl kk hc5 (zA rfl (zY (.c (.v (.string vs1))) rfl kk)) ?_
     refine zB _ rfl rfl kk hc5 (zA rfl (Y0_lens (b := vs1) Tryz.underlying9 rfl kk)) ?_
     refine zB _ rfl rfl kk hc5 (zA rfl (Y0_gtw (k := .i64) (a := (vs1.size : Int)) (b := 1) rfl kk kk)) ?_
     refine zB _ rfl rfl kk hc3 (zA rfl (zW (b := eqI e4 48) (p := ltI 1 ((vs1.size : Int))) (q := false) rfl kk hc5 kk)) ?_
     refine zJ rfl (zA rfl (Y0_pickFe (b := !y2) (p := bif (eqI e4 48) then (ltI 1 ((vs1.size : Int))) else false) rfl kk hc3 kk hb6)) ?_
     exact XE
    ·refine zF _ rfl rfl kk hc5 rfl ?_
     refine zF _ rfl rfl kk hc5 rfl ?_
     refine zF _ rfl rfl kk hc5 rfl ?_
     refine zB _ rfl rfl kk hc3 (zA rfl (zT (b := eqI e4 48) (p := ltI 1 ((vs1.size : Int))) (q := false) rfl kk hc5 kk)) ?_
     refine zJ rfl (zA rfl (Y0_pickFe (b := !y2) (p := bif (eqI e4 48) then (ltI 1 ((vs1.size : Int))) else false) rfl kk hc3 kk hb6)) ?_
     exact XE
  refine zQ rfl (fun hc7 => ?_) (fun hc7 => ?_)
  ·have h := zM h hc7
   refine V_e (mb 44 4) [] (s1 := ⟨.bot :: .bot :: I (-1) :: bt 41 [], []⟩) ?_
   refine zR ?_
   obtain rfl := zE h
   show Post _ _ _ _ _
   exact ⟨.inr rfl, rfl, rfl, rfl⟩
  ·have h := zK h hc7
   refine zV ?_
   show V _ _ _ _
   refine V_e (mb 44 9) [] (s1 := ⟨.c (.v (.string vs1)) :: .bot :: .bot :: I 0 :: bt 40 [], []⟩) ?_
   refine zX ?_
   refine V_e (mb 44 25) [] (s1 := ⟨.c (.v (.string vs1)) :: .bot :: .bot :: I 0 :: I 0 :: bt 39 [], []⟩) ?_
   obtain ⟨qo11, hLo11, hko11⟩ := zD h
   refine V_toS (q := qo11) (S := fun o11 => ⟨bt 3 (I o11 :: bt 40 []), []⟩) (mb 44 8) [] ?_ ?_
   ·refine zZ (V_loop (fun n s => ∃ (vn8 : Int) (i9 : Int), s.keep (mb 44 25) [] = (⟨.c (.v (.string vs1)) :: .bot :: .bot :: I vn8 :: I i9 :: bt 39 [], []⟩ : St) ∧ r_spec_nuRead_L10 vs1 n vn8 i9 = some qo11) FU ⟨_, _,  by rfl, hLo11⟩ ?_)
    clear hLo11
    rintro n s ⟨vn8, i9, hs, h⟩
    refine V_keep _ _ hs ?_
    clear hs
    cases n with
    | zero => cases h
    | succ n =>
     rw [r_spec_nuRead_L10] at h
     refine zX ?_
     refine zG (mb 44 4194329) [] (s1 := ⟨.c (.v (.string vs1)) :: .bot :: .bot :: I vn8 :: I i9 :: bt 17 (Bo (ltI i9 ((vs1.size : Int))) :: bt 21 []), []⟩) ?_ ?_
     ·refine XR 2 ?_
      refine L0 rfl rfl (Y0_lens (b := vs1) Tryz.underlying9 rfl kk) ?_
      exact XE
     refine zQ rfl (fun hc12 => ?_) (fun hc12 => ?_)
     ·have h := zM h hc12
      refine zV ?_
      show V _ _ _ _
      refine zX ?_
      refine zZ ?_
      refine zX ?_
      obtain ⟨e13, he13, h⟩ := zD h
      obtain ⟨b16, hb16, h⟩ := zD h
      refine zG (mb 44 17179869209) [] (s1 := ⟨.c (.v (.string vs1)) :: .bot :: .bot :: I vn8 :: I i9 :: bt 29 (Bo b16 :: bt 9 []), []⟩) ?_ ?_
      ·refine XR 2 ?_
       refine L0 rfl rfl (Y0_idxs (b := vs1) (k := .i64) (n := i9) (v := e13) Tryz.underlying9 rfl kk kk he13) ?_
       refine L0 rfl rfl (Y0_ltw (k := .u8) (a := e13) (b := 48) rfl kk kk) ?_
       refine XR 1 ?_
       refine zP (ltI e13 48) (fun hc14 => ?_) (fun hc14 => ?_)
       ·have hb16 := zE (zM hb16 hc14)
        refine zL _ rfl rfl kk hc14 rfl ?_
        refine zL _ rfl rfl kk hc14 rfl ?_
        refine zL _ rfl rfl kk hc14 rfl ?_
        refine zL _ rfl rfl kk hc14 rfl ?_
        refine zJ rfl (zA rfl (Y0_pickTe (b := ltI e13 48) (p := true) rfl kk hc14 kk hb16)) ?_
        exact XE
       ·have hb16 := zK hb16 hc14
        obtain ⟨e15, he15, hb16⟩ := zD hb16
        have hb16 := zE hb16
        refine zB _ rfl rfl kk hc14 (zA rfl (zY (.c (.v (.string vs1))) rfl kk)) ?_
        refine zB _ rfl rfl kk hc14 (zA rfl (zY (I i9) rfl kk)) ?_
        refine zB _ rfl rfl kk hc14 (zA rfl (Y0_idxs (b := vs1) (k := .i64) (n := i9) (v := e15) Tryz.underlying9 rfl kk kk he15)) ?_
        refine zB _ rfl rfl kk hc14 (zA rfl (Y0_gtw (k := .u8) (a := e15) (b := 57) rfl kk kk)) ?_
        refine zJ rfl (zA rfl (Y0_pickFe (b := ltI e13 48) (p := ltI 57 e15) rfl kk hc14 kk hb16)) ?_
        exact XE
      refine zQ rfl (fun hc17 => ?_) (fun hc17 => ?_)
      ·have h := zM h hc17
       refine V_e (mb 44 4) [] (s1 := ⟨.bot :: .bot :: I (-1) :: bt 41 [], []⟩) ?_
       refine zR ?_
       obtain rfl := zE h
       have h := hko11
       obtain rfl := zE h
       show Post _ _ _ _ _
       exact ⟨.inr rfl, rfl, rfl, rfl⟩
      ·have h := zK h hc17
       refine zV ?_
       show V _ _ _ _
       obtain ⟨e18, he18, h⟩ := zD h
       obtain ⟨vn19, hvn19, h⟩ := qF h
       refine V_reg (mb 44 25) [] (s1 := ⟨.c (.v (.string vs1)) :: .bot :: .bot :: I vn19 :: I i9 :: bt 39 [], []⟩) ?_ ?_
       ·refine XR 4 ?_
        refine L0 rfl rfl (Y0_idxs (b := vs1) (k := .i64) (n := i9) (v := e18) Tryz.underlying9 rfl kk kk he18) ?_
        refine L0 rfl rfl (Y0_sub (k := .u8) (a := e18) (b := 48) rfl kk kk) ?_
        refine L0 rfl rfl (Y0_conv (k2 := .u8) (a := IntKind.u8.wrap (e18 - 48)) Tryz.underlying5 Tryz.underlying3 rfl kk) ?_
        refine XR 2 ?_
        refine zN ?_
        subst hvn19
        kernel_rfl
       show V _ _ _ _
       obtain ⟨i20, hi20, h⟩ := qF h
       refine V_reg (mb 44 25) [] (s1 := ⟨.c (.v (.string vs1)) :: .bot :: .bot :: I vn19 :: I i20 :: bt 39 [], []⟩) ?_ ?_
       ·refine XR 3 ?_
        refine zN ?_
        subst hi20
        kernel_rfl
       exact ⟨n, Nat.lt_succ_self n, _, _,  by rfl, h⟩
     ·have h := zK h hc12
      refine V_exit ?_
      obtain rfl := zE h
      exact ⟨_, rfl, by rfl⟩
   rintro o11 rfl
   have h := hko11
   clear hko11
   show V _ _ _ _
   refine V_e (mb 44 4) [] (s1 := ⟨.bot :: .bot :: I o11 :: bt 41 [], []⟩) ?_
   refine zR ?_
   obtain rfl := zE h
   show Post _ _ _ _ _
   exact ⟨.inr rfl, rfl, rfl, rfl⟩
theorem cf_spec_foInt : ∀ args w, (callFunc 146 args).run Tryz.prog w = .ok (.enter 146 args) w := zI Tryz.func146 kk kk
theorem s_spec_foInt {vs1 : ByteArray} {r : (Int × Bool)} (h : r_spec_foInt vs1 = some r) : z7 Tryz.prog 146 [.c (.v (.string vs1))] (.tc (I r.1) (.tc (Bo r.2) .tn)) [] := by
  refine zH (rs := [.t 2, .t 3]) (vs := [.tmp 2, .tmp 3]) Tryz.func146 rfl rfl (.cons rfl (.cons rfl FitsL.nil)) (by decide) 36 rfl ?_
  unfold r_spec_foInt at h
  show V _ _ ⟨.c (.v (.string vs1)) :: bt 35 [], []⟩ _
  refine V_e (mb 36 1) [] (s1 := ⟨.c (.v (.string vs1)) :: bt 35 [], []⟩) ?_
  obtain ⟨b4, hb4, h⟩ := zD h
  refine zG (mb 36 17) [] (s1 := ⟨.c (.v (.string vs1)) :: bt 3 (Bo b4 :: bt 31 []), []⟩) ?_ ?_
  ·refine XR 1 ?_
   refine L0 rfl rfl (Y0_lens (b := vs1) Tryz.underlying9 rfl kk) ?_
   refine XR 2 ?_
   refine zP (ltI 1 ((vs1.size : Int))) (fun hc2 => ?_) (fun hc2 => ?_)
   ·have hb4 := zM hb4 hc2
    obtain ⟨e3, he3, hb4⟩ := zD hb4
    have hb4 := zE hb4
    refine zB _ rfl rfl kk hc2 (zA rfl (zY (.c (.v (.string vs1))) rfl kk)) ?_
    refine zB _ rfl rfl kk hc2 (zA rfl (Y0_idxs (b := vs1) (k := .i64) (n := 0) (v := e3) Tryz.underlying9 rfl kk kk he3)) ?_
    refine zB _ rfl rfl kk hc2 (zA rfl (Y0_eqw (k := .u8) (a := e3) (b := 45) rfl kk kk)) ?_
    refine zJ rfl (zA rfl (Y0_pickTe (b := ltI 1 ((vs1.size : Int))) (p := eqI e3 45) rfl kk hc2 kk hb4)) ?_
    exact XE
   ·have hb4 := zE (zK hb4 hc2)
    refine zF _ rfl rfl kk hc2 rfl ?_
    refine zF _ rfl rfl kk hc2 rfl ?_
    refine zF _ rfl rfl kk hc2 rfl ?_
    refine zJ rfl (zA rfl (Y0_pickFe (b := ltI 1 ((vs1.size : Int))) (p := false) rfl kk hc2 kk hb4)) ?_
    exact XE
  obtain ⟨j5, hj5, h⟩ := zD h
  refine V_cutK (mb 36 17) [] (s1 := ⟨.c (.v (.string j5)) :: bt 3 (Bo b4 :: bt 31 []), []⟩) ?_ ?_
  ·clear h
   have h := hj5
   clear hj5
   refine V_e (mb 36 16401) [] (s1 := ⟨.c (.v (.string vs1)) :: bt 3 (Bo b4 :: bt 9 (Bo b4 :: bt 21 [])), []⟩) ?_
   refine zQ rfl (fun hc6 => ?_) (fun hc6 => ?_)
   ·have h := zM h hc6
    obtain ⟨u7, hu7, h⟩ := zD h
    refine V_reg (mb 36 17) [] (s1 := ⟨.c (.v (.string (vs1.extract (Int.toNat 1) (Int.toNat ((vs1.size : Int)))))) :: bt 3 (Bo b4 :: bt 31 []), []⟩) ?_ ?_
    ·refine XR 1 ?_
     refine L0 rfl rfl (Y0_slices (b := vs1) (l := 1) (h := (vs1.size : Int)) Tryz.underlying9 rfl kk (fun y hy => by cases hy; exact ⟨.i64, kk⟩) (fun hh => by cases hh) (fun y hy => by cases hy) (fun _ => rfl) (slc_some hu7)) ?_
     exact XE
    obtain rfl := zE h
    show St.keep _ _ _ = _
    rfl
   ·have h := zK h hc6
    refine zV ?_
    obtain rfl := zE h
    show St.keep _ _ _ = _
    rfl
  obtain ⟨y8, hy8, h⟩ := zD h
  refine zG (mb 36 48) [] (s1 := ⟨bt 4 (Bo b4 :: I y8 :: bt 30 []), []⟩) ?_ ?_
  ·refine XR 1 ?_
   refine XC (s_spec_nuRead hy8) cf_spec_nuRead rfl rfl rfl ?_
   exact XE
  refine zX ?_
  obtain ⟨t12, ht12, h⟩ := zD h
  have ht12 := zE ht12
  refine zG (mb 36 2147483696) [] (s1 := ⟨bt 4 (Bo b4 :: I y8 :: bt 25 (Bo t12 :: bt 4 [])), []⟩) ?_ ?_
  ·refine XR 3 ?_
   refine zP (ltI y8 0) (fun hc9 => ?_) (fun hc9 => ?_)
   ·refine zL _ rfl rfl kk hc9 rfl ?_
    refine zL _ rfl rfl kk hc9 rfl ?_
    refine qA rfl rfl kk rfl ?_
    refine qA rfl rfl kk rfl ?_
    refine zL _ rfl rfl kk hc9 rfl ?_
    refine zJ rfl (zA rfl (zW (b := ltI y8 0) (p := true) (q := bif b4 then (eqI y8 0) else false) rfl kk hc9 kk)) ?_
    refine XR 1 ?_
    refine zP (bif (ltI y8 0) then true else (bif b4 then (eqI y8 0) else false)) (fun hc11 => ?_) (fun hc11 => ?_)
    ·refine zL _ rfl rfl kk hc11 rfl ?_
     refine zL _ rfl rfl kk hc11 rfl ?_
     refine zJ rfl (zA rfl (zW (b := bif (ltI y8 0) then true else (bif b4 then (eqI y8 0) else false)) (p := true) (q := ltI 1000000 y8) rfl kk hc11 kk)) ?_
     refine zN ?_
     subst ht12
     kernel_rfl
    ·refine zB _ rfl rfl kk hc11 (zA rfl (zY (I y8) rfl kk)) ?_
     refine zB _ rfl rfl kk hc11 (zA rfl (Y0_gtw (k := .i64) (a := y8) (b := 1000000) rfl kk kk)) ?_
     refine zJ rfl (zA rfl (zT (b := bif (ltI y8 0) then true else (bif b4 then (eqI y8 0) else false)) (p := true) (q := ltI 1000000 y8) rfl kk hc11 kk)) ?_
     refine zN ?_
     subst ht12
     kernel_rfl
   ·refine zB _ rfl rfl kk hc9 (zA rfl (zY (Bo b4) rfl kk)) ?_
    refine zB _ rfl rfl kk hc9 (zA rfl (zY (Bo b4) rfl kk)) ?_
    refine zP b4 (fun hc10 => ?_) (fun hc10 => ?_)
    ·refine zB _ rfl rfl kk hc10 (zA rfl (zY (I y8) rfl kk)) ?_
     refine zB _ rfl rfl kk hc10 (zA rfl (Y0_eqw (k := .i64) (a := y8) (b := 0) rfl kk kk)) ?_
     refine zB _ rfl rfl kk hc9 (zA rfl (zW (b := b4) (p := eqI y8 0) (q := false) rfl kk hc10 kk)) ?_
     refine zJ rfl (zA rfl (zT (b := ltI y8 0) (p := true) (q := bif b4 then (eqI y8 0) else false) rfl kk hc9 kk)) ?_
     refine XR 1 ?_
     refine zP (bif (ltI y8 0) then true else (bif b4 then (eqI y8 0) else false)) (fun hc11 => ?_) (fun hc11 => ?_)
     ·refine zL _ rfl rfl kk hc11 rfl ?_
      refine zL _ rfl rfl kk hc11 rfl ?_
      refine zJ rfl (zA rfl (zW (b := bif (ltI y8 0) then true else (bif b4 then (eqI y8 0) else false)) (p := true) (q := ltI 1000000 y8) rfl kk hc11 kk)) ?_
      refine zN ?_
      subst ht12
      kernel_rfl
     ·refine zB _ rfl rfl kk hc11 (zA rfl (zY (I y8) rfl kk)) ?_
      refine zB _ rfl rfl kk hc11 (zA rfl (Y0_gtw (k := .i64) (a := y8) (b := 1000000) rfl kk kk)) ?_
      refine zJ rfl (zA rfl (zT (b := bif (ltI y8 0) then true else (bif b4 then (eqI y8 0) else false)) (p := true) (q := ltI 1000000 y8) rfl kk hc11 kk)) ?_
      refine zN ?_
      subst ht12
      kernel_rfl
    ·refine zF _ rfl rfl kk hc10 rfl ?_
     refine zF _ rfl rfl kk hc10 rfl ?_
     refine zB _ rfl rfl kk hc9 (zA rfl (zT (b := b4) (p := eqI y8 0) (q := false) rfl kk hc10 kk)) ?_
     refine zJ rfl (zA rfl (zT (b := ltI y8 0) (p := true) (q := bif b4 then (eqI y8 0) else false) rfl kk hc9 kk)) ?_
     refine XR 1 ?_
     refine zP (bif (ltI y8 0) then true else (bif b4 then (eqI y8 0) else false)) (fun hc11 => ?_) (fun hc11 => ?_)
     ·refine zL _ rfl rfl kk hc11 rfl ?_
      refine zL _ rfl rfl kk hc11 rfl ?_
      refine zJ rfl (zA rfl (zW (b := bif (ltI y8 0) then true else (bif b4 then (eqI y8 0) else false)) (p := true) (q := ltI 1000000 y8) rfl kk hc11 kk)) ?_
      refine zN ?_
      subst ht12
      kernel_rfl
     ·refine zB _ rfl rfl kk hc11 (zA rfl (zY (I y8) rfl kk)) ?_
      refine zB _ rfl rfl kk hc11 (zA rfl (Y0_gtw (k := .i64) (a := y8) (b := 1000000) rfl kk kk)) ?_
      refine zJ rfl (zA rfl (zT (b := bif (ltI y8 0) then true else (bif b4 then (eqI y8 0) else false)) (p := true) (q := ltI 1000000 y8) rfl kk hc11 kk)) ?_
      refine zN ?_
      subst ht12
      kernel_rfl
  refine zQ rfl (fun hc13 => ?_) (fun hc13 => ?_)
  ·have h := zM h hc13
   refine V_e (mb 36 12) [] (s1 := ⟨.bot :: .bot :: I 0 :: Bo false :: bt 32 [], []⟩) ?_
   refine zR ?_
   obtain rfl := zE h
   show Post _ _ _ _ _
   exact ⟨.inr rfl, rfl, rfl, rfl⟩
  ·have h := zK h hc13
   refine zV ?_
   show V _ _ _ _
   refine zX ?_
   refine V_e (mb 36 4294967328) [] (s1 := ⟨bt 5 (I y8 :: bt 26 (Bo b4 :: bt 3 [])), []⟩) ?_
   refine zQ rfl (fun hc14 => ?_) (fun hc14 => ?_)
   ·have h := zM h hc14
    obtain ⟨t15, ht15, h⟩ := qF h
    refine zG (mb 36 12) [] (s1 := ⟨.bot :: .bot :: I t15 :: Bo true :: bt 32 [], []⟩) ?_ ?_
    ·refine XR 4 ?_
     refine zN ?_
     subst ht15
     kernel_rfl
    refine zR ?_
    obtain rfl := zE h
    show Post _ _ _ _ _
    exact ⟨.inr rfl, rfl, rfl, rfl⟩
   ·have h := zK h hc14
    refine zV ?_
    show V _ _ _ _
    refine V_e (mb 36 12) [] (s1 := ⟨.bot :: .bot :: I y8 :: Bo true :: bt 32 [], []⟩) ?_
    refine zR ?_
    obtain rfl := zE h
    show Post _ _ _ _ _
    exact ⟨.inr rfl, rfl, rfl, rfl⟩
theorem cf_spec_foInts : ∀ args w, (callFunc 215 args).run Tryz.prog w = .ok (.enter 215 args) w := zI Tryz.func215 kk kk
theorem s_spec_foInts {vs1 : ByteArray} {b2 : Int} {count3 : Int} {r : List Int} (h : r_spec_foInts vs1 b2 count3 = some r) : z7 Tryz.prog 215 [.c (.v (.string vs1)), .c (.v (.int .u8 b2)), I count3] (.ow 0) [(0, .arr 3 1 (r.map c3))] := by
  refine zH (rs := [.t 6]) (vs := [.tmp 6]) Tryz.func215 rfl rfl (.cons rfl FitsL.nil) (by decide) 39 rfl ?_
  unfold r_spec_foInts at h
  show V _ _ ⟨.c (.v (.string vs1)) :: .c (.v (.int .u8 b2)) :: I count3 :: bt 36 [], []⟩ _
  refine zG (mb 39 7) [] (s1 := ⟨.c (.v (.string vs1)) :: .c (.v (.int .u8 b2)) :: I count3 :: bt 36 [], []⟩) ?_ ?_
  ·refine L1 rfl rfl (Y1_nil (e := 3) 1 (by decide) (.inl rfl)) ?_
   exact XE
  obtain ⟨y4, hy4, h⟩ := zD h
  refine zG (mb 39 132) [120] (s1 := ⟨.bot :: .bot :: I count3 :: bt 4 (.ow 120 :: bt 31 []), [(120, .arr 9 1 (y4.map c9))]⟩) ?_ ?_
  ·refine XR 2 ?_
   refine XC (s_spec_l1Split hy4) cf_spec_l1Split rfl rfl rfl ?_
   exact XE
  refine zX ?_
  refine zG (mb 39 524416) [120] (s1 := ⟨bt 7 (.ow 120 :: bt 11 (Bo (!eqI ((y4.length : Int)) count3) :: bt 19 [])), [(120, .arr 9 1 (y4.map c9))]⟩) ?_ ?_
  ·refine XR 1 ?_
   refine L0 rfl rfl (Y0_lenM (c := c9) (xs := y4) Tryz.underlying66 rfl kk) ?_
   exact XE
  refine zQ rfl (fun hc5 => ?_) (fun hc5 => ?_)
  ·have h := zM h hc5
   refine zG (mb 39 64) [48] (s1 := ⟨bt 6 (.ow 48 :: bt 32 []), [(48, .arr 3 1 ((([] : List Int)).map c3))]⟩) ?_ ?_
   ·refine L1 rfl rfl (Y1_nil (e := 3) 1 (by decide) (.inl rfl)) ?_
    exact XE
   refine zR ?_
   obtain rfl := zE h
   show Post _ _ _ _ _
   exact ⟨.inr rfl, rfl, rfl, rfl⟩
  ·have h := zK h hc5
   refine zV ?_
   show V _ _ _ _
   refine zG (mb 39 384) [64, 120] (s1 := ⟨bt 7 (.ow 120 :: .ow 64 :: bt 30 []), [(64, .arr 3 1 ((([] : List Int)).map c3)), (120, .arr 9 1 (y4.map c9))]⟩) ?_ ?_
   ·refine L1 rfl rfl (Y1_nil (e := 3) 1 (by decide) (.inl rfl)) ?_
    exact XE
   refine zX ?_
   refine zG (mb 39 7340288) [64, 120] (s1 := ⟨bt 8 (.ow 64 :: bt 11 (.ow 120 :: I ((y4.length : Int)) :: I 0 :: bt 16 [])), [(64, .arr 3 1 ((([] : List Int)).map c3)), (120, .arr 9 1 (y4.map c9))]⟩) ?_ ?_
   ·refine XR 1 ?_
    refine L0 rfl rfl (Y0_lenM (c := c9) (xs := y4) Tryz.underlying66 rfl kk) ?_
    exact XE
   obtain ⟨qo9, hLo9, hko9⟩ := zD h
   refine V_toS (q := qo9) (S := fun o9 => ⟨bt 8 (.ow 64 :: bt 30 []), [(64, .arr 3 1 (o9.map c3))]⟩) (mb 39 256) [64] ?_ ?_
   ·refine zZ (V_loop (fun n s => ∃ (t6 : Int) (l7 : List Int), s.keep (mb 39 7340288) [64, 120] = (⟨bt 8 (.ow 64 :: bt 11 (.ow 120 :: I ((y4.length : Int)) :: I t6 :: bt 16 [])), [(64, .arr 3 1 (l7.map c3)), (120, .arr 9 1 (y4.map c9))]⟩ : St) ∧ r_spec_foInts_L8 y4 n t6 l7 = some qo9) FU ⟨_, _,  by rfl, hLo9⟩ ?_)
    clear hLo9
    rintro n s ⟨t6, l7, hs, h⟩
    refine V_keep _ _ hs ?_
    clear hs
    cases n with
    | zero => cases h
    | succ n =>
     rw [r_spec_foInts_L8] at h
     refine V_e (mb 39 15728896) [64, 120] (s1 := ⟨bt 8 (.ow 64 :: bt 11 (.ow 120 :: I ((y4.length : Int)) :: I t6 :: Bo (ltI t6 ((y4.length : Int))) :: bt 15 [])), [(64, .arr 3 1 (l7.map c3)), (120, .arr 9 1 (y4.map c9))]⟩) ?_
     refine zX ?_
     refine zQ rfl (fun hc10 => ?_) (fun hc10 => ?_)
     ·have h := zM h hc10
      refine zV ?_
      show V _ _ _ _
      refine zX ?_
      refine zZ ?_
      obtain ⟨e11, he11, h⟩ := zD h
      obtain ⟨e12, he12, h⟩ := zD h
      refine zG (mb 39 7341312) [64, 120] (s1 := ⟨bt 8 (.ow 64 :: .bot :: .c (.v (.string e12)) :: bt 9 (.ow 120 :: I ((y4.length : Int)) :: I t6 :: bt 16 [])), [(64, .arr 3 1 (l7.map c3)), (120, .arr 9 1 (y4.map c9))]⟩) ?_ ?_
      ·refine L0 rfl rfl (Y0_idxoM (c := c9) (xs := y4) (v := e11) (id := 120) (T := 9) (sz := 1) (n := t6) Tryz.underlying66 sz9 rfl kk kk kk he11) ?_
       refine L0 rfl rfl (Y0_loado1 (c := c9) (xs := y4) (v := e12) (id := 120) (sz := 1) (T := 9) (off := 0) (n := t6) (d := .v (.string e12)) (ds := []) sc9 rfl kk kk he12 kk) ?_
       exact XE
      obtain ⟨y13, hy13, h⟩ := zD h
      refine zG (mb 39 7346432) [64, 120] (s1 := ⟨bt 8 (.ow 64 :: .bot :: .bot :: I y13.1 :: Bo y13.2 :: bt 7 (.ow 120 :: I ((y4.length : Int)) :: I t6 :: bt 16 [])), [(64, .arr 3 1 (l7.map c3)), (120, .arr 9 1 (y4.map c9))]⟩) ?_ ?_
      ·refine XR 1 ?_
       refine XC (s_spec_foInt hy13) cf_spec_foInt rfl rfl rfl ?_
       exact XE
      refine zX ?_
      refine V_e (mb 39 4302309632) [64, 120] (s1 := ⟨bt 8 (.ow 64 :: .bot :: .bot :: I y13.1 :: bt 8 (.ow 120 :: I ((y4.length : Int)) :: I t6 :: bt 9 (Bo (!y13.2) :: bt 6 []))), [(64, .arr 3 1 (l7.map c3)), (120, .arr 9 1 (y4.map c9))]⟩) ?_
      refine zQ rfl (fun hc14 => ?_) (fun hc14 => ?_)
      ·have h := zM h hc14
       refine zG (mb 39 64) [48] (s1 := ⟨bt 6 (.ow 48 :: bt 32 []), [(48, .arr 3 1 ((([] : List Int)).map c3))]⟩) ?_ ?_
       ·refine L1 rfl rfl (Y1_nil (e := 3) 1 (by decide) (.inl rfl)) ?_
        exact XE
       refine zR ?_
       obtain rfl := zE h
       have h := hko9
       obtain rfl := zE h
       show Post _ _ _ _ _
       exact ⟨.inr rfl, rfl, rfl, rfl⟩
      ·have h := zK h hc14
       refine zV ?_
       show V _ _ _ _
       obtain ⟨u15, hu15, h⟩ := zD h
       refine V_reg (mb 39 7340288) [64, 120] (s1 := ⟨bt 8 (.ow 64 :: bt 11 (.ow 120 :: I ((y4.length : Int)) :: I t6 :: bt 16 [])), [(64, .arr 3 1 ((l7 ++ ([y13.1])).map c3)), (120, .arr 9 1 (y4.map c9))]⟩) ?_ ?_
       ·refine XR 2 ?_
        refine L1 rfl rfl (Y1_bslice (z := zv3) (els := [y13.1].map c3) Tryz.underlying24 iz3 rfl (by decide) rfl kk rfl (by simp [c3]) (by decide) (by decide)) ?_
        refine zJ rfl (X_appendM (c := c3) (xs := l7) (ys := [y13.1]) (id := 64) (z := zv3) rfl rfl Tryz.underlying24 izb3 rfl kk kk kk (fun _ => rfl) (by simp) (room_some hu15) (by decide)) ?_
        exact XE
       show V _ _ _ _
       obtain ⟨t16, ht16, h⟩ := qF h
       refine V_reg (mb 39 7340288) [64, 120] (s1 := ⟨bt 8 (.ow 64 :: bt 11 (.ow 120 :: I ((y4.length : Int)) :: I t16 :: bt 16 [])), [(64, .arr 3 1 ((l7 ++ ([y13.1])).map c3)), (120, .arr 9 1 (y4.map c9))]⟩) ?_ ?_
       ·refine XR 2 ?_
        refine zN ?_
        subst ht16
        kernel_rfl
       exact ⟨n, Nat.lt_succ_self n, _, _,  by rfl, h⟩
     ·have h := zK h hc10
      refine V_exit ?_
      obtain rfl := zE h
      exact ⟨_, rfl, by rfl⟩
   rintro o9 rfl
   have h := hko9
   clear hko9
   show V _ _ _ _
   refine V_e (mb 39 64) [64] (s1 := ⟨bt 6 (.ow 64 :: bt 32 []), [(64, .arr 3 1 (o9.map c3))]⟩) ?_
   refine zR ?_
   obtain rfl := zE h
   show Post _ _ _ _ _
   exact ⟨.inr rfl, rfl, rfl, rfl⟩
theorem cf_spec_foRead : ∀ args w, (callFunc 144 args).run Tryz.prog w = .ok (.enter 144 args) w := zI Tryz.func144 kk kk
theorem s_spec_foRead {vs1 : ByteArray} {r : (((Int × Int × Int)) × Bool)} (h : r_spec_foRead vs1 = some r) : z7 Tryz.prog 144 [.c (.v (.string vs1))] (.tc (.ag [Ti r.1.1, Ti r.1.2.1, Ti r.1.2.2]) (.tc (Bo r.2) .tn)) [] := by
  refine zH (rs := [.w 2 3, .t 3]) (vs := [.cell 2 38, .tmp 3]) Tryz.func144 rfl rfl (.cons ⟨rfl, wd38⟩ (.cons rfl FitsL.nil)) (by decide) 32 rfl ?_
  unfold r_spec_foRead at h
  show V _ _ ⟨.c (.v (.string vs1)) :: bt 31 [], []⟩ _
  refine V_e (mb 32 5) [16] (s1 := ⟨.c (.v (.string vs1)) :: .bot :: .pt 16 0 :: bt 29 [], [(16, .box [Ti 0, Ti 0, Ti 0])]⟩) ?_
  obtain ⟨y2, hy2, h⟩ := zD h
  refine zG (mb 32 52) [16] (s1 := ⟨.bot :: .bot :: .pt 16 0 :: .bot :: .c (.v (.string y2.1)) :: Bo y2.2 :: bt 26 [], [(16, .box [Ti 0, Ti 0, Ti 0])]⟩) ?_ ?_
  ·refine XR 1 ?_
   refine XC (s_spec_foInside hy2) cf_spec_foInside rfl rfl rfl ?_
   exact XE
  obtain ⟨y3, hy3, h⟩ := zD h
  refine zG (mb 32 100) [104, 16] (s1 := ⟨.bot :: .bot :: .pt 16 0 :: .bot :: .bot :: Bo y2.2 :: .ow 104 :: bt 25 [], [(104, .arr 3 1 (y3.map c3)), (16, .box [Ti 0, Ti 0, Ti 0])]⟩) ?_ ?_
  ·refine XR 1 ?_
   refine XC (s_spec_foInts hy3) cf_spec_foInts rfl rfl rfl ?_
   exact XE
  refine zX ?_
  refine zG (mb 32 1048644) [104, 16] (s1 := ⟨.bot :: .bot :: .pt 16 0 :: bt 3 (.ow 104 :: bt 13 (Bo (bif (!y2.2) then true else (!eqI ((y3.length : Int)) 3)) :: bt 11 [])), [(104, .arr 3 1 (y3.map c3)), (16, .box [Ti 0, Ti 0, Ti 0])]⟩) ?_ ?_
  ·refine XR 3 ?_
   refine zP (!y2.2) (fun hc4 => ?_) (fun hc4 => ?_)
   ·refine zL _ rfl rfl kk hc4 rfl ?_
    refine zL _ rfl rfl kk hc4 rfl ?_
    refine zL _ rfl rfl kk hc4 rfl ?_
    refine zJ rfl (zA rfl (zW (b := !y2.2) (p := true) (q := !eqI ((y3.length : Int)) 3) rfl kk hc4 kk)) ?_
    exact XE
   ·refine zB _ rfl rfl kk hc4 (zA rfl (zY (.ow 104) rfl kk)) ?_
    refine zB _ rfl rfl kk hc4 (zA rfl (Y0_lenM (c := c3) (xs := y3) Tryz.underlying24 rfl kk)) ?_
    refine zB _ rfl rfl kk hc4 (zA rfl (Y0_new (k := .i64) (a := (y3.length : Int)) (b := 3) rfl kk kk)) ?_
    refine zJ rfl (zA rfl (zT (b := !y2.2) (p := true) (q := !eqI ((y3.length : Int)) 3) rfl kk hc4 kk)) ?_
    exact XE
  refine zQ rfl (fun hc5 => ?_) (fun hc5 => ?_)
  ·have h := zM h hc5
   refine zG (mb 32 12) [16] (s1 := ⟨.bot :: .bot :: .pt 16 0 :: Bo false :: bt 28 [], [(16, .box [Ti 0, Ti 0, Ti 0])]⟩) ?_ ?_
   ·refine L0 rfl rfl (qE (cs := [Ti 0, Ti 0, Ti 0]) pl38 bt38 rfl rfl kk) ?_
    exact XE
   refine zR ?_
   obtain rfl := zE h
   show Post _ _ _ _ _
   exact ⟨.inr rfl, rfl, rfl, rfl⟩
  ·have h := zK h hc5
   refine zV ?_
   show V _ _ _ _
   obtain ⟨e6, he6, h⟩ := zD h
   obtain ⟨e7, he7, h⟩ := zD h
   obtain ⟨e8, he8, h⟩ := zD h
   obtain ⟨e9, he9, h⟩ := zD h
   obtain ⟨e10, he10, h⟩ := zD h
   obtain ⟨e11, he11, h⟩ := zD h
   refine V_sdreg [0, 1, 3, 0, 8, 24, 0, 64, 192, 511, 1023, 2047] 10 (cdm 10 [174720, 174721, 174725, 172074, 172138, 172394, 2730, 6826, 23210, 87381]) (mb 32 12) [16] (s1 := ⟨.bot :: .bot :: .pt 16 0 :: Bo true :: bt 28 [], [(16, .box [Ti e7, Ti e9, Ti e11])]⟩) kk kk ?_ ?_
   ·refine DR 1 ?_
    refine DE_0 1 (.po 104 1 (Int.toNat (0)) 0) kk rfl rfl rfl (zO rfl) kk (Y0_idxoM (c := c3) (xs := y3) (v := e6) (id := 104) (T := 3) (sz := 1) (n := 0) Tryz.underlying24 sz3 rfl kk kk kk he6) 23 rfl ?_
    refine DE_0 2 (I e7) kk rfl rfl rfl (zO rfl) kk (Y0_loado1 (c := c3) (xs := y3) (v := e7) (id := 104) (sz := 1) (T := 3) (off := 0) (n := 0) (d := Ti e7) (ds := []) sc3 rfl kk kk he7 kk) 24 rfl ?_
    refine DR 1 ?_
    refine DE_0 4 (.po 104 1 (Int.toNat (1)) 0) kk rfl rfl rfl (zO rfl) kk (Y0_idxoM (c := c3) (xs := y3) (v := e8) (id := 104) (T := 3) (sz := 1) (n := 1) Tryz.underlying24 sz3 rfl kk kk kk he8) 26 rfl ?_
    refine DE_0 5 (I e9) kk rfl rfl rfl (zO rfl) kk (Y0_loado1 (c := c3) (xs := y3) (v := e9) (id := 104) (sz := 1) (T := 3) (off := 0) (n := 1) (d := Ti e9) (ds := []) sc3 rfl kk kk he9 kk) 27 rfl ?_
    refine DR 1 ?_
    refine DE_0 7 (.po 104 1 (Int.toNat (2)) 0) kk rfl rfl rfl (zO rfl) kk (Y0_idxoM (c := c3) (xs := y3) (v := e10) (id := 104) (T := 3) (sz := 1) (n := 2) Tryz.underlying24 sz3 rfl kk kk kk he10) 29 rfl ?_
    refine DE_0 8 (I e11) kk rfl rfl rfl (zO rfl) kk (Y0_loado1 (c := c3) (xs := y3) (v := e11) (id := 104) (sz := 1) (T := 3) (off := 0) (n := 2) (d := Ti e11) (ds := []) sc3 rfl kk kk he11 kk) 30 rfl ?_
    refine DE_0 9 (.ag [Ti e7, Ti e9, Ti e11]) kk rfl rfl rfl (zO rfl) kk (qE (cs := [Ti e7, Ti e9, Ti e11]) pl38 bt38 rfl rfl kk) 31 rfl ?_
    refine DA 0 ?_
    exact XE
   refine zR ?_
   obtain rfl := zE h
   show Post _ _ _ _ _
   exact ⟨.inr rfl, rfl, rfl, rfl⟩
theorem cf_spec_lgName : ∀ args w, (callFunc 92 args).run Tryz.prog w = .ok (.enter 92 args) w := zI Tryz.func92 kk kk
theorem s_spec_lgName {vs1 : ByteArray} {r : Bool} (h : r_spec_lgName vs1 = some r) : z7 Tryz.prog 92 [.c (.v (.string vs1))] (Bo r) [] := by
  refine zH (rs := [.t 2]) (vs := [.tmp 2]) Tryz.func92 rfl rfl (.cons rfl FitsL.nil) (by decide) 23 rfl ?_
  unfold r_spec_lgName at h
  show V _ _ ⟨.c (.v (.string vs1)) :: bt 22 [], []⟩ _
  refine V_e (mb 23 1) [] (s1 := ⟨.c (.v (.string vs1)) :: bt 22 [], []⟩) ?_
  refine zX ?_
  refine V_e (mb 23 9) [] (s1 := ⟨.c (.v (.string vs1)) :: .bot :: .bot :: I 0 :: bt 19 [], []⟩) ?_
  obtain ⟨qo4, hLo4, hko4⟩ := zD h
  refine V_toS (q := qo4) (S := fun o4 => ⟨.c (.v (.string vs1)) :: bt 22 [], []⟩) (mb 23 1) [] ?_ ?_
  ·refine zZ (V_loop (fun n s => ∃ (i2 : Int), s.keep (mb 23 9) [] = (⟨.c (.v (.string vs1)) :: .bot :: .bot :: I i2 :: bt 19 [], []⟩ : St) ∧ r_spec_lgName_L3 vs1 n i2 = some qo4) FU ⟨_,  by rfl, hLo4⟩ ?_)
   clear hLo4
   rintro n s ⟨i2, hs, h⟩
   refine V_keep _ _ hs ?_
   clear hs
   cases n with
   | zero => cases h
   | succ n =>
    rw [r_spec_lgName_L3] at h
    refine zX ?_
    refine zG (mb 23 137) [] (s1 := ⟨.c (.v (.string vs1)) :: .bot :: .bot :: I i2 :: bt 3 (Bo (ltI i2 ((vs1.size : Int))) :: bt 15 []), []⟩) ?_ ?_
    ·refine XR 2 ?_
     refine L0 rfl rfl (Y0_lens (b := vs1) Tryz.underlying9 rfl kk) ?_
     exact XE
    refine zQ rfl (fun hc5 => ?_) (fun hc5 => ?_)
    ·have h := zM h hc5
     refine zV ?_
     show V _ _ _ _
     refine zX ?_
     refine zZ ?_
     obtain ⟨e6, he6, h⟩ := zD h
     obtain ⟨b9, hb9, h⟩ := zD h
     refine zG (mb 23 524297) [] (s1 := ⟨.c (.v (.string vs1)) :: .bot :: .bot :: I i2 :: bt 15 (Bo b9 :: bt 3 []), []⟩) ?_ ?_
     ·refine XR 2 ?_
      refine L0 rfl rfl (Y0_idxs (b := vs1) (k := .i64) (n := i2) (v := e6) Tryz.underlying9 rfl kk kk he6) ?_
      refine L0 rfl rfl (Y0_ltw (k := .u8) (a := e6) (b := 97) rfl kk kk) ?_
      refine XR 1 ?_
      refine zP (ltI e6 97) (fun hc7 => ?_) (fun hc7 => ?_)
      ·have hb9 := zE (zM hb9 hc7)
       refine zL _ rfl rfl kk hc7 rfl ?_
       refine zL _ rfl rfl kk hc7 rfl ?_
       refine zL _ rfl rfl kk hc7 rfl ?_
       refine zL _ rfl rfl kk hc7 rfl ?_
       refine zJ rfl (zA rfl (Y0_pickTe (b := ltI e6 97) (p := true) rfl kk hc7 kk hb9)) ?_
       exact XE
      ·have hb9 := zK hb9 hc7
       obtain ⟨e8, he8, hb9⟩ := zD hb9
       have hb9 := zE hb9
       refine zB _ rfl rfl kk hc7 (zA rfl (zY (.c (.v (.string vs1))) rfl kk)) ?_
       refine zB _ rfl rfl kk hc7 (zA rfl (zY (I i2) rfl kk)) ?_
       refine zB _ rfl rfl kk hc7 (zA rfl (Y0_idxs (b := vs1) (k := .i64) (n := i2) (v := e8) Tryz.underlying9 rfl kk kk he8)) ?_
       refine zB _ rfl rfl kk hc7 (zA rfl (Y0_gtw (k := .u8) (a := e8) (b := 122) rfl kk kk)) ?_
       refine zJ rfl (zA rfl (Y0_pickFe (b := ltI e6 97) (p := ltI 122 e8) rfl kk hc7 kk hb9)) ?_
       exact XE
     refine zQ rfl (fun hc10 => ?_) (fun hc10 => ?_)
     ·have h := zM h hc10
      refine V_e (mb 23 4) [] (s1 := ⟨.bot :: .bot :: Bo false :: bt 20 [], []⟩) ?_
      refine zR ?_
      obtain rfl := zE h
      have h := hko4
      obtain rfl := zE h
      show Post _ _ _ _ _
      exact ⟨.inr rfl, rfl, rfl, rfl⟩
     ·have h := zK h hc10
      refine zV ?_
      show V _ _ _ _
      obtain ⟨i11, hi11, h⟩ := qF h
      refine V_reg (mb 23 9) [] (s1 := ⟨.c (.v (.string vs1)) :: .bot :: .bot :: I i11 :: bt 19 [], []⟩) ?_ ?_
      ·refine XR 3 ?_
       refine zN ?_
       subst hi11
       kernel_rfl
      exact ⟨n, Nat.lt_succ_self n, _,  by rfl, h⟩
    ·have h := zK h hc5
     refine V_exit ?_
     obtain rfl := zE h
     exact ⟨_, rfl, by rfl⟩
  rintro o4 rfl
  have h := hko4
  clear hko4
  show V _ _ _ _
  obtain ⟨y12, hy12, h⟩ := zD h
  refine zG (mb 23 4) [] (s1 := ⟨.bot :: .bot :: Bo y12 :: bt 20 [], []⟩) ?_ ?_
  ·refine XR 1 ?_
   refine L0 rfl rfl (Y0_lens (b := vs1) Tryz.underlying9 rfl kk) ?_
   refine XC (s_spec_l1In hy12) cf_spec_l1In rfl rfl rfl ?_
   exact XE
  refine zR ?_
  obtain rfl := zE h
  show Post _ _ _ _ _
  exact ⟨.inr rfl, rfl, rfl, rfl⟩
theorem cf_spec_nuGood : ∀ args w, (callFunc 211 args).run Tryz.prog w = .ok (.enter 211 args) w := zI Tryz.func211 kk kk
theorem s_spec_nuGood {vn1 : Int} {r : Bool} (h : r_spec_nuGood vn1 = some r) : z7 Tryz.prog 211 [I vn1] (Bo r) [] := by
  refine zH (rs := [.t 2]) (vs := [.tmp 2]) Tryz.func211 rfl rfl (.cons rfl FitsL.nil) (by decide) 5 rfl ?_
  unfold r_spec_nuGood at h
  show V _ _ ⟨I vn1 :: bt 4 [], []⟩ _
  refine V_e (mb 5 1) [] (s1 := ⟨I vn1 :: bt 4 [], []⟩) ?_
  obtain ⟨y2, hy2, h⟩ := zD h
  refine zG (mb 5 4) [] (s1 := ⟨.bot :: .bot :: Bo y2 :: .bot :: .bot :: [], []⟩) ?_ ?_
  ·refine XR 1 ?_
   refine XC (s_spec_l1In hy2) cf_spec_l1In rfl rfl rfl ?_
   exact XE
  refine zR ?_
  obtain rfl := zE h
  show Post _ _ _ _ _
  exact ⟨.inr rfl, rfl, rfl, rfl⟩
theorem cf_spec_foGood : ∀ args w, (callFunc 200 args).run Tryz.prog w = .ok (.enter 200 args) w := zI Tryz.func200 kk kk
theorem s_spec_foGood {f1 : (Int × Int × Int)} {r : Bool} (h : r_spec_foGood f1 = some r) : z7 Tryz.prog 200 [.ag [Ti f1.1, Ti f1.2.1, Ti f1.2.2]] (Bo r) [] := by
  refine zH (rs := [.t 2]) (vs := [.tmp 2]) Tryz.func200 rfl rfl (.cons rfl FitsL.nil) (by decide) 16 rfl ?_
  unfold r_spec_foGood at h
  show V _ _ ⟨.ag [Ti f1.1, Ti f1.2.1, Ti f1.2.2] :: bt 15 [], []⟩ _
  refine V_e (mb 16 2) [8] (s1 := ⟨.bot :: .pt 8 0 :: bt 14 [], [(8, .box [Ti f1.1, Ti f1.2.1, Ti f1.2.2])]⟩) ?_
  obtain ⟨y2, hy2, h⟩ := zD h
  obtain ⟨b5, hb5, h⟩ := zD h
  obtain ⟨b8, hb8, h⟩ := zD h
  refine zG (mb 16 4) [] (s1 := ⟨.bot :: .bot :: Bo b8 :: bt 13 [], []⟩) ?_ ?_
  ·refine XR 2 ?_
   refine XC (s_spec_nuGood hy2) cf_spec_nuGood rfl rfl rfl ?_
   refine XR 1 ?_
   refine zP y2 (fun hc3 => ?_) (fun hc3 => ?_)
   ·have hb5 := zM hb5 hc3
    obtain ⟨y4, hy4, hb5⟩ := zD hb5
    have hb5 := zE hb5
    refine zB _ rfl rfl kk hc3 (zA rfl (qD (.pt 8 1) Tryz.underlying38 rfl sz3 rfl kk (by intro hh; cases hh))) ?_
    refine zB _ rfl rfl kk hc3 (zA rfl (qC (c := Ti f1.2.1) (cs := [Ti f1.2.2]) sc3 rfl kk)) ?_
    refine zB _ rfl rfl kk hc3 (X_of_Y1 rfl (Y1_call (s_spec_nuGood hy4) cf_spec_nuGood rfl kk)) ?_
    refine zJ rfl (zA rfl (Y0_pickTe (b := y2) (p := y4) rfl kk hc3 kk hb5)) ?_
    refine XR 1 ?_
    refine zP b5 (fun hc6 => ?_) (fun hc6 => ?_)
    ·have hb8 := zM hb8 hc6
     obtain ⟨y7, hy7, hb8⟩ := zD hb8
     have hb8 := zE hb8
     refine zB _ rfl rfl kk hc6 (zA rfl (qD (.pt 8 2) Tryz.underlying38 rfl sz3 rfl kk (by intro hh; cases hh))) ?_
     refine zB _ rfl rfl kk hc6 (zA rfl (qC (c := Ti f1.2.2) (cs := []) sc3 rfl kk)) ?_
     refine zB _ rfl rfl kk hc6 (X_of_Y1 rfl (Y1_call (s_spec_nuGood hy7) cf_spec_nuGood rfl kk)) ?_
     refine zJ rfl (zA rfl (Y0_pickTe (b := b5) (p := y7) rfl kk hc6 kk hb8)) ?_
     exact XE
    ·have hb8 := zE (zK hb8 hc6)
     refine zF _ rfl rfl kk hc6 rfl ?_
     refine zF _ rfl rfl kk hc6 rfl ?_
     refine zF _ rfl rfl kk hc6 rfl ?_
     refine zJ rfl (zA rfl (Y0_pickFe (b := b5) (p := false) rfl kk hc6 kk hb8)) ?_
     exact XE
   ·have hb5 := zE (zK hb5 hc3)
    refine zF _ rfl rfl kk hc3 rfl ?_
    refine zF _ rfl rfl kk hc3 rfl ?_
    refine zF _ rfl rfl kk hc3 rfl ?_
    refine zJ rfl (zA rfl (Y0_pickFe (b := y2) (p := false) rfl kk hc3 kk hb5)) ?_
    refine XR 1 ?_
    refine zP b5 (fun hc6 => ?_) (fun hc6 => ?_)
    ·have hb8 := zM hb8 hc6
     obtain ⟨y7, hy7, hb8⟩ := zD hb8
     have hb8 := zE hb8
     refine zB _ rfl rfl kk hc6 (zA rfl (qD (.pt 8 2) Tryz.underlying38 rfl sz3 rfl kk (by intro hh; cases hh))) ?_
     refine zB _ rfl rfl kk hc6 (zA rfl (qC (c := Ti f1.2.2) (cs := []) sc3 rfl kk)) ?_
     refine zB _ rfl rfl kk hc6 (X_of_Y1 rfl (Y1_call (s_spec_nuGood hy7) cf_spec_nuGood rfl kk)) ?_
     refine zJ rfl (zA rfl (Y0_pickTe (b := b5) (p := y7) rfl kk hc6 kk hb8)) ?_
     exact XE
    ·have hb8 := zE (zK hb8 hc6)
     refine zF _ rfl rfl kk hc6 rfl ?_
     refine zF _ rfl rfl kk hc6 rfl ?_
     refine zF _ rfl rfl kk hc6 rfl ?_
     refine zJ rfl (zA rfl (Y0_pickFe (b := b5) (p := false) rfl kk hc6 kk hb8)) ?_
     exact XE
  refine zR ?_
  obtain rfl := zE h
  show Post _ _ _ _ _
  exact ⟨.inr rfl, rfl, rfl, rfl⟩
theorem cf_spec_foDisc : ∀ args w, (callFunc 99 args).run Tryz.prog w = .ok (.enter 99 args) w := zI Tryz.func99 kk kk
theorem s_spec_foDisc {f1 : (Int × Int × Int)} {r : Int} (h : r_spec_foDisc f1 = some r) : z7 Tryz.prog 99 [.ag [Ti f1.1, Ti f1.2.1, Ti f1.2.2]] (I r) [] := by
  refine zH (rs := [.t 2]) (vs := [.tmp 2]) Tryz.func99 rfl rfl (.cons rfl FitsL.nil) (by decide) 15 rfl ?_
  unfold r_spec_foDisc at h
  show V _ _ ⟨.ag [Ti f1.1, Ti f1.2.1, Ti f1.2.2] :: bt 14 [], []⟩ _
  refine V_e (mb 15 2) [8] (s1 := ⟨.bot :: .pt 8 0 :: bt 13 [], [(8, .box [Ti f1.1, Ti f1.2.1, Ti f1.2.2])]⟩) ?_
  obtain ⟨t2, ht2, h⟩ := qF h
  refine zG (mb 15 4) [] (s1 := ⟨.bot :: .bot :: I t2 :: bt 12 [], []⟩) ?_ ?_
  ·refine XR 13 ?_
   refine zN ?_
   subst ht2
   kernel_rfl
  refine zR ?_
  obtain rfl := zE h
  show Post _ _ _ _ _
  exact ⟨.inr rfl, rfl, rfl, rfl⟩
theorem cf_spec_foDefinite : ∀ args w, (callFunc 137 args).run Tryz.prog w = .ok (.enter 137 args) w := zI Tryz.func137 kk kk
theorem s_spec_foDefinite {f1 : (Int × Int × Int)} {r : Bool} (h : r_spec_foDefinite f1 = some r) : z7 Tryz.prog 137 [.ag [Ti f1.1, Ti f1.2.1, Ti f1.2.2]] (Bo r) [] := by
  refine zH (rs := [.t 2]) (vs := [.tmp 2]) Tryz.func137 rfl rfl (.cons rfl FitsL.nil) (by decide) 15 rfl ?_
  unfold r_spec_foDefinite at h
  show V _ _ ⟨.ag [Ti f1.1, Ti f1.2.1, Ti f1.2.2] :: bt 14 [], []⟩ _
  refine V_e (mb 15 2) [8] (s1 := ⟨.bot :: .pt 8 0 :: bt 13 [], [(8, .box [Ti f1.1, Ti f1.2.1, Ti f1.2.2])]⟩) ?_
  obtain ⟨y2, hy2, h⟩ := zD h
  obtain ⟨b5, hb5, h⟩ := zD h
  refine zG (mb 15 4) [] (s1 := ⟨.bot :: .bot :: Bo (bif b5 then (ltI 0 f1.1) else false) :: bt 12 [], []⟩) ?_ ?_
  ·refine XR 1 ?_
   refine XC (s_spec_foGood hy2) cf_spec_foGood rfl rfl rfl ?_
   refine XR 1 ?_
   refine zP y2 (fun hc3 => ?_) (fun hc3 => ?_)
   ·have hb5 := zM hb5 hc3
    obtain ⟨y4, hy4, hb5⟩ := zD hb5
    have hb5 := zE hb5
    refine zB _ rfl rfl kk hc3 (zA rfl (E_loadn (cs := [Ti f1.1, Ti f1.2.1, Ti f1.2.2]) [Ti f1.1, Ti f1.2.1, Ti f1.2.2] wd38 rfl kk (Nat.le_of_ble_eq_true rfl) kk)) ?_
    refine zB _ rfl rfl kk hc3 (X_of_Y1 rfl (Y1_call (s_spec_foDisc hy4) cf_spec_foDisc rfl kk)) ?_
    refine zB _ rfl rfl kk hc3 (zA rfl (Y0_ltw (k := .i64) (a := y4) (b := 0) rfl kk kk)) ?_
    refine zJ rfl (zA rfl (Y0_pickTe (b := y2) (p := ltI y4 0) rfl kk hc3 kk hb5)) ?_
    refine XR 1 ?_
    refine zP b5 (fun hc6 => ?_) (fun hc6 => ?_)
    ·refine zB _ rfl rfl kk hc6 (zA rfl (qD (.pt 8 0) Tryz.underlying38 rfl sz3 rfl kk (by intro hh; cases hh))) ?_
     refine zB _ rfl rfl kk hc6 (zA rfl (qC (c := Ti f1.1) (cs := [Ti f1.2.1, Ti f1.2.2]) sc3 rfl kk)) ?_
     refine zB _ rfl rfl kk hc6 (zA rfl (Y0_gtw (k := .i64) (a := f1.1) (b := 0) rfl kk kk)) ?_
     refine zJ rfl (zA rfl (zW (b := b5) (p := ltI 0 f1.1) (q := false) rfl kk hc6 kk)) ?_
     exact XE
    ·refine zF _ rfl rfl kk hc6 rfl ?_
     refine zF _ rfl rfl kk hc6 rfl ?_
     refine zF _ rfl rfl kk hc6 rfl ?_
     refine zJ rfl (zA rfl (zT (b := b5) (p := ltI 0 f1.1) (q := false) rfl kk hc6 kk)) ?_
     exact XE
   ·have hb5 := zE (zK hb5 hc3)
    refine zF _ rfl rfl kk hc3 rfl ?_
    refine zF _ rfl rfl kk hc3 rfl ?_
    refine zF _ rfl rfl kk hc3 rfl ?_
    refine zJ rfl (zA rfl (Y0_pickFe (b := y2) (p := false) rfl kk hc3 kk hb5)) ?_
    refine XR 1 ?_
    refine zP b5 (fun hc6 => ?_) (fun hc6 => ?_)
    ·refine zB _ rfl rfl kk hc6 (zA rfl (qD (.pt 8 0) Tryz.underlying38 rfl sz3 rfl kk (by intro hh; cases hh))) ?_
     refine zB _ rfl rfl kk hc6 (zA rfl (qC (c := Ti f1.1) (cs := [Ti f1.2.1, Ti f1.2.2]) sc3 rfl kk)) ?_
     refine zB _ rfl rfl kk hc6 (zA rfl (Y0_gtw (k := .i64) (a := f1.1) (b := 0) rfl kk kk)) ?_
     refine zJ rfl (zA rfl (zW (b := b5) (p := ltI 0 f1.1) (q := false) rfl kk hc6 kk)) ?_
     exact XE
    ·refine zF _ rfl rfl kk hc6 rfl ?_
     refine zF _ rfl rfl kk hc6 rfl ?_
     refine zF _ rfl rfl kk hc6 rfl ?_
     refine zJ rfl (zA rfl (zT (b := b5) (p := ltI 0 f1.1) (q := false) rfl kk hc6 kk)) ?_
     exact XE
  refine zR ?_
  obtain rfl := zE h
  show Post _ _ _ _ _
  exact ⟨.inr rfl, rfl, rfl, rfl⟩
theorem cf_spec_vaForm : ∀ args w, (callFunc 181 args).run Tryz.prog w = .ok (.enter 181 args) w := zI Tryz.func181 kk kk
theorem s_spec_vaForm {f1 : (Int × Int × Int)} {r : Bool} (h : r_spec_vaForm f1 = some r) : z7 Tryz.prog 181 [.ag [Ti f1.1, Ti f1.2.1, Ti f1.2.2]] (Bo r) [] := by
  refine zH (rs := [.t 2]) (vs := [.tmp 2]) Tryz.func181 rfl rfl (.cons rfl FitsL.nil) (by decide) 10 rfl ?_
  unfold r_spec_vaForm at h
  show V _ _ ⟨.ag [Ti f1.1, Ti f1.2.1, Ti f1.2.2] :: bt 9 [], []⟩ _
  refine V_e (mb 10 2) [8] (s1 := ⟨.bot :: .pt 8 0 :: bt 8 [], [(8, .box [Ti f1.1, Ti f1.2.1, Ti f1.2.2])]⟩) ?_
  obtain ⟨y2, hy2, h⟩ := zD h
  obtain ⟨b5, hb5, h⟩ := zD h
  refine zG (mb 10 4) [] (s1 := ⟨.bot :: .bot :: Bo b5 :: bt 7 [], []⟩) ?_ ?_
  ·refine XR 1 ?_
   refine XC (s_spec_foDefinite hy2) cf_spec_foDefinite rfl rfl rfl ?_
   refine XR 1 ?_
   refine zP y2 (fun hc3 => ?_) (fun hc3 => ?_)
   ·have hb5 := zM hb5 hc3
    obtain ⟨y4, hy4, hb5⟩ := zD hb5
    have hb5 := zE hb5
    refine zB _ rfl rfl kk hc3 (zA rfl (E_loadn (cs := [Ti f1.1, Ti f1.2.1, Ti f1.2.2]) [Ti f1.1, Ti f1.2.1, Ti f1.2.2] wd38 rfl kk (Nat.le_of_ble_eq_true rfl) kk)) ?_
    refine zB _ rfl rfl kk hc3 (X_of_Y1 rfl (Y1_call (s_spec_foDisc hy4) cf_spec_foDisc rfl kk)) ?_
    refine zB _ rfl rfl kk hc3 (zA rfl (Y0_gew (k := .i64) (a := y4) (b := -2000) rfl kk kk)) ?_
    refine zJ rfl (zA rfl (Y0_pickTe (b := y2) (p := leI (-2000) y4) rfl kk hc3 kk hb5)) ?_
    exact XE
   ·have hb5 := zE (zK hb5 hc3)
    refine zF _ rfl rfl kk hc3 rfl ?_
    refine zF _ rfl rfl kk hc3 rfl ?_
    refine zF _ rfl rfl kk hc3 rfl ?_
    refine zJ rfl (zA rfl (Y0_pickFe (b := y2) (p := false) rfl kk hc3 kk hb5)) ?_
    exact XE
  refine zR ?_
  obtain rfl := zE h
  show Post _ _ _ _ _
  exact ⟨.inr rfl, rfl, rfl, rfl⟩
theorem cf_spec_l1Most : ∀ args w, (callFunc 225 args).run Tryz.prog w = .ok (.enter 225 args) w := zI Tryz.func225 kk kk
theorem s_spec_l1Most {a1 : Int} {b2 : Int} {r : Int} (h : r_spec_l1Most a1 b2 = some r) : z7 Tryz.prog 225 [I a1, I b2] (I r) [] := by
  refine zH (rs := [.t 4]) (vs := [.tmp 4]) Tryz.func225 rfl rfl (.cons rfl FitsL.nil) (by decide) 10 rfl ?_
  unfold r_spec_l1Most at h
  show V _ _ ⟨I a1 :: I b2 :: bt 8 [], []⟩ _
  refine V_e (mb 10 3) [] (s1 := ⟨I a1 :: I b2 :: bt 8 [], []⟩) ?_
  refine zX ?_
  refine V_e (mb 10 131) [] (s1 := ⟨I a1 :: I b2 :: bt 5 (Bo (ltI b2 a1) :: .bot :: .bot :: []), []⟩) ?_
  refine zQ rfl (fun hc3 => ?_) (fun hc3 => ?_)
  ·have h := zM h hc3
   refine V_e (mb 10 16) [] (s1 := ⟨bt 4 (I a1 :: bt 5 []), []⟩) ?_
   refine zR ?_
   obtain rfl := zE h
   show Post _ _ _ _ _
   exact ⟨.inr rfl, rfl, rfl, rfl⟩
  ·have h := zK h hc3
   refine zV ?_
   show V _ _ _ _
   refine V_e (mb 10 16) [] (s1 := ⟨bt 4 (I b2 :: bt 5 []), []⟩) ?_
   refine zR ?_
   obtain rfl := zE h
   show Post _ _ _ _ _
   exact ⟨.inr rfl, rfl, rfl, rfl⟩
theorem cf_spec_l1Abs : ∀ args w, (callFunc 158 args).run Tryz.prog w = .ok (.enter 158 args) w := zI Tryz.func158 kk kk
theorem s_spec_l1Abs {vn1 : Int} {r : Int} (h : r_spec_l1Abs vn1 = some r) : z7 Tryz.prog 158 [I vn1] (I r) [] := by
  refine zH (rs := [.t 2]) (vs := [.tmp 2]) Tryz.func158 rfl rfl (.cons rfl FitsL.nil) (by decide) 7 rfl ?_
  unfold r_spec_l1Abs at h
  show V _ _ ⟨I vn1 :: bt 6 [], []⟩ _
  refine V_e (mb 7 1) [] (s1 := ⟨I vn1 :: bt 6 [], []⟩) ?_
  obtain ⟨y2, hy2, h⟩ := zD h
  refine zG (mb 7 4) [] (s1 := ⟨.bot :: .bot :: I y2 :: bt 4 [], []⟩) ?_ ?_
  ·refine XR 3 ?_
   refine XC (s_spec_l1Most hy2) cf_spec_l1Most rfl rfl rfl ?_
   exact XE
  refine zR ?_
  obtain rfl := zE h
  show Post _ _ _ _ _
  exact ⟨.inr rfl, rfl, rfl, rfl⟩
theorem cf_spec_nuGcd : ∀ args w, (callFunc 151 args).run Tryz.prog w = .ok (.enter 151 args) w := zI Tryz.func151 kk kk
theorem s_spec_nuGcd {a1 : Int} {b2 : Int} {r : Int} (h : r_spec_nuGcd a1 b2 = some r) : z7 Tryz.prog 151 [I a1, I b2] (I r) [] := by
  refine zH (rs := [.t 4]) (vs := [.tmp 4]) Tryz.func151 rfl rfl (.cons rfl FitsL.nil) (by decide) 16 rfl ?_
  unfold r_spec_nuGcd at h
  show V _ _ ⟨I a1 :: I b2 :: bt 14 [], []⟩ _
  refine V_e (mb 16 3) [] (s1 := ⟨I a1 :: I b2 :: bt 14 [], []⟩) ?_
  obtain ⟨y3, hy3, h⟩ := zD h
  obtain ⟨y4, hy4, h⟩ := zD h
  refine zG (mb 16 3) [] (s1 := ⟨I y3 :: I y4 :: bt 14 [], []⟩) ?_ ?_
  ·refine XR 1 ?_
   refine XC (s_spec_l1Abs hy3) cf_spec_l1Abs rfl rfl rfl ?_
   refine XR 1 ?_
   refine XC (s_spec_l1Abs hy4) cf_spec_l1Abs rfl rfl rfl ?_
   exact XE
  refine zX ?_
  obtain ⟨o8, hLo8, h⟩ := zD h
  refine V_toK (mb 16 1) [] (s1 := ⟨I o8 :: bt 15 [], []⟩) ?_ ?_
  ·clear h
   refine zZ (V_loop (fun n s => ∃ (a5 : Int) (b6 : Int), s.keep (mb 16 3) [] = (⟨I a5 :: I b6 :: bt 14 [], []⟩ : St) ∧ r_spec_nuGcd_L7 n a5 b6 = some o8) FU ⟨_, _,  by rfl, hLo8⟩ ?_)
   clear hLo8
   rintro n s ⟨a5, b6, hs, h⟩
   refine V_keep _ _ hs ?_
   clear hs
   cases n with
   | zero => cases h
   | succ n =>
    rw [r_spec_nuGcd_L7] at h
    refine zX ?_
    refine V_e (mb 16 1027) [] (s1 := ⟨I a5 :: I b6 :: bt 8 (Bo (!eqI b6 0) :: bt 5 []), []⟩) ?_
    refine zQ rfl (fun hc9 => ?_) (fun hc9 => ?_)
    ·have h := zM h hc9
     refine zV ?_
     show V _ _ _ _
     refine zZ ?_
     obtain ⟨z10, hz10, h⟩ := zD h
     obtain ⟨b11, hb11, h⟩ := qF h
     refine V_dreg [0, 0, 0, 6, 3, 31] 6 (cdm 6 [168, 34, 522, 534, 165, 341]) (mb 16 3) [] (s1 := ⟨I b6 :: I b11 :: bt 14 [], []⟩) kk kk ?_ ?_
     ·refine DR 3 ?_
      refine DE_0 3 (I (Int.tmod a5 b6)) kk rfl rfl rfl (zO rfl) kk (Y0_rem (k := .i64) (a := a5) (b := b6) rfl kk kk (nz_some hz10)) 14 rfl ?_
      refine DA 2 ?_
      refine zN ?_
      subst hb11
      kernel_rfl
     exact ⟨n, Nat.lt_succ_self n, _, _,  by rfl, h⟩
    ·have h := zK h hc9
     refine V_exit ?_
     obtain rfl := zE h
     show St.keep _ _ _ = _
     rfl
  show V _ _ _ _
  refine V_e (mb 16 16) [] (s1 := ⟨bt 4 (I o8 :: bt 11 []), []⟩) ?_
  refine zR ?_
  obtain rfl := zE h
  show Post _ _ _ _ _
  exact ⟨.inr rfl, rfl, rfl, rfl⟩
theorem cf_spec_foContent : ∀ args w, (callFunc 182 args).run Tryz.prog w = .ok (.enter 182 args) w := zI Tryz.func182 kk kk
theorem s_spec_foContent {f1 : (Int × Int × Int)} {r : Int} (h : r_spec_foContent f1 = some r) : z7 Tryz.prog 182 [.ag [Ti f1.1, Ti f1.2.1, Ti f1.2.2]] (I r) [] := by
  refine zH (rs := [.t 2]) (vs := [.tmp 2]) Tryz.func182 rfl rfl (.cons rfl FitsL.nil) (by decide) 11 rfl ?_
  unfold r_spec_foContent at h
  show V _ _ ⟨.ag [Ti f1.1, Ti f1.2.1, Ti f1.2.2] :: bt 10 [], []⟩ _
  refine V_e (mb 11 2) [8] (s1 := ⟨.bot :: .pt 8 0 :: bt 9 [], [(8, .box [Ti f1.1, Ti f1.2.1, Ti f1.2.2])]⟩) ?_
  obtain ⟨y2, hy2, h⟩ := zD h
  obtain ⟨y3, hy3, h⟩ := zD h
  refine V_sdreg [0, 1, 0, 4, 15, 0, 32, 127, 255] 9 (cdm 9 [10400, 10401, 10250, 10266, 10325, 682, 1706, 5461, 21845]) (mb 11 4) [] (s1 := ⟨.bot :: .bot :: I y3 :: bt 8 [], []⟩) kk kk ?_ ?_
  ·refine DR 4 ?_
   refine DC 4 (s_spec_nuGcd hy2) cf_spec_nuGcd rfl rfl rfl rfl 7 rfl ?_
   refine DR 2 ?_
   refine DC 7 (s_spec_nuGcd hy3) cf_spec_nuGcd rfl rfl rfl rfl 10 rfl ?_
   refine DA 1 ?_
   exact XE
  refine zR ?_
  obtain rfl := zE h
  show Post _ _ _ _ _
  exact ⟨.inr rfl, rfl, rfl, rfl⟩
theorem cf_spec_coGood : ∀ args w, (callFunc 94 args).run Tryz.prog w = .ok (.enter 94 args) w := zI Tryz.func94 kk kk
theorem s_spec_coGood {f1 : (Int × Int × Int)} {r : Bool} (h : r_spec_coGood f1 = some r) : z7 Tryz.prog 94 [.ag [Ti f1.1, Ti f1.2.1, Ti f1.2.2]] (Bo r) [] := by
  refine zH (rs := [.t 2]) (vs := [.tmp 2]) Tryz.func94 rfl rfl (.cons rfl FitsL.nil) (by decide) 10 rfl ?_
  unfold r_spec_coGood at h
  show V _ _ ⟨.ag [Ti f1.1, Ti f1.2.1, Ti f1.2.2] :: bt 9 [], []⟩ _
  refine V_e (mb 10 2) [8] (s1 := ⟨.bot :: .pt 8 0 :: bt 8 [], [(8, .box [Ti f1.1, Ti f1.2.1, Ti f1.2.2])]⟩) ?_
  obtain ⟨y2, hy2, h⟩ := zD h
  obtain ⟨b5, hb5, h⟩ := zD h
  refine zG (mb 10 4) [] (s1 := ⟨.bot :: .bot :: Bo b5 :: bt 7 [], []⟩) ?_ ?_
  ·refine XR 1 ?_
   refine XC (s_spec_vaForm hy2) cf_spec_vaForm rfl rfl rfl ?_
   refine XR 1 ?_
   refine zP y2 (fun hc3 => ?_) (fun hc3 => ?_)
   ·have hb5 := zM hb5 hc3
    obtain ⟨y4, hy4, hb5⟩ := zD hb5
    have hb5 := zE hb5
    refine zB _ rfl rfl kk hc3 (zA rfl (E_loadn (cs := [Ti f1.1, Ti f1.2.1, Ti f1.2.2]) [Ti f1.1, Ti f1.2.1, Ti f1.2.2] wd38 rfl kk (Nat.le_of_ble_eq_true rfl) kk)) ?_
    refine zB _ rfl rfl kk hc3 (X_of_Y1 rfl (Y1_call (s_spec_foContent hy4) cf_spec_foContent rfl kk)) ?_
    refine zB _ rfl rfl kk hc3 (zA rfl (Y0_eqw (k := .i64) (a := y4) (b := 1) rfl kk kk)) ?_
    refine zJ rfl (zA rfl (Y0_pickTe (b := y2) (p := eqI y4 1) rfl kk hc3 kk hb5)) ?_
    exact XE
   ·have hb5 := zE (zK hb5 hc3)
    refine zF _ rfl rfl kk hc3 rfl ?_
    refine zF _ rfl rfl kk hc3 rfl ?_
    refine zF _ rfl rfl kk hc3 rfl ?_
    refine zJ rfl (zA rfl (Y0_pickFe (b := y2) (p := false) rfl kk hc3 kk hb5)) ?_
    exact XE
  refine zR ?_
  obtain rfl := zE h
  show Post _ _ _ _ _
  exact ⟨.inr rfl, rfl, rfl, rfl⟩
theorem cf_spec_lgCommand : ∀ args w, (callFunc 49 args).run Tryz.prog w = .ok (.enter 49 args) w := zI Tryz.func49 kk kk
theorem s_spec_lgCommand {c1 : (Int × ByteArray × ByteArray × ByteArray × ((Int × Int × Int)))} {r : Bool} (h : r_spec_lgCommand c1 = some r) : z7 Tryz.prog 49 [.ag [Ti c1.1, .v (.string c1.2.1), .v (.string c1.2.2.1), .v (.string c1.2.2.2.1), Ti c1.2.2.2.2.1, Ti c1.2.2.2.2.2.1, Ti c1.2.2.2.2.2.2]] (Bo r) [] := by
  refine zH (rs := [.t 2]) (vs := [.tmp 2]) Tryz.func49 rfl rfl (.cons rfl FitsL.nil) (by decide) 63 rfl ?_
  unfold r_spec_lgCommand at h
  show V _ _ ⟨.ag [Ti c1.1, .v (.string c1.2.1), .v (.string c1.2.2.1), .v (.string c1.2.2.2.1), Ti c1.2.2.2.2.1, Ti c1.2.2.2.2.2.1, Ti c1.2.2.2.2.2.2] :: bt 62 [], []⟩ _
  refine V_e (mb 63 2) [8] (s1 := ⟨.bot :: .pt 8 0 :: bt 61 [], [(8, .box [Ti c1.1, .v (.string c1.2.1), .v (.string c1.2.2.1), .v (.string c1.2.2.2.1), Ti c1.2.2.2.2.1, Ti c1.2.2.2.2.2.1, Ti c1.2.2.2.2.2.2])]⟩) ?_
  refine zX ?_
  obtain ⟨y2, hy2, h⟩ := zD h
  obtain ⟨b5, hb5, h⟩ := zD h
  refine zG (mb 63 4098) [8] (s1 := ⟨.bot :: .pt 8 0 :: bt 10 (Bo b5 :: bt 50 []), [(8, .box [Ti c1.1, .v (.string c1.2.1), .v (.string c1.2.2.1), .v (.string c1.2.2.2.1), Ti c1.2.2.2.2.1, Ti c1.2.2.2.2.2.1, Ti c1.2.2.2.2.2.2])]⟩) ?_ ?_
  ·refine XR 2 ?_
   refine XC (s_spec_l1In hy2) cf_spec_l1In rfl rfl rfl ?_
   refine XR 2 ?_
   refine zP (!y2) (fun hc3 => ?_) (fun hc3 => ?_)
   ·have hb5 := zE (zM hb5 hc3)
    refine zL _ rfl rfl kk hc3 rfl ?_
    refine zL _ rfl rfl kk hc3 rfl ?_
    refine zL _ rfl rfl kk hc3 rfl ?_
    refine zL _ rfl rfl kk hc3 rfl ?_
    refine zJ rfl (zA rfl (Y0_pickTe (b := !y2) (p := true) rfl kk hc3 kk hb5)) ?_
    exact XE
   ·have hb5 := zK hb5 hc3
    obtain ⟨y4, hy4, hb5⟩ := zD hb5
    have hb5 := zE hb5
    refine zB _ rfl rfl kk hc3 (zA rfl (qD (.pt 8 1) Tryz.underlying40 rfl sz9 rfl kk (by intro hh; cases hh))) ?_
    refine zB _ rfl rfl kk hc3 (zA rfl (qC (c := .v (.string c1.2.1)) (cs := [.v (.string c1.2.2.1), .v (.string c1.2.2.2.1), Ti c1.2.2.2.2.1, Ti c1.2.2.2.2.2.1, Ti c1.2.2.2.2.2.2]) sc9 rfl kk)) ?_
    refine zB _ rfl rfl kk hc3 (X_of_Y1 rfl (Y1_call (s_spec_lgName hy4) cf_spec_lgName rfl kk)) ?_
    refine zB _ rfl rfl kk hc3 (zA rfl (Y0_not (b := y4) rfl kk)) ?_
    refine zJ rfl (zA rfl (Y0_pickFe (b := !y2) (p := !y4) rfl kk hc3 kk hb5)) ?_
    exact XE
  refine zQ rfl (fun hc6 => ?_) (fun hc6 => ?_)
  ·have h := zM h hc6
   refine V_e (mb 63 4) [] (s1 := ⟨.bot :: .bot :: Bo false :: bt 60 [], []⟩) ?_
   refine zR ?_
   obtain rfl := zE h
   show Post _ _ _ _ _
   exact ⟨.inr rfl, rfl, rfl, rfl⟩
  ·have h := zK h hc6
   refine zV ?_
   show V _ _ _ _
   refine zX ?_
   obtain ⟨y7, hy7, h⟩ := zD h
   refine zG (mb 63 32770) [8] (s1 := ⟨.bot :: .pt 8 0 :: bt 13 (Bo y7 :: bt 47 []), [(8, .box [Ti c1.1, .v (.string c1.2.1), .v (.string c1.2.2.1), .v (.string c1.2.2.2.1), Ti c1.2.2.2.2.1, Ti c1.2.2.2.2.2.1, Ti c1.2.2.2.2.2.2])]⟩) ?_ ?_
   ·refine XR 2 ?_
    refine XC (s_spec_lgHasForm hy7) cf_spec_lgHasForm rfl rfl rfl ?_
    exact XE
   refine zQ rfl (fun hc8 => ?_) (fun hc8 => ?_)
   ·have h := zM h hc8
    obtain ⟨y9, hy9, h⟩ := zD h
    obtain ⟨t12, ht12, h⟩ := zD h
    have ht12 := zE ht12
    refine zG (mb 63 4) [] (s1 := ⟨.bot :: .bot :: Bo t12 :: bt 60 [], []⟩) ?_ ?_
    ·refine XR 2 ?_
     refine XC (s_spec_coGood hy9) cf_spec_coGood rfl rfl rfl ?_
     refine XR 1 ?_
     refine zP y9 (fun hc10 => ?_) (fun hc10 => ?_)
     ·refine zB _ rfl rfl kk hc10 (zA rfl (qD (.pt 8 2) Tryz.underlying40 rfl sz9 rfl kk (by intro hh; cases hh))) ?_
      refine zB _ rfl rfl kk hc10 (zA rfl (qC (c := .v (.string c1.2.2.1)) (cs := [.v (.string c1.2.2.2.1), Ti c1.2.2.2.2.1, Ti c1.2.2.2.2.2.1, Ti c1.2.2.2.2.2.2]) sc9 rfl kk)) ?_
      refine zB _ rfl rfl kk hc10 (zA rfl (Y0_eqs (a := c1.2.2.1) (b := ((⟨#[]⟩ : ByteArray))) rfl kk kk)) ?_
      refine zJ rfl (zA rfl (zW (b := y9) (p := c1.2.2.1.toList == ((⟨#[]⟩ : ByteArray)).toList) (q := false) rfl kk hc10 kk)) ?_
      refine XR 1 ?_
      refine zP (bif y9 then (c1.2.2.1.toList == ((⟨#[]⟩ : ByteArray)).toList) else false) (fun hc11 => ?_) (fun hc11 => ?_)
      ·refine zB _ rfl rfl kk hc11 (zA rfl (qD (.pt 8 3) Tryz.underlying40 rfl sz9 rfl kk (by intro hh; cases hh))) ?_
       refine zB _ rfl rfl kk hc11 (zA rfl (qC (c := .v (.string c1.2.2.2.1)) (cs := [Ti c1.2.2.2.2.1, Ti c1.2.2.2.2.2.1, Ti c1.2.2.2.2.2.2]) sc9 rfl kk)) ?_
       refine zB _ rfl rfl kk hc11 (zA rfl (Y0_eqs (a := c1.2.2.2.1) (b := ((⟨#[]⟩ : ByteArray))) rfl kk kk)) ?_
       refine zJ rfl (zA rfl (zW (b := bif y9 then (c1.2.2.1.toList == ((⟨#[]⟩ : ByteArray)).toList) else false) (p := c1.2.2.2.1.toList == ((⟨#[]⟩ : ByteArray)).toList) (q := false) rfl kk hc11 kk)) ?_
       refine XR 1 ?_
       refine zN ?_
       subst ht12
       kernel_rfl
      ·refine zF _ rfl rfl kk hc11 rfl ?_
       refine zF _ rfl rfl kk hc11 rfl ?_
       refine zF _ rfl rfl kk hc11 rfl ?_
       refine zJ rfl (zA rfl (zT (b := bif y9 then (c1.2.2.1.toList == ((⟨#[]⟩ : ByteArray)).toList) else false) (p := c1.2.2.2.1.toList == ((⟨#[]⟩ : ByteArray)).toList) (q := false) rfl kk hc11 kk)) ?_
       refine XR 1 ?_
       refine zN ?_
       subst ht12
       kernel_rfl
     ·refine zF _ rfl rfl kk hc10 rfl ?_
      refine zF _ rfl rfl kk hc10 rfl ?_
      refine zF _ rfl rfl kk hc10 rfl ?_
      refine zJ rfl (zA rfl (zT (b := y9) (p := c1.2.2.1.toList == ((⟨#[]⟩ : ByteArray)).toList) (q := false) rfl kk hc10 kk)) ?_
      refine XR 1 ?_
      refine zP (bif y9 then (c1.2.2.1.toList == ((⟨#[]⟩ : ByteArray)).toList) else false) (fun hc11 => ?_) (fun hc11 => ?_)
      ·refine zB _ rfl rfl kk hc11 (zA rfl (qD (.pt 8 3) Tryz.underlying40 rfl sz9 rfl kk (by intro hh; cases hh))) ?_
       refine zB _ rfl rfl kk hc11 (zA rfl (qC (c := .v (.string c1.2.2.2.1)) (cs := [Ti c1.2.2.2.2.1, Ti c1.2.2.2.2.2.1, Ti c1.2.2.2.2.2.2]) sc9 rfl kk)) ?_
       refine zB _ rfl rfl kk hc11 (zA rfl (Y0_eqs (a := c1.2.2.2.1) (b := ((⟨#[]⟩ : ByteArray))) rfl kk kk)) ?_
       refine zJ rfl (zA rfl (zW (b := bif y9 then (c1.2.2.1.toList == ((⟨#[]⟩ : ByteArray)).toList) else false) (p := c1.2.2.2.1.toList == ((⟨#[]⟩ : ByteArray)).toList) (q := false) rfl kk hc11 kk)) ?_
       refine XR 1 ?_
       refine zN ?_
       subst ht12
       kernel_rfl
      ·refine zF _ rfl rfl kk hc11 rfl ?_
       refine zF _ rfl rfl kk hc11 rfl ?_
       refine zF _ rfl rfl kk hc11 rfl ?_
       refine zJ rfl (zA rfl (zT (b := bif y9 then (c1.2.2.1.toList == ((⟨#[]⟩ : ByteArray)).toList) else false) (p := c1.2.2.2.1.toList == ((⟨#[]⟩ : ByteArray)).toList) (q := false) rfl kk hc11 kk)) ?_
       refine XR 1 ?_
       refine zN ?_
       subst ht12
       kernel_rfl
    refine zR ?_
    obtain rfl := zE h
    show Post _ _ _ _ _
    exact ⟨.inr rfl, rfl, rfl, rfl⟩
   ·have h := zK h hc8
    refine zV ?_
    show V _ _ _ _
    refine zX ?_
    obtain ⟨t13, ht13, h⟩ := zD h
    have ht13 := zE ht13
    refine zG (mb 63 4294967298) [8] (s1 := ⟨.bot :: .pt 8 0 :: bt 30 (Bo t13 :: bt 30 []), [(8, .box [Ti c1.1, .v (.string c1.2.1), .v (.string c1.2.2.1), .v (.string c1.2.2.2.1), Ti c1.2.2.2.2.1, Ti c1.2.2.2.2.2.1, Ti c1.2.2.2.2.2.2])]⟩) ?_ ?_
    ·refine XR 2 ?_
     refine L0 rfl rfl (qE (cs := [Ti 0, Ti 0, Ti 0]) pl38 bt38 rfl rfl kk) ?_
     refine L0 rfl rfl (Y0_neg3 (a0 := c1.2.2.2.2.1) (b0 := 0) (a1 := c1.2.2.2.2.2.1) (b1 := 0) (a2 := c1.2.2.2.2.2.2) (b2 := 0) neg38 rfl kk kk) ?_
     refine zN ?_
     subst ht13
     kernel_rfl
    refine zQ rfl (fun hc14 => ?_) (fun hc14 => ?_)
    ·have h := zM h hc14
     refine V_e (mb 63 4) [] (s1 := ⟨.bot :: .bot :: Bo false :: bt 60 [], []⟩) ?_
     refine zR ?_
     obtain rfl := zE h
     show Post _ _ _ _ _
     exact ⟨.inr rfl, rfl, rfl, rfl⟩
    ·have h := zK h hc14
     refine zV ?_
     show V _ _ _ _
     refine zX ?_
     refine V_e (mb 63 17179869186) [8] (s1 := ⟨.bot :: .pt 8 0 :: bt 32 (I c1.1 :: bt 28 []), [(8, .box [Ti c1.1, .v (.string c1.2.1), .v (.string c1.2.2.1), .v (.string c1.2.2.2.1), Ti c1.2.2.2.2.1, Ti c1.2.2.2.2.2.1, Ti c1.2.2.2.2.2.2])]⟩) ?_
     refine zZ ?_
     refine V_e (mb 63 51539607554) [8] (s1 := ⟨.bot :: .pt 8 0 :: bt 32 (I c1.1 :: Bo (eqI c1.1 3) :: bt 27 []), [(8, .box [Ti c1.1, .v (.string c1.2.1), .v (.string c1.2.2.1), .v (.string c1.2.2.2.1), Ti c1.2.2.2.2.1, Ti c1.2.2.2.2.2.1, Ti c1.2.2.2.2.2.2])]⟩) ?_
     refine zQ rfl (fun hc15 => ?_) (fun hc15 => ?_)
     ·have h := zM h hc15
      obtain ⟨y16, hy16, h⟩ := zD h
      obtain ⟨b19, hb19, h⟩ := zD h
      refine zG (mb 63 4) [] (s1 := ⟨.bot :: .bot :: Bo b19 :: bt 60 [], []⟩) ?_ ?_
      ·refine XR 2 ?_
       refine XC (s_spec_lgName hy16) cf_spec_lgName rfl rfl rfl ?_
       refine XR 1 ?_
       refine zP y16 (fun hc17 => ?_) (fun hc17 => ?_)
       ·have hb19 := zM hb19 hc17
        obtain ⟨y18, hy18, hb19⟩ := zD hb19
        have hb19 := zE hb19
        refine zB _ rfl rfl kk hc17 (zA rfl (qD (.pt 8 3) Tryz.underlying40 rfl sz9 rfl kk (by intro hh; cases hh))) ?_
        refine zB _ rfl rfl kk hc17 (zA rfl (qC (c := .v (.string c1.2.2.2.1)) (cs := [Ti c1.2.2.2.2.1, Ti c1.2.2.2.2.2.1, Ti c1.2.2.2.2.2.2]) sc9 rfl kk)) ?_
        refine zB _ rfl rfl kk hc17 (X_of_Y1 rfl (Y1_call (s_spec_lgName hy18) cf_spec_lgName rfl kk)) ?_
        refine zJ rfl (zA rfl (Y0_pickTe (b := y16) (p := y18) rfl kk hc17 kk hb19)) ?_
        exact XE
       ·have hb19 := zE (zK hb19 hc17)
        refine zF _ rfl rfl kk hc17 rfl ?_
        refine zF _ rfl rfl kk hc17 rfl ?_
        refine zF _ rfl rfl kk hc17 rfl ?_
        refine zJ rfl (zA rfl (Y0_pickFe (b := y16) (p := false) rfl kk hc17 kk hb19)) ?_
        exact XE
      refine zR ?_
      obtain rfl := zE h
      show Post _ _ _ _ _
      exact ⟨.inr rfl, rfl, rfl, rfl⟩
     ·have h := zK h hc15
      refine V_e (mb 63 35184372088834) [8] (s1 := ⟨.bot :: .pt 8 0 :: bt 43 (Bo (eqI c1.1 4) :: bt 17 []), [(8, .box [Ti c1.1, .v (.string c1.2.1), .v (.string c1.2.2.1), .v (.string c1.2.2.2.1), Ti c1.2.2.2.2.1, Ti c1.2.2.2.2.2.1, Ti c1.2.2.2.2.2.2])]⟩) ?_
      refine zQ rfl (fun hc20 => ?_) (fun hc20 => ?_)
      ·have h := zM h hc20
       obtain ⟨y21, hy21, h⟩ := zD h
       obtain ⟨t23, ht23, h⟩ := zD h
       have ht23 := zE ht23
       refine zG (mb 63 4) [] (s1 := ⟨.bot :: .bot :: Bo t23 :: bt 60 [], []⟩) ?_ ?_
       ·refine XR 2 ?_
        refine XC (s_spec_lgName hy21) cf_spec_lgName rfl rfl rfl ?_
        refine XR 1 ?_
        refine zP y21 (fun hc22 => ?_) (fun hc22 => ?_)
        ·refine zB _ rfl rfl kk hc22 (zA rfl (qD (.pt 8 3) Tryz.underlying40 rfl sz9 rfl kk (by intro hh; cases hh))) ?_
         refine zB _ rfl rfl kk hc22 (zA rfl (qC (c := .v (.string c1.2.2.2.1)) (cs := [Ti c1.2.2.2.2.1, Ti c1.2.2.2.2.2.1, Ti c1.2.2.2.2.2.2]) sc9 rfl kk)) ?_
         refine zB _ rfl rfl kk hc22 (zA rfl (Y0_eqs (a := c1.2.2.2.1) (b := ((⟨#[]⟩ : ByteArray))) rfl kk kk)) ?_
         refine zJ rfl (zA rfl (zW (b := y21) (p := c1.2.2.2.1.toList == ((⟨#[]⟩ : ByteArray)).toList) (q := false) rfl kk hc22 kk)) ?_
         refine XR 1 ?_
         refine zN ?_
         subst ht23
         kernel_rfl
        ·refine zF _ rfl rfl kk hc22 rfl ?_
         refine zF _ rfl rfl kk hc22 rfl ?_
         refine zF _ rfl rfl kk hc22 rfl ?_
         refine zJ rfl (zA rfl (zT (b := y21) (p := c1.2.2.2.1.toList == ((⟨#[]⟩ : ByteArray)).toList) (q := false) rfl kk hc22 kk)) ?_
         refine XR 1 ?_
         refine zN ?_
         subst ht23
         kernel_rfl
       refine zR ?_
       obtain rfl := zE h
       show Post _ _ _ _ _
       exact ⟨.inr rfl, rfl, rfl, rfl⟩
      ·have h := zK h hc20
       refine zV ?_
       show V _ _ _ _
       obtain ⟨t25, ht25, h⟩ := zD h
       have ht25 := zE ht25
       refine zG (mb 63 4) [] (s1 := ⟨.bot :: .bot :: Bo t25 :: bt 60 [], []⟩) ?_ ?_
       ·refine XR 2 ?_
        refine L0 rfl rfl (Y0_eqs (a := c1.2.2.1) (b := ((⟨#[]⟩ : ByteArray))) rfl kk kk) ?_
        refine XR 1 ?_
        refine zP (c1.2.2.1.toList == ((⟨#[]⟩ : ByteArray)).toList) (fun hc24 => ?_) (fun hc24 => ?_)
        ·refine zB _ rfl rfl kk hc24 (zA rfl (qD (.pt 8 3) Tryz.underlying40 rfl sz9 rfl kk (by intro hh; cases hh))) ?_
         refine zB _ rfl rfl kk hc24 (zA rfl (qC (c := .v (.string c1.2.2.2.1)) (cs := [Ti c1.2.2.2.2.1, Ti c1.2.2.2.2.2.1, Ti c1.2.2.2.2.2.2]) sc9 rfl kk)) ?_
         refine zB _ rfl rfl kk hc24 (zA rfl (Y0_eqs (a := c1.2.2.2.1) (b := ((⟨#[]⟩ : ByteArray))) rfl kk kk)) ?_
         refine zJ rfl (zA rfl (zW (b := c1.2.2.1.toList == ((⟨#[]⟩ : ByteArray)).toList) (p := c1.2.2.2.1.toList == ((⟨#[]⟩ : ByteArray)).toList) (q := false) rfl kk hc24 kk)) ?_
         refine XR 1 ?_
         refine zN ?_
         subst ht25
         kernel_rfl
        ·refine zF _ rfl rfl kk hc24 rfl ?_
         refine zF _ rfl rfl kk hc24 rfl ?_
         refine zF _ rfl rfl kk hc24 rfl ?_
         refine zJ rfl (zA rfl (zT (b := c1.2.2.1.toList == ((⟨#[]⟩ : ByteArray)).toList) (p := c1.2.2.2.1.toList == ((⟨#[]⟩ : ByteArray)).toList) (q := false) rfl kk hc24 kk)) ?_
         refine XR 1 ?_
         refine zN ?_
         subst ht25
         kernel_rfl
       refine zR ?_
       obtain rfl := zE h
       show Post _ _ _ _ _
       exact ⟨.inr rfl, rfl, rfl, rfl⟩
theorem cf_spec_l1Num : ∀ args w, (callFunc 102 args).run Tryz.prog w = .ok (.enter 102 args) w := zI Tryz.func102 kk kk
theorem s_spec_l1Num_rec : ∀ (n : Nat) {vn1 : Int} {r : ByteArray}, r_spec_l1Num n vn1 = some r → z7 Tryz.prog 102 [I vn1] (.c (.v (.string r))) [] := by
  intro n
  induction n with
  | zero => intro vn1 r h; cases h
  | succ n ih =>
   intro vn1 r h
   refine zH (rs := [.t 2]) (vs := [.tmp 2]) Tryz.func102 rfl rfl (.cons rfl FitsL.nil) (by decide) 20 rfl ?_
   rw [r_spec_l1Num] at h
   show V _ _ ⟨I vn1 :: bt 19 [], []⟩ _
   refine V_e (mb 20 1) [] (s1 := ⟨I vn1 :: bt 19 [], []⟩) ?_
   refine zX ?_
   refine V_e (mb 20 17) [] (s1 := ⟨I vn1 :: bt 3 (Bo (ltI vn1 10) :: bt 15 []), []⟩) ?_
   refine zQ rfl (fun hc2 => ?_) (fun hc2 => ?_)
   ·have h := zM h hc2
    refine zG (mb 20 4) [] (s1 := ⟨.bot :: .bot :: .c (.v (.string (bytesI ([IntKind.u8.wrap (w64 (48 + vn1))])))) :: bt 17 [], []⟩) ?_ ?_
    ·refine XR 2 ?_
     refine L0 rfl rfl (Y0_conv (k2 := .i64) (a := w64 (48 + vn1)) Tryz.underlying3 Tryz.underlying5 rfl kk) ?_
     refine L1 rfl rfl (Y1_bslice (z := zv5) (els := [IntKind.u8.wrap (w64 (48 + vn1))].map c5) Tryz.underlying48 iz5 rfl (by decide) rfl kk rfl (by simp [c5]) (by decide) (by decide)) ?_
     refine L0 rfl rfl (Y0_b2s (c := c5) (fun _ => rfl) ([IntKind.u8.wrap (w64 (48 + vn1))]) Tryz.underlying48 Tryz.underlying5 Tryz.underlying9 rfl kk) ?_
     exact XE
    refine zR ?_
    obtain rfl := zE h
    show Post _ _ _ _ _
    exact ⟨.inr rfl, rfl, rfl, rfl⟩
   ·have h := zK h hc2
    refine zV ?_
    show V _ _ _ _
    obtain ⟨y3, hy3, h⟩ := zD h
    obtain ⟨u4, hu4, h⟩ := zD h
    refine V_sdreg [0, 1, 3, 0, 8, 24, 56, 120, 248, 511, 1023] 11 (cdm 11 [174720, 174721, 174725, 42, 106, 362, 1386, 5482, 21866, 87381, 349525]) (mb 20 4) [] (s1 := ⟨.bot :: .bot :: .c (.v (.string (y3 ++ (bytesI ([IntKind.u8.wrap (w64 (48 + (Int.tmod vn1 10)))]))))) :: bt 17 [], []⟩) kk kk ?_ ?_
    ·refine DR 1 ?_
     refine DE_0 1 (I (w64 (Int.tdiv vn1 10))) kk rfl rfl rfl (zO rfl) kk (Y0_quo64 (a := vn1) (b := 10) rfl kk kk (by decide)) 11 rfl ?_
     refine DC 2 (ih hy3) cf_spec_l1Num rfl rfl rfl rfl 12 rfl ?_
     refine DR 1 ?_
     refine DE_0 4 (I (Int.tmod vn1 10)) kk rfl rfl rfl (zO rfl) kk (Y0_rem (k := .i64) (a := vn1) (b := 10) rfl kk kk (by decide)) 14 rfl ?_
     refine DR 1 ?_
     refine DE_0 6 (.c (.v (.int .u8 (IntKind.u8.wrap (w64 (48 + (Int.tmod vn1 10))))))) kk rfl rfl rfl (zO rfl) kk (Y0_conv (k2 := .i64) (a := w64 (48 + (Int.tmod vn1 10))) Tryz.underlying3 Tryz.underlying5 rfl kk) 16 rfl ?_
     refine DE_1 7 kk rfl rfl rfl (zO rfl) (Y1_bslice (z := zv5) (els := [IntKind.u8.wrap (w64 (48 + (Int.tmod vn1 10)))].map c5) Tryz.underlying48 iz5 rfl (by decide) rfl kk rfl (by simp [c5]) (by decide) (by decide)) rfl rfl rfl 17 rfl ?_
     refine DE_0 8 (.c (.v (.string (bytesI ([IntKind.u8.wrap (w64 (48 + (Int.tmod vn1 10)))]))))) kk rfl rfl rfl (zO rfl) kk (Y0_b2s (c := c5) (fun _ => rfl) ([IntKind.u8.wrap (w64 (48 + (Int.tmod vn1 10)))]) Tryz.underlying48 Tryz.underlying5 Tryz.underlying9 rfl kk) 18 rfl ?_
     refine DE_0 9 (.c (.v (.string (y3 ++ (bytesI ([IntKind.u8.wrap (w64 (48 + (Int.tmod vn1 10)))])))))) kk rfl rfl rfl (zO rfl) kk (Y0_cat (a := y3) (b := bytesI ([IntKind.u8.wrap (w64 (48 + (Int.tmod vn1 10)))])) rfl kk kk (catR_some hu4)) 19 rfl ?_
     refine DA 1 ?_
     exact XE
    refine zR ?_
    obtain rfl := zE h
    show Post _ _ _ _ _
    exact ⟨.inr rfl, rfl, rfl, rfl⟩
theorem s_spec_l1Num {vn1 : Int} {r : ByteArray} (h : r_spec_l1Num FU vn1 = some r) : z7 Tryz.prog 102 [I vn1] (.c (.v (.string r))) [] := s_spec_l1Num_rec FU h
theorem cf_spec_l1Int : ∀ args w, (callFunc 136 args).run Tryz.prog w = .ok (.enter 136 args) w := zI Tryz.func136 kk kk
theorem s_spec_l1Int {vn1 : Int} {r : ByteArray} (h : r_spec_l1Int vn1 = some r) : z7 Tryz.prog 136 [I vn1] (.c (.v (.string r))) [] := by
  refine zH (rs := [.t 2]) (vs := [.tmp 2]) Tryz.func136 rfl rfl (.cons rfl FitsL.nil) (by decide) 11 rfl ?_
  unfold r_spec_l1Int at h
  show V _ _ ⟨I vn1 :: bt 10 [], []⟩ _
  refine V_e (mb 11 1) [] (s1 := ⟨I vn1 :: bt 10 [], []⟩) ?_
  refine zX ?_
  refine V_e (mb 11 17) [] (s1 := ⟨I vn1 :: bt 3 (Bo (ltI vn1 0) :: bt 6 []), []⟩) ?_
  refine zQ rfl (fun hc2 => ?_) (fun hc2 => ?_)
  ·have h := zM h hc2
   obtain ⟨y3, hy3, h⟩ := zD h
   obtain ⟨u4, hu4, h⟩ := zD h
   refine zG (mb 11 4) [] (s1 := ⟨.bot :: .bot :: .c (.v (.string (((⟨#[45]⟩ : ByteArray)) ++ y3))) :: bt 8 [], []⟩) ?_ ?_
   ·refine XR 2 ?_
    refine XC (s_spec_l1Num hy3) cf_spec_l1Num rfl rfl rfl ?_
    refine L0 rfl rfl (Y0_cat (a := (⟨#[45]⟩ : ByteArray)) (b := y3) rfl kk kk (catR_some hu4)) ?_
    exact XE
   refine zR ?_
   obtain rfl := zE h
   show Post _ _ _ _ _
   exact ⟨.inr rfl, rfl, rfl, rfl⟩
  ·have h := zK h hc2
   refine zV ?_
   show V _ _ _ _
   obtain ⟨y5, hy5, h⟩ := zD h
   refine zG (mb 11 4) [] (s1 := ⟨.bot :: .bot :: .c (.v (.string y5)) :: bt 8 [], []⟩) ?_ ?_
   ·refine XR 1 ?_
    refine XC (s_spec_l1Num hy5) cf_spec_l1Num rfl rfl rfl ?_
    exact XE
   refine zR ?_
   obtain rfl := zE h
   show Post _ _ _ _ _
   exact ⟨.inr rfl, rfl, rfl, rfl⟩
theorem cf_spec_foText : ∀ args w, (callFunc 139 args).run Tryz.prog w = .ok (.enter 139 args) w := zI Tryz.func139 kk kk
theorem s_spec_foText {f1 : (Int × Int × Int)} {r : ByteArray} (h : r_spec_foText f1 = some r) : z7 Tryz.prog 139 [.ag [Ti f1.1, Ti f1.2.1, Ti f1.2.2]] (.c (.v (.string r))) [] := by
  refine zH (rs := [.t 2]) (vs := [.tmp 2]) Tryz.func139 rfl rfl (.cons rfl FitsL.nil) (by decide) 18 rfl ?_
  unfold r_spec_foText at h
  show V _ _ ⟨.ag [Ti f1.1, Ti f1.2.1, Ti f1.2.2] :: bt 17 [], []⟩ _
  refine V_e (mb 18 2) [8] (s1 := ⟨.bot :: .pt 8 0 :: bt 16 [], [(8, .box [Ti f1.1, Ti f1.2.1, Ti f1.2.2])]⟩) ?_
  obtain ⟨y2, hy2, h⟩ := zD h
  obtain ⟨u3, hu3, h⟩ := zD h
  obtain ⟨u4, hu4, h⟩ := zD h
  obtain ⟨y5, hy5, h⟩ := zD h
  obtain ⟨u6, hu6, h⟩ := zD h
  obtain ⟨u7, hu7, h⟩ := zD h
  obtain ⟨y8, hy8, h⟩ := zD h
  obtain ⟨u9, hu9, h⟩ := zD h
  obtain ⟨u10, hu10, h⟩ := zD h
  refine V_sdreg [0, 1, 3, 7, 15, 0, 32, 103, 255, 511, 0, 1024, 3303, 8191, 16383, 32767] 16 (cdm 16 [10496000, 10496001, 10496005, 44083221, 44083285, 10486442, 10487466, 10491541, 44062037, 44127573, 699050, 1747626, 5920405, 22369621, 89478485, 357913941]) (mb 18 4) [] (s1 := ⟨.bot :: .bot :: .c (.v (.string ((((((((⟨#[40]⟩ : ByteArray)) ++ y2) ++ ((⟨#[44]⟩ : ByteArray))) ++ y5) ++ ((⟨#[44]⟩ : ByteArray))) ++ y8) ++ ((⟨#[41]⟩ : ByteArray))))) :: bt 15 [], []⟩) kk kk ?_ ?_
  ·refine DR 2 ?_
   refine DC 2 (s_spec_l1Int hy2) cf_spec_l1Int rfl rfl rfl rfl 5 rfl ?_
   refine DE_0 3 (.c (.v (.string (((⟨#[40]⟩ : ByteArray)) ++ y2)))) kk rfl rfl rfl (zO rfl) kk (Y0_cat (a := (⟨#[40]⟩ : ByteArray)) (b := y2) rfl kk kk (catR_some hu3)) 6 rfl ?_
   refine DE_0 4 (.c (.v (.string ((((⟨#[40]⟩ : ByteArray)) ++ y2) ++ ((⟨#[44]⟩ : ByteArray)))))) kk rfl rfl rfl (zO rfl) kk (Y0_cat (a := ((⟨#[40]⟩ : ByteArray)) ++ y2) (b := (⟨#[44]⟩ : ByteArray)) rfl kk kk (catR_some hu4)) 7 rfl ?_
   refine DR 2 ?_
   refine DC 7 (s_spec_l1Int hy5) cf_spec_l1Int rfl rfl rfl rfl 10 rfl ?_
   refine DE_0 8 (.c (.v (.string (((((⟨#[40]⟩ : ByteArray)) ++ y2) ++ ((⟨#[44]⟩ : ByteArray))) ++ y5)))) kk rfl rfl rfl (zO rfl) kk (Y0_cat (a := (((⟨#[40]⟩ : ByteArray)) ++ y2) ++ ((⟨#[44]⟩ : ByteArray))) (b := y5) rfl kk kk (catR_some hu6)) 11 rfl ?_
   refine DE_0 9 (.c (.v (.string ((((((⟨#[40]⟩ : ByteArray)) ++ y2) ++ ((⟨#[44]⟩ : ByteArray))) ++ y5) ++ ((⟨#[44]⟩ : ByteArray)))))) kk rfl rfl rfl (zO rfl) kk (Y0_cat (a := ((((⟨#[40]⟩ : ByteArray)) ++ y2) ++ ((⟨#[44]⟩ : ByteArray))) ++ y5) (b := (⟨#[44]⟩ : ByteArray)) rfl kk kk (catR_some hu7)) 12 rfl ?_
   refine DR 2 ?_
   refine DC 12 (s_spec_l1Int hy8) cf_spec_l1Int rfl rfl rfl rfl 15 rfl ?_
   refine DE_0 13 (.c (.v (.string (((((((⟨#[40]⟩ : ByteArray)) ++ y2) ++ ((⟨#[44]⟩ : ByteArray))) ++ y5) ++ ((⟨#[44]⟩ : ByteArray))) ++ y8)))) kk rfl rfl rfl (zO rfl) kk (Y0_cat (a := (((((⟨#[40]⟩ : ByteArray)) ++ y2) ++ ((⟨#[44]⟩ : ByteArray))) ++ y5) ++ ((⟨#[44]⟩ : ByteArray))) (b := y8) rfl kk kk (catR_some hu9)) 16 rfl ?_
   refine DE_0 14 (.c (.v (.string ((((((((⟨#[40]⟩ : ByteArray)) ++ y2) ++ ((⟨#[44]⟩ : ByteArray))) ++ y5) ++ ((⟨#[44]⟩ : ByteArray))) ++ y8) ++ ((⟨#[41]⟩ : ByteArray)))))) kk rfl rfl rfl (zO rfl) kk (Y0_cat (a := ((((((⟨#[40]⟩ : ByteArray)) ++ y2) ++ ((⟨#[44]⟩ : ByteArray))) ++ y5) ++ ((⟨#[44]⟩ : ByteArray))) ++ y8) (b := (⟨#[41]⟩ : ByteArray)) rfl kk kk (catR_some hu10)) 17 rfl ?_
   refine DA 1 ?_
   exact XE
  refine zR ?_
  obtain rfl := zE h
  show Post _ _ _ _ _
  exact ⟨.inr rfl, rfl, rfl, rfl⟩
theorem cf_spec_lgText : ∀ args w, (callFunc 90 args).run Tryz.prog w = .ok (.enter 90 args) w := zI Tryz.func90 kk kk
theorem s_spec_lgText {c1 : (Int × ByteArray × ByteArray × ByteArray × ((Int × Int × Int)))} {r : ByteArray} (h : r_spec_lgText c1 = some r) : z7 Tryz.prog 90 [.ag [Ti c1.1, .v (.string c1.2.1), .v (.string c1.2.2.1), .v (.string c1.2.2.2.1), Ti c1.2.2.2.2.1, Ti c1.2.2.2.2.2.1, Ti c1.2.2.2.2.2.2]] (.c (.v (.string r))) [] := by
  refine zH (rs := [.t 2]) (vs := [.tmp 2]) Tryz.func90 rfl rfl (.cons rfl FitsL.nil) (by decide) 39 rfl ?_
  unfold r_spec_lgText at h
  show V _ _ ⟨.ag [Ti c1.1, .v (.string c1.2.1), .v (.string c1.2.2.1), .v (.string c1.2.2.2.1), Ti c1.2.2.2.2.1, Ti c1.2.2.2.2.2.1, Ti c1.2.2.2.2.2.2] :: bt 38 [], []⟩ _
  refine V_e (mb 39 2) [8] (s1 := ⟨.bot :: .pt 8 0 :: bt 37 [], [(8, .box [Ti c1.1, .v (.string c1.2.1), .v (.string c1.2.2.1), .v (.string c1.2.2.2.1), Ti c1.2.2.2.2.1, Ti c1.2.2.2.2.2.1, Ti c1.2.2.2.2.2.2])]⟩) ?_
  obtain ⟨y2, hy2, h⟩ := zD h
  obtain ⟨e3, he3, h⟩ := zD h
  obtain ⟨e4, he4, h⟩ := zD h
  obtain ⟨u5, hu5, h⟩ := zD h
  obtain ⟨u6, hu6, h⟩ := zD h
  refine V_sdreg [0, 0, 2, 7, 15, 31, 0, 64, 255, 511] 10 (cdm 10 [41000, 40962, 40966, 40981, 41045, 41301, 2730, 6826, 21845, 87381]) (mb 39 10) [8] (s1 := ⟨.bot :: .pt 8 0 :: .bot :: .c (.v (.string ((e4 ++ ((⟨#[32]⟩ : ByteArray))) ++ c1.2.1))) :: bt 35 [], [(8, .box [Ti c1.1, .v (.string c1.2.1), .v (.string c1.2.2.1), .v (.string c1.2.2.2.1), Ti c1.2.2.2.2.1, Ti c1.2.2.2.2.2.1, Ti c1.2.2.2.2.2.2])]⟩) kk kk ?_ ?_
  ·refine DC 0 (s_spec_lgWords hy2) cf_spec_lgWords rfl rfl rfl rfl 4 rfl ?_
   refine DR 2 ?_
   refine DE_0 3 (.po 32 1 (Int.toNat (c1.1)) 0) kk rfl rfl rfl (zO rfl) kk (Y0_idxoM (c := c9) (xs := y2) (v := e3) (id := 32) (T := 9) (sz := 1) (n := c1.1) Tryz.underlying66 sz9 rfl kk kk kk he3) 7 rfl ?_
   refine DE_0 4 (.c (.v (.string e4))) kk rfl rfl rfl (zO rfl) kk (Y0_loado1 (c := c9) (xs := y2) (v := e4) (id := 32) (sz := 1) (T := 9) (off := 0) (n := c1.1) (d := .v (.string e4)) (ds := []) sc9 rfl kk kk he4 kk) 8 rfl ?_
   refine DE_0 5 (.c (.v (.string (e4 ++ ((⟨#[32]⟩ : ByteArray)))))) kk rfl rfl rfl (zO rfl) kk (Y0_cat (a := e4) (b := (⟨#[32]⟩ : ByteArray)) rfl kk kk (catR_some hu5)) 9 rfl ?_
   refine DR 2 ?_
   refine DE_0 8 (.c (.v (.string ((e4 ++ ((⟨#[32]⟩ : ByteArray))) ++ c1.2.1)))) kk rfl rfl rfl (zO rfl) kk (Y0_cat (a := e4 ++ ((⟨#[32]⟩ : ByteArray))) (b := c1.2.1) rfl kk kk (catR_some hu6)) 12 rfl ?_
   refine DA 1 ?_
   exact XE
  obtain ⟨j7, hj7, h⟩ := zD h
  refine V_cutK (mb 39 10) [8] (s1 := ⟨.bot :: .pt 8 0 :: .bot :: .c (.v (.string j7)) :: bt 35 [], [(8, .box [Ti c1.1, .v (.string c1.2.1), .v (.string c1.2.2.1), .v (.string c1.2.2.2.1), Ti c1.2.2.2.2.1, Ti c1.2.2.2.2.2.1, Ti c1.2.2.2.2.2.2])]⟩) ?_ ?_
  ·clear h
   have h := hj7
   clear hj7
   refine zG (mb 39 32778) [8] (s1 := ⟨.bot :: .pt 8 0 :: .bot :: .c (.v (.string ((e4 ++ ((⟨#[32]⟩ : ByteArray))) ++ c1.2.1))) :: bt 11 (Bo (!(c1.2.2.1.toList == ((⟨#[]⟩ : ByteArray)).toList)) :: bt 23 []), [(8, .box [Ti c1.1, .v (.string c1.2.1), .v (.string c1.2.2.1), .v (.string c1.2.2.2.1), Ti c1.2.2.2.2.1, Ti c1.2.2.2.2.2.1, Ti c1.2.2.2.2.2.2])]⟩) ?_ ?_
   ·refine XR 2 ?_
    refine L0 rfl rfl (Y0_nes (a := c1.2.2.1) (b := ((⟨#[]⟩ : ByteArray))) rfl kk kk) ?_
    exact XE
   refine zQ rfl (fun hc8 => ?_) (fun hc8 => ?_)
   ·have h := zM h hc8
    obtain ⟨u9, hu9, h⟩ := zD h
    obtain ⟨u10, hu10, h⟩ := zD h
    refine V_reg (mb 39 10) [8] (s1 := ⟨.bot :: .pt 8 0 :: .bot :: .c (.v (.string (((e4 ++ ((⟨#[32]⟩ : ByteArray))) ++ c1.2.1) ++ (((⟨#[32]⟩ : ByteArray)) ++ c1.2.2.1)))) :: bt 35 [], [(8, .box [Ti c1.1, .v (.string c1.2.1), .v (.string c1.2.2.1), .v (.string c1.2.2.2.1), Ti c1.2.2.2.2.1, Ti c1.2.2.2.2.2.1, Ti c1.2.2.2.2.2.2])]⟩) ?_ ?_
    ·refine XR 3 ?_
     refine L0 rfl rfl (Y0_cat (a := (⟨#[32]⟩ : ByteArray)) (b := c1.2.2.1) rfl kk kk (catR_some hu9)) ?_
     refine L0 rfl rfl (Y0_cat (a := (e4 ++ ((⟨#[32]⟩ : ByteArray))) ++ c1.2.1) (b := ((⟨#[32]⟩ : ByteArray)) ++ c1.2.2.1) rfl kk kk (catR_some hu10)) ?_
     exact XE
    obtain rfl := zE h
    show St.keep _ _ _ = _
    rfl
   ·have h := zK h hc8
    refine zV ?_
    obtain rfl := zE h
    show St.keep _ _ _ = _
    rfl
  obtain ⟨j11, hj11, h⟩ := zD h
  refine V_cutK (mb 39 10) [8] (s1 := ⟨.bot :: .pt 8 0 :: .bot :: .c (.v (.string j11)) :: bt 35 [], [(8, .box [Ti c1.1, .v (.string c1.2.1), .v (.string c1.2.2.1), .v (.string c1.2.2.2.1), Ti c1.2.2.2.2.1, Ti c1.2.2.2.2.2.1, Ti c1.2.2.2.2.2.2])]⟩) ?_ ?_
  ·clear h
   have h := hj11
   clear hj11
   refine zG (mb 39 8388618) [8] (s1 := ⟨.bot :: .pt 8 0 :: .bot :: .c (.v (.string j7)) :: bt 19 (Bo (!(c1.2.2.2.1.toList == ((⟨#[]⟩ : ByteArray)).toList)) :: bt 15 []), [(8, .box [Ti c1.1, .v (.string c1.2.1), .v (.string c1.2.2.1), .v (.string c1.2.2.2.1), Ti c1.2.2.2.2.1, Ti c1.2.2.2.2.2.1, Ti c1.2.2.2.2.2.2])]⟩) ?_ ?_
   ·refine XR 2 ?_
    refine L0 rfl rfl (Y0_nes (a := c1.2.2.2.1) (b := ((⟨#[]⟩ : ByteArray))) rfl kk kk) ?_
    exact XE
   refine zQ rfl (fun hc12 => ?_) (fun hc12 => ?_)
   ·have h := zM h hc12
    obtain ⟨u13, hu13, h⟩ := zD h
    obtain ⟨u14, hu14, h⟩ := zD h
    refine V_reg (mb 39 10) [8] (s1 := ⟨.bot :: .pt 8 0 :: .bot :: .c (.v (.string (j7 ++ (((⟨#[32]⟩ : ByteArray)) ++ c1.2.2.2.1)))) :: bt 35 [], [(8, .box [Ti c1.1, .v (.string c1.2.1), .v (.string c1.2.2.1), .v (.string c1.2.2.2.1), Ti c1.2.2.2.2.1, Ti c1.2.2.2.2.2.1, Ti c1.2.2.2.2.2.2])]⟩) ?_ ?_
    ·refine XR 3 ?_
     refine L0 rfl rfl (Y0_cat (a := (⟨#[32]⟩ : ByteArray)) (b := c1.2.2.2.1) rfl kk kk (catR_some hu13)) ?_
     refine L0 rfl rfl (Y0_cat (a := j7) (b := ((⟨#[32]⟩ : ByteArray)) ++ c1.2.2.2.1) rfl kk kk (catR_some hu14)) ?_
     exact XE
    obtain rfl := zE h
    show St.keep _ _ _ = _
    rfl
   ·have h := zK h hc12
    refine zV ?_
    obtain rfl := zE h
    show St.keep _ _ _ = _
    rfl
  refine zX ?_
  obtain ⟨y15, hy15, h⟩ := zD h
  refine zG (mb 39 2147483658) [8] (s1 := ⟨.bot :: .pt 8 0 :: .bot :: .c (.v (.string j11)) :: bt 27 (Bo y15 :: bt 7 []), [(8, .box [Ti c1.1, .v (.string c1.2.1), .v (.string c1.2.2.1), .v (.string c1.2.2.2.1), Ti c1.2.2.2.2.1, Ti c1.2.2.2.2.2.1, Ti c1.2.2.2.2.2.2])]⟩) ?_ ?_
  ·refine XR 2 ?_
   refine XC (s_spec_lgHasForm hy15) cf_spec_lgHasForm rfl rfl rfl ?_
   exact XE
  refine zQ rfl (fun hc16 => ?_) (fun hc16 => ?_)
  ·have h := zM h hc16
   obtain ⟨y17, hy17, h⟩ := zD h
   obtain ⟨u18, hu18, h⟩ := zD h
   obtain ⟨u19, hu19, h⟩ := zD h
   refine V_reg (mb 39 8) [] (s1 := ⟨bt 3 (.c (.v (.string (j11 ++ (((⟨#[32]⟩ : ByteArray)) ++ y17)))) :: bt 35 []), []⟩) ?_ ?_
   ·refine XR 3 ?_
    refine XC (s_spec_foText hy17) cf_spec_foText rfl rfl rfl ?_
    refine L0 rfl rfl (Y0_cat (a := (⟨#[32]⟩ : ByteArray)) (b := y17) rfl kk kk (catR_some hu18)) ?_
    refine L0 rfl rfl (Y0_cat (a := j11) (b := ((⟨#[32]⟩ : ByteArray)) ++ y17) rfl kk kk (catR_some hu19)) ?_
    exact XE
   show V _ _ _ _
   refine V_e (mb 39 4) [] (s1 := ⟨.bot :: .bot :: .c (.v (.string (j11 ++ (((⟨#[32]⟩ : ByteArray)) ++ y17)))) :: bt 36 [], []⟩) ?_
   refine zR ?_
   obtain rfl := zE h
   show Post _ _ _ _ _
   exact ⟨.inr rfl, rfl, rfl, rfl⟩
  ·have h := zK h hc16
   refine zV ?_
   show V _ _ _ _
   refine V_e (mb 39 4) [] (s1 := ⟨.bot :: .bot :: .c (.v (.string j11)) :: bt 36 [], []⟩) ?_
   refine zR ?_
   obtain rfl := zE h
   show Post _ _ _ _ _
   exact ⟨.inr rfl, rfl, rfl, rfl⟩
theorem cf_spec_lgRead : ∀ args w, (callFunc 88 args).run Tryz.prog w = .ok (.enter 88 args) w := zI Tryz.func88 kk kk
theorem s_spec_lgRead {vs1 : ByteArray} {r : (((Int × ByteArray × ByteArray × ByteArray × ((Int × Int × Int)))) × Bool)} (h : r_spec_lgRead vs1 = some r) : z7 Tryz.prog 88 [.c (.v (.string vs1))] (.tc (.ag [Ti r.1.1, .v (.string r.1.2.1), .v (.string r.1.2.2.1), .v (.string r.1.2.2.2.1), Ti r.1.2.2.2.2.1, Ti r.1.2.2.2.2.2.1, Ti r.1.2.2.2.2.2.2]) (.tc (Bo r.2) .tn)) [] := by
  refine zH (rs := [.w 2 7, .t 3]) (vs := [.cell 2 40, .tmp 3]) Tryz.func88 rfl rfl (.cons ⟨rfl, wd40⟩ (.cons rfl FitsL.nil)) (by decide) 84 rfl ?_
  unfold r_spec_lgRead at h
  show V _ _ ⟨.c (.v (.string vs1)) :: bt 83 [], []⟩ _
  refine V_e (mb 84 5) [16] (s1 := ⟨.c (.v (.string vs1)) :: .bot :: .pt 16 0 :: bt 81 [], [(16, .box [Ti 0, .v (.string ByteArray.empty), .v (.string ByteArray.empty), .v (.string ByteArray.empty), Ti 0, Ti 0, Ti 0])]⟩) ?_
  obtain ⟨y2, hy2, h⟩ := zD h
  refine zG (mb 84 21) [88, 16] (s1 := ⟨.c (.v (.string vs1)) :: .bot :: .pt 16 0 :: .bot :: .ow 88 :: bt 79 [], [(88, .arr 9 1 (y2.map c9)), (16, .box [Ti 0, .v (.string ByteArray.empty), .v (.string ByteArray.empty), .v (.string ByteArray.empty), Ti 0, Ti 0, Ti 0])]⟩) ?_ ?_
  ·refine XR 1 ?_
   refine XC (s_spec_l1Split hy2) cf_spec_l1Split rfl rfl rfl ?_
   exact XE
  refine zX ?_
  obtain ⟨y3, hy3, h⟩ := zD h
  refine zG (mb 84 32789) [88, 16] (s1 := ⟨.c (.v (.string vs1)) :: .bot :: .pt 16 0 :: .bot :: .ow 88 :: bt 10 (Bo (!y3) :: bt 68 []), [(88, .arr 9 1 (y2.map c9)), (16, .box [Ti 0, .v (.string ByteArray.empty), .v (.string ByteArray.empty), .v (.string ByteArray.empty), Ti 0, Ti 0, Ti 0])]⟩) ?_ ?_
  ·refine XR 1 ?_
   refine L0 rfl rfl (Y0_lenM (c := c9) (xs := y2) Tryz.underlying66 rfl kk) ?_
   refine XC (s_spec_l1In hy3) cf_spec_l1In rfl rfl rfl ?_
   exact XE
  refine zQ rfl (fun hc4 => ?_) (fun hc4 => ?_)
  ·have h := zM h hc4
   refine zG (mb 84 12) [16] (s1 := ⟨.bot :: .bot :: .pt 16 0 :: Bo false :: bt 80 [], [(16, .box [Ti 0, .v (.string ByteArray.empty), .v (.string ByteArray.empty), .v (.string ByteArray.empty), Ti 0, Ti 0, Ti 0])]⟩) ?_ ?_
   ·refine L0 rfl rfl (qE (cs := [Ti 0, .v (.string ByteArray.empty), .v (.string ByteArray.empty), .v (.string ByteArray.empty), Ti 0, Ti 0, Ti 0]) pl40 bt40 rfl rfl kk) ?_
    exact XE
   refine zR ?_
   obtain rfl := zE h
   show Post _ _ _ _ _
   exact ⟨.inr rfl, rfl, rfl, rfl⟩
  ·have h := zK h hc4
   refine zV ?_
   show V _ _ _ _
   obtain ⟨e5, he5, h⟩ := zD h
   obtain ⟨e6, he6, h⟩ := zD h
   refine zG (mb 84 53) [40, 88, 16] (s1 := ⟨.c (.v (.string vs1)) :: .bot :: .pt 16 0 :: .bot :: .ow 88 :: .pt 40 0 :: bt 78 [], [(40, .box [Ti 0, .v (.string e6), .v (.string ByteArray.empty), .v (.string ByteArray.empty), Ti 0, Ti 0, Ti 0]), (88, .arr 9 1 (y2.map c9)), (16, .box [Ti 0, .v (.string ByteArray.empty), .v (.string ByteArray.empty), .v (.string ByteArray.empty), Ti 0, Ti 0, Ti 0])]⟩) ?_ ?_
   ·refine XR 1 ?_
    refine L0 rfl rfl (Y0_idxoM (c := c9) (xs := y2) (v := e5) (id := 88) (T := 9) (sz := 1) (n := 1) Tryz.underlying66 sz9 rfl kk kk kk he5) ?_
    refine L0 rfl rfl (Y0_loado1 (c := c9) (xs := y2) (v := e6) (id := 88) (sz := 1) (T := 9) (off := 0) (n := 1) (d := .v (.string e6)) (ds := []) sc9 rfl kk kk he6 kk) ?_
    refine L0 rfl rfl (qE (cs := [Ti 0, .v (.string e6), .v (.string ByteArray.empty), .v (.string ByteArray.empty), Ti 0, Ti 0, Ti 0]) pl40 bt40 rfl rfl kk) ?_
    exact XE
   refine zX ?_
   obtain ⟨y7, hy7, h⟩ := zD h
   refine zG (mb 84 14680117) [168, 40, 88, 16] (s1 := ⟨.c (.v (.string vs1)) :: .bot :: .pt 16 0 :: .bot :: .ow 88 :: .pt 40 0 :: bt 15 (.ow 168 :: I ((y7.length : Int)) :: I 0 :: bt 60 []), [(168, .arr 9 1 (y7.map c9)), (40, .box [Ti 0, .v (.string e6), .v (.string ByteArray.empty), .v (.string ByteArray.empty), Ti 0, Ti 0, Ti 0]), (88, .arr 9 1 (y2.map c9)), (16, .box [Ti 0, .v (.string ByteArray.empty), .v (.string ByteArray.empty), .v (.string ByteArray.empty), Ti 0, Ti 0, Ti 0])]⟩) ?_ ?_
   ·refine XC (s_spec_lgWords hy7) cf_spec_lgWords rfl rfl rfl ?_
    refine L0 rfl rfl (Y0_lenM (c := c9) (xs := y7) Tryz.underlying66 rfl kk) ?_
    exact XE
   obtain ⟨o11, hLo11, h⟩ := zD h
   refine V_toK (mb 84 53) [40, 88, 16] (s1 := ⟨.c (.v (.string vs1)) :: .bot :: .pt 16 0 :: .bot :: .ow 88 :: .pt 40 0 :: bt 78 [], [(40, .box [Ti o11, .v (.string e6), .v (.string ByteArray.empty), .v (.string ByteArray.empty), Ti 0, Ti 0, Ti 0]), (88, .arr 9 1 (y2.map c9)), (16, .box [Ti 0, .v (.string ByteArray.empty), .v (.string ByteArray.empty), .v (.string ByteArray.empty), Ti 0, Ti 0, Ti 0])]⟩) ?_ ?_
   ·clear h
    refine zZ (V_loop (fun n s => ∃ (t8 : Int) (f9 : Int), s.keep (mb 84 14680117) [168, 40, 88, 16] = (⟨.c (.v (.string vs1)) :: .bot :: .pt 16 0 :: .bot :: .ow 88 :: .pt 40 0 :: bt 15 (.ow 168 :: I ((y7.length : Int)) :: I t8 :: bt 60 []), [(168, .arr 9 1 (y7.map c9)), (40, .box [Ti f9, .v (.string e6), .v (.string ByteArray.empty), .v (.string ByteArray.empty), Ti 0, Ti 0, Ti 0]), (88, .arr 9 1 (y2.map c9)), (16, .box [Ti 0, .v (.string ByteArray.empty), .v (.string ByteArray.empty), .v (.string ByteArray.empty), Ti 0, Ti 0, Ti 0])]⟩ : St) ∧ r_spec_lgRead_L10 e6 vs1 y2 y7 n t8 f9 = some o11) FU ⟨_, _,  by rfl, hLo11⟩ ?_)
    clear hLo11
    rintro n s ⟨t8, f9, hs, h⟩
    refine V_keep _ _ hs ?_
    clear hs
    cases n with
    | zero => cases h
    | succ n =>
     rw [r_spec_lgRead_L10] at h
     refine V_e (mb 84 31457333) [168, 40, 88, 16] (s1 := ⟨.c (.v (.string vs1)) :: .bot :: .pt 16 0 :: .bot :: .ow 88 :: .pt 40 0 :: bt 15 (.ow 168 :: I ((y7.length : Int)) :: I t8 :: Bo (ltI t8 ((y7.length : Int))) :: bt 59 []), [(168, .arr 9 1 (y7.map c9)), (40, .box [Ti f9, .v (.string e6), .v (.string ByteArray.empty), .v (.string ByteArray.empty), Ti 0, Ti 0, Ti 0]), (88, .arr 9 1 (y2.map c9)), (16, .box [Ti 0, .v (.string ByteArray.empty), .v (.string ByteArray.empty), .v (.string ByteArray.empty), Ti 0, Ti 0, Ti 0])]⟩) ?_
     refine zX ?_
     refine zQ rfl (fun hc12 => ?_) (fun hc12 => ?_)
     ·have h := zM h hc12
      refine zV ?_
      show V _ _ _ _
      refine zX ?_
      refine zZ ?_
      obtain ⟨e13, he13, h⟩ := zD h
      obtain ⟨e14, he14, h⟩ := zD h
      refine zG (mb 84 14680309) [168, 40, 88, 16] (s1 := ⟨.c (.v (.string vs1)) :: .bot :: .pt 16 0 :: .bot :: .ow 88 :: .pt 40 0 :: I t8 :: .c (.v (.string e14)) :: bt 13 (.ow 168 :: I ((y7.length : Int)) :: I t8 :: bt 60 []), [(168, .arr 9 1 (y7.map c9)), (40, .box [Ti f9, .v (.string e6), .v (.string ByteArray.empty), .v (.string ByteArray.empty), Ti 0, Ti 0, Ti 0]), (88, .arr 9 1 (y2.map c9)), (16, .box [Ti 0, .v (.string ByteArray.empty), .v (.string ByteArray.empty), .v (.string ByteArray.empty), Ti 0, Ti 0, Ti 0])]⟩) ?_ ?_
      ·refine XR 1 ?_
       refine L0 rfl rfl (Y0_idxoM (c := c9) (xs := y7) (v := e13) (id := 168) (T := 9) (sz := 1) (n := t8) Tryz.underlying66 sz9 rfl kk kk kk he13) ?_
       refine L0 rfl rfl (Y0_loado1 (c := c9) (xs := y7) (v := e14) (id := 168) (sz := 1) (T := 9) (off := 0) (n := t8) (d := .v (.string e14)) (ds := []) sc9 rfl kk kk he14 kk) ?_
       exact XE
      obtain ⟨b18, hb18, h⟩ := zD h
      refine zG (mb 84 68734156917) [168, 40, 88, 16] (s1 := ⟨.c (.v (.string vs1)) :: .bot :: .pt 16 0 :: .bot :: .ow 88 :: .pt 40 0 :: I t8 :: bt 14 (.ow 168 :: I ((y7.length : Int)) :: I t8 :: bt 12 (Bo b18 :: bt 47 [])), [(168, .arr 9 1 (y7.map c9)), (40, .box [Ti f9, .v (.string e6), .v (.string ByteArray.empty), .v (.string ByteArray.empty), Ti 0, Ti 0, Ti 0]), (88, .arr 9 1 (y2.map c9)), (16, .box [Ti 0, .v (.string ByteArray.empty), .v (.string ByteArray.empty), .v (.string ByteArray.empty), Ti 0, Ti 0, Ti 0])]⟩) ?_ ?_
      ·refine XR 3 ?_
       refine zP (ltI 0 t8) (fun hc15 => ?_) (fun hc15 => ?_)
       ·have hb18 := zM hb18 hc15
        obtain ⟨e16, he16, hb18⟩ := zD hb18
        obtain ⟨e17, he17, hb18⟩ := zD hb18
        have hb18 := zE hb18
        refine zB _ rfl rfl kk hc15 (zA rfl (zY (.c (.v (.string e14))) rfl kk)) ?_
        refine zB _ rfl rfl kk hc15 (zA rfl (zY (.ow 88) rfl kk)) ?_
        refine zB _ rfl rfl kk hc15 (zA rfl (Y0_idxoM (c := c9) (xs := y2) (v := e16) (id := 88) (T := 9) (sz := 1) (n := 0) Tryz.underlying66 sz9 rfl kk kk kk he16)) ?_
        refine zB _ rfl rfl kk hc15 (zA rfl (Y0_loado1 (c := c9) (xs := y2) (v := e17) (id := 88) (sz := 1) (T := 9) (off := 0) (n := 0) (d := .v (.string e17)) (ds := []) sc9 rfl kk kk he17 kk)) ?_
        refine zB _ rfl rfl kk hc15 (zA rfl (Y0_eqs (a := e14) (b := e17) rfl kk kk)) ?_
        refine zJ rfl (zA rfl (Y0_pickTe (b := ltI 0 t8) (p := e14.toList == e17.toList) rfl kk hc15 kk hb18)) ?_
        exact XE
       ·have hb18 := zE (zK hb18 hc15)
        refine zF _ rfl rfl kk hc15 rfl ?_
        refine zF _ rfl rfl kk hc15 rfl ?_
        refine zF _ rfl rfl kk hc15 rfl ?_
        refine zF _ rfl rfl kk hc15 rfl ?_
        refine zF _ rfl rfl kk hc15 rfl ?_
        refine zJ rfl (zA rfl (Y0_pickFe (b := ltI 0 t8) (p := false) rfl kk hc15 kk hb18)) ?_
        exact XE
      refine zQ rfl (fun hc19 => ?_) (fun hc19 => ?_)
      ·have h := zM h hc19
       refine V_reg (mb 84 14680117) [168, 40, 88, 16] (s1 := ⟨.c (.v (.string vs1)) :: .bot :: .pt 16 0 :: .bot :: .ow 88 :: .pt 40 0 :: bt 15 (.ow 168 :: I ((y7.length : Int)) :: I t8 :: bt 60 []), [(168, .arr 9 1 (y7.map c9)), (40, .box [Ti t8, .v (.string e6), .v (.string ByteArray.empty), .v (.string ByteArray.empty), Ti 0, Ti 0, Ti 0]), (88, .arr 9 1 (y2.map c9)), (16, .box [Ti 0, .v (.string ByteArray.empty), .v (.string ByteArray.empty), .v (.string ByteArray.empty), Ti 0, Ti 0, Ti 0])]⟩) ?_ ?_
       ·exact XE
       show V _ _ _ _
       obtain ⟨t20, ht20, h⟩ := qF h
       refine V_reg (mb 84 14680117) [168, 40, 88, 16] (s1 := ⟨.c (.v (.string vs1)) :: .bot :: .pt 16 0 :: .bot :: .ow 88 :: .pt 40 0 :: bt 15 (.ow 168 :: I ((y7.length : Int)) :: I t20 :: bt 60 []), [(168, .arr 9 1 (y7.map c9)), (40, .box [Ti t8, .v (.string e6), .v (.string ByteArray.empty), .v (.string ByteArray.empty), Ti 0, Ti 0, Ti 0]), (88, .arr 9 1 (y2.map c9)), (16, .box [Ti 0, .v (.string ByteArray.empty), .v (.string ByteArray.empty), .v (.string ByteArray.empty), Ti 0, Ti 0, Ti 0])]⟩) ?_ ?_
       ·refine XR 2 ?_
        refine zN ?_
        subst ht20
        kernel_rfl
       exact ⟨n, Nat.lt_succ_self n, _, _,  by rfl, h⟩
      ·have h := zK h hc19
       refine zV ?_
       show V _ _ _ _
       obtain ⟨t21, ht21, h⟩ := qF h
       refine V_reg (mb 84 14680117) [168, 40, 88, 16] (s1 := ⟨.c (.v (.string vs1)) :: .bot :: .pt 16 0 :: .bot :: .ow 88 :: .pt 40 0 :: bt 15 (.ow 168 :: I ((y7.length : Int)) :: I t21 :: bt 60 []), [(168, .arr 9 1 (y7.map c9)), (40, .box [Ti f9, .v (.string e6), .v (.string ByteArray.empty), .v (.string ByteArray.empty), Ti 0, Ti 0, Ti 0]), (88, .arr 9 1 (y2.map c9)), (16, .box [Ti 0, .v (.string ByteArray.empty), .v (.string ByteArray.empty), .v (.string ByteArray.empty), Ti 0, Ti 0, Ti 0])]⟩) ?_ ?_
       ·refine XR 2 ?_
        refine zN ?_
        subst ht21
        kernel_rfl
       exact ⟨n, Nat.lt_succ_self n, _, _,  by rfl, h⟩
     ·have h := zK h hc12
      refine V_exit ?_
      obtain rfl := zE h
      show St.keep _ _ _ = _
      rfl
   show V _ _ _ _
   obtain ⟨qo22, hLo22, hko22⟩ := zD h
   clear h
   refine V_cutS (q := qo22) (S := fun o22 => ⟨.c (.v (.string vs1)) :: .bot :: .pt 16 0 :: .bot :: .bot :: .pt 40 0 :: bt 78 [], [(40, .box [Ti o11, .v (.string e6), .v (.string o22.1), .v (.string o22.2.1), Ti o22.2.2.1, Ti o22.2.2.2.1, Ti o22.2.2.2.2]), (16, .box [Ti 0, .v (.string ByteArray.empty), .v (.string ByteArray.empty), .v (.string ByteArray.empty), Ti 0, Ti 0, Ti 0])]⟩) (mb 84 37) [40, 16] ?_ ?_
   ·have h := hLo22
    clear hLo22
    obtain ⟨y23, hy23, h⟩ := zD h
    refine zG (mb 84 4398046511157) [40, 88, 16] (s1 := ⟨.c (.v (.string vs1)) :: .bot :: .pt 16 0 :: .bot :: .ow 88 :: .pt 40 0 :: bt 36 (Bo y23 :: bt 41 []), [(40, .box [Ti o11, .v (.string e6), .v (.string ByteArray.empty), .v (.string ByteArray.empty), Ti 0, Ti 0, Ti 0]), (88, .arr 9 1 (y2.map c9)), (16, .box [Ti 0, .v (.string ByteArray.empty), .v (.string ByteArray.empty), .v (.string ByteArray.empty), Ti 0, Ti 0, Ti 0])]⟩) ?_ ?_
    ·refine XR 2 ?_
     refine XC (s_spec_lgHasForm hy23) cf_spec_lgHasForm rfl rfl rfl ?_
     exact XE
    refine zQ rfl (fun hc24 => ?_) (fun hc24 => ?_)
    ·have h := zM h hc24
     refine zX ?_
     refine zG (mb 84 35184372088885) [40, 88, 16] (s1 := ⟨.c (.v (.string vs1)) :: .bot :: .pt 16 0 :: .bot :: .ow 88 :: .pt 40 0 :: bt 39 (Bo (!eqI ((y2.length : Int)) 3) :: bt 38 []), [(40, .box [Ti o11, .v (.string e6), .v (.string ByteArray.empty), .v (.string ByteArray.empty), Ti 0, Ti 0, Ti 0]), (88, .arr 9 1 (y2.map c9)), (16, .box [Ti 0, .v (.string ByteArray.empty), .v (.string ByteArray.empty), .v (.string ByteArray.empty), Ti 0, Ti 0, Ti 0])]⟩) ?_ ?_
     ·refine XR 1 ?_
      refine L0 rfl rfl (Y0_lenM (c := c9) (xs := y2) Tryz.underlying66 rfl kk) ?_
      exact XE
     refine zQ rfl (fun hc25 => ?_) (fun hc25 => ?_)
     ·have h := zM h hc25
      refine zG (mb 84 12) [16] (s1 := ⟨.bot :: .bot :: .pt 16 0 :: Bo false :: bt 80 [], [(16, .box [Ti 0, .v (.string ByteArray.empty), .v (.string ByteArray.empty), .v (.string ByteArray.empty), Ti 0, Ti 0, Ti 0])]⟩) ?_ ?_
      ·refine L0 rfl rfl (qE (cs := [Ti 0, .v (.string ByteArray.empty), .v (.string ByteArray.empty), .v (.string ByteArray.empty), Ti 0, Ti 0, Ti 0]) pl40 bt40 rfl rfl kk) ?_
       exact XE
      refine zR ?_
      obtain rfl := zE h
      have h := hko22
      obtain rfl := zE h
      show Post _ _ _ _ _
      exact ⟨.inr rfl, rfl, rfl, rfl⟩
     ·have h := zK h hc25
      refine zV ?_
      show V _ _ _ _
      obtain ⟨e26, he26, h⟩ := zD h
      obtain ⟨e27, he27, h⟩ := zD h
      obtain ⟨y28, hy28, h⟩ := zD h
      refine zG (mb 84 805) [64, 40, 16] (s1 := ⟨.c (.v (.string vs1)) :: .bot :: .pt 16 0 :: .bot :: .bot :: .pt 40 0 :: .bot :: .bot :: .pt 64 0 :: Bo y28.2 :: bt 74 [], [(64, .box [Ti y28.1.1, Ti y28.1.2.1, Ti y28.1.2.2]), (40, .box [Ti o11, .v (.string e6), .v (.string ByteArray.empty), .v (.string ByteArray.empty), Ti 0, Ti 0, Ti 0]), (16, .box [Ti 0, .v (.string ByteArray.empty), .v (.string ByteArray.empty), .v (.string ByteArray.empty), Ti 0, Ti 0, Ti 0])]⟩) ?_ ?_
      ·refine XR 1 ?_
       refine L0 rfl rfl (Y0_idxoM (c := c9) (xs := y2) (v := e26) (id := 88) (T := 9) (sz := 1) (n := 2) Tryz.underlying66 sz9 rfl kk kk kk he26) ?_
       refine L0 rfl rfl (Y0_loado1 (c := c9) (xs := y2) (v := e27) (id := 88) (sz := 1) (T := 9) (off := 0) (n := 2) (d := .v (.string e27)) (ds := []) sc9 rfl kk kk he27 kk) ?_
       refine XC (s_spec_foRead hy28) cf_spec_foRead rfl rfl rfl ?_
       exact XE
      refine zX ?_
      refine V_e (mb 84 36028797018964261) [64, 40, 16] (s1 := ⟨.c (.v (.string vs1)) :: .bot :: .pt 16 0 :: .bot :: .bot :: .pt 40 0 :: .bot :: .bot :: .pt 64 0 :: bt 46 (Bo (!y28.2) :: bt 28 []), [(64, .box [Ti y28.1.1, Ti y28.1.2.1, Ti y28.1.2.2]), (40, .box [Ti o11, .v (.string e6), .v (.string ByteArray.empty), .v (.string ByteArray.empty), Ti 0, Ti 0, Ti 0]), (16, .box [Ti 0, .v (.string ByteArray.empty), .v (.string ByteArray.empty), .v (.string ByteArray.empty), Ti 0, Ti 0, Ti 0])]⟩) ?_
      refine zQ rfl (fun hc29 => ?_) (fun hc29 => ?_)
      ·have h := zM h hc29
       refine zG (mb 84 12) [16] (s1 := ⟨.bot :: .bot :: .pt 16 0 :: Bo false :: bt 80 [], [(16, .box [Ti 0, .v (.string ByteArray.empty), .v (.string ByteArray.empty), .v (.string ByteArray.empty), Ti 0, Ti 0, Ti 0])]⟩) ?_ ?_
       ·refine L0 rfl rfl (qE (cs := [Ti 0, .v (.string ByteArray.empty), .v (.string ByteArray.empty), .v (.string ByteArray.empty), Ti 0, Ti 0, Ti 0]) pl40 bt40 rfl rfl kk) ?_
        exact XE
       refine zR ?_
       obtain rfl := zE h
       have h := hko22
       obtain rfl := zE h
       show Post _ _ _ _ _
       exact ⟨.inr rfl, rfl, rfl, rfl⟩
      ·have h := zK h hc29
       refine zV ?_
       show V _ _ _ _
       refine V_reg (mb 84 37) [40, 16] (s1 := ⟨.c (.v (.string vs1)) :: .bot :: .pt 16 0 :: .bot :: .bot :: .pt 40 0 :: bt 78 [], [(40, .box [Ti o11, .v (.string e6), .v (.string ByteArray.empty), .v (.string ByteArray.empty), Ti y28.1.1, Ti y28.1.2.1, Ti y28.1.2.2]), (16, .box [Ti 0, .v (.string ByteArray.empty), .v (.string ByteArray.empty), .v (.string ByteArray.empty), Ti 0, Ti 0, Ti 0])]⟩) ?_ ?_
       ·exact XE
       obtain rfl := zE h
       exact ⟨_, rfl, by rfl⟩
    ·have h := zK h hc24
     obtain ⟨j30, hj30, h⟩ := zD h
     refine V_cutK (mb 84 53) [40, 88, 16] (s1 := ⟨.c (.v (.string vs1)) :: .bot :: .pt 16 0 :: .bot :: .ow 88 :: .pt 40 0 :: bt 78 [], [(40, .box [Ti o11, .v (.string e6), .v (.string j30), .v (.string ByteArray.empty), Ti 0, Ti 0, Ti 0]), (88, .arr 9 1 (y2.map c9)), (16, .box [Ti 0, .v (.string ByteArray.empty), .v (.string ByteArray.empty), .v (.string ByteArray.empty), Ti 0, Ti 0, Ti 0])]⟩) ?_ ?_
     ·clear h
      have h := hj30
      clear hj30
      refine zG (mb 84 2305843009213694005) [40, 88, 16] (s1 := ⟨.c (.v (.string vs1)) :: .bot :: .pt 16 0 :: .bot :: .ow 88 :: .pt 40 0 :: bt 55 (Bo (ltI 2 ((y2.length : Int))) :: bt 22 []), [(40, .box [Ti o11, .v (.string e6), .v (.string ByteArray.empty), .v (.string ByteArray.empty), Ti 0, Ti 0, Ti 0]), (88, .arr 9 1 (y2.map c9)), (16, .box [Ti 0, .v (.string ByteArray.empty), .v (.string ByteArray.empty), .v (.string ByteArray.empty), Ti 0, Ti 0, Ti 0])]⟩) ?_ ?_
      ·refine XR 1 ?_
       refine L0 rfl rfl (Y0_lenM (c := c9) (xs := y2) Tryz.underlying66 rfl kk) ?_
       exact XE
      refine zQ rfl (fun hc31 => ?_) (fun hc31 => ?_)
      ·have h := zM h hc31
       obtain ⟨e32, he32, h⟩ := zD h
       obtain ⟨e33, he33, h⟩ := zD h
       refine V_reg (mb 84 53) [40, 88, 16] (s1 := ⟨.c (.v (.string vs1)) :: .bot :: .pt 16 0 :: .bot :: .ow 88 :: .pt 40 0 :: bt 78 [], [(40, .box [Ti o11, .v (.string e6), .v (.string e33), .v (.string ByteArray.empty), Ti 0, Ti 0, Ti 0]), (88, .arr 9 1 (y2.map c9)), (16, .box [Ti 0, .v (.string ByteArray.empty), .v (.string ByteArray.empty), .v (.string ByteArray.empty), Ti 0, Ti 0, Ti 0])]⟩) ?_ ?_
       ·refine XR 1 ?_
        refine L0 rfl rfl (Y0_idxoM (c := c9) (xs := y2) (v := e32) (id := 88) (T := 9) (sz := 1) (n := 2) Tryz.underlying66 sz9 rfl kk kk kk he32) ?_
        refine L0 rfl rfl (Y0_loado1 (c := c9) (xs := y2) (v := e33) (id := 88) (sz := 1) (T := 9) (off := 0) (n := 2) (d := .v (.string e33)) (ds := []) sc9 rfl kk kk he33 kk) ?_
        exact XE
       obtain rfl := zE h
       show St.keep _ _ _ = _
       rfl
      ·have h := zK h hc31
       refine zV ?_
       obtain rfl := zE h
       show St.keep _ _ _ = _
       rfl
     refine zG (mb 84 295147905179352825909) [40, 88, 16] (s1 := ⟨.c (.v (.string vs1)) :: .bot :: .pt 16 0 :: .bot :: .ow 88 :: .pt 40 0 :: bt 62 (Bo (ltI 3 ((y2.length : Int))) :: bt 15 []), [(40, .box [Ti o11, .v (.string e6), .v (.string j30), .v (.string ByteArray.empty), Ti 0, Ti 0, Ti 0]), (88, .arr 9 1 (y2.map c9)), (16, .box [Ti 0, .v (.string ByteArray.empty), .v (.string ByteArray.empty), .v (.string ByteArray.empty), Ti 0, Ti 0, Ti 0])]⟩) ?_ ?_
     ·refine XR 1 ?_
      refine L0 rfl rfl (Y0_lenM (c := c9) (xs := y2) Tryz.underlying66 rfl kk) ?_
      exact XE
     refine zQ rfl (fun hc34 => ?_) (fun hc34 => ?_)
     ·have h := zM h hc34
      obtain ⟨e35, he35, h⟩ := zD h
      obtain ⟨e36, he36, h⟩ := zD h
      refine V_reg (mb 84 37) [40, 16] (s1 := ⟨.c (.v (.string vs1)) :: .bot :: .pt 16 0 :: .bot :: .bot :: .pt 40 0 :: bt 78 [], [(40, .box [Ti o11, .v (.string e6), .v (.string j30), .v (.string e36), Ti 0, Ti 0, Ti 0]), (16, .box [Ti 0, .v (.string ByteArray.empty), .v (.string ByteArray.empty), .v (.string ByteArray.empty), Ti 0, Ti 0, Ti 0])]⟩) ?_ ?_
      ·refine XR 1 ?_
       refine L0 rfl rfl (Y0_idxoM (c := c9) (xs := y2) (v := e35) (id := 88) (T := 9) (sz := 1) (n := 3) Tryz.underlying66 sz9 rfl kk kk kk he35) ?_
       refine L0 rfl rfl (Y0_loado1 (c := c9) (xs := y2) (v := e36) (id := 88) (sz := 1) (T := 9) (off := 0) (n := 3) (d := .v (.string e36)) (ds := []) sc9 rfl kk kk he36 kk) ?_
       exact XE
      obtain rfl := zE h
      exact ⟨_, rfl, by rfl⟩
     ·have h := zK h hc34
      refine zV ?_
      obtain rfl := zE h
      exact ⟨_, rfl, by rfl⟩
   rintro o22 rfl
   have h := hko22
   clear hko22
   refine zX ?_
   obtain ⟨y37, hy37, h⟩ := zD h
   obtain ⟨b40, hb40, h⟩ := zD h
   refine zG (mb 84 2417851639229258349412388) [40, 16] (s1 := ⟨.bot :: .bot :: .pt 16 0 :: .bot :: .bot :: .pt 40 0 :: bt 75 (Bo b40 :: .bot :: .bot :: []), [(40, .box [Ti o11, .v (.string e6), .v (.string o22.1), .v (.string o22.2.1), Ti o22.2.2.1, Ti o22.2.2.2.1, Ti o22.2.2.2.2]), (16, .box [Ti 0, .v (.string ByteArray.empty), .v (.string ByteArray.empty), .v (.string ByteArray.empty), Ti 0, Ti 0, Ti 0])]⟩) ?_ ?_
   ·refine XR 1 ?_
    refine XC (s_spec_lgCommand hy37) cf_spec_lgCommand rfl rfl rfl ?_
    refine XR 2 ?_
    refine zP (!y37) (fun hc38 => ?_) (fun hc38 => ?_)
    ·have hb40 := zE (zM hb40 hc38)
     refine zL _ rfl rfl kk hc38 rfl ?_
     refine zL _ rfl rfl kk hc38 rfl ?_
     refine zL _ rfl rfl kk hc38 rfl ?_
     refine zL _ rfl rfl kk hc38 rfl ?_
     refine zJ rfl (zA rfl (Y0_pickTe (b := !y37) (p := true) rfl kk hc38 kk hb40)) ?_
     exact XE
    ·have hb40 := zK hb40 hc38
     obtain ⟨y39, hy39, hb40⟩ := zD hb40
     have hb40 := zE hb40
     refine zB _ rfl rfl kk hc38 (zA rfl (E_loadn (cs := [Ti o11, .v (.string e6), .v (.string o22.1), .v (.string o22.2.1), Ti o22.2.2.1, Ti o22.2.2.2.1, Ti o22.2.2.2.2]) [Ti o11, .v (.string e6), .v (.string o22.1), .v (.string o22.2.1), Ti o22.2.2.1, Ti o22.2.2.2.1, Ti o22.2.2.2.2] wd40 rfl kk (Nat.le_of_ble_eq_true rfl) kk)) ?_
     refine zB _ rfl rfl kk hc38 (X_of_Y1 rfl (Y1_call (s_spec_lgText hy39) cf_spec_lgText rfl kk)) ?_
     refine zB _ rfl rfl kk hc38 (zA rfl (zY (.c (.v (.string vs1))) rfl kk)) ?_
     refine zB _ rfl rfl kk hc38 (zA rfl (Y0_nes (a := y39) (b := vs1) rfl kk kk)) ?_
     refine zJ rfl (zA rfl (Y0_pickFe (b := !y37) (p := !(y39.toList == vs1.toList)) rfl kk hc38 kk hb40)) ?_
     exact XE
   refine zQ rfl (fun hc41 => ?_) (fun hc41 => ?_)
   ·have h := zM h hc41
    refine zG (mb 84 12) [16] (s1 := ⟨.bot :: .bot :: .pt 16 0 :: Bo false :: bt 80 [], [(16, .box [Ti 0, .v (.string ByteArray.empty), .v (.string ByteArray.empty), .v (.string ByteArray.empty), Ti 0, Ti 0, Ti 0])]⟩) ?_ ?_
    ·refine L0 rfl rfl (qE (cs := [Ti 0, .v (.string ByteArray.empty), .v (.string ByteArray.empty), .v (.string ByteArray.empty), Ti 0, Ti 0, Ti 0]) pl40 bt40 rfl rfl kk) ?_
     exact XE
    refine zR ?_
    obtain rfl := zE h
    show Post _ _ _ _ _
    exact ⟨.inr rfl, rfl, rfl, rfl⟩
   ·have h := zK h hc41
    refine zV ?_
    show V _ _ _ _
    refine V_e (mb 84 12) [16] (s1 := ⟨.bot :: .bot :: .pt 16 0 :: Bo true :: bt 80 [], [(16, .box [Ti o11, .v (.string e6), .v (.string o22.1), .v (.string o22.2.1), Ti o22.2.2.1, Ti o22.2.2.2.1, Ti o22.2.2.2.2])]⟩) ?_
    refine zR ?_
    obtain rfl := zE h
    show Post _ _ _ _ _
    exact ⟨.inr rfl, rfl, rfl, rfl⟩
theorem cf_spec_lgCheck : ∀ args w, (callFunc 89 args).run Tryz.prog w = .ok (.enter 89 args) w := zI Tryz.func89 kk kk
theorem s_spec_lgCheck {vs1 : ByteArray} {before2 : Int} {r : Int} (h : r_spec_lgCheck vs1 before2 = some r) : z7 Tryz.prog 89 [.c (.v (.string vs1)), I before2] (I r) [] := by
  refine zH (rs := [.t 4]) (vs := [.tmp 4]) Tryz.func89 rfl rfl (.cons rfl FitsL.nil) (by decide) 22 rfl ?_
  unfold r_spec_lgCheck at h
  show V _ _ ⟨.c (.v (.string vs1)) :: I before2 :: bt 20 [], []⟩ _
  refine V_e (mb 22 3) [] (s1 := ⟨.c (.v (.string vs1)) :: I before2 :: bt 20 [], []⟩) ?_
  refine zX ?_
  refine V_e (mb 22 35) [] (s1 := ⟨.c (.v (.string vs1)) :: I before2 :: bt 3 (I 0 :: bt 16 []), []⟩) ?_
  obtain ⟨o6, hLo6, h⟩ := zD h
  refine V_toK (mb 22 2) [] (s1 := ⟨.bot :: I o6 :: bt 20 [], []⟩) ?_ ?_
  ·clear h
   refine zZ (V_loop (fun n s => ∃ (before3 : Int) (i4 : Int), s.keep (mb 22 35) [] = (⟨.c (.v (.string vs1)) :: I before3 :: bt 3 (I i4 :: bt 16 []), []⟩ : St) ∧ r_spec_lgCheck_L5 vs1 n before3 i4 = some o6) FU ⟨_, _,  by rfl, hLo6⟩ ?_)
   clear hLo6
   rintro n s ⟨before3, i4, hs, h⟩
   refine V_keep _ _ hs ?_
   clear hs
   cases n with
   | zero => cases h
   | succ n =>
    rw [r_spec_lgCheck_L5] at h
    refine zX ?_
    refine zG (mb 22 547) [] (s1 := ⟨.c (.v (.string vs1)) :: I before3 :: bt 3 (I i4 :: bt 3 (Bo (ltI i4 ((vs1.size : Int))) :: bt 12 [])), []⟩) ?_ ?_
    ·refine XR 2 ?_
     refine L0 rfl rfl (Y0_lens (b := vs1) Tryz.underlying9 rfl kk) ?_
     exact XE
    refine zQ rfl (fun hc7 => ?_) (fun hc7 => ?_)
    ·have h := zM h hc7
     refine zV ?_
     show V _ _ _ _
     refine zX ?_
     refine zZ ?_
     obtain ⟨e8, he8, h⟩ := zD h
     obtain ⟨before9, hbefore9, h⟩ := qF h
     refine V_reg (mb 22 35) [] (s1 := ⟨.c (.v (.string vs1)) :: I before9 :: bt 3 (I i4 :: bt 16 []), []⟩) ?_ ?_
     ·refine XR 4 ?_
      refine L0 rfl rfl (Y0_idxs (b := vs1) (k := .i64) (n := i4) (v := e8) Tryz.underlying9 rfl kk kk he8) ?_
      refine L0 rfl rfl (Y0_conv (k2 := .u8) (a := e8) Tryz.underlying5 Tryz.underlying3 rfl kk) ?_
      refine XR 2 ?_
      refine L0 rfl rfl (Y0_rem (k := .i64) (a := w64 ((w64 ((w64 (31 * before3)) + (IntKind.i64.wrap e8))) + 1)) (b := 9973) rfl kk kk (by decide)) ?_
      refine XR 1 ?_
      refine zN ?_
      subst hbefore9
      kernel_rfl
     show V _ _ _ _
     obtain ⟨i10, hi10, h⟩ := qF h
     refine V_reg (mb 22 35) [] (s1 := ⟨.c (.v (.string vs1)) :: I before9 :: bt 3 (I i10 :: bt 16 []), []⟩) ?_ ?_
     ·refine XR 3 ?_
      refine zN ?_
      subst hi10
      kernel_rfl
     exact ⟨n, Nat.lt_succ_self n, _, _,  by rfl, h⟩
    ·have h := zK h hc7
     refine V_exit ?_
     obtain rfl := zE h
     show St.keep _ _ _ = _
     rfl
  show V _ _ _ _
  refine V_e (mb 22 16) [] (s1 := ⟨bt 4 (I o6 :: bt 17 []), []⟩) ?_
  refine zR ?_
  obtain rfl := zE h
  show Post _ _ _ _ _
  exact ⟨.inr rfl, rfl, rfl, rfl⟩
theorem cf_spec_lgRecord : ∀ args w, (callFunc 51 args).run Tryz.prog w = .ok (.enter 51 args) w := zI Tryz.func51 kk kk
theorem s_spec_lgRecord {c1 : (Int × ByteArray × ByteArray × ByteArray × ((Int × Int × Int)))} {before2 : Int} {r : ByteArray} (h : r_spec_lgRecord c1 before2 = some r) : z7 Tryz.prog 51 [.ag [Ti c1.1, .v (.string c1.2.1), .v (.string c1.2.2.1), .v (.string c1.2.2.2.1), Ti c1.2.2.2.2.1, Ti c1.2.2.2.2.2.1, Ti c1.2.2.2.2.2.2], I before2] (.c (.v (.string r))) [] := by
  refine zH (rs := [.t 4]) (vs := [.tmp 4]) Tryz.func51 rfl rfl (.cons rfl FitsL.nil) (by decide) 16 rfl ?_
  unfold r_spec_lgRecord at h
  show V _ _ ⟨.ag [Ti c1.1, .v (.string c1.2.1), .v (.string c1.2.2.1), .v (.string c1.2.2.2.1), Ti c1.2.2.2.2.1, Ti c1.2.2.2.2.2.1, Ti c1.2.2.2.2.2.2] :: I before2 :: bt 14 [], []⟩ _
  refine V_e (mb 16 6) [16] (s1 := ⟨.bot :: I before2 :: .pt 16 0 :: bt 13 [], [(16, .box [Ti c1.1, .v (.string c1.2.1), .v (.string c1.2.2.1), .v (.string c1.2.2.2.1), Ti c1.2.2.2.2.1, Ti c1.2.2.2.2.2.1, Ti c1.2.2.2.2.2.2])]⟩) ?_
  obtain ⟨y3, hy3, h⟩ := zD h
  refine zG (mb 16 34) [] (s1 := ⟨.bot :: I before2 :: bt 3 (.c (.v (.string y3)) :: bt 10 []), []⟩) ?_ ?_
  ·refine XR 1 ?_
   refine XC (s_spec_lgText hy3) cf_spec_lgText rfl rfl rfl ?_
   exact XE
  obtain ⟨u4, hu4, h⟩ := zD h
  obtain ⟨y5, hy5, h⟩ := zD h
  obtain ⟨y6, hy6, h⟩ := zD h
  obtain ⟨u7, hu7, h⟩ := zD h
  obtain ⟨u8, hu8, h⟩ := zD h
  refine zG (mb 16 16) [] (s1 := ⟨bt 4 (.c (.v (.string (((y3 ++ ((⟨#[35]⟩ : ByteArray))) ++ y6) ++ ((⟨#[10]⟩ : ByteArray))))) :: bt 11 []), []⟩) ?_ ?_
  ·refine XR 1 ?_
   refine L0 rfl rfl (Y0_cat (a := y3) (b := (⟨#[35]⟩ : ByteArray)) rfl kk kk (catR_some hu4)) ?_
   refine XR 2 ?_
   refine XC (s_spec_lgCheck hy5) cf_spec_lgCheck rfl rfl rfl ?_
   refine XC (s_spec_l1Num hy6) cf_spec_l1Num rfl rfl rfl ?_
   refine L0 rfl rfl (Y0_cat (a := y3 ++ ((⟨#[35]⟩ : ByteArray))) (b := y6) rfl kk kk (catR_some hu7)) ?_
   refine L0 rfl rfl (Y0_cat (a := (y3 ++ ((⟨#[35]⟩ : ByteArray))) ++ y6) (b := (⟨#[10]⟩ : ByteArray)) rfl kk kk (catR_some hu8)) ?_
   exact XE
  refine zR ?_
  obtain rfl := zE h
  show Post _ _ _ _ _
  exact ⟨.inr rfl, rfl, rfl, rfl⟩
theorem cf_spec_lgFind : ∀ args w, (callFunc 95 args).run Tryz.prog w = .ok (.enter 95 args) w := zI Tryz.func95 kk kk
theorem s_spec_lgFind {l1 : List ((ByteArray × ((Int × Int × Int))))} {name2 : ByteArray} {r : Int} (h : r_spec_lgFind l1 name2 = some r) : z7 Tryz.prog 95 [.c (.sl (l1.map c73)), .c (.v (.string name2))] (I r) [] := by
  refine zH (rs := [.t 4]) (vs := [.tmp 4]) Tryz.func95 rfl rfl (.cons rfl FitsL.nil) (by decide) 20 rfl ?_
  unfold r_spec_lgFind at h
  show V _ _ ⟨.c (.sl (l1.map c73)) :: .c (.v (.string name2)) :: bt 18 [], []⟩ _
  refine V_e (mb 20 3) [] (s1 := ⟨.c (.sl (l1.map c73)) :: .c (.v (.string name2)) :: bt 18 [], []⟩) ?_
  refine zX ?_
  refine zG (mb 20 898) [] (s1 := ⟨.bot :: .c (.v (.string name2)) :: bt 5 (.c (.sl (l1.map c73)) :: I ((l1.length : Int)) :: I 0 :: bt 10 []), []⟩) ?_ ?_
  ·refine XR 1 ?_
   refine L0 rfl rfl (Y0_lenM (c := c73) (xs := l1) Tryz.underlying43 rfl kk) ?_
   exact XE
  obtain ⟨qo5, hLo5, hko5⟩ := zD h
  refine V_toS (q := qo5) (S := fun o5 => ⟨bt 20 [], []⟩) (mb 20 0) [] ?_ ?_
  ·refine zZ (V_loop (fun n s => ∃ (t3 : Int), s.keep (mb 20 898) [] = (⟨.bot :: .c (.v (.string name2)) :: bt 5 (.c (.sl (l1.map c73)) :: I ((l1.length : Int)) :: I t3 :: bt 10 []), []⟩ : St) ∧ r_spec_lgFind_L4 l1 name2 n t3 = some qo5) FU ⟨_,  by rfl, hLo5⟩ ?_)
   clear hLo5
   rintro n s ⟨t3, hs, h⟩
   refine V_keep _ _ hs ?_
   clear hs
   cases n with
   | zero => cases h
   | succ n =>
    rw [r_spec_lgFind_L4] at h
    refine V_e (mb 20 1922) [] (s1 := ⟨.bot :: .c (.v (.string name2)) :: bt 5 (.c (.sl (l1.map c73)) :: I ((l1.length : Int)) :: I t3 :: Bo (ltI t3 ((l1.length : Int))) :: bt 9 []), []⟩) ?_
    refine zX ?_
    refine zQ rfl (fun hc6 => ?_) (fun hc6 => ?_)
    ·have h := zM h hc6
     refine zV ?_
     show V _ _ _ _
     refine zX ?_
     refine zZ ?_
     obtain ⟨e7, he7, h⟩ := zD h
     refine zG (mb 20 994) [48] (s1 := ⟨.bot :: .c (.v (.string name2)) :: bt 3 (I t3 :: .pt 48 0 :: .c (.sl (l1.map c73)) :: I ((l1.length : Int)) :: I t3 :: bt 10 []), [(48, .box [.v (.string e7.1), Ti e7.2.1, Ti e7.2.2.1, Ti e7.2.2.2])]⟩) ?_ ?_
     ·refine XR 1 ?_
      refine L0 rfl rfl (Y0_idxM (c := c73) (xs := l1) (v := e7) (n := t3) Tryz.underlying43 sz73 rfl kk kk he7) ?_
      exact XE
     refine zG (mb 20 132002) [] (s1 := ⟨.bot :: .c (.v (.string name2)) :: bt 3 (I t3 :: .bot :: .c (.sl (l1.map c73)) :: I ((l1.length : Int)) :: I t3 :: bt 7 (Bo (e7.1.toList == name2.toList) :: .bot :: .bot :: [])), []⟩) ?_ ?_
     ·refine XR 3 ?_
      refine L0 rfl rfl (Y0_eqs (a := e7.1) (b := name2) rfl kk kk) ?_
      exact XE
     refine zQ rfl (fun hc8 => ?_) (fun hc8 => ?_)
     ·have h := zM h hc8
      refine V_e (mb 20 16) [] (s1 := ⟨bt 4 (I t3 :: bt 15 []), []⟩) ?_
      refine zR ?_
      obtain rfl := zE h
      have h := hko5
      obtain rfl := zE h
      show Post _ _ _ _ _
      exact ⟨.inr rfl, rfl, rfl, rfl⟩
     ·have h := zK h hc8
      refine zV ?_
      show V _ _ _ _
      obtain ⟨t9, ht9, h⟩ := qF h
      refine V_reg (mb 20 898) [] (s1 := ⟨.bot :: .c (.v (.string name2)) :: bt 5 (.c (.sl (l1.map c73)) :: I ((l1.length : Int)) :: I t9 :: bt 10 []), []⟩) ?_ ?_
      ·refine XR 2 ?_
       refine zN ?_
       subst ht9
       kernel_rfl
      exact ⟨n, Nat.lt_succ_self n, _,  by rfl, h⟩
    ·have h := zK h hc6
     refine V_exit ?_
     obtain rfl := zE h
     exact ⟨_, rfl, by rfl⟩
  rintro o5 rfl
  have h := hko5
  clear hko5
  show V _ _ _ _
  refine V_e (mb 20 16) [] (s1 := ⟨bt 4 (I (-1) :: bt 15 []), []⟩) ?_
  refine zR ?_
  obtain rfl := zE h
  show Post _ _ _ _ _
  exact ⟨.inr rfl, rfl, rfl, rfl⟩
theorem cf_spec_lgDrop : ∀ args w, (callFunc 96 args).run Tryz.prog w = .ok (.enter 96 args) w := zI Tryz.func96 kk kk
theorem s_spec_lgDrop {l1 : List ((ByteArray × ((Int × Int × Int))))} {vat2 : Int} {r : List ((ByteArray × ((Int × Int × Int))))} (h : r_spec_lgDrop l1 vat2 = some r) : z7 Tryz.prog 96 [.c (.sl (l1.map c73)), I vat2] (.ow 0) [(0, .arr 73 4 (r.map c73))] := by
  refine zH (rs := [.t 4]) (vs := [.tmp 4]) Tryz.func96 rfl rfl (.cons rfl FitsL.nil) (by decide) 17 rfl ?_
  unfold r_spec_lgDrop at h
  show V _ _ ⟨.c (.sl (l1.map c73)) :: I vat2 :: bt 15 [], []⟩ _
  refine zG (mb 17 3) [] (s1 := ⟨.c (.sl (l1.map c73)) :: I vat2 :: bt 15 [], []⟩) ?_ ?_
  ·refine L1 rfl rfl (Y1_nil (e := 73) 4 (by decide) (.inl rfl)) ?_
   exact XE
  obtain ⟨u3, hu3, h⟩ := zD h
  obtain ⟨u4, hu4, h⟩ := zD h
  obtain ⟨l5, hl5, h⟩ := zD h
  have hl5 := zE hl5
  refine zG (mb 17 35) [48] (s1 := ⟨.c (.sl (l1.map c73)) :: I vat2 :: bt 3 (.ow 48 :: bt 11 []), [(48, .arr 73 4 (l5.map c73))]⟩) ?_ ?_
  ·refine L1 rfl rfl (Y1_bslice0 Tryz.underlying43 sz73 (by decide) rfl rfl) ?_
   refine XR 2 ?_
   refine L0 rfl rfl (Y0_slice (c := c73) (xs := l1) (l := 0) (h := vat2) Tryz.underlying43 sz73 (fun _ => rfl) rfl kk (fun y hy => by cases hy) (fun _ => rfl) (fun y hy => by cases hy; exact ⟨.i64, kk⟩) (fun hh => by cases hh) (slc_some hu3)) ?_
   refine zJ rfl (X_appendA (c := c73) (xs := ([] : List ((ByteArray × ((Int × Int × Int)))))) (ys := subl l1 0 vat2) (id := 48) (z := zv73) rfl rfl Tryz.underlying43 izb73 rfl kk kk kk (fun _ => rfl) (room_some hu4) (by decide)) ?_
   refine XR 1 ?_
   refine zN ?_
   subst hl5
   kernel_rfl
  obtain ⟨u6, hu6, h⟩ := zD h
  obtain ⟨u7, hu7, h⟩ := zD h
  refine zG (mb 17 16) [48] (s1 := ⟨bt 4 (.ow 48 :: bt 12 []), [(48, .arr 73 4 ((l5 ++ (subl l1 (w64 (vat2 + 1)) ((l1.length : Int)))).map c73))]⟩) ?_ ?_
  ·refine XR 4 ?_
   refine L0 rfl rfl (Y0_slice (c := c73) (xs := l1) (l := w64 (vat2 + 1)) (h := (l1.length : Int)) Tryz.underlying43 sz73 (fun _ => rfl) rfl kk (fun y hy => by cases hy; exact ⟨.i64, kk⟩) (fun hh => by cases hh) (fun y hy => by cases hy) (fun _ => rfl) (slc_some hu6)) ?_
   refine zJ rfl (X_appendA (c := c73) (xs := l5) (ys := subl l1 (w64 (vat2 + 1)) ((l1.length : Int))) (id := 48) (z := zv73) rfl rfl Tryz.underlying43 izb73 rfl kk kk kk (fun _ => rfl) (room_some hu7) (by decide)) ?_
   exact XE
  refine zR ?_
  obtain rfl := zE h
  show Post _ _ _ _ _
  exact ⟨.inr rfl, rfl, rfl, rfl⟩
theorem cf_spec_reIs : ∀ args w, (callFunc 149 args).run Tryz.prog w = .ok (.enter 149 args) w := zI Tryz.func149 kk kk
theorem s_spec_reIs {f1 : (Int × Int × Int)} {r : Bool} (h : r_spec_reIs f1 = some r) : z7 Tryz.prog 149 [.ag [Ti f1.1, Ti f1.2.1, Ti f1.2.2]] (Bo r) [] := by
  refine zH (rs := [.t 2]) (vs := [.tmp 2]) Tryz.func149 rfl rfl (.cons rfl FitsL.nil) (by decide) 35 rfl ?_
  unfold r_spec_reIs at h
  show V _ _ ⟨.ag [Ti f1.1, Ti f1.2.1, Ti f1.2.2] :: bt 34 [], []⟩ _
  refine V_e (mb 35 2) [8] (s1 := ⟨.bot :: .pt 8 0 :: bt 33 [], [(8, .box [Ti f1.1, Ti f1.2.1, Ti f1.2.2])]⟩) ?_
  obtain ⟨t6, ht6, h⟩ := zD h
  have ht6 := zE ht6
  refine zG (mb 35 4) [] (s1 := ⟨.bot :: .bot :: Bo t6 :: bt 32 [], []⟩) ?_ ?_
  ·refine XR 7 ?_
   refine zP (ltI (w64 (0 - f1.1)) f1.2.1) (fun hc2 => ?_) (fun hc2 => ?_)
   ·refine zB _ rfl rfl kk hc2 (zA rfl (qD (.pt 8 1) Tryz.underlying38 rfl sz3 rfl kk (by intro hh; cases hh))) ?_
    refine zB _ rfl rfl kk hc2 (zA rfl (qC (c := Ti f1.2.1) (cs := [Ti f1.2.2]) sc3 rfl kk)) ?_
    refine zB _ rfl rfl kk hc2 (zA rfl (qD (.pt 8 0) Tryz.underlying38 rfl sz3 rfl kk (by intro hh; cases hh))) ?_
    refine zB _ rfl rfl kk hc2 (zA rfl (qC (c := Ti f1.1) (cs := [Ti f1.2.1, Ti f1.2.2]) sc3 rfl kk)) ?_
    refine zB _ rfl rfl kk hc2 (zA rfl (Y0_lew (k := .i64) (a := f1.2.1) (b := f1.1) rfl kk kk)) ?_
    refine zJ rfl (zA rfl (zW (b := ltI (w64 (0 - f1.1)) f1.2.1) (p := leI f1.2.1 f1.1) (q := false) rfl kk hc2 kk)) ?_
    refine XR 1 ?_
    refine zP (bif (ltI (w64 (0 - f1.1)) f1.2.1) then (leI f1.2.1 f1.1) else false) (fun hc3 => ?_) (fun hc3 => ?_)
    ·refine zB _ rfl rfl kk hc3 (zA rfl (qD (.pt 8 0) Tryz.underlying38 rfl sz3 rfl kk (by intro hh; cases hh))) ?_
     refine zB _ rfl rfl kk hc3 (zA rfl (qC (c := Ti f1.1) (cs := [Ti f1.2.1, Ti f1.2.2]) sc3 rfl kk)) ?_
     refine zB _ rfl rfl kk hc3 (zA rfl (qD (.pt 8 2) Tryz.underlying38 rfl sz3 rfl kk (by intro hh; cases hh))) ?_
     refine zB _ rfl rfl kk hc3 (zA rfl (qC (c := Ti f1.2.2) (cs := []) sc3 rfl kk)) ?_
     refine zB _ rfl rfl kk hc3 (zA rfl (Y0_ltw (k := .i64) (a := f1.1) (b := f1.2.2) rfl kk kk)) ?_
     refine zB _ rfl rfl kk hc3 (zA rfl (zY (Bo (ltI f1.1 f1.2.2)) rfl kk)) ?_
     refine zP (ltI f1.1 f1.2.2) (fun hc4 => ?_) (fun hc4 => ?_)
     ·refine zL _ rfl rfl kk hc4 rfl ?_
      refine zL _ rfl rfl kk hc4 rfl ?_
      refine zL _ rfl rfl kk hc4 rfl ?_
      refine zL _ rfl rfl kk hc4 rfl ?_
      refine zL _ rfl rfl kk hc4 rfl ?_
      refine zL _ rfl rfl kk hc4 rfl ?_
      refine qA rfl rfl kk rfl ?_
      refine qA rfl rfl kk rfl ?_
      refine qA rfl rfl kk rfl ?_
      refine zL _ rfl rfl kk hc4 rfl ?_
      refine zB _ rfl rfl kk hc3 (zA rfl (zW (b := ltI f1.1 f1.2.2) (p := true) (q := bif (eqI f1.1 f1.2.2) then (leI 0 f1.2.1) else false) rfl kk hc4 kk)) ?_
      refine zJ rfl (zA rfl (zW (b := bif (ltI (w64 (0 - f1.1)) f1.2.1) then (leI f1.2.1 f1.1) else false) (p := bif (ltI f1.1 f1.2.2) then true else (bif (eqI f1.1 f1.2.2) then (leI 0 f1.2.1) else false)) (q := false) rfl kk hc3 kk)) ?_
      refine XR 1 ?_
      refine zN ?_
      subst ht6
      kernel_rfl
     ·refine zB _ rfl rfl kk hc4 (zA rfl (qD (.pt 8 0) Tryz.underlying38 rfl sz3 rfl kk (by intro hh; cases hh))) ?_
      refine zB _ rfl rfl kk hc4 (zA rfl (qC (c := Ti f1.1) (cs := [Ti f1.2.1, Ti f1.2.2]) sc3 rfl kk)) ?_
      refine zB _ rfl rfl kk hc4 (zA rfl (qD (.pt 8 2) Tryz.underlying38 rfl sz3 rfl kk (by intro hh; cases hh))) ?_
      refine zB _ rfl rfl kk hc4 (zA rfl (qC (c := Ti f1.2.2) (cs := []) sc3 rfl kk)) ?_
      refine zB _ rfl rfl kk hc4 (zA rfl (Y0_eqw (k := .i64) (a := f1.1) (b := f1.2.2) rfl kk kk)) ?_
      refine zB _ rfl rfl kk hc4 (zA rfl (zY (Bo (eqI f1.1 f1.2.2)) rfl kk)) ?_
      refine zP (eqI f1.1 f1.2.2) (fun hc5 => ?_) (fun hc5 => ?_)
      ·refine zB _ rfl rfl kk hc5 (zA rfl (qD (.pt 8 1) Tryz.underlying38 rfl sz3 rfl kk (by intro hh; cases hh))) ?_
       refine zB _ rfl rfl kk hc5 (zA rfl (qC (c := Ti f1.2.1) (cs := [Ti f1.2.2]) sc3 rfl kk)) ?_
       refine zB _ rfl rfl kk hc5 (zA rfl (Y0_gew (k := .i64) (a := f1.2.1) (b := 0) rfl kk kk)) ?_
       refine zB _ rfl rfl kk hc4 (zA rfl (zW (b := eqI f1.1 f1.2.2) (p := leI 0 f1.2.1) (q := false) rfl kk hc5 kk)) ?_
       refine zB _ rfl rfl kk hc3 (zA rfl (zT (b := ltI f1.1 f1.2.2) (p := true) (q := bif (eqI f1.1 f1.2.2) then (leI 0 f1.2.1) else false) rfl kk hc4 kk)) ?_
       refine zJ rfl (zA rfl (zW (b := bif (ltI (w64 (0 - f1.1)) f1.2.1) then (leI f1.2.1 f1.1) else false) (p := bif (ltI f1.1 f1.2.2) then true else (bif (eqI f1.1 f1.2.2) then (leI 0 f1.2.1) else false)) (q := false) rfl kk hc3 kk)) ?_
       refine XR 1 ?_
       refine zN ?_
       subst ht6
       kernel_rfl
      ·refine zF _ rfl rfl kk hc5 rfl ?_
       refine zF _ rfl rfl kk hc5 rfl ?_
       refine zF _ rfl rfl kk hc5 rfl ?_
       refine zB _ rfl rfl kk hc4 (zA rfl (zT (b := eqI f1.1 f1.2.2) (p := leI 0 f1.2.1) (q := false) rfl kk hc5 kk)) ?_
       refine zB _ rfl rfl kk hc3 (zA rfl (zT (b := ltI f1.1 f1.2.2) (p := true) (q := bif (eqI f1.1 f1.2.2) then (leI 0 f1.2.1) else false) rfl kk hc4 kk)) ?_
       refine zJ rfl (zA rfl (zW (b := bif (ltI (w64 (0 - f1.1)) f1.2.1) then (leI f1.2.1 f1.1) else false) (p := bif (ltI f1.1 f1.2.2) then true else (bif (eqI f1.1 f1.2.2) then (leI 0 f1.2.1) else false)) (q := false) rfl kk hc3 kk)) ?_
       refine XR 1 ?_
       refine zN ?_
       subst ht6
       kernel_rfl
    ·refine zF _ rfl rfl kk hc3 rfl ?_
     refine zF _ rfl rfl kk hc3 rfl ?_
     refine zF _ rfl rfl kk hc3 rfl ?_
     refine zF _ rfl rfl kk hc3 rfl ?_
     refine zF _ rfl rfl kk hc3 rfl ?_
     refine zF _ rfl rfl kk hc3 rfl ?_
     refine qA rfl rfl kk rfl ?_
     refine qA rfl rfl kk rfl ?_
     refine qA rfl rfl kk rfl ?_
     refine qA rfl rfl kk rfl ?_
     refine qA rfl rfl kk rfl ?_
     refine qA rfl rfl kk rfl ?_
     refine qA rfl rfl kk rfl ?_
     refine qA rfl rfl kk rfl ?_
     refine qA rfl rfl kk rfl ?_
     refine qA rfl rfl kk rfl ?_
     refine zF _ rfl rfl kk hc3 rfl ?_
     refine zJ rfl (zA rfl (zT (b := bif (ltI (w64 (0 - f1.1)) f1.2.1) then (leI f1.2.1 f1.1) else false) (p := bif (ltI f1.1 f1.2.2) then true else (bif (eqI f1.1 f1.2.2) then (leI 0 f1.2.1) else false)) (q := false) rfl kk hc3 kk)) ?_
     refine XR 1 ?_
     refine zN ?_
     subst ht6
     kernel_rfl
   ·refine zF _ rfl rfl kk hc2 rfl ?_
    refine zF _ rfl rfl kk hc2 rfl ?_
    refine zF _ rfl rfl kk hc2 rfl ?_
    refine zF _ rfl rfl kk hc2 rfl ?_
    refine zF _ rfl rfl kk hc2 rfl ?_
    refine zJ rfl (zA rfl (zT (b := ltI (w64 (0 - f1.1)) f1.2.1) (p := leI f1.2.1 f1.1) (q := false) rfl kk hc2 kk)) ?_
    refine XR 1 ?_
    refine zP (bif (ltI (w64 (0 - f1.1)) f1.2.1) then (leI f1.2.1 f1.1) else false) (fun hc3 => ?_) (fun hc3 => ?_)
    ·refine zB _ rfl rfl kk hc3 (zA rfl (qD (.pt 8 0) Tryz.underlying38 rfl sz3 rfl kk (by intro hh; cases hh))) ?_
     refine zB _ rfl rfl kk hc3 (zA rfl (qC (c := Ti f1.1) (cs := [Ti f1.2.1, Ti f1.2.2]) sc3 rfl kk)) ?_
     refine zB _ rfl rfl kk hc3 (zA rfl (qD (.pt 8 2) Tryz.underlying38 rfl sz3 rfl kk (by intro hh; cases hh))) ?_
     refine zB _ rfl rfl kk hc3 (zA rfl (qC (c := Ti f1.2.2) (cs := []) sc3 rfl kk)) ?_
     refine zB _ rfl rfl kk hc3 (zA rfl (Y0_ltw (k := .i64) (a := f1.1) (b := f1.2.2) rfl kk kk)) ?_
     refine zB _ rfl rfl kk hc3 (zA rfl (zY (Bo (ltI f1.1 f1.2.2)) rfl kk)) ?_
     refine zP (ltI f1.1 f1.2.2) (fun hc4 => ?_) (fun hc4 => ?_)
     ·refine zL _ rfl rfl kk hc4 rfl ?_
      refine zL _ rfl rfl kk hc4 rfl ?_
      refine zL _ rfl rfl kk hc4 rfl ?_
      refine zL _ rfl rfl kk hc4 rfl ?_
      refine zL _ rfl rfl kk hc4 rfl ?_
      refine zL _ rfl rfl kk hc4 rfl ?_
      refine qA rfl rfl kk rfl ?_
      refine qA rfl rfl kk rfl ?_
      refine qA rfl rfl kk rfl ?_
      refine zL _ rfl rfl kk hc4 rfl ?_
      refine zB _ rfl rfl kk hc3 (zA rfl (zW (b := ltI f1.1 f1.2.2) (p := true) (q := bif (eqI f1.1 f1.2.2) then (leI 0 f1.2.1) else false) rfl kk hc4 kk)) ?_
      refine zJ rfl (zA rfl (zW (b := bif (ltI (w64 (0 - f1.1)) f1.2.1) then (leI f1.2.1 f1.1) else false) (p := bif (ltI f1.1 f1.2.2) then true else (bif (eqI f1.1 f1.2.2) then (leI 0 f1.2.1) else false)) (q := false) rfl kk hc3 kk)) ?_
      refine XR 1 ?_
      refine zN ?_
      subst ht6
      kernel_rfl
     ·refine zB _ rfl rfl kk hc4 (zA rfl (qD (.pt 8 0) Tryz.underlying38 rfl sz3 rfl kk (by intro hh; cases hh))) ?_
      refine zB _ rfl rfl kk hc4 (zA rfl (qC (c := Ti f1.1) (cs := [Ti f1.2.1, Ti f1.2.2]) sc3 rfl kk)) ?_
      refine zB _ rfl rfl kk hc4 (zA rfl (qD (.pt 8 2) Tryz.underlying38 rfl sz3 rfl kk (by intro hh; cases hh))) ?_
      refine zB _ rfl rfl kk hc4 (zA rfl (qC (c := Ti f1.2.2) (cs := []) sc3 rfl kk)) ?_
      refine zB _ rfl rfl kk hc4 (zA rfl (Y0_eqw (k := .i64) (a := f1.1) (b := f1.2.2) rfl kk kk)) ?_
      refine zB _ rfl rfl kk hc4 (zA rfl (zY (Bo (eqI f1.1 f1.2.2)) rfl kk)) ?_
      refine zP (eqI f1.1 f1.2.2) (fun hc5 => ?_) (fun hc5 => ?_)
      ·refine zB _ rfl rfl kk hc5 (zA rfl (qD (.pt 8 1) Tryz.underlying38 rfl sz3 rfl kk (by intro hh; cases hh))) ?_
       refine zB _ rfl rfl kk hc5 (zA rfl (qC (c := Ti f1.2.1) (cs := [Ti f1.2.2]) sc3 rfl kk)) ?_
       refine zB _ rfl rfl kk hc5 (zA rfl (Y0_gew (k := .i64) (a := f1.2.1) (b := 0) rfl kk kk)) ?_
       refine zB _ rfl rfl kk hc4 (zA rfl (zW (b := eqI f1.1 f1.2.2) (p := leI 0 f1.2.1) (q := false) rfl kk hc5 kk)) ?_
       refine zB _ rfl rfl kk hc3 (zA rfl (zT (b := ltI f1.1 f1.2.2) (p := true) (q := bif (eqI f1.1 f1.2.2) then (leI 0 f1.2.1) else false) rfl kk hc4 kk)) ?_
       refine zJ rfl (zA rfl (zW (b := bif (ltI (w64 (0 - f1.1)) f1.2.1) then (leI f1.2.1 f1.1) else false) (p := bif (ltI f1.1 f1.2.2) then true else (bif (eqI f1.1 f1.2.2) then (leI 0 f1.2.1) else false)) (q := false) rfl kk hc3 kk)) ?_
       refine XR 1 ?_
       refine zN ?_
       subst ht6
       kernel_rfl
      ·refine zF _ rfl rfl kk hc5 rfl ?_
       refine zF _ rfl rfl kk hc5 rfl ?_
       refine zF _ rfl rfl kk hc5 rfl ?_
       refine zB _ rfl rfl kk hc4 (zA rfl (zT (b := eqI f1.1 f1.2.2) (p := leI 0 f1.2.1) (q := false) rfl kk hc5 kk)) ?_
       refine zB _ rfl rfl kk hc3 (zA rfl (zT (b := ltI f1.1 f1.2.2) (p := true) (q := bif (eqI f1.1 f1.2.2) then (leI 0 f1.2.1) else false) rfl kk hc4 kk)) ?_
       refine zJ rfl (zA rfl (zW (b := bif (ltI (w64 (0 - f1.1)) f1.2.1) then (leI f1.2.1 f1.1) else false) (p := bif (ltI f1.1 f1.2.2) then true else (bif (eqI f1.1 f1.2.2) then (leI 0 f1.2.1) else false)) (q := false) rfl kk hc3 kk)) ?_
       refine XR 1 ?_
       refine zN ?_
       subst ht6
       kernel_rfl
    ·refine zF _ rfl rfl kk hc3 rfl ?_
     refine zF _ rfl rfl kk hc3 rfl ?_
     refine zF _ rfl rfl kk hc3 rfl ?_
     refine zF _ rfl rfl kk hc3 rfl ?_
     refine zF _ rfl rfl kk hc3 rfl ?_
     refine zF _ rfl rfl kk hc3 rfl ?_
     refine qA rfl rfl kk rfl ?_
     refine qA rfl rfl kk rfl ?_
     refine qA rfl rfl kk rfl ?_
     refine qA rfl rfl kk rfl ?_
     refine qA rfl rfl kk rfl ?_
     refine qA rfl rfl kk rfl ?_
     refine qA rfl rfl kk rfl ?_
     refine qA rfl rfl kk rfl ?_
     refine qA rfl rfl kk rfl ?_
     refine qA rfl rfl kk rfl ?_
     refine zF _ rfl rfl kk hc3 rfl ?_
     refine zJ rfl (zA rfl (zT (b := bif (ltI (w64 (0 - f1.1)) f1.2.1) then (leI f1.2.1 f1.1) else false) (p := bif (ltI f1.1 f1.2.2) then true else (bif (eqI f1.1 f1.2.2) then (leI 0 f1.2.1) else false)) (q := false) rfl kk hc3 kk)) ?_
     refine XR 1 ?_
     refine zN ?_
     subst ht6
     kernel_rfl
  refine zR ?_
  obtain rfl := zE h
  show Post _ _ _ _ _
  exact ⟨.inr rfl, rfl, rfl, rfl⟩
theorem cf_spec_nuMod : ∀ args w, (callFunc 218 args).run Tryz.prog w = .ok (.enter 218 args) w := zI Tryz.func218 kk kk
theorem s_spec_nuMod {a1 : Int} {vm2 : Int} {r : Int} (h : r_spec_nuMod a1 vm2 = some r) : z7 Tryz.prog 218 [I a1, I vm2] (I r) [] := by
  refine zH (rs := [.t 4]) (vs := [.tmp 4]) Tryz.func218 rfl rfl (.cons rfl FitsL.nil) (by decide) 15 rfl ?_
  unfold r_spec_nuMod at h
  show V _ _ ⟨I a1 :: I vm2 :: bt 13 [], []⟩ _
  refine V_e (mb 15 3) [] (s1 := ⟨I a1 :: I vm2 :: bt 13 [], []⟩) ?_
  obtain ⟨z3, hz3, h⟩ := zD h
  obtain ⟨vr4, hvr4, h⟩ := qF h
  refine zG (mb 15 34) [] (s1 := ⟨.bot :: I vm2 :: bt 3 (I vr4 :: bt 9 []), []⟩) ?_ ?_
  ·refine XR 2 ?_
   refine L0 rfl rfl (Y0_rem (k := .i64) (a := a1) (b := vm2) rfl kk kk (nz_some hz3)) ?_
   refine XR 1 ?_
   refine zN ?_
   subst hvr4
   kernel_rfl
  refine zX ?_
  refine V_e (mb 15 1058) [] (s1 := ⟨.bot :: I vm2 :: bt 3 (I vr4 :: bt 4 (Bo (ltI vr4 0) :: bt 4 [])), []⟩) ?_
  refine zQ rfl (fun hc5 => ?_) (fun hc5 => ?_)
  ·have h := zM h hc5
   obtain ⟨vr6, hvr6, h⟩ := qF h
   refine V_reg (mb 15 32) [] (s1 := ⟨bt 5 (I vr6 :: bt 9 []), []⟩) ?_ ?_
   ·refine XR 4 ?_
    refine zN ?_
    subst hvr6
    kernel_rfl
   show V _ _ _ _
   refine V_e (mb 15 16) [] (s1 := ⟨bt 4 (I vr6 :: bt 10 []), []⟩) ?_
   refine zR ?_
   obtain rfl := zE h
   show Post _ _ _ _ _
   exact ⟨.inr rfl, rfl, rfl, rfl⟩
  ·have h := zK h hc5
   refine zV ?_
   show V _ _ _ _
   refine V_e (mb 15 16) [] (s1 := ⟨bt 4 (I vr4 :: bt 10 []), []⟩) ?_
   refine zR ?_
   obtain rfl := zE h
   show Post _ _ _ _ _
   exact ⟨.inr rfl, rfl, rfl, rfl⟩
theorem cf_spec_reNormal : ∀ args w, (callFunc 274 args).run Tryz.prog w = .ok (.enter 274 args) w := zI Tryz.func274 kk kk
theorem s_spec_reNormal {f1 : (Int × Int × Int)} {r : Int} (h : r_spec_reNormal f1 = some r) : z7 Tryz.prog 274 [.ag [Ti f1.1, Ti f1.2.1, Ti f1.2.2]] (I r) [] := by
  refine zH (rs := [.t 2]) (vs := [.tmp 2]) Tryz.func274 rfl rfl (.cons rfl FitsL.nil) (by decide) 22 rfl ?_
  unfold r_spec_reNormal at h
  show V _ _ ⟨.ag [Ti f1.1, Ti f1.2.1, Ti f1.2.2] :: bt 21 [], []⟩ _
  refine V_e (mb 22 2) [8] (s1 := ⟨.bot :: .pt 8 0 :: bt 20 [], [(8, .box [Ti f1.1, Ti f1.2.1, Ti f1.2.2])]⟩) ?_
  obtain ⟨y2, hy2, h⟩ := zD h
  obtain ⟨z3, hz3, h⟩ := zD h
  obtain ⟨t4, ht4, h⟩ := qF h
  refine V_sdreg [0, 1, 0, 4, 15, 0, 32, 0, 128, 480, 0, 1024, 3072, 8160, 16383, 0, 32768, 98304, 262143, 524287] 20 (cdm 20 [45276113056, 45276113057, 45276112906, 45276112922, 45276112981, 45141361322, 45141362346, 45141207722, 45141224106, 45141284522, 45097855658, 45098904234, 45103098538, 45119526570, 45186635093, 715827882, 1789569706, 6084537002, 22906492245, 91625968981]) (mb 22 4) [] (s1 := ⟨.bot :: .bot :: I t4 :: bt 19 [], []⟩) kk kk ?_ ?_
  ·refine DR 13 ?_
   refine DC 13 (s_spec_nuMod hy2) cf_spec_nuMod rfl rfl rfl rfl 16 rfl ?_
   refine DR 4 ?_
   refine DE_0 18 (I (w64 (Int.tdiv (w64 ((w64 (f1.1 - f1.2.1)) - y2)) (w64 (2 * f1.1))))) kk rfl rfl rfl (zO rfl) kk (Y0_quo64 (a := w64 ((w64 (f1.1 - f1.2.1)) - y2)) (b := w64 (2 * f1.1)) rfl kk kk (nz_some hz3)) 21 rfl ?_
   refine DA 1 ?_
   refine zN ?_
   subst ht4
   kernel_rfl
  refine zR ?_
  obtain rfl := zE h
  show Post _ _ _ _ _
  exact ⟨.inr rfl, rfl, rfl, rfl⟩
theorem cf_spec_reMove : ∀ args w, (callFunc 236 args).run Tryz.prog w = .ok (.enter 236 args) w := zI Tryz.func236 kk kk
theorem s_spec_reMove {f1 : (Int × Int × Int)} {r : (Int × Int × Int × Int)} (h : r_spec_reMove f1 = some r) : z7 Tryz.prog 236 [.ag [Ti f1.1, Ti f1.2.1, Ti f1.2.2]] (.ag [Ti r.1, Ti r.2.1, Ti r.2.2.1, Ti r.2.2.2]) [] := by
  refine zH (rs := [.w 2 4]) (vs := [.cell 2 109]) Tryz.func236 rfl rfl (.cons ⟨rfl, wd109⟩ FitsL.nil) (by decide) 14 rfl ?_
  unfold r_spec_reMove at h
  show V _ _ ⟨.ag [Ti f1.1, Ti f1.2.1, Ti f1.2.2] :: bt 13 [], []⟩ _
  refine V_e (mb 14 6) [16, 8] (s1 := ⟨.bot :: .pt 8 0 :: .pt 16 0 :: bt 11 [], [(16, .box [Ti 0, Ti 0, Ti 0, Ti 0]), (8, .box [Ti f1.1, Ti f1.2.1, Ti f1.2.2])]⟩) ?_
  refine zX ?_
  obtain ⟨y2, hy2, h⟩ := zD h
  refine zG (mb 14 14) [16, 8] (s1 := ⟨.bot :: .pt 8 0 :: .pt 16 0 :: I y2 :: bt 10 [], [(16, .box [Ti 0, Ti 0, Ti 0, Ti 0]), (8, .box [Ti f1.1, Ti f1.2.1, Ti f1.2.2])]⟩) ?_ ?_
  ·refine XR 1 ?_
   refine XC (s_spec_reNormal hy2) cf_spec_reNormal rfl rfl rfl ?_
   exact XE
  refine V_e (mb 14 142) [16, 8] (s1 := ⟨.bot :: .pt 8 0 :: .pt 16 0 :: I y2 :: bt 3 (Bo (!eqI y2 0) :: bt 6 []), [(16, .box [Ti 0, Ti 0, Ti 0, Ti 0]), (8, .box [Ti f1.1, Ti f1.2.1, Ti f1.2.2])]⟩) ?_
  refine zQ rfl (fun hc3 => ?_) (fun hc3 => ?_)
  ·have h := zM h hc3
   refine zG (mb 14 4) [16] (s1 := ⟨.bot :: .bot :: .pt 16 0 :: bt 11 [], [(16, .box [Ti 1, Ti y2, Ti 0, Ti 1])]⟩) ?_ ?_
   ·refine XR 1 ?_
    refine L0 rfl rfl (qE (cs := [Ti 1, Ti y2, Ti 0, Ti 1]) pl109 bt109 rfl rfl kk) ?_
    exact XE
   refine zR ?_
   obtain rfl := zE h
   show Post _ _ _ _ _
   exact ⟨.inr rfl, rfl, rfl, rfl⟩
  ·have h := zK h hc3
   refine zV ?_
   show V _ _ _ _
   refine zX ?_
   obtain ⟨y4, hy4, h⟩ := zD h
   refine zG (mb 14 2052) [16] (s1 := ⟨.bot :: .bot :: .pt 16 0 :: bt 8 (Bo y4 :: .bot :: .bot :: []), [(16, .box [Ti 0, Ti 0, Ti 0, Ti 0])]⟩) ?_ ?_
   ·refine XR 1 ?_
    refine XC (s_spec_reIs hy4) cf_spec_reIs rfl rfl rfl ?_
    exact XE
   refine zQ rfl (fun hc5 => ?_) (fun hc5 => ?_)
   ·have h := zM h hc5
    refine zG (mb 14 4) [16] (s1 := ⟨.bot :: .bot :: .pt 16 0 :: bt 11 [], [(16, .box [Ti 1, Ti 0, Ti 0, Ti 1])]⟩) ?_ ?_
    ·refine L0 rfl rfl (qE (cs := [Ti 1, Ti 0, Ti 0, Ti 1]) pl109 bt109 rfl rfl kk) ?_
     exact XE
    refine zR ?_
    obtain rfl := zE h
    show Post _ _ _ _ _
    exact ⟨.inr rfl, rfl, rfl, rfl⟩
   ·have h := zK h hc5
    refine zV ?_
    show V _ _ _ _
    refine zG (mb 14 4) [16] (s1 := ⟨.bot :: .bot :: .pt 16 0 :: bt 11 [], [(16, .box [Ti 0, Ti (-1), Ti 1, Ti 0])]⟩) ?_ ?_
    ·refine L0 rfl rfl (qE (cs := [Ti 0, Ti (-1), Ti 1, Ti 0]) pl109 bt109 rfl rfl kk) ?_
     exact XE
    refine zR ?_
    obtain rfl := zE h
    show Post _ _ _ _ _
    exact ⟨.inr rfl, rfl, rfl, rfl⟩
theorem cf_spec_foValue : ∀ args w, (callFunc 150 args).run Tryz.prog w = .ok (.enter 150 args) w := zI Tryz.func150 kk kk
theorem s_spec_foValue {f1 : (Int × Int × Int)} {x2 : Int} {y3 : Int} {r : Int} (h : r_spec_foValue f1 x2 y3 = some r) : z7 Tryz.prog 150 [.ag [Ti f1.1, Ti f1.2.1, Ti f1.2.2], I x2, I y3] (I r) [] := by
  refine zH (rs := [.t 6]) (vs := [.tmp 6]) Tryz.func150 rfl rfl (.cons rfl FitsL.nil) (by decide) 27 rfl ?_
  unfold r_spec_foValue at h
  show V _ _ ⟨.ag [Ti f1.1, Ti f1.2.1, Ti f1.2.2] :: I x2 :: I y3 :: bt 24 [], []⟩ _
  refine V_e (mb 27 14) [24] (s1 := ⟨.bot :: I x2 :: I y3 :: .pt 24 0 :: bt 23 [], [(24, .box [Ti f1.1, Ti f1.2.1, Ti f1.2.2])]⟩) ?_
  obtain ⟨t4, ht4, h⟩ := qF h
  refine zG (mb 27 64) [] (s1 := ⟨bt 6 (I t4 :: bt 20 []), []⟩) ?_ ?_
  ·refine XR 21 ?_
   refine zN ?_
   subst ht4
   kernel_rfl
  refine zR ?_
  obtain rfl := zE h
  show Post _ _ _ _ _
  exact ⟨.inr rfl, rfl, rfl, rfl⟩
theorem cf_spec_foPolar : ∀ args w, (callFunc 252 args).run Tryz.prog w = .ok (.enter 252 args) w := zI Tryz.func252 kk kk
theorem s_spec_foPolar {f1 : (Int × Int × Int)} {x2 : Int} {y3 : Int} {u4 : Int} {v5 : Int} {r : Int} (h : r_spec_foPolar f1 x2 y3 u4 v5 = some r) : z7 Tryz.prog 252 [.ag [Ti f1.1, Ti f1.2.1, Ti f1.2.2], I x2, I y3, I u4, I v5] (I r) [] := by
  refine zH (rs := [.t 10]) (vs := [.tmp 10]) Tryz.func252 rfl rfl (.cons rfl FitsL.nil) (by decide) 37 rfl ?_
  unfold r_spec_foPolar at h
  show V _ _ ⟨.ag [Ti f1.1, Ti f1.2.1, Ti f1.2.2] :: I x2 :: I y3 :: I u4 :: I v5 :: bt 32 [], []⟩ _
  refine V_e (mb 37 62) [40] (s1 := ⟨.bot :: I x2 :: I y3 :: I u4 :: I v5 :: .pt 40 0 :: bt 31 [], [(40, .box [Ti f1.1, Ti f1.2.1, Ti f1.2.2])]⟩) ?_
  obtain ⟨t6, ht6, h⟩ := qF h
  refine zG (mb 37 1024) [] (s1 := ⟨bt 10 (I t6 :: bt 26 []), []⟩) ?_ ?_
  ·refine XR 27 ?_
   refine zN ?_
   subst ht6
   kernel_rfl
  refine zR ?_
  obtain rfl := zE h
  show Post _ _ _ _ _
  exact ⟨.inr rfl, rfl, rfl, rfl⟩
theorem cf_spec_foAct : ∀ args w, (callFunc 198 args).run Tryz.prog w = .ok (.enter 198 args) w := zI Tryz.func198 kk kk
theorem s_spec_foAct {f1 : (Int × Int × Int)} {vm2 : (Int × Int × Int × Int)} {r : (Int × Int × Int)} (h : r_spec_foAct f1 vm2 = some r) : z7 Tryz.prog 198 [.ag [Ti f1.1, Ti f1.2.1, Ti f1.2.2], .ag [Ti vm2.1, Ti vm2.2.1, Ti vm2.2.2.1, Ti vm2.2.2.2]] (.ag [Ti r.1, Ti r.2.1, Ti r.2.2]) [] := by
  refine zH (rs := [.w 4 3]) (vs := [.cell 4 38]) Tryz.func198 rfl rfl (.cons ⟨rfl, wd38⟩ FitsL.nil) (by decide) 28 rfl ?_
  unfold r_spec_foAct at h
  show V _ _ ⟨.ag [Ti f1.1, Ti f1.2.1, Ti f1.2.2] :: .ag [Ti vm2.1, Ti vm2.2.1, Ti vm2.2.2.1, Ti vm2.2.2.2] :: bt 26 [], []⟩ _
  refine V_e (mb 28 28) [32, 24, 16] (s1 := ⟨.bot :: .bot :: .pt 16 0 :: .pt 24 0 :: .pt 32 0 :: bt 23 [], [(32, .box [Ti 0, Ti 0, Ti 0]), (24, .box [Ti vm2.1, Ti vm2.2.1, Ti vm2.2.2.1, Ti vm2.2.2.2]), (16, .box [Ti f1.1, Ti f1.2.1, Ti f1.2.2])]⟩) ?_
  obtain ⟨y3, hy3, h⟩ := zD h
  obtain ⟨y4, hy4, h⟩ := zD h
  obtain ⟨y5, hy5, h⟩ := zD h
  refine V_sdreg [0, 0, 2, 0, 8, 31, 0, 0, 128, 0, 512, 0, 2048, 0, 8192, 32767, 0, 0, 131072, 0, 524288, 2097151, 4194303, 8388607] 23 (cdm 23 [2929883521704, 2929883521666, 2929883521670, 2929883521066, 2929883521130, 2929883521365, 2929883515562, 2929883359914, 2929883376298, 2929880902314, 2929881164458, 2929841580714, 2929845775018, 2929212435114, 2929279543978, 2929525609813, 2923441072810, 2760232315562, 2777412184746, 183251937962, 458129844906, 1466015503701, 5864062014805]) (mb 28 16) [32] (s1 := ⟨bt 4 (.pt 32 0 :: bt 23 []), [(32, .box [Ti y3, Ti y4, Ti y5])]⟩) kk kk ?_ ?_
  ·refine DR 5 ?_
   refine DC 5 (s_spec_foValue hy3) cf_spec_foValue rfl rfl rfl rfl 10 rfl ?_
   refine DR 9 ?_
   refine DC 15 (s_spec_foPolar hy4) cf_spec_foPolar rfl rfl rfl rfl 20 rfl ?_
   refine DR 5 ?_
   refine DC 21 (s_spec_foValue hy5) cf_spec_foValue rfl rfl rfl rfl 26 rfl ?_
   refine DE_0 22 (.ag [Ti y3, Ti y4, Ti y5]) kk rfl rfl rfl (zO rfl) kk (qE (cs := [Ti y3, Ti y4, Ti y5]) pl38 bt38 rfl rfl kk) 27 rfl ?_
   refine DA 0 ?_
   exact XE
  refine zR ?_
  obtain rfl := zE h
  show Post _ _ _ _ _
  exact ⟨.inr rfl, rfl, rfl, rfl⟩
theorem cf_spec_foMul : ∀ args w, (callFunc 237 args).run Tryz.prog w = .ok (.enter 237 args) w := zI Tryz.func237 kk kk
theorem s_spec_foMul {vm1 : (Int × Int × Int × Int)} {vn2 : (Int × Int × Int × Int)} {r : (Int × Int × Int × Int)} (h : r_spec_foMul vm1 vn2 = some r) : z7 Tryz.prog 237 [.ag [Ti vm1.1, Ti vm1.2.1, Ti vm1.2.2.1, Ti vm1.2.2.2], .ag [Ti vn2.1, Ti vn2.2.1, Ti vn2.2.2.1, Ti vn2.2.2.2]] (.ag [Ti r.1, Ti r.2.1, Ti r.2.2.1, Ti r.2.2.2]) [] := by
  refine zH (rs := [.w 4 4]) (vs := [.cell 4 109]) Tryz.func237 rfl rfl (.cons ⟨rfl, wd109⟩ FitsL.nil) (by decide) 50 rfl ?_
  unfold r_spec_foMul at h
  show V _ _ ⟨.ag [Ti vm1.1, Ti vm1.2.1, Ti vm1.2.2.1, Ti vm1.2.2.2] :: .ag [Ti vn2.1, Ti vn2.2.1, Ti vn2.2.2.1, Ti vn2.2.2.2] :: bt 48 [], []⟩ _
  refine V_e (mb 50 28) [32, 24, 16] (s1 := ⟨.bot :: .bot :: .pt 16 0 :: .pt 24 0 :: .pt 32 0 :: bt 45 [], [(32, .box [Ti 0, Ti 0, Ti 0, Ti 0]), (24, .box [Ti vn2.1, Ti vn2.2.1, Ti vn2.2.2.1, Ti vn2.2.2.2]), (16, .box [Ti vm1.1, Ti vm1.2.1, Ti vm1.2.2.1, Ti vm1.2.2.2])]⟩) ?_
  obtain ⟨f3, hf3, h⟩ := qF h
  obtain ⟨f4, hf4, h⟩ := qF h
  obtain ⟨f5, hf5, h⟩ := qF h
  obtain ⟨f6, hf6, h⟩ := qF h
  refine zG (mb 50 16) [32] (s1 := ⟨bt 4 (.pt 32 0 :: bt 45 []), [(32, .box [Ti f3, Ti f4, Ti f5, Ti f6])]⟩) ?_ ?_
  ·refine XR 44 ?_
   refine L0 rfl rfl (qE (cs := [Ti (w64 ((w64 (vm1.1 * vn2.1)) + (w64 (vm1.2.1 * vn2.2.2.1)))), Ti (w64 ((w64 (vm1.1 * vn2.2.1)) + (w64 (vm1.2.1 * vn2.2.2.2)))), Ti (w64 ((w64 (vm1.2.2.1 * vn2.1)) + (w64 (vm1.2.2.2 * vn2.2.2.1)))), Ti (w64 ((w64 (vm1.2.2.1 * vn2.2.1)) + (w64 (vm1.2.2.2 * vn2.2.2.2))))]) pl109 bt109 rfl rfl kk) ?_
   refine XR 1 ?_
   refine zN ?_
   subst hf3 hf4 hf5 hf6
   kernel_rfl
  refine zR ?_
  obtain rfl := zE h
  show Post _ _ _ _ _
  exact ⟨.inr rfl, rfl, rfl, rfl⟩
end Go.Proofs.YtfmjfofocklgpaaGreatDoor
