/-
  Rules for writing memory.
  Conditions: none.
-/
import Derived.Test.YtnheekadeflecaaGreatShG
namespace Go.Proofs.YtnheekadeflecaaGreat
open Go.RowKit
set_option linter.unusedSimpArgs false
set_option linter.unusedVariables false

section
variable {P : Program}

theorem ment_far : ∀ (av : AV), ∃ N, ∀ d, N ≤ d → av.ment d = false
  | .ow id => ⟨id / 8 + 1, fun d h => by simp [AV.ment]; omega⟩
  | .pt id _ => ⟨id / 8 + 1, fun d h => by simp [AV.ment]; omega⟩
  | .po id _ _ _ => ⟨id / 8 + 1, fun d h => by simp [AV.ment]; omega⟩
  | .tc x r => by
    obtain ⟨a, ha⟩ := ment_far x
    obtain ⟨b, hb⟩ := ment_far r
    exact ⟨a + b, fun d h => by simp [AV.ment, ha d (by omega), hb d (by omega)]⟩
  | .bot => ⟨0, fun _ _ => rfl⟩
  | .c _ => ⟨0, fun _ _ => rfl⟩
  | .ag _ => ⟨0, fun _ _ => rfl⟩
  | .pe _ => ⟨0, fun _ _ => rfl⟩
  | .fn _ _ => ⟨0, fun _ _ => rfl⟩
  | .vw id _ _ => ⟨id / 8 + 1, fun d h => by simp [AV.ment]; omega⟩
  | .er _ => ⟨0, fun _ _ => rfl⟩
  | .sf id _ _ => ⟨id / 8 + 1, fun d h => by simp [AV.ment]; omega⟩
  | .tn => ⟨0, fun _ _ => rfl⟩
theorem Rel.mono0 {ok ok' : Nat → Prop} {σ : Nat → Loc} {w w' : World} {av : AV} {y : Value} (h : Rel ok σ w av y) (hok : ∀ g, ok g → ok' g) (hw : ∀ g, ok g → w'.heap[g]? = w.heap[g]?) : Rel ok' σ w' av y := by
  obtain ⟨N, hN⟩ := ment_far av
  exact h.mono N hok hw (hN N (Nat.le_refl _)) fun _ _ => rfl

/-! ### Writing -/
/-- A row of the call's own is written. -/
theorem R.write {B : Fr} {w0 : World} {ok0 ok : Nat → Prop} {σ : Nat → Loc} {s : St} {a : Act} {w : World} (h : R B w0 ok0 ok σ s a w) {id : Nat} {e e' : Ent} {g : Nat} (he : s.ent id = some e) (hg : (σ id).blk = some g) (arr : Array Value)
    (hcells : ∃ old T, w.heap[g]? = some (.cells old T (0, 0))) (E' : List (Nat × Ent)) (hE : ∀ j, (E'.lookup j) = if j = id then some e' else s.ent j) (hok : (∀ q, q ≠ g → (w.setRow g arr).heap[q]? = w.heap[q]?) → EntOk ok (w.setRow g arr) (σ id) e') (hpin : e'.pin = e.pin := by rfl) :
    R B w0 ok0 ok σ ⟨s.T, E'⟩ a (w.setRow g arr) := by
  obtain ⟨hb1, hb2⟩ := h.core.blk id e g he hg
  have hB := h.own id e g he hg
  have hw : ∀ q, q ≠ g → (w.setRow g arr).heap[q]? = w.heap[q]? := fun q hq => setRow_other w g q arr hq
  have hwok : ∀ q, ok q → (w.setRow g arr).heap[q]? = w.heap[q]? := fun q hq => hw q fun e => hb1 (e ▸ hq)
  have hsize : (w.setRow g arr).heap.size = w.heap.size := by simp [World.setRow]
  have look : ∀ j f, (St.mk s.T E').ent j = some f → (j = id ∧ f = e') ∨ (j ≠ id ∧ s.ent j = some f) := by
    intro j f hj
    have h1 : E'.lookup j = some f := hj
    rw [hE] at h1
    split at h1
    · rename_i hji
      exact .inl ⟨hji, by simpa using h1.symm⟩
    · rename_i hji
      exact .inr ⟨hji, h1⟩
  refine ⟨⟨h.core.len, fun q hq => by rw [hsize]; exact h.core.okL q hq, h.core.lib.mono (fun _ h => h) hwok, fun t => ?_, fun j f hj => ?_, fun j f q hj hq => ?_, fun i j f1 f2 q hi hj h1 h2 => ?_⟩, h.defers, h.below.trans ?_, by rw [hsize]; exact h.base, h.old, h.fresh, fun j f q hj hq => ?_⟩
  · have h1 := h.core.tmp t
    exact h1.mono0 (fun _ h => h) hwok
  · rcases look j f hj with ⟨rfl, rfl⟩ | ⟨h1, h2⟩
    · exact hok hw
    · refine (h.core.ent j f h2).mono (fun _ h => h) hwok fun q hq => hw q fun e1 => ?_
      subst e1
      exact h1 (h.core.inj _ _ _ _ _ h2 he hq hg)
  · rw [hsize]
    rcases look j f hj with ⟨rfl, rfl⟩ | ⟨h1, h2⟩
    · exact h.core.blk _ _ _ he hq
    · exact h.core.blk _ _ _ h2 hq
  · rcases look i f1 hi with ⟨a1, a2⟩ | ⟨a1, a2⟩ <;> rcases look j f2 hj with ⟨b1, b2⟩ | ⟨b1, b2⟩
    · omega
    · subst a1
      exact h.core.inj _ _ _ _ _ he b2 h1 h2
    · subst b1
      exact h.core.inj _ _ _ _ _ a2 he h1 h2
    · exact h.core.inj _ _ _ _ _ a2 b2 h1 h2
  · refine ⟨rfl, rfl, rfl, by rw [hsize]; exact Nat.le_refl _, fun q hq hx => hw q fun e1 => ?_⟩
    subst e1
    split at hB
    · exact hx hB
    · omega
  · rcases look j f hj with ⟨rfl, rfl⟩ | ⟨h1, h2⟩
    · rw [hpin]
      exact h.own _ _ _ he hq
    · exact h.own _ _ _ h2 hq

def setE (id : Nat) (e : Ent) : List (Nat × Ent) → List (Nat × Ent)
  | [] => []
  | p :: ps => bif p.1 == id then (id, e) :: ps else p :: setE id e ps
theorem setE_look (id : Nat) (e : Ent) : ∀ (E : List (Nat × Ent)) (f : Ent), E.lookup id = some f → ∀ j, (setE id e E).lookup j = if j = id then some e else E.lookup j
  | [], f, h, j => by simp at h
  | (p1, p2) :: ps, f, h, j => by
    simp only [setE]
    cases hp : (p1 == id) with
    | true =>
      have e1 : p1 = id := by simpa using hp
      subst e1
      simp only [cond_true, List.lookup]
      by_cases hj : j = p1
      · subst hj; simp
      · have : (j == p1) = false := by simpa using hj
        simp [this, hj]
    | false =>
      have hne : (id == p1) = false := by
        rw [beq_eq_false_iff_ne] at hp ⊢
        exact fun e => hp e.symm
      simp only [List.lookup, hne] at h
      have ih := setE_look id e ps f h j
      simp only [cond_false, List.lookup]
      cases hj : (j == p1) with
      | true =>
        have e1 : j = p1 := by simpa using hj
        subst e1
        have : ¬ j = id := by simpa using hp
        simp [this]
      | false => simpa using ih

theorem flatten_len : ∀ (els : List (List Tr)) (sz : Nat), (∀ e, e ∈ els → e.length = sz) → els.flatten.length = els.length * sz
  | [], sz, _ => by simp
  | e :: es, sz, h => by
    rw [List.flatten_cons, List.length_append, flatten_len es sz (fun x hx => h x (by simp [hx])), h e (by simp), List.length_cons, Nat.add_mul]
    omega
theorem flatten_splice : ∀ (els : List (List Tr)) (sz i off : Nat) (el m : List Tr), (∀ e, e ∈ els → e.length = sz) → els[i]? = some el → off + m.length ≤ el.length → (els.set i (splice el off m)).flatten = splice els.flatten (i * sz + off) m
  | [], _, i, _, _, _, _, h, _ => by simp at h
  | e :: es, sz, 0, off, el, m, hs, h, hl => by
    simp at h
    subst h
    unfold splice
    simp only [List.set_cons_zero, List.flatten_cons, Nat.zero_mul, Nat.zero_add]
    rw [List.take_append_of_le_length (by omega), List.drop_append_of_le_length hl]
    simp only [List.append_assoc]
  | e :: es, sz, i + 1, off, el, m, hs, h, hl => by
    have he : e.length = sz := hs e (by simp)
    have ih := flatten_splice es sz i off el m (fun x hx => hs x (by simp [hx])) (by simpa using h) hl
    simp only [List.set_cons_succ, List.flatten_cons, ih]
    unfold splice
    have e1 : (i + 1) * sz + off = e.length + (i * sz + off) := by rw [he, Nat.add_mul]; omega
    rw [e1, List.take_append, List.drop_append]
    have e2 : e.length + (i * sz + off) - e.length = i * sz + off := by omega
    have e3 : e.length + (i * sz + off) + m.length - e.length = i * sz + off + m.length := by omega
    rw [e2, e3, List.take_of_length_le (by omega : e.length ≤ e.length + (i * sz + off)), List.drop_eq_nil_of_le (by omega : e.length ≤ e.length + (i * sz + off) + m.length)]
    simp

theorem run_storeVar {t : TypeId} {w : World} {g off : Nat} {old : Array Value} {T : TypeId} {y : Value} {n : Nat} (hi : (P.info? t).map (·.size) = some n) (hy : y.cells.size = n) (hg : w.heap[g]? = some (.cells old T (0, 0))) (hl : off + n ≤ old.size) (h1 : ∀ v, v ∈ y.cells.toList → v.oneCell' = true) :
    (storeVar t ⟨g, off, none⟩ y).run P w = .ok () (w.setRow g (splice old.toList off y.cells.toList).toArray) := by
  have h2 := run_storeCells_at P g off T y.cells.toList 0 old w hg (by simp; omega) h1
  cases hq : P.info? t with
  | none => rw [hq] at hi; simp at hi
  | some i =>
    have h5 : i.size = n := by rw [hq] at hi; simpa using hi
    unfold storeVar
    simp [sizeOf, typeInfo, hq, h5, hy, h2, splice]
theorem X_store {o : Oper} {s : St} {t : TypeId} {x y : Operand} {id off : Nat} {cs vc : List Tr} (ho : o.op = .store t x y) (hd : o.dst = none) (hx : s.ev x = .pt id off) (he : s.ent id = some (.box cs)) (hy : avCells (s.ev y) = some vc) (hi : (P.info? t).map (·.size) = some vc.length) (hl : off + vc.length ≤ cs.length) :
    X P o s ⟨s.T, setE id (.box (splice cs off vc)) s.E⟩ := by
  intro B w0 ok0 ok σ a w hR K Q hK
  obtain ⟨g, arr, T, h1, h2, h3⟩ := hR.core.ent id _ he
  have h4 := hR.core.ev x
  rw [hx] at h4
  obtain ⟨g2, h5, h6⟩ := (h4 : Rel1 ok σ w (.pt id off) (a.eval x))
  rw [h1] at h5
  injection h5 with h5
  subst h5
  have h7 := avCells_rel (hR.core.ev y) hy
  have h8 := h7.len
  have h9 := h3.len
  have hrun := run_storeVar (P := P) (w := w) (g := g) (off := off) (y := a.eval y) hi (by simpa using h8.symm) h2 (by simp at h9; omega) h7.one
  unfold Oper.wp execOp
  simp only [ho, h6, Instr.storeAt, Instr.sureAddr, Sem.run_bind, Sem.run_pure, Result.andThen_ok, hrun, Oper.upon, hd]
  refine hK _ _ ok σ (hR.write he h1 _ ⟨arr, T, h2⟩ _ (setE_look id _ s.E _ he) fun hw => ?_)
  refine ⟨g, _, T, h1, setRow_heap w g arr _ T _ h2, ?_⟩
  have hmono : ∀ q, ok q → (w.setRow g (splice arr.toList off (a.eval y).cells.toList).toArray).heap[q]? = w.heap[q]? := fun q hq => hw q fun e => (hR.core.blk id _ g he h1).1 (e ▸ hq)
  simpa using (h3.splice off h7).mono (fun _ h => h) hmono
theorem X_storep {o : Oper} {s : St} {t : TypeId} {x y : Operand} {id off : Nat} {l : Loc} {cs vc : List Tr} (ho : o.op = .store t x y) (hd : o.dst = none) (hx : s.ev x = .pt id off) (he : s.ent id = some (.pbox l cs)) (hy : avCells (s.ev y) = some vc) (hi : (P.info? t).map (·.size) = some vc.length) (hl : off + vc.length ≤ cs.length) :
    X P o s ⟨s.T, setE id (.pbox l (splice cs off vc)) s.E⟩ := by
  intro B w0 ok0 ok σ a w hR K Q hK
  obtain ⟨h0, g, arr, T, h1, h2, h3⟩ := hR.core.ent id _ he
  have h4 := hR.core.ev x
  rw [hx] at h4
  obtain ⟨g2, h5, h6⟩ := (h4 : Rel1 ok σ w (.pt id off) (a.eval x))
  rw [h1] at h5
  injection h5 with h5
  subst h5
  have h7 := avCells_rel (hR.core.ev y) hy
  have h8 := h7.len
  have h9 := h3.len
  have hrun := run_storeVar (P := P) (w := w) (g := g) (off := off) (y := a.eval y) hi (by simpa using h8.symm) h2 (by simp at h9; omega) h7.one
  unfold Oper.wp execOp
  simp only [ho, h6, Instr.storeAt, Instr.sureAddr, Sem.run_bind, Sem.run_pure, Result.andThen_ok, hrun, Oper.upon, hd]
  refine hK _ _ ok σ (hR.write he h1 _ ⟨arr, T, h2⟩ _ (setE_look id _ s.E _ he) (fun hw => ?_) rfl)
  refine ⟨h0, g, _, T, h1, setRow_heap w g arr _ T _ h2, ?_⟩
  have hmono : ∀ q, ok q → (w.setRow g (splice arr.toList off (a.eval y).cells.toList).toArray).heap[q]? = w.heap[q]? := fun q hq => hw q fun e => (hR.core.blk id _ g he h1).1 (e ▸ hq)
  simpa using (h3.splice off h7).mono (fun _ h => h) hmono
theorem splice_take {α : Type} (l : List α) (n o : Nat) (m : List α) (h : o + m.length ≤ n) (hn : n ≤ l.length) : (splice l o m).take n = splice (l.take n) o m := by
  unfold splice
  apply List.ext_getElem?
  intro j
  simp only [List.getElem?_take, List.getElem?_append, List.length_take, List.length_append, List.getElem?_drop]
  have e1 : min o (min n l.length) = o := by omega
  have e2 : min o l.length = o := by omega
  rw [e1, e2]
  by_cases h1 : j < n
  · simp only [h1, if_true]
    by_cases h2 : j < o + m.length
    · simp only [h2, if_true]
    · simp only [h2, if_false]
      rw [if_pos (by omega)]
  · simp only [h1, if_false]
    rw [if_neg (by omega), if_neg (by omega)]
theorem X_storeo {o : Oper} {s : St} {t : TypeId} {x y : Operand} {id sz i off T0 : Nat} {els : List (List Tr)} {el vc : List Tr} (ho : o.op = .store t x y) (hd : o.dst = none) (hx : s.ev x = .po id sz i off) (he : s.ent id = some (.arr T0 sz els)) (hel : els[i]? = some el) (hy : avCells (s.ev y) = some vc)
    (hi : (P.info? t).map (·.size) = some vc.length) (hl : off + vc.length ≤ el.length) : X P o s ⟨s.T, setE id (.arr T0 sz (els.set i (splice el off vc))) s.E⟩ := by
  intro B w0 ok0 ok σ a w hR K Q hK
  obtain ⟨h0, hn, hs, vs, h1, h2⟩ := hR.core.ent id _ he
  have hil : i < els.length := by
    rcases Nat.lt_or_ge i els.length with h | h
    · exact h
    · rw [List.getElem?_eq_none h] at hel; cases hel
  have hsz : el.length = sz := hs el (List.mem_of_getElem? hel)
  have h4 := hR.core.ev x
  rw [hx] at h4
  obtain ⟨g, h5, h6⟩ := (h4 : Rel1 ok σ w (.po id sz i off) (a.eval x))
  rcases h1.2 with ⟨hv, hv0⟩ | ⟨g2, cap, cur, hv, hb, hg, hnc, hcm, hcs, htake⟩
  · omega
  · have hg2 : g2 = g := by
      unfold ownVal at hv
      rw [h5] at hv
      injection hv with h8
      simp at h8
      exact h8.symm
    subst hg2
    have h7 := avCells_rel (hR.core.ev y) hy
    have h8 := h7.len
    have hfit : i * sz + sz ≤ els.length * sz := by
      have := Nat.mul_le_mul_right sz (show i + 1 ≤ els.length from hil)
      rwa [Nat.add_mul, Nat.one_mul] at this
    have hfit2 : els.length * sz ≤ cur.size := by rw [hcs]; exact Nat.mul_le_mul_right _ hnc
    have hrun := run_storeVar (P := P) (w := w) (g := g2) (off := i * sz + off) (y := a.eval y) hi (by simpa using h8.symm) hg (by omega) h7.one
    unfold Oper.wp execOp
    simp only [ho, h6, Instr.storeAt, Instr.sureAddr, Sem.run_bind, Sem.run_pure, Result.andThen_ok, hrun, Oper.upon, hd]
    refine hK _ _ ok σ (hR.write he h5 _ ⟨cur, T0, hg⟩ _ (setE_look id _ s.E _ he) fun hw => ?_)
    have hmono : ∀ q, ok q → (w.setRow g2 (splice cur.toList (i * sz + off) (a.eval y).cells.toList).toArray).heap[q]? = w.heap[q]? := fun q hq => hw q fun e => (hR.core.blk id _ g2 he h5).1 (e ▸ hq)
    have hlen : (splice el off vc).length = sz := by rw [splice_len _ _ _ hl, hsz]
    have hcl : (a.eval y).cells.toList.length = vc.length := by rw [h8]
    refine ⟨h0, by simpa using hn, fun e hm => ?_, splice vs (i * sz + off) (a.eval y).cells.toList, ⟨?_, .inr ⟨g2, cap, _, by rw [List.length_set]; exact hv, hb, setRow_heap w g2 cur _ T0 _ hg, by simpa using hnc, hcm, ?_, ?_⟩⟩, ?_⟩
    · rcases List.mem_or_eq_of_mem_set hm with h9 | h9
      · exact hs e h9
      · rw [h9]; exact hlen
    · rw [splice_len _ _ _ (by rw [h1.1, hcl]; omega), h1.1, List.length_set]
    · simp only [List.size_toArray]
      have hq : cur.toList.length = cur.size := Array.length_toList
      rw [splice_len _ _ _ (by rw [hcl, hq]; omega), hq, hcs]
    · simp only [List.length_set]
      show (splice cur.toList (i * sz + off) (a.eval y).cells.toList).take (els.length * sz) = _
      rw [splice_take _ _ _ _ (by rw [hcl]; omega) (by simpa using hfit2), htake]
    · rw [flatten_splice els sz i off el vc hs hel hl]
      exact (h2.splice _ h7).mono (fun _ h => h) hmono
theorem X_storeop {l : Loc} {o : Oper} {s : St} {t : TypeId} {x y : Operand} {id sz i off T0 : Nat} {els : List (List Tr)} {el vc : List Tr} (ho : o.op = .store t x y) (hd : o.dst = none) (hx : s.ev x = .po id sz i off) (he : s.ent id = some (.parr l T0 sz els)) (hel : els[i]? = some el) (hy : avCells (s.ev y) = some vc)
    (hi : (P.info? t).map (·.size) = some vc.length) (hl : off + vc.length ≤ el.length) : X P o s ⟨s.T, setE id (.parr l T0 sz (els.set i (splice el off vc))) s.E⟩ := by
  intro B w0 ok0 ok σ a w hR K Q hK
  obtain ⟨hl0, h0, hn, hs, vs, h1, h2⟩ := hR.core.ent id _ he
  have hil : i < els.length := by
    rcases Nat.lt_or_ge i els.length with h | h
    · exact h
    · rw [List.getElem?_eq_none h] at hel; cases hel
  have hsz : el.length = sz := hs el (List.mem_of_getElem? hel)
  have h4 := hR.core.ev x
  rw [hx] at h4
  obtain ⟨g, h5, h6⟩ := (h4 : Rel1 ok σ w (.po id sz i off) (a.eval x))
  rcases h1.2 with ⟨hv, hv0⟩ | ⟨g2, cap, cur, hv, hb, hg, hnc, hcm, hcs, htake⟩
  · omega
  · have hg2 : g2 = g := by
      unfold ownVal at hv
      rw [h5] at hv
      injection hv with h8
      simp at h8
      exact h8.symm
    subst hg2
    have h7 := avCells_rel (hR.core.ev y) hy
    have h8 := h7.len
    have hfit : i * sz + sz ≤ els.length * sz := by
      have := Nat.mul_le_mul_right sz (show i + 1 ≤ els.length from hil)
      rwa [Nat.add_mul, Nat.one_mul] at this
    have hfit2 : els.length * sz ≤ cur.size := by rw [hcs]; exact Nat.mul_le_mul_right _ hnc
    have hrun := run_storeVar (P := P) (w := w) (g := g2) (off := i * sz + off) (y := a.eval y) hi (by simpa using h8.symm) hg (by omega) h7.one
    unfold Oper.wp execOp
    simp only [ho, h6, Instr.storeAt, Instr.sureAddr, Sem.run_bind, Sem.run_pure, Result.andThen_ok, hrun, Oper.upon, hd]
    refine hK _ _ ok σ (hR.write he h5 _ ⟨cur, T0, hg⟩ _ (setE_look id _ s.E _ he) (fun hw => ?_) rfl)
    have hmono : ∀ q, ok q → (w.setRow g2 (splice cur.toList (i * sz + off) (a.eval y).cells.toList).toArray).heap[q]? = w.heap[q]? := fun q hq => hw q fun e => (hR.core.blk id _ g2 he h5).1 (e ▸ hq)
    have hlen : (splice el off vc).length = sz := by rw [splice_len _ _ _ hl, hsz]
    have hcl : (a.eval y).cells.toList.length = vc.length := by rw [h8]
    refine ⟨hl0, h0, by simpa using hn, fun e hm => ?_, splice vs (i * sz + off) (a.eval y).cells.toList, ⟨?_, .inr ⟨g2, cap, _, by rw [List.length_set]; exact hv, hb, setRow_heap w g2 cur _ T0 _ hg, by simpa using hnc, hcm, ?_, ?_⟩⟩, ?_⟩
    · rcases List.mem_or_eq_of_mem_set hm with h9 | h9
      · exact hs e h9
      · rw [h9]; exact hlen
    · rw [splice_len _ _ _ (by rw [h1.1, hcl]; omega), h1.1, List.length_set]
    · simp only [List.size_toArray]
      have hq : cur.toList.length = cur.size := Array.length_toList
      rw [splice_len _ _ _ (by rw [hcl, hq]; omega), hq, hcs]
    · simp only [List.length_set]
      show (splice cur.toList (i * sz + off) (a.eval y).cells.toList).take (els.length * sz) = _
      rw [splice_take _ _ _ _ (by rw [hcl]; omega) (by simpa using hfit2), htake]
    · rw [flatten_splice els sz i off el vc hs hel hl]
      exact (h2.splice _ h7).mono (fun _ h => h) hmono
end
end Go.Proofs.YtnheekadeflecaaGreat
