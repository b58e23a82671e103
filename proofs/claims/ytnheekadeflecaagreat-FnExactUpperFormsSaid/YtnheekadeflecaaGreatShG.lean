/-
  Rules for reading memory.
  Conditions: none.
-/
import Derived.Test.YtnheekadeflecaaGreatShF
namespace Go.Proofs.YtnheekadeflecaaGreat
open Go.RowKit
set_option linter.unusedSimpArgs false
set_option linter.unusedVariables false

section
variable {P : Program}

def evP (s : St) : List (Nat × Operand) → List (Nat × AV)
  | [] => []
  | p :: ps => (p.1, s.ev p.2) :: evP s ps
theorem evP_rel {ok : Nat → Prop} {σ : Nat → Loc} {s : St} {a : Act} {w : World} (h : Core ok σ s a w) : ∀ (ps : List (Nat × Operand)), RelP ok σ w (evP s ps) (ps.map fun p => (p.1, a.eval p.2))
  | [] => .nil
  | p :: ps => .cons (h.ev p.2) (evP_rel h ps)
theorem Y0_build {o : Oper} {s : St} {t : TypeId} {parts : Array (Nat × Operand)} {z : Array Value} {cs : List Tr} (place : Nat → Option (Nat × Nat)) (hb : ∀ ps, P.built t ps = Instr.fill place z ps) (ho : o.op = .build t parts) (hz : cellsAll z = true)
    (hf : fillT place (z.toList.map Tr.v) (evP s parts.toList) = some cs) : Y0 P o s (.ag cs) :=
  Y0_of_run fun ok σ a w hC => by
    obtain ⟨arr, h1, h2⟩ := fillT_rel place (evP_rel hC parts.toList) _ z cs (RdL_v ok w _ hz) hf
    refine ⟨.agg arr, ?_, ⟨arr, rfl, h2⟩⟩
    have h3 := run_build (P := P) w t (parts.map fun (i, x) => (i, a.eval x)) arr (by
      rw [hb]
      simpa using h1)
    unfold execOp
    rw [ho]
    simp only [Sem.run_bind, h3, Result.andThen_ok, Sem.run_pure]

/-! ### Reading through pointers -/
def memCells (s : St) : AV → Option (List Tr)
  | .pt id off => match s.entc id with
    | some (.box cs) => some (cs.drop off)
    | _ => none
  | .po id sz i off => match s.entc id with
    | some (.arr _ z els) => if z = sz then (match els[i]? with
      | some el => some (el.drop off)
      | none => none) else none
    | _ => none
  | .pe cs => some cs
  | _ => none
theorem flat_at : ∀ (els : List (List Tr)) (sz i j : Nat) (el : List Tr) (c : Tr), (∀ e, e ∈ els → e.length = sz) → els[i]? = some el → el[j]? = some c → els.flatten[i * sz + j]? = some c
  | [], _, i, _, _, _, _, h, _ => by simp at h
  | e :: es, sz, 0, j, el, c, hs, h, hc => by
    simp at h
    subst h
    rw [List.flatten_cons, Nat.zero_mul, Nat.zero_add, List.getElem?_append_left (by
      rcases Nat.lt_or_ge j e.length with h1 | h1
      · exact h1
      · rw [List.getElem?_eq_none h1] at hc; cases hc)]
    exact hc
  | e :: es, sz, i + 1, j, el, c, hs, h, hc => by
    have hl : e.length = sz := hs e (by simp)
    rw [List.flatten_cons, List.getElem?_append_right (by rw [hl, Nat.add_mul]; omega)]
    have e1 : (i + 1) * sz + j - e.length = i * sz + j := by rw [hl, Nat.add_mul]; omega
    rw [e1]
    exact flat_at es sz i j el c (fun x hx => hs x (by simp [hx])) (by simpa using h) hc
theorem own_vals {w : World} {e : TypeId} {sz : Nat} {l : Loc} {n : Nat} {vs : List Value} (h : w.ownsRow 0 e sz (ownVal l) n vs) {g : Nat} (hg : l.blk = some g) : ∀ j u, vs[j]? = some u → w.cell? ⟨g, j, none⟩ = some u := by
  intro j u hu
  have h1 := h.cells (g := g) (by simp [ownVal, hg, Value.ownBlock]) j u hu
  rw [add_none] at h1
  simpa using h1
theorem own_blk {w : World} {e : TypeId} {sz : Nat} {l : Loc} {n : Nat} {vs : List Value} (h : w.ownsRow 0 e sz (ownVal l) n vs) (hn : 0 < n) : ∃ g, l.blk = some g := by
  obtain ⟨g, cap, hv, _⟩ := h.form hn
  unfold ownVal at hv
  injection hv with h1
  cases hb : l.blk with
  | none => rw [hb] at h1; cases h1
  | some g => exact ⟨g, rfl⟩
/-- What a pointer that can be read points at. -/
theorem mem_read {ok : Nat → Prop} {σ : Nat → Loc} {s : St} {a : Act} {w : World} (h : Core ok σ s a w) {av : AV} {y : Value} {cs : List Tr} (hr : Rel ok σ w av y) (hm : memCells s av = some cs) :
    ∃ g off, y = .pointer (some ⟨g, off, none⟩) ∧ ∀ j c, cs[j]? = some c → ∃ u, w.cell? ⟨g, off + j, none⟩ = some u ∧ Rd ok w c u := by
  cases av with
  | pt id off =>
    simp only [memCells] at hm
    cases he : s.entc id with
    | none => simp [he] at hm
    | some e =>
      cases e with
      | arr => simp [he] at hm
      | pbox => simp [he] at hm
      | parr => simp [he] at hm
      | mp => simp [he] at hm
      | qarr => simp [he] at hm
      | box ds =>
        simp only [he] at hm
        injection hm with hm
        subst hm
        obtain ⟨g, h1, h2⟩ := (hr : Rel1 ok σ w (.pt id off) y)
        obtain ⟨g2, arr, T, h3, h4, h5⟩ := h.entc id _ he
        rw [h1] at h3
        injection h3 with h3
        subst h3
        refine ⟨g, off, h2, fun j c hj => ?_⟩
        obtain ⟨u, h6, h7⟩ := h5.get (off + j) c (by simpa using hj)
        exact ⟨u, by rw [cell_of_row w g _ arr T _ h4]; simpa using h6, h7⟩
  | po id sz i off =>
    simp only [memCells] at hm
    cases he : s.entc id with
    | none => simp [he] at hm
    | some e =>
      cases e with
      | box => simp [he] at hm
      | pbox => simp [he] at hm
      | parr => simp [he] at hm
      | mp => simp [he] at hm
      | qarr => simp [he] at hm
      | arr T z els =>
        simp only [he] at hm
        split at hm
        · rename_i hz
          subst hz
          cases hi : els[i]? with
          | none => simp [hi] at hm
          | some el =>
            simp only [hi] at hm
            injection hm with hm
            subst hm
            obtain ⟨g, h1, h2⟩ := (hr : Rel1 ok σ w (.po id z i off) y)
            obtain ⟨h0, hn, hs, vs, h3, h4⟩ := h.entc id _ he
            refine ⟨g, i * z + off, h2, fun j c hj => ?_⟩
            have h5 := flat_at els z i (off + j) el c hs hi (by simpa using hj)
            obtain ⟨u, h6, h7⟩ := h4.get _ c h5
            refine ⟨u, ?_, h7⟩
            have h8 := own_vals h3 h1 _ u h6
            rw [← Nat.add_assoc] at h8
            exact h8
        · cases hm
  | pe ds =>
    obtain ⟨g, off, h1, h2, h3⟩ := (hr : Rel1 ok σ w (.pe ds) y)
    simp only [memCells] at hm
    injection hm with hm
    subst hm
    exact ⟨g, off, h2, h3⟩
  | _ => simp [memCells] at hm
def aggD : TypeDesc → Bool
  | .struct _ => true
  | .array _ _ => true
  | _ => false
def scalar (P : Program) (t : TypeId) : Prop := ∃ d, P.underlying t = some d ∧ aggD d = false
def wide (P : Program) (t : TypeId) (n : Nat) : Prop := (∃ d, P.underlying t = some d ∧ aggD d = true) ∧ (P.info? t).map (·.size) = some n
theorem run_isAgg {t : TypeId} {d : TypeDesc} (h : P.underlying t = some d) (w : World) : (isAgg t).run P w = .ok (aggD d) w := by
  unfold isAgg
  simp only [Sem.run_bind, run_underlying h, Result.andThen_ok]
  cases d <;> rfl
theorem run_loadVar1 {t : TypeId} (hs : scalar P t) {w : World} {g off : Nat} {u : Value} (h : w.cell? ⟨g, off, none⟩ = some u) : (loadVar t ⟨g, off, none⟩).run P w = .ok u w := by
  obtain ⟨d, h1, h2⟩ := hs
  unfold loadVar
  simp only [Sem.run_bind, run_isAgg h1, h2, Result.andThen_ok, Bool.false_eq_true, if_false, run_load, h]
theorem run_loadVarN {t : TypeId} {n : Nat} (hs : wide P t n) {w : World} {g off : Nat} {vs : List Value} (hl : vs.length = n) (h : ∀ j u, vs[j]? = some u → w.cell? ⟨g, off + j, none⟩ = some u) : (loadVar t ⟨g, off, none⟩).run P w = .ok (.agg vs.toArray) w := by
  obtain ⟨⟨d, h1, h2⟩, h3⟩ := hs
  have h4 := run_loadCells_list (P := P) w ⟨g, off, none⟩ vs (fun j u hu => by rw [add_none]; exact h j u hu)
  cases hi : P.info? t with
  | none => rw [hi] at h3; simp at h3
  | some i =>
    have h5 : i.size = n := by rw [hi] at h3; simpa using h3
    rw [hl] at h4
    unfold loadVar
    simp [run_isAgg h1, h2, sizeOf, typeInfo, hi, h5, h4]
theorem Y0_load1 {o : Oper} {s : St} {t : TypeId} {x : Operand} {c : Tr} {cs : List Tr} (hs : scalar P t) (ho : o.op = .load t x) (hm : memCells s (s.ev x) = some (c :: cs)) : Y0 P o s (.c c) :=
  Y0_of_run fun ok σ a w hC => by
    obtain ⟨g, off, h1, h2⟩ := mem_read hC (hC.ev x) hm
    obtain ⟨u, h3, h4⟩ := h2 0 c rfl
    refine ⟨u, ?_, h4⟩
    unfold execOp
    rw [ho]
    simp only [h1, Instr.loadAt, Instr.sureAddr, Sem.run_bind, Sem.run_pure, Result.andThen_ok, run_loadVar1 hs (show w.cell? ⟨g, off, none⟩ = some u from h3)]
theorem exists_vals {ok : Nat → Prop} {w : World} (g off : Nat) : ∀ (cs : List Tr) (k : Nat), (∀ j c, cs[j]? = some c → ∃ u, w.cell? ⟨g, off + (k + j), none⟩ = some u ∧ Rd ok w c u) → ∃ vs, RdL ok w cs vs ∧ ∀ j u, vs[j]? = some u → w.cell? ⟨g, off + (k + j), none⟩ = some u
  | [], k, _ => ⟨[], .nil, fun j u h => by simp at h⟩
  | c :: cs, k, h => by
    obtain ⟨u, h1, h2⟩ := h 0 c rfl
    obtain ⟨vs, h3, h4⟩ := exists_vals g off cs (k + 1) fun j d hj => by
      have := h (j + 1) d (by simpa using hj)
      rwa [show k + (j + 1) = k + 1 + j by omega] at this
    refine ⟨u :: vs, .cons h2 h3, fun j v hv => ?_⟩
    cases j with
    | zero => simp at hv; subst hv; exact h1
    | succ j =>
      have := h4 j v (by simpa using hv)
      rwa [show k + 1 + j = k + (j + 1) by omega] at this
theorem Y0_loadn {o : Oper} {s : St} {t : TypeId} {x : Operand} {n : Nat} {cs : List Tr} (hs : wide P t n) (ho : o.op = .load t x) (hm : memCells s (s.ev x) = some cs) (hn : n ≤ cs.length) : Y0 P o s (.ag (cs.take n)) :=
  Y0_of_run fun ok σ a w hC => by
    obtain ⟨g, off, h1, h2⟩ := mem_read hC (hC.ev x) hm
    obtain ⟨vs, h3, h4⟩ := exists_vals g off (cs.take n) 0 fun j c hj => by
      have := h2 j c (by
        rw [List.getElem?_take] at hj
        split at hj
        · exact hj
        · cases hj)
      simpa using this
    have hl : vs.length = n := by rw [← h3.len]; simp; omega
    have h5 := run_loadVarN (P := P) hs (g := g) (off := off) hl (fun j u hu => by simpa using h4 j u hu)
    refine ⟨.agg vs.toArray, ?_, ⟨_, rfl, by simpa using h3⟩⟩
    unfold execOp
    rw [ho]
    simp only [h1, Instr.loadAt, Instr.sureAddr, Sem.run_bind, Sem.run_pure, Result.andThen_ok, h5]
def AV.adv (n : Nat) : AV → AV
  | .pt id off => .pt id (off + n)
  | .po id sz i off => .po id sz i (off + n)
  | .pe cs => .pe (cs.drop n)
  | _ => .bot
theorem adv_rel {ok : Nat → Prop} {σ : Nat → Loc} {w : World} {av : AV} {y : Value} (n : Nat) (h : Rel ok σ w av y) (hb : av.adv n ≠ .bot) : ∃ g off, y = .pointer (some ⟨g, off, none⟩) ∧ Rel ok σ w (av.adv n) (.pointer (some ⟨g, off + n, none⟩)) := by
  cases av with
  | pt id off =>
    obtain ⟨g, h1, h2⟩ := (h : Rel1 ok σ w (.pt id off) y)
    exact ⟨g, off, h2, ⟨g, h1, rfl⟩⟩
  | po id sz i off =>
    obtain ⟨g, h1, h2⟩ := (h : Rel1 ok σ w (.po id sz i off) y)
    exact ⟨g, i * sz + off, h2, ⟨g, h1, by rw [Nat.add_assoc]⟩⟩
  | pe cs =>
    obtain ⟨g, off, h1, h2, h3⟩ := (h : Rel1 ok σ w (.pe cs) y)
    refine ⟨g, off, h2, ⟨g, off + n, h1, rfl, fun j c hj => ?_⟩⟩
    rw [Nat.add_assoc]
    exact h3 (n + j) c (by simpa using hj)
  | _ => exact absurd rfl hb
theorem Y0_field {o : Oper} {s : St} {t : TypeId} {x : Operand} {f : Nat} {fields : Array Field} {fd : Field} {n : Nat} (hu : P.underlying t = some (.struct fields)) (hfd : fields[f]? = some fd) (hsz : ((P.info? fd.type).map (·.size)) = some (n + 1)) (ho : o.op = .fieldAddr t x f)
    (hb : (s.ev x).adv fd.offset ≠ .bot) : Y0 P o s ((s.ev x).adv fd.offset) :=
  Y0_of_run fun ok σ a w hC => by
    obtain ⟨g, off, h1, h2⟩ := adv_rel fd.offset (hC.ev x) hb
    refine ⟨_, ?_, h2⟩
    cases hi : P.info? fd.type with
    | none => rw [hi] at hsz; simp at hsz
    | some i =>
      have h5 : i.size = n + 1 := by rw [hi] at hsz; simpa using hsz
      unfold execOp
      rw [ho]
      simp [h1, Instr.fieldAt, run_underlying hu, hfd, Instr.sureAddr, fieldPlace, sizeOf, typeInfo, hi, h5, add_none]
theorem Y0_nilCheck {o : Oper} {s : St} {x : Operand} (ho : o.op = .nilCheck x) (hb : (s.ev x).adv 0 ≠ .bot) : Y0 P o s (s.ev x) :=
  Y0_of_run fun ok σ a w hC => by
    obtain ⟨g, off, h1, h2⟩ := adv_rel 0 (hC.ev x) hb
    refine ⟨a.eval x, ?_, hC.ev x⟩
    unfold execOp
    rw [ho]
    simp only [h1]
    rfl
theorem Y0_idx {o : Oper} {s : St} {t e : TypeId} {x ix : Operand} {els : List (List Tr)} {el : List Tr} {k : IntKind} {n : Int} (hu : P.underlying t = some (.slice e)) (hsz : ∃ z, (P.info? e).map (·.size) = some z ∧ z = el.length) (ho : o.op = .indexAddr t x ix) (hx : s.ev x = .c (.sl els)) (hi : s.ev ix = .c (.v (.int k n)))
    (h0 : 0 ≤ n) (he : els[n.toNat]? = some el) : Y0 P o s (.pe el) :=
  Y0_of_run fun ok σ a w hC => by
    have h1 := hC.ev x
    rw [hx] at h1
    have h2 := hC.exact hi
    have hlt : n.toNat < els.length := by
      rcases Nat.lt_or_ge n.toNat els.length with h | h
      · exact h
      · rw [List.getElem?_eq_none h] at he; cases he
    obtain ⟨z, hz1, hz2⟩ := hsz
    cases hii : P.info? e with
    | none => rw [hii] at hz1; simp at hz1
    | some i =>
      have h5 : i.size = el.length := by rw [hii] at hz1; simp at hz1; omega
      have h3 : Rd ok w (.sl els) (a.eval x) := h1
      generalize hax : a.eval x = y at h3
      cases h3 with
      | nl A cap => simp at hlt
      | sl g off m cap sz els f hn hcap hok hs hc hr =>
        have hel : el.length = sz := hs el (List.mem_of_getElem? he)
        refine ⟨.pointer (some ⟨g, off + n.toNat * el.length, none⟩), ?_, ⟨g, _, hok, rfl, fun j c hj => ?_⟩⟩
        · unfold execOp
          rw [ho]
          have hm : n < (m : Int) := by omega
          simp [h2, hax, Instr.indexAt, asIntOf, run_underlying hu, sizeOf, typeInfo, hii, h5, h0, hm, add_none]
        · have hat : at2 els n.toNat j = some c := by simp [at2, he, hj]
          refine ⟨f n.toNat j, ?_, hr _ _ c hat⟩
          rw [Nat.add_assoc, hel]
          exact hc _ _ c hat
theorem Y0_idxo {o : Oper} {s : St} {t e : TypeId} {x ix : Operand} {id T sz : Nat} {els : List (List Tr)} {k : IntKind} {n : Int} (hu : P.underlying t = some (.slice e)) (hsz : (P.info? e).map (·.size) = some sz) (ho : o.op = .indexAddr t x ix) (hx : s.ev x = .ow id) (he : s.entc id = some (.arr T sz els)) (hi : s.ev ix = .c (.v (.int k n)))
    (h0 : 0 ≤ n) (hlt : n.toNat < els.length) : Y0 P o s (.po id sz n.toNat 0) :=
  Y0_of_run fun ok σ a w hC => by
    have h1 := hC.ev x
    rw [hx] at h1
    have h2 := hC.exact hi
    obtain ⟨h3, hn, hs, vs, h4, h5⟩ := hC.entc id _ he
    obtain ⟨g, hg⟩ := own_blk h4 (by omega)
    have h6 : a.eval x = ownVal (σ id) := h1
    cases hii : P.info? e with
    | none => rw [hii] at hsz; simp at hsz
    | some i =>
      have h7 : i.size = sz := by rw [hii] at hsz; simpa using hsz
      refine ⟨.pointer (some ⟨g, n.toNat * sz, none⟩), ?_, ⟨g, hg, rfl⟩⟩
      unfold execOp
      rw [ho]
      have hm : n < ((σ id).n : Int) := by omega
      simp [h2, h6, ownVal, hg, Instr.indexAt, asIntOf, run_underlying hu, sizeOf, typeInfo, hii, h7, h0, hm, add_none]
end
end Go.Proofs.YtnheekadeflecaaGreat
