/-
  Values without addresses: a reading of the model's memory by trees, and rules by which a walk goes over trees alone.
  Conditions: none.
-/
import Derived.WalkKit
import Derived.Below
import Derived.Orders
import Derived.Deep.AppendLies
import Derived.Deep.LoopGhost
import Derived.Test.YtnheekadeflecaaGreatShTB
namespace Go.Proofs.YtnheekadeflecaaGreat
open Go.RowKit
set_option linter.unusedSimpArgs false
set_option linter.unusedVariables false

/-- What a cell holds: a value that needs no memory, or a slice that nobody writes, by its elements' cells. -/
inductive Tr where
  | v (x : Value)
  | sl (els : List (List Tr))
  | mp (kvs : List (Value × Value))

def at2 (els : List (List Tr)) (i j : Nat) : Option Tr := (els[i]?).bind fun el => el[j]?

def kvOf (e : MapEntry) : Value × Value := (e.key, e.val)
inductive Rd (ok : Nat → Prop) (w : World) : Tr → Value → Prop
  | v (x : Value) (h : x.oneCell' = true) : Rd ok w (.v x) x
  | nl (A : Option Addr) (cap : Nat) : Rd ok w (.sl []) (.slice A 0 cap)
  | sl (g off n cap sz : Nat) (els : List (List Tr)) (f : Nat → Nat → Value) (hn : n = els.length) (hcap : n ≤ cap) (hok : ok g)
      (hsz : ∀ el, el ∈ els → el.length = sz)
      (hc : ∀ i j c, at2 els i j = some c → w.cell? ⟨g, off + (i * sz + j), none⟩ = some (f i j))
      (hr : ∀ i j c, at2 els i j = some c → Rd ok w c (f i j)) : Rd ok w (.sl els) (.slice (some ⟨g, off, none⟩) n cap)
  | mp (b : Nat) (es : Array MapEntry) (clock : Nat) (hok : ok b) (hb : w.heap[b]? = some (.map es clock)) : Rd ok w (.mp (es.toList.map kvOf)) (.map (some b))

theorem Rd.one {ok : Nat → Prop} {w : World} {t : Tr} {x : Value} (h : Rd ok w t x) : x.oneCell' = true := by
  cases h with
  | v x h => exact h
  | nl A cap => rfl
  | sl => rfl
  | mp => rfl

theorem Rd.mono {ok ok' : Nat → Prop} {w w' : World} {t : Tr} {x : Value} (h : Rd ok w t x) (hok : ∀ g, ok g → ok' g) (hw : ∀ g, ok g → w'.heap[g]? = w.heap[g]?) : Rd ok' w' t x := by
  induction h with
  | v x h => exact .v x h
  | nl A cap => exact .nl A cap
  | sl g off n cap sz els f hn hcap hg hsz hc hr ih =>
    refine .sl g off n cap sz els f hn hcap (hok g hg) hsz (fun i j c h => ?_) ih
    rw [World.cell?_of_block (w := w) (hw g hg)]
    exact hc i j c h
  | mp b es clock hb hm => exact .mp b es clock (hok b hb) (by rw [hw b hb]; exact hm)

def Tr.flat : Tr → Bool
  | .v _ => true
  | .sl [] => true
  | _ => false

theorem Rd.flat {ok ok' : Nat → Prop} {w w' : World} {t : Tr} {x : Value} (h : Rd ok w t x) (hf : t.flat = true) : Rd ok' w' t x := by
  cases h with
  | v x h => exact .v x h
  | nl A cap => exact .nl A cap
  | sl g off n cap sz els f hn hcap hg hsz hc hr =>
    cases els with
    | nil =>
      subst hn
      exact .nl _ cap
    | cons e es => simp [Tr.flat] at hf
  | mp b es clock hb hm => simp [Tr.flat] at hf

inductive RdL (ok : Nat → Prop) (w : World) : List Tr → List Value → Prop
  | nil : RdL ok w [] []
  | cons {t x ts xs} (h : Rd ok w t x) (hs : RdL ok w ts xs) : RdL ok w (t :: ts) (x :: xs)

theorem RdL.len {ok : Nat → Prop} {w : World} {ts : List Tr} {xs : List Value} (h : RdL ok w ts xs) : ts.length = xs.length := by
  induction h with
  | nil => rfl
  | cons h hs ih => simp [ih]
theorem RdL.mono {ok ok' : Nat → Prop} {w w' : World} {ts : List Tr} {xs : List Value} (h : RdL ok w ts xs) (hok : ∀ g, ok g → ok' g) (hw : ∀ g, ok g → w'.heap[g]? = w.heap[g]?) : RdL ok' w' ts xs := by
  induction h with
  | nil => exact .nil
  | cons h hs ih => exact .cons (h.mono hok hw) ih
theorem RdL.flat {ok ok' : Nat → Prop} {w w' : World} {ts : List Tr} {xs : List Value} (h : RdL ok w ts xs) (hf : ts.all Tr.flat = true) : RdL ok' w' ts xs := by
  induction h with
  | nil => exact .nil
  | cons h hs ih =>
    simp only [List.all_cons, Bool.and_eq_true] at hf
    exact .cons (h.flat hf.1) (ih hf.2)
theorem RdL.app {ok : Nat → Prop} {w : World} {ts us : List Tr} {xs ys : List Value} (h : RdL ok w ts xs) (h2 : RdL ok w us ys) : RdL ok w (ts ++ us) (xs ++ ys) := by
  induction h with
  | nil => exact h2
  | cons h hs ih => exact .cons h ih
theorem RdL.get {ok : Nat → Prop} {w : World} {ts : List Tr} {xs : List Value} (h : RdL ok w ts xs) : ∀ (j : Nat) (t : Tr), ts[j]? = some t → ∃ x, xs[j]? = some x ∧ Rd ok w t x := by
  induction h with
  | nil => intro j t h; simp at h
  | cons h hs ih =>
    intro j t hj
    cases j with
    | zero => simp at hj; subst hj; exact ⟨_, rfl, h⟩
    | succ j => simpa using ih j t (by simpa using hj)
theorem RdL.mk {ok : Nat → Prop} {w : World} : ∀ {ts : List Tr} {xs : List Value}, ts.length = xs.length → (∀ (j : Nat) (t : Tr), ts[j]? = some t → ∃ x, xs[j]? = some x ∧ Rd ok w t x) → RdL ok w ts xs
  | [], [], _, _ => .nil
  | [], _ :: _, h, _ => by simp at h
  | _ :: _, [], h, _ => by simp at h
  | t :: ts, x :: xs, h, hg => by
    obtain ⟨y, h1, h2⟩ := hg 0 t rfl
    simp at h1
    subst h1
    exact .cons h2 (RdL.mk (by simpa using h) fun (j : Nat) u hj => by simpa using hg (j + 1) u (by simpa using hj))
theorem RdL.one {ok : Nat → Prop} {w : World} {ts : List Tr} {xs : List Value} (h : RdL ok w ts xs) : ∀ x, x ∈ xs → x.oneCell' = true := by
  induction h with
  | nil => intro x h; cases h
  | cons h hs ih =>
    intro x hx
    cases hx with
    | head => exact h.one
    | tail _ hx => exact ih x hx
theorem RdL.take {ok : Nat → Prop} {w : World} {ts : List Tr} {xs : List Value} (h : RdL ok w ts xs) (n : Nat) : RdL ok w (ts.take n) (xs.take n) := by
  induction h generalizing n with
  | nil => simpa using RdL.nil
  | cons h hs ih =>
    cases n with
    | zero => exact .nil
    | succ n => exact .cons h (ih n)
theorem RdL.drop {ok : Nat → Prop} {w : World} {ts : List Tr} {xs : List Value} (h : RdL ok w ts xs) (n : Nat) : RdL ok w (ts.drop n) (xs.drop n) := by
  induction h generalizing n with
  | nil => simpa using RdL.nil
  | cons h hs ih =>
    cases n with
    | zero => exact .cons h hs
    | succ n => exact ih n
theorem RdL.set {ok : Nat → Prop} {w : World} {ts : List Tr} {xs : List Value} (h : RdL ok w ts xs) (n : Nat) {t : Tr} {x : Value} (hx : Rd ok w t x) : RdL ok w (ts.set n t) (xs.set n x) := by
  induction h generalizing n with
  | nil => simpa using RdL.nil
  | cons h hs ih =>
    cases n with
    | zero => exact .cons hx hs
    | succ n => exact .cons h (ih n)

/-- A pointer to what nobody writes. -/
def PeOk (ok : Nat → Prop) (w : World) (cs : List Tr) (y : Value) : Prop := ∃ g off, ok g ∧ y = .pointer (some ⟨g, off, none⟩) ∧ ∀ j c, cs[j]? = some c → ∃ u, w.cell? ⟨g, off + j, none⟩ = some u ∧ Rd ok w c u
theorem PeOk.mono {ok ok' : Nat → Prop} {w w' : World} {cs : List Tr} {y : Value} (h : PeOk ok w cs y) (hok : ∀ g, ok g → ok' g) (hw : ∀ g, ok g → w'.heap[g]? = w.heap[g]?) : PeOk ok' w' cs y := by
  obtain ⟨g, off, hg, hy, hc⟩ := h
  refine ⟨g, off, hok g hg, hy, fun j c hj => ?_⟩
  obtain ⟨u, h1, h2⟩ := hc j c hj
  exact ⟨u, by rw [World.cell?_of_block (w := w) (hw g hg)]; exact h1, h2.mono hok hw⟩
inductive PeL (ok : Nat → Prop) (w : World) : List (List Tr) → List Value → Prop
  | nil : PeL ok w [] []
  | cons {c y cs ys} (h : PeOk ok w c y) (hs : PeL ok w cs ys) : PeL ok w (c :: cs) (y :: ys)
theorem PeL.mono {ok ok' : Nat → Prop} {w w' : World} {cs : List (List Tr)} {ys : List Value} (h : PeL ok w cs ys) (hok : ∀ g, ok g → ok' g) (hw : ∀ g, ok g → w'.heap[g]? = w.heap[g]?) : PeL ok' w' cs ys := by
  induction h with
  | nil => exact .nil
  | cons h hs ih => exact .cons (h.mono hok hw) ih

/-- What of a view: the whole, a pointer to one of its elements, or what follows of it. -/
inductive VwM
  | whole
  | elem (i : Nat)
  | sub (k : Nat)
/-- What a slot holds. -/
inductive AV where
  | bot
  | c (t : Tr)
  | ag (cs : List Tr)
  | ow (id : Nat)
  | pt (id off : Nat)
  | po (id sz i off : Nat)
  | pe (cs : List Tr)
  | fn (f : FuncId) (caps : List (List Tr))
  | vw (id : Nat) (els : List (List Tr)) (m : VwM)
  | sf (id sz k : Nat)
  | er (b : Bool)
  | tn
  | tc (x r : AV)

structure Loc where
  blk : Option Nat
  n : Nat
  cap : Nat
/-- What the call may write: a variable's cells, or a row of its own; pinned: one that was handed in, with its place. -/
inductive Ent where
  | box (cs : List Tr)
  | arr (e : TypeId) (sz : Nat) (els : List (List Tr))
  | pbox (l : Loc) (cs : List Tr)
  | parr (l : Loc) (e : TypeId) (sz : Nat) (els : List (List Tr))
  | mp (b : Nat) (kvs : List (Value × Value))
  | qarr (l : Loc) (e : TypeId) (sz : Nat) (els : List (List Tr))
def Ent.core : Ent → Ent
  | .pbox _ cs => .box cs
  | .parr _ e sz els => .arr e sz els
  | .box cs => .box cs
  | .arr e sz els => .arr e sz els
  | .mp b kvs => .mp b kvs
  | .qarr _ e sz els => .arr e sz els
def Ent.pin : Ent → Bool
  | .pbox _ _ => true
  | .parr _ _ _ _ => true
  | .box _ => false
  | .arr _ _ _ => false
  | .mp _ _ => false
  | .qarr _ _ _ _ => false
/-- Neither handed in nor a map. -/
def Ent.plain : Ent → Bool
  | .box _ => true
  | .arr _ _ _ => true
  | _ => false
theorem Ent.pin_of_plain {e : Ent} (h : e.plain = true) : e.pin = false := by cases e <;> first | rfl | cases h

def ownVal (l : Loc) : Value := .slice (l.blk.map fun g => ⟨g, 0, none⟩) l.n l.cap

/-- A view of a row's first elements (or a pointer to one of them): they lie in the row's own block, or in one that nobody writes any more. -/
def vwVal (g sz n cap : Nat) : VwM → Value
  | .whole => .slice (some ⟨g, 0, none⟩) n cap
  | .elem i => .pointer (some ⟨g, i * sz, none⟩)
  | .sub k => .slice (some ⟨g, k * sz, none⟩) (n - k) (cap - k)
def VwOk (ok : Nat → Prop) (l : Loc) (w : World) (els : List (List Tr)) (m : VwM) (y : Value) : Prop :=
  ∃ g sz cap, 0 < els.length ∧ els.length ≤ cap ∧ 0 < sz ∧ (∀ el, el ∈ els → el.length = sz) ∧ y = vwVal g sz els.length cap m ∧
    (l.blk = some g ∨ (ok g ∧ ∃ vs, RdL ok w els.flatten vs ∧ ∀ (j : Nat) (u : Value), vs[j]? = some u → w.cell? ⟨g, j, none⟩ = some u))
theorem VwOk.mono {ok ok' : Nat → Prop} {l l' : Loc} {w w' : World} {els : List (List Tr)} {m : VwM} {y : Value} (h : VwOk ok l w els m y) (hok : ∀ g, ok g → ok' g) (hw : ∀ g, ok g → w'.heap[g]? = w.heap[g]?) (hl : l' = l) : VwOk ok' l' w' els m y := by
  subst hl
  obtain ⟨g, sz, cap, h1, h2, h3, h4, h5, h6⟩ := h
  refine ⟨g, sz, cap, h1, h2, h3, h4, h5, ?_⟩
  rcases h6 with h6 | ⟨h6, vs, h7, h8⟩
  · exact .inl h6
  · refine .inr ⟨hok g h6, vs, h7.mono hok hw, fun j u hj => ?_⟩
    rw [World.cell?_of_block (w := w) (hw g h6)]
    exact h8 j u hj

/-- What is left of a row of the call's own from element k on. -/
def sfVal (l : Loc) (sz k : Nat) : Value := .slice (bif Nat.beq l.cap k then l.blk.map (fun g => ⟨g, 0, none⟩) else l.blk.map (fun g => ⟨g, k * sz, none⟩)) (l.n - k) (l.cap - k)

def Rel1 (ok : Nat → Prop) (σ : Nat → Loc) (w : World) : AV → Value → Prop
  | .bot, _ => True
  | .c t, y => Rd ok w t y
  | .ag cs, y => ∃ vs, y = .agg vs ∧ RdL ok w cs vs.toList
  | .ow id, y => y = ownVal (σ id)
  | .pt id off, y => ∃ g, (σ id).blk = some g ∧ y = .pointer (some ⟨g, off, none⟩)
  | .po id sz i off, y => ∃ g, (σ id).blk = some g ∧ y = .pointer (some ⟨g, i * sz + off, none⟩)
  | .pe cs, y => ∃ g off, ok g ∧ y = .pointer (some ⟨g, off, none⟩) ∧ ∀ j c, cs[j]? = some c → ∃ u, w.cell? ⟨g, off + j, none⟩ = some u ∧ Rd ok w c u
  | .fn f caps, y => ∃ vs, y = .func (.func f) #[] vs.toArray ∧ PeL ok w caps vs
  | .vw id els m, y => VwOk ok (σ id) w els m y
  | .sf id sz k, y => y = sfVal (σ id) sz k
  | .er b, y => (b = true ∧ y = .nilIface) ∨ (b = false ∧ ∃ t v, y = .iface t v)
  | _, _ => False

def RelL (ok : Nat → Prop) (σ : Nat → Loc) (w : World) : AV → List Value → Prop
  | .tn, [] => True
  | .tc x r, v :: vs => Rel1 ok σ w x v ∧ RelL ok σ w r vs
  | _, _ => False

def Rel (ok : Nat → Prop) (σ : Nat → Loc) (w : World) : AV → Value → Prop
  | .tn, y => ∃ vs, y = .tuple vs ∧ RelL ok σ w .tn vs.toList
  | .tc x r, y => ∃ vs, y = .tuple vs ∧ RelL ok σ w (.tc x r) vs.toList
  | av, y => Rel1 ok σ w av y

/-- The numbers of the rows and variables that a slot names lie by eights: id / 8 is the slot that made it. -/
def AV.ment (d : Nat) : AV → Bool
  | .ow id => id / 8 == d
  | .pt id _ => id / 8 == d
  | .po id _ _ _ => id / 8 == d
  | .vw id _ _ => id / 8 == d
  | .sf id _ _ => id / 8 == d
  | .tc x r => x.ment d || r.ment d
  | _ => false

theorem Rel1.mono {ok ok' : Nat → Prop} {σ σ' : Nat → Loc} {w w' : World} {av : AV} {y : Value} (d : Nat) (h : Rel1 ok σ w av y) (hok : ∀ g, ok g → ok' g) (hw : ∀ g, ok g → w'.heap[g]? = w.heap[g]?)
    (hm : av.ment d = false) (hσ : ∀ id, id / 8 ≠ d → σ' id = σ id) : Rel1 ok' σ' w' av y := by
  cases av with
  | bot => trivial
  | c t => exact Rd.mono h hok hw
  | ag cs =>
    obtain ⟨vs, hy, hr⟩ := h
    exact ⟨vs, hy, hr.mono hok hw⟩
  | ow id =>
    have e := hσ id (by simpa [AV.ment] using hm)
    show y = _
    rw [e]
    exact h
  | pt id off =>
    have e := hσ id (by simpa [AV.ment] using hm)
    show ∃ g, _
    rw [e]
    exact h
  | po id sz i off =>
    have e := hσ id (by simpa [AV.ment] using hm)
    show ∃ g, _
    rw [e]
    exact h
  | pe cs =>
    obtain ⟨g, off, hg, hy, hc⟩ := h
    refine ⟨g, off, hok g hg, hy, fun j c hj => ?_⟩
    obtain ⟨u, h1, h2⟩ := hc j c hj
    exact ⟨u, by rw [World.cell?_of_block (w := w) (hw g hg)]; exact h1, h2.mono hok hw⟩
  | fn f caps =>
    obtain ⟨vs, hy, hp⟩ := h
    exact ⟨vs, hy, hp.mono hok hw⟩
  | er b => exact h
  | vw id els m => exact VwOk.mono h hok hw (hσ id (by simpa [AV.ment] using hm))
  | sf id sz k =>
    have e := hσ id (by simpa [AV.ment] using hm)
    show y = _
    rw [e]
    exact h
  | tn => exact h.elim
  | tc x r => exact h.elim
theorem RelL.mono {ok ok' : Nat → Prop} {σ σ' : Nat → Loc} {w w' : World} {av : AV} {ys : List Value} (d : Nat) (h : RelL ok σ w av ys) (hok : ∀ g, ok g → ok' g) (hw : ∀ g, ok g → w'.heap[g]? = w.heap[g]?)
    (hm : av.ment d = false) (hσ : ∀ id, id / 8 ≠ d → σ' id = σ id) : RelL ok' σ' w' av ys := by
  induction av generalizing ys with
  | tn =>
    cases ys with
    | nil => trivial
    | cons y ys => exact h.elim
  | tc x r _ ih =>
    cases ys with
    | nil => exact h.elim
    | cons y ys =>
      simp only [AV.ment, Bool.or_eq_false_iff] at hm
      exact ⟨h.1.mono d hok hw hm.1 hσ, ih h.2 hm.2⟩
  | _ => cases ys <;> exact (h : False).elim
theorem Rel.mono {ok ok' : Nat → Prop} {σ σ' : Nat → Loc} {w w' : World} {av : AV} {y : Value} (d : Nat) (h : Rel ok σ w av y) (hok : ∀ g, ok g → ok' g) (hw : ∀ g, ok g → w'.heap[g]? = w.heap[g]?)
    (hm : av.ment d = false) (hσ : ∀ id, id / 8 ≠ d → σ' id = σ id) : Rel ok' σ' w' av y := by
  cases av with
  | tn =>
    obtain ⟨vs, hy, hl⟩ := h
    exact ⟨vs, hy, hl.mono d hok hw hm hσ⟩
  | tc x r =>
    obtain ⟨vs, hy, hl⟩ := h
    exact ⟨vs, hy, hl.mono d hok hw hm hσ⟩
  | bot =>
    have h' : Rel1 ok σ w (.bot) y := h
    exact h'.mono d hok hw hm hσ
  | c t =>
    have h' : Rel1 ok σ w (.c t) y := h
    exact h'.mono d hok hw hm hσ
  | ag cs =>
    have h' : Rel1 ok σ w (.ag cs) y := h
    exact h'.mono d hok hw hm hσ
  | ow id =>
    have h' : Rel1 ok σ w (.ow id) y := h
    exact h'.mono d hok hw hm hσ
  | pt id off =>
    have h' : Rel1 ok σ w (.pt id off) y := h
    exact h'.mono d hok hw hm hσ
  | po id sz i off =>
    have h' : Rel1 ok σ w (.po id sz i off) y := h
    exact h'.mono d hok hw hm hσ
  | pe cs =>
    have h' : Rel1 ok σ w (.pe cs) y := h
    exact h'.mono d hok hw hm hσ
  | fn f caps =>
    have h' : Rel1 ok σ w (.fn f caps) y := h
    exact h'.mono d hok hw hm hσ
  | er b => exact h
  | vw id els m =>
    have h' : Rel1 ok σ w (.vw id els m) y := h
    exact h'.mono d hok hw hm hσ
  | sf id sz k =>
    have h' : Rel1 ok σ w (.sf id sz k) y := h
    exact h'.mono d hok hw hm hσ

def EntOk (ok : Nat → Prop) (w : World) (l : Loc) : Ent → Prop
  | .box cs => ∃ g arr T, l.blk = some g ∧ w.heap[g]? = some (.cells arr T (0, 0)) ∧ RdL ok w cs arr.toList
  | .arr e sz els => 0 < sz ∧ l.n = els.length ∧ (∀ el, el ∈ els → el.length = sz) ∧ ∃ vs, w.ownsRow 0 e sz (ownVal l) els.length vs ∧ RdL ok w els.flatten vs
  | .pbox l0 cs => l = l0 ∧ ∃ g arr T, l.blk = some g ∧ w.heap[g]? = some (.cells arr T (0, 0)) ∧ RdL ok w cs arr.toList
  | .parr l0 e sz els => l = l0 ∧ 0 < sz ∧ l.n = els.length ∧ (∀ el, el ∈ els → el.length = sz) ∧ ∃ vs, w.ownsRow 0 e sz (ownVal l) els.length vs ∧ RdL ok w els.flatten vs
  | .mp b kvs => l.blk = some b ∧ ∃ es clock, w.heap[b]? = some (.map es clock) ∧ es.toList.map kvOf = kvs
  | .qarr l0 e sz els => l = l0 ∧ 0 < sz ∧ l.n = els.length ∧ (∀ el, el ∈ els → el.length = sz) ∧ ∃ vs, w.ownsRow 0 e sz (ownVal l) els.length vs ∧ RdL ok w els.flatten vs
theorem EntOk.core {ok : Nat → Prop} {w : World} {l : Loc} {e : Ent} (h : EntOk ok w l e) : EntOk ok w l e.core := by
  cases e with
  | box cs => exact h
  | arr e sz els => exact h
  | pbox l0 cs => exact h.2
  | parr l0 e sz els => exact h.2
  | mp b kvs => exact h
  | qarr l0 e sz els => exact h.2
theorem EntOk.mono_box {ok ok' : Nat → Prop} {w w' : World} {l : Loc} {cs : List Tr} (h : EntOk ok w l (.box cs)) (hok : ∀ g, ok g → ok' g) (hw : ∀ g, ok g → w'.heap[g]? = w.heap[g]?) (hb : ∀ g, l.blk = some g → w'.heap[g]? = w.heap[g]?) : EntOk ok' w' l (.box cs) := by
  obtain ⟨g, arr, T, h1, h2, h3⟩ := h
  exact ⟨g, arr, T, h1, by rw [hb g h1]; exact h2, h3.mono hok hw⟩
theorem EntOk.mono_arr {ok ok' : Nat → Prop} {w w' : World} {l : Loc} {e : TypeId} {sz : Nat} {els : List (List Tr)} (h : EntOk ok w l (.arr e sz els)) (hok : ∀ g, ok g → ok' g) (hw : ∀ g, ok g → w'.heap[g]? = w.heap[g]?) (hb : ∀ g, l.blk = some g → w'.heap[g]? = w.heap[g]?) : EntOk ok' w' l (.arr e sz els) := by
  obtain ⟨h0, h1, h2, vs, h3, h4⟩ := h
  refine ⟨h0, h1, h2, vs, ⟨h3.1, ?_⟩, h4.mono hok hw⟩
  rcases h3.2 with h5 | ⟨g, cap, cur, h5, h6, h7, h8⟩
  · exact .inl h5
  · refine .inr ⟨g, cap, cur, h5, h6, ?_, h8⟩
    rw [hb g ?_]
    · exact h7
    · unfold ownVal at h5
      injection h5 with h9
      cases hl : l.blk with
      | none => rw [hl] at h9; cases h9
      | some q =>
        rw [hl] at h9
        simp at h9
        rw [h9]
theorem EntOk.mono {ok ok' : Nat → Prop} {w w' : World} {l : Loc} {e : Ent} (h : EntOk ok w l e) (hok : ∀ g, ok g → ok' g) (hw : ∀ g, ok g → w'.heap[g]? = w.heap[g]?) (hb : ∀ g, l.blk = some g → w'.heap[g]? = w.heap[g]?) : EntOk ok' w' l e := by
  cases e with
  | box cs => exact EntOk.mono_box h hok hw hb
  | arr e sz els => exact EntOk.mono_arr h hok hw hb
  | pbox l0 cs => exact ⟨h.1, EntOk.mono_box h.2 hok hw hb⟩
  | parr l0 e sz els => exact ⟨h.1, EntOk.mono_arr h.2 hok hw hb⟩
  | qarr l0 e sz els => exact ⟨h.1, EntOk.mono_arr h.2 hok hw hb⟩
  | mp b kvs =>
    obtain ⟨h1, es, clock, h2, h3⟩ := h
    exact ⟨h1, es, clock, by rw [hb b h1]; exact h2, h3⟩

end Go.Proofs.YtnheekadeflecaaGreat
