/-
  Calls that may write variables and rows of the caller: the rule at the call.
  Conditions: none.
-/
import Derived.Test.YtnheekadeflecaaGreatShT
namespace Go.Proofs.YtnheekadeflecaaGreat
open Go.RowKit
set_option linter.unusedSimpArgs false
set_option linter.unusedVariables false

/-- The caller's numbers for the callee's. -/
def renI (m : List (Nat × Nat)) (k : Nat) : Nat := (m.lookup k).getD k
def AV.ren (m : List (Nat × Nat)) : AV → AV
  | .ow k => .ow (renI m k)
  | .pt k o => .pt (renI m k) o
  | .po k z i o => .po (renI m k) z i o
  | .vw k els v => .vw (renI m k) els v
  | .sf k z i => .sf (renI m k) z i
  | .tc _ _ => .bot
  | .tn => .bot
  | av => av
def renL (m : List (Nat × Nat)) : List AV → List AV
  | [] => []
  | a :: as => a.ren m :: renL m as
/-- the caller's entry with what the callee has written -/
def reE (old e : Ent) : Ent := bif old.pin then (match old with
  | .pbox l _ => e.pinned l
  | .parr l _ _ _ => e.pinned l
  | _ => e) else e
def Ent.row : Ent → Bool
  | .box _ => false
  | .arr _ _ _ => true
  | .pbox _ _ => false
  | .parr _ _ _ _ => true
  | .mp _ _ => false
  | .qarr _ _ _ _ => true
/-- what the caller holds behind the call -/
def updE (m : List (Nat × Nat)) : List (Nat × Ent) → List (Nat × Ent) → List (Nat × Ent)
  | E, [] => E
  | E, (k, e) :: ps => setE (renI m k) (reE ((E.lookup (renI m k)).getD e) e) (updE m E ps)
/-- the caller holds what the callee is handed -/
def matchE (m : List (Nat × Nat)) (s : St) : List (Nat × Ent) → Prop
  | [] => True
  | (k, e) :: ps => s.entc (renI m k) = some e ∧ matchE m s ps
def keysE : List (Nat × Ent) → List Nat
  | [] => []
  | (k, _) :: ps => k :: keysE ps
def renOk (m : List (Nat × Nat)) (E0 : List (Nat × Ent)) : Bool := nodup ((keysE E0).map (renI m))
theorem mE_nil {m : List (Nat × Nat)} {s : St} : matchE m s [] := trivial
theorem mE_cons {m : List (Nat × Nat)} {s : St} {k : Nat} {e : Ent} {ps : List (Nat × Ent)} (h : s.entc (renI m k) = some e) (t : matchE m s ps) : matchE m s ((k, e) :: ps) := ⟨h, t⟩
theorem hE_nil {s : St} : HasE s [] := trivial
theorem hE_cons {s : St} {k : Nat} {e : Ent} {ps : List (Nat × Ent)} (h : s.ent k = some e) (t : HasE s ps) : HasE s ((k, e) :: ps) := ⟨h, t⟩
theorem matchE_look (m : List (Nat × Nat)) (s : St) : ∀ (E0 : List (Nat × Ent)) (id : Nat) (e : Ent), matchE m s E0 → E0.lookup id = some e → s.entc (renI m id) = some e
  | [], id, e, _, h => by simp at h
  | (k, f) :: ps, id, e, hs, h => by
    simp only [List.lookup] at h
    cases hk : id == k with
    | true =>
      have : id = k := by simpa using hk
      subst this
      rw [hk] at h
      injection h with h
      subst h
      exact hs.1
    | false =>
      rw [hk] at h
      exact matchE_look m s ps id e hs.2 h
theorem keysE_mem : ∀ (E0 : List (Nat × Ent)) (id : Nat) (e : Ent), E0.lookup id = some e → id ∈ keysE E0
  | [], id, e, h => by simp at h
  | (k, f) :: ps, id, e, h => by
    simp only [List.lookup] at h
    cases hk : id == k with
    | true =>
      have : id = k := by simpa using hk
      subst this
      exact List.mem_cons_self
    | false =>
      rw [hk] at h
      exact List.mem_cons_of_mem _ (keysE_mem ps id e h)
theorem mem_keysE : ∀ (E0 : List (Nat × Ent)) (id : Nat), id ∈ keysE E0 → ∃ e, E0.lookup id = some e
  | [], id, h => by cases h
  | (q1, q2) :: ps, id, h => by
    by_cases hq : id = q1
    · subst hq; exact ⟨q2, by simp [List.lookup]⟩
    · have : (id == q1) = false := by rw [beq_eq_false_iff_ne]; exact hq
      rcases List.mem_cons.1 h with h2 | h2
      · exact absurd h2 hq
      · obtain ⟨f, hf⟩ := mem_keysE ps id h2
        exact ⟨f, by simp only [List.lookup, this]; exact hf⟩
theorem nodup_inj (f : Nat → Nat) : ∀ (l : List Nat), nodup (l.map f) = true → ∀ i, i ∈ l → ∀ j, j ∈ l → f i = f j → i = j
  | [], _, i, hi, _, _, _ => by cases hi
  | x :: xs, h, i, hi, j, hj, hf => by
    simp only [List.map_cons, nodup, Bool.and_eq_true, Bool.not_eq_true', List.contains_eq_mem, decide_eq_false_iff_not] at h
    obtain ⟨h1, h2⟩ := h
    rcases List.mem_cons.1 hi with a1 | a1 <;> rcases List.mem_cons.1 hj with b1 | b1
    · rw [a1, b1]
    · subst a1
      exact absurd (List.mem_map.2 ⟨j, b1, hf.symm⟩) h1
    · subst b1
      exact absurd (List.mem_map.2 ⟨i, a1, hf⟩) h1
    · exact nodup_inj f xs h2 i a1 j b1 hf
section
variable {P : Program}
theorem ren_rel {ok : Nat → Prop} {σ : Nat → Loc} {w : World} {m : List (Nat × Nat)} {av : AV} {y : Value} (h : Rel ok σ w (av.ren m) y) (hb : ∀ x r, av ≠ .tc x r) (hb2 : av ≠ .tn) : Rel ok (fun k => σ (renI m k)) w av y := by
  cases av with
  | bot => trivial
  | c t => exact h
  | ag cs => exact h
  | ow id => exact h
  | pt id off => exact h
  | po id sz i off => exact h
  | pe cs => exact h
  | fn f caps => exact h
  | er b => exact h
  | vw id els v => exact h
  | sf id z i => exact h
  | tn => exact absurd rfl hb2
  | tc x r => exact absurd rfl (hb x r)
def noTup : List AV → Bool
  | [] => true
  | .tc _ _ :: _ => false
  | .tn :: _ => false
  | _ :: as => noTup as
theorem ren_relA {ok : Nat → Prop} {σ : Nat → Loc} {w : World} {m : List (Nat × Nat)} : ∀ {args : List AV} {vs : List Value}, noTup args = true → RelA ok σ w (renL m args) vs → RelA ok (fun k => σ (renI m k)) w args vs
  | [], _, _, .nil => .nil
  | a :: as, _, ht, .cons h hs => by
    have h1 : (∀ x r, a ≠ .tc x r) ∧ a ≠ .tn ∧ noTup as = true := by
      cases a with
      | tc x r => cases ht
      | tn => cases ht
      | _ => exact ⟨(fun _ _ h => by cases h), (fun h => by cases h), ht⟩
    exact .cons (ren_rel h h1.1 h1.2.1) (ren_relA h1.2.2 hs)
theorem reE_pin (old e : Ent) (he : e.plain = true) : (reE old e).pin = old.pin := by
  cases old with
  | box cs => exact Ent.pin_of_plain he
  | arr T sz els => exact Ent.pin_of_plain he
  | mp b kvs => exact Ent.pin_of_plain he
  | qarr l0 T sz els => exact Ent.pin_of_plain he
  | pbox l cs => exact pinned_pin he
  | parr l T sz els => exact pinned_pin he
theorem updE_look (m : List (Nat × Nat)) (E : List (Nat × Ent)) : ∀ (E1 : List (Nat × Ent)), nodup ((keysE E1).map (renI m)) = true → (∀ k e, E1.lookup k = some e → ∃ f, E.lookup (renI m k) = some f) → ∀ j, (updE m E E1).lookup j = match E1.find? (fun p => renI m p.1 == j) with
      | some p => some (reE ((E.lookup j).getD p.2) p.2)
      | none => E.lookup j
  | [], _, _, j => rfl
  | (k, e) :: ps, hn, hx, j => by
    have hn2 : nodup ((keysE ps).map (renI m)) = true := by
      simp only [keysE, List.map_cons, nodup, Bool.and_eq_true] at hn
      exact hn.2
    have hn1 : renI m k ∉ (keysE ps).map (renI m) := by
      simp only [keysE, List.map_cons, nodup, Bool.and_eq_true, Bool.not_eq_true', List.contains_eq_mem, decide_eq_false_iff_not] at hn
      exact hn.1
    have ih := updE_look m E ps hn2 (fun k2 e2 h2 => by
      by_cases hk : k2 = k
      · subst hk
        exact absurd (List.mem_map.2 ⟨k2, keysE_mem ps k2 e2 h2, rfl⟩) hn1
      · refine hx k2 e2 ?_
        have : (k2 == k) = false := by rw [beq_eq_false_iff_ne]; exact hk
        simp only [List.lookup, this]
        exact h2)
    have hself : (updE m E ps).lookup (renI m k) = E.lookup (renI m k) := by
      rw [ih]
      have hf : ps.find? (fun p => renI m p.1 == renI m k) = none := by
        rw [List.find?_eq_none]
        intro p hp hh
        have hh : renI m p.1 = renI m k := by simpa using hh
        have : p.1 ∈ keysE ps := by
          clear ih hn hx hn1 hn2
          induction ps with
          | nil => cases hp
          | cons q qs ihq =>
            obtain ⟨q1, q2⟩ := q
            rcases List.mem_cons.1 hp with h1 | h1
            · subst h1; exact List.mem_cons_self
            · exact List.mem_cons_of_mem _ (ihq h1)
        exact hn1 (List.mem_map.2 ⟨p.1, this, hh⟩)
      rw [hf]
    obtain ⟨f, hf⟩ := hx k e (by simp [List.lookup])
    have look := setE_look (renI m k) (reE ((E.lookup (renI m k)).getD e) e) (updE m E ps) f (by rw [hself, hf])
    simp only [updE]
    rw [look j, List.find?_cons]
    by_cases hj : j = renI m k
    · subst hj
      simp
    · have : (renI m k == j) = false := by rw [beq_eq_false_iff_ne]; exact fun h => hj h.symm
      rw [if_neg hj, this, ih]
theorem find_look (m : List (Nat × Nat)) : ∀ (E1 : List (Nat × Ent)) (j : Nat) (p : Nat × Ent), nodup ((keysE E1).map (renI m)) = true → E1.find? (fun p => renI m p.1 == j) = some p → E1.lookup p.1 = some p.2 ∧ renI m p.1 = j
  | [], j, p, _, h => by simp at h
  | (k, e) :: ps, j, p, hn, h => by
    rw [List.find?_cons] at h
    cases hk : renI m k == j with
    | true =>
      simp only [hk] at h
      injection h with h
      subst h
      exact ⟨by simp [List.lookup], by simpa using hk⟩
    | false =>
      simp only [hk] at h
      have hn2 : nodup ((keysE ps).map (renI m)) = true := by
        simp only [keysE, List.map_cons, nodup, Bool.and_eq_true] at hn
        exact hn.2
      have hn1 : renI m k ∉ (keysE ps).map (renI m) := by
        simp only [keysE, List.map_cons, nodup, Bool.and_eq_true, Bool.not_eq_true', List.contains_eq_mem, decide_eq_false_iff_not] at hn
        exact hn.1
      obtain ⟨h1, h2⟩ := find_look m ps j p hn2 h
      have : (p.1 == k) = false := by
        rw [beq_eq_false_iff_ne]
        intro e1
        exact hn1 (List.mem_map.2 ⟨p.1, keysE_mem ps _ _ h1, by rw [e1]⟩)
      exact ⟨by simp only [List.lookup, this]; exact h1, h2⟩
theorem reE_ok {ok : Nat → Prop} {w : World} {l : Loc} {old e : Ent} {ok0 : Nat → Prop} {w0 : World} (ho : EntOk ok0 w0 l old) (h : EntOk ok w l e) (he : e.plain = true) : EntOk ok w l (reE old e) := by
  cases old with
  | box cs => exact h
  | arr T sz els => exact h
  | mp b kvs => exact h
  | qarr l0 T sz els => exact h
  | pbox l0 cs =>
    obtain ⟨rfl, _⟩ := ho
    exact pinned_ok h he
  | parr l0 T sz els =>
    obtain ⟨rfl, _⟩ := ho
    exact pinned_ok h he

/-- The state behind a call that may write, ahead of its result. -/
theorem R.ref {B : Fr} {w0 : World} {ok0 ok ok' : Nat → Prop} {σ σ' : Nat → Loc} {s : St} {a : Act} {w w' : World} (h : R B w0 ok0 ok σ s a w) {m : List (Nat × Nat)} {E0 E1 : List (Nat × Ent)} {av : AV} {ne : List (Nat × Ent)} {v : Value}
    (hm : matchE m s E0) (hk : keysE E1 = keysE E0) (hr : renOk m E0 = true) (hp : noPin E1 = true) (hn : NewX ⟨w.heap.size, exOf (fun k => σ (renI m k)) E0⟩ w w' ok ok' σ' av ne v) (hE : ∀ id e, E1.lookup id = some e → EntOk ok' w' (σ (renI m id)) e) :
    R B w0 ok0 ok' (fun id => σ id) ⟨s.T, updE m s.E E1⟩ a w' ∧ ∀ id e g, (St.mk s.T (updE m s.E E1)).ent id = some e → (σ id).blk = some g → g < w.heap.size := by
  have hsz := hn.below.size
  have key0 : ∀ k e, E1.lookup k = some e → ∃ f, E0.lookup k = some f := by
    intro k e hke
    have h1 := keysE_mem E1 k e hke
    rw [hk] at h1
    exact mem_keysE E0 k h1
  have hold : ∀ k e, E1.lookup k = some e → ∃ f, s.E.lookup (renI m k) = some f := by
    intro k e hke
    obtain ⟨f0, hf0⟩ := key0 k e hke
    obtain ⟨f, hf, _⟩ := entc_of (matchE_look m s E0 k f0 hm hf0)
    exact ⟨f, hf⟩
  have hr1 : nodup ((keysE E1).map (renI m)) = true := by rw [hk]; exact hr
  have look := updE_look m s.E E1 hr1 hold
  -- an entry behind the call
  have cases_ : ∀ j f, (St.mk s.T (updE m s.E E1)).ent j = some f → (∃ k e old, E1.lookup k = some e ∧ renI m k = j ∧ s.ent j = some old ∧ f = reE old e) ∨ ((∀ k e, E1.lookup k = some e → renI m k ≠ j) ∧ s.ent j = some f) := by
    intro j f hj
    have h1 : (updE m s.E E1).lookup j = some f := hj
    rw [look] at h1
    cases hfd : E1.find? (fun p => renI m p.1 == j) with
    | some p =>
      rw [hfd] at h1
      obtain ⟨h2, h3⟩ := find_look m E1 j p hr1 hfd
      obtain ⟨old, hold1⟩ := hold p.1 p.2 h2
      rw [h3] at hold1
      rw [hold1] at h1
      injection h1 with h1
      exact .inl ⟨p.1, p.2, old, h2, h3, hold1, h1.symm⟩
    | none =>
      rw [hfd] at h1
      refine .inr ⟨fun k e hke hkj => ?_, h1⟩
      rw [List.find?_eq_none] at hfd
      have hmem : ∀ (L : List (Nat × Ent)), L.lookup k = some e → (k, e) ∈ L := by
        intro L
        induction L with
        | nil => intro h; simp at h
        | cons q qs ih =>
          intro h
          obtain ⟨q1, q2⟩ := q
          simp only [List.lookup] at h
          cases hq : k == q1 with
          | true =>
            rw [hq] at h
            injection h with h
            have : k = q1 := by simpa using hq
            subst this; subst h
            exact List.mem_cons_self
          | false =>
            rw [hq] at h
            exact List.mem_cons_of_mem _ (ih h)
      exact hfd (k, e) (hmem E1 hke) (by simpa using hkj)
  have exE : ∀ g, exOf (fun k => σ (renI m k)) E0 g → ∃ k f0, E0.lookup k = some f0 ∧ (σ (renI m k)).blk = some g := fun g ⟨k, f0, h1, h2⟩ => ⟨k, f0, h1, h2⟩
  have exNot : ∀ g, ok g → ¬ exOf (fun k => σ (renI m k)) E0 g := by
    intro g hg hx
    obtain ⟨k, f0, h1, h2⟩ := exE g hx
    obtain ⟨f, hf, _⟩ := entc_of (matchE_look m s E0 k f0 hm h1)
    exact (h.core.blk _ f g hf h2).1 hg
  have hwok : ∀ g, ok g → w'.heap[g]? = w.heap[g]? := fun g hg => hn.below.block g (h.core.okL g hg) (exNot g hg)
  have entOld : ∀ j f, (St.mk s.T (updE m s.E E1)).ent j = some f → ∃ old, s.ent j = some old ∧ f.pin = old.pin := by
    intro j f hj
    rcases cases_ j f hj with ⟨k, e, old, h1, h2, h3, rfl⟩ | ⟨_, h2⟩
    · exact ⟨old, h3, reE_pin old e (noPin_look E1 k e hp h1)⟩
    · exact ⟨f, h2, rfl⟩
  refine ⟨?_, fun j f g hj hg => by obtain ⟨old, h1, _⟩ := entOld j f hj; exact (h.core.blk j old g h1 hg).2⟩
  refine ⟨⟨h.core.len, hn.okL, h.core.lib.mono hn.okM hwok, fun t => (h.core.tmp t).mono0 hn.okM hwok, fun j f hj => ?_, fun j f g hj hg => ?_, fun i j f1 f2 g hi hj h1 h2 => ?_⟩, h.defers, ?_, Nat.le_trans h.base hsz, fun g hg => hn.okM g (h.old g hg), fun g hg => ?_, fun j f g hj hg => ?_⟩
  · rcases cases_ j f hj with ⟨k, e, old, h1, h2, h3, rfl⟩ | ⟨h1, h2⟩
    · have h4 := hE k e h1
      rw [h2] at h4
      exact reE_ok (h.core.ent j old h3) h4 (noPin_look E1 k e hp h1)
    · refine (h.core.ent j f h2).mono hn.okM hwok fun g hg => hn.below.block g (h.core.blk j f g h2 hg).2 fun hx => ?_
      obtain ⟨k, f0, h3, h4⟩ := exE g hx
      obtain ⟨f2, hf2, _⟩ := entc_of (matchE_look m s E0 k f0 hm h3)
      have h5 := h.core.inj _ _ _ _ _ h2 hf2 hg h4
      -- k is a key of E1 too
      have h6 := keysE_mem E0 k f0 h3
      rw [← hk] at h6
      have h7 := mem_keysE E1 k h6
      obtain ⟨e1, he1⟩ := h7
      exact h1 k e1 he1 h5.symm
  · obtain ⟨old, h1, h2⟩ := entOld j f hj
    obtain ⟨h3, h4⟩ := h.core.blk j old g h1 hg
    refine ⟨fun h5 => ?_, Nat.lt_of_lt_of_le h4 hsz⟩
    rcases hn.okN g h5 with h6 | h6
    · exact h3 h6
    · omega
  · obtain ⟨o1, a1, _⟩ := entOld i f1 hi
    obtain ⟨o2, a2, _⟩ := entOld j f2 hj
    exact h.core.inj i j o1 o2 g a1 a2 h1 h2
  · refine h.below.trans ⟨hn.below.os, hn.below.tape, hn.below.output, hn.below.size, fun k hk1 hk2 => ?_⟩
    refine hn.below.block k (Nat.lt_of_lt_of_le hk1 h.base) fun hx => ?_
    obtain ⟨k2, f0, h3, h4⟩ := exE k hx
    obtain ⟨f2, hf2, _⟩ := entc_of (matchE_look m s E0 k2 f0 hm h3)
    have h5 := h.own _ f2 k hf2 h4
    split at h5
    · exact hk2 h5
    · omega
  · rcases hn.okN g hg with h1 | h1
    · exact h.fresh g h1
    · exact .inr (Nat.le_trans h.base h1)
  · obtain ⟨old, h1, h2⟩ := entOld j f hj
    rw [h2]
    exact h.own j old g h1 hg
/-- New rows at the same world. -/
theorem R.updN {B : Fr} {w0 : World} {ok0 ok : Nat → Prop} {σ σ' : Nat → Loc} {s : St} {a : Act} {w : World} (h : R B w0 ok0 ok σ s a w) {d N : Nat} {av : AV} {ne : List (Nat × Ent)} {v : Value}
    (hsm : ∀ id e g, s.ent id = some e → (σ id).blk = some g → g < N) (hBN : B.n ≤ N) (hrel : Rel ok σ' w av v) (hkeys : ∀ id e, ne.lookup id = some e → id < 8) (hids : ∀ e, e ≠ 0 → av.ment e = false) (hent : ∀ id e, ne.lookup id = some e → EntOk ok w (σ' id) e)
    (hblk : ∀ id e g, ne.lookup id = some e → (σ' id).blk = some g → N ≤ g ∧ ¬ ok g ∧ g < w.heap.size) (hinj : ∀ i j e f g, ne.lookup i = some e → ne.lookup j = some f → (σ' i).blk = some g → (σ' j).blk = some g → i = j) (hnp : ∀ id e, ne.lookup id = some e → e.pin = false) :
    R B w0 ok0 ok (fun id => if id / 8 = d then σ' (id % 8) else σ id) (s.upd d av ne) (a.put (some d) v) w := by
  have hσ : ∀ id, id / 8 ≠ d → (fun id => if id / 8 = d then σ' (id % 8) else σ id) id = σ id := fun id hid => by simp [hid]
  have look : ∀ id e, (s.upd d av ne).ent id = some e → (id / 8 = d ∧ ne.lookup (id % 8) = some e) ∨ (id / 8 ≠ d ∧ s.ent id = some e) := by
    intro id e he
    unfold St.ent St.upd at he
    rw [look_app] at he
    cases hs : (shiftE d ne).lookup id with
    | some e2 =>
      rw [hs] at he
      injection he with he
      subst he
      obtain ⟨h1, h2⟩ := shiftE_look2 d ne id _ hs
      have h3 := hkeys _ _ h2
      have h4 : id - d * 8 = id % 8 := by omega
      rw [h4] at h2
      exact .inl ⟨by omega, h2⟩
    | none =>
      rw [hs] at he
      simp only [killE_look] at he
      by_cases hd : id / 8 = d
      · simp [hd] at he
      · rw [if_neg hd] at he
        exact .inr ⟨hd, he⟩
  refine ⟨⟨?_, h.core.okL, h.core.lib, fun t => ?_, fun id e he => ?_, fun id e g he hg => ?_, fun i j e f g hi hj h1 h2 => ?_⟩, h.defers, h.below, h.base, h.old, h.fresh, fun id e g he hg => ?_⟩
  · rw [size_put]
    simpa [St.upd, killT_len] using h.core.len
  · have hk : (s.upd d av ne).get t = if d = t ∧ d < s.T.length then av.shift d else (bif (s.get t).ment d then AV.bot else s.get t) := by
      have e := get_put (s.kill d) d t (av.shift d)
      unfold St.put St.kill St.get at e
      simp only [killT_len, killT_get] at e
      unfold St.upd St.get
      exact e
    rw [hk, getD_put]
    by_cases hd : d = t ∧ d < s.T.length
    · rw [if_pos hd, if_pos ⟨hd.1, Nat.lt_of_lt_of_le hd.2 h.core.len⟩]
      refine hrel.shift d fun k hk2 => ?_
      have hk0 : k / 8 = 0 := by
        rcases Nat.eq_zero_or_pos (k / 8) with h0 | h0
        · exact h0
        · rw [hids (k / 8) (by omega)] at hk2
          cases hk2
      have e1 : (d * 8 + k) / 8 = d := by omega
      have e2 : (d * 8 + k) % 8 = k := by omega
      simp [e1, e2]
    · rw [if_neg hd]
      by_cases hd2 : d = t ∧ d < a.tmps.size
      · rw [if_pos hd2]
        have hb : s.get t = .bot := by
          unfold St.get
          rw [List.getElem?_eq_none (by omega)]
          rfl
        rw [hb]
        trivial
      · rw [if_neg hd2]
        cases hm : (s.get t).ment d with
        | true => trivial
        | false => exact (h.core.tmp t).mono d (fun _ h => h) (fun _ _ => rfl) hm hσ
  · rcases look id e he with ⟨h1, h2⟩ | ⟨h1, h2⟩
    · simpa [h1] using hent _ _ h2
    · simp only [h1, if_false]
      exact h.core.ent id e h2
  · rcases look id e he with ⟨h1, h2⟩ | ⟨h1, h2⟩
    · simp only [h1, if_true] at hg
      exact (hblk _ _ _ h2 hg).2
    · simp only [h1, if_false] at hg
      exact h.core.blk id e g h2 hg
  · rcases look i e hi with ⟨a1, a2⟩ | ⟨a1, a2⟩ <;> rcases look j f hj with ⟨b1, b2⟩ | ⟨b1, b2⟩
    · simp only [a1, b1, if_true] at h1 h2
      have := hinj _ _ _ _ _ a2 b2 h1 h2
      omega
    · simp only [a1, b1, if_true, if_false] at h1 h2
      have x1 := (hblk _ _ _ a2 h1).1
      have x2 := hsm _ _ _ b2 h2
      omega
    · simp only [a1, b1, if_true, if_false] at h1 h2
      have x1 := (hblk _ _ _ b2 h2).1
      have x2 := hsm _ _ _ a2 h1
      omega
    · simp only [a1, b1, if_false] at h1 h2
      exact h.core.inj _ _ _ _ _ a2 b2 h1 h2
  · rcases look id e he with ⟨h1, h2⟩ | ⟨h1, h2⟩
    · simp only [h1, if_true] at hg
      rw [hnp _ _ h2, if_neg (by decide)]
      exact Nat.le_trans hBN (hblk _ _ _ h2 hg).1
    · simp only [h1, if_false] at hg
      exact h.own id e g h2 hg
/-- A call that may write variables and rows of the caller, where the contract holds at these places. -/
theorem X_callRs {o : Oper} {s : St} {f : FuncId} {xs : Array Operand} {ts : Array TypeId} {args : List AV} {E0 E1 : List (Nat × Ent)} {av : AV} {ne E' : List (Nat × Ent)} (m : List (Nat × Nat)) (d : Nat) (hS : ∀ ok σ (a : Act) w, Core ok σ s a w → CallRs P f (fun k => σ (renI m k)) args E0 av ne E1) (hc : ∀ args w, (callFunc f args).run P w = .ok (.enter f args) w)
    (ho : o.op = .call { callee := .value (.func f), args := xs, argTypes := ts }) (hd : o.dst = some d) (ha : evL s xs.toList = renL m args) (ht : noTup args = true) (hm : matchE m s E0) (hk : keysE E1 = keysE E0) (hr : renOk m E0 = true) (hp : noPin E1 = true) (hp0 : noPin E0 = true) (he : updE m s.E E1 = E') :
    X P o s ((St.mk s.T E').upd d av ne) := by
  intro B w0 ok0 ok σ a w hR K Q hK
  subst he
  have hheld : Held ok (fun k => σ (renI m k)) w E0 := by
    refine ⟨fun id e he => ?_, fun id e g he hg => ?_, fun i j e f g hi hj h1 h2 => ?_⟩
    · exact ⟨hR.core.entc _ _ (matchE_look m s E0 id e hm he), noPin_look E0 id e hp0 he⟩
    · obtain ⟨f, hf, _⟩ := entc_of (matchE_look m s E0 id e hm he)
      exact hR.core.blk _ f g hf hg
    · obtain ⟨f1, hf1, _⟩ := entc_of (matchE_look m s E0 i e hm hi)
      obtain ⟨f2, hf2, _⟩ := entc_of (matchE_look m s E0 j f hm hj)
      exact nodup_inj (renI m) _ hr i (keysE_mem E0 i e hi) j (keysE_mem E0 j f hj) (hR.core.inj _ _ _ _ _ hf1 hf2 h1 h2)
  refine wp_call hc ho (Calls.mono (hS ok σ a w hR.core ok w _ hR.core.okL hR.core.lib (ren_relA ht (ha ▸ evL_rel hR.core xs.toList)) hheld) ?_)
  rintro e w' ⟨v, ok', σ', he, hn, hE⟩
  obtain ⟨hR2, hsm⟩ := hR.ref hm hk hr hp hn hE
  refine ⟨v, he, ?_⟩
  rw [hd]
  exact hK _ _ _ _ (hR2.updN hsm hR.base hn.rel hn.keys hn.ids hn.ent hn.blk hn.inj hn.np)
/-- A call that may write variables and rows of the caller. -/
theorem X_callR {o : Oper} {s : St} {f : FuncId} {xs : Array Operand} {ts : Array TypeId} {args : List AV} {E0 E1 : List (Nat × Ent)} {av : AV} {ne E' : List (Nat × Ent)} (m : List (Nat × Nat)) (d : Nat) (hS : CallR P f args E0 av ne E1) (hc : ∀ args w, (callFunc f args).run P w = .ok (.enter f args) w)
    (ho : o.op = .call { callee := .value (.func f), args := xs, argTypes := ts }) (hd : o.dst = some d) (ha : evL s xs.toList = renL m args) (ht : noTup args = true) (hm : matchE m s E0) (hk : keysE E1 = keysE E0) (hr : renOk m E0 = true) (hp : noPin E1 = true) (hp0 : noPin E0 = true) (he : updE m s.E E1 = E') :
    X P o s ((St.mk s.T E').upd d av ne) :=
  X_callRs m d (fun _ σ _ _ _ => fun ok w vs h1 h2 h3 h4 => hS ok _ w vs h1 h2 h3 h4) hc ho hd ha ht hm hk hr hp hp0 he
end
end Go.Proofs.YtnheekadeflecaaGreat
