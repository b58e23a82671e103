/-
  Rules of walks, plain functions and their laws, part 2.
  Conditions: none.
-/
import Derived.DataReads
import Derived.OpenShut
import Derived.Lib.ItoaNum
import Derived.Lib.Join
import Derived.Laws.BytesString
import Derived.Laws.Strings2
import Derived.Laws.Slices
import Derived.Lib.SplitLaws
import Derived.Lib.FieldsP
import Derived.Lib.CutLaws
import Derived.Lib.AtoiAllCases
import Derived.Laws.Externs
import Derived.Lib.AtoiTie
import Derived.Test.YtfmjfofocklgpaaGreatDoorJbz1
set_option linter.unusedSimpArgs false
set_option linter.unusedVariables false
namespace Go.Proofs.YtfmjfofocklgpaaGreatDoor
open Go.RowKit
def renI (m : List (Nat × Nat)) (k : Nat) : Nat := (m.lookup k).getD k
def AV.ren (m : List (Nat × Nat)) : AV → AV
 | .ow k => .ow (renI m k)
 | .pt k o => .pt (renI m k) o
 | .po k z i o => .po (renI m k) z i o
 | .vw k els v => .vw (renI m k) els v
 | .sf k z i => .sf (renI m k) z i
 | .tc _ _ => .bot
 | .tn => .bot
 | av => av
def renL (m : List (Nat × Nat)) : List AV → List AV
 | [] => []
 | a :: asq => a.ren m :: renL m asq
def reE (old e : Ent) : Ent := bif old.pin then (match old with
 | .pbox l _ => e.pinned l
 | .parr l _ _ _ => e.pinned l
 | _ => e) else e
def Ent.row : Ent → Bool
 | .box _ => false
 | .arr _ _ _ => true
 | .pbox _ _ => false
 | .parr _ _ _ _ => true
 | .mp _ _ => false
 | .qarr _ _ _ _ => true
def updE (m : List (Nat × Nat)) : List (Nat × Ent) → List (Nat × Ent) → List (Nat × Ent)
 | E, [] => E
 | E, (k, e) :: ps => setE (renI m k) (reE ((E.lookup (renI m k)).getD e) e) (updE m E ps)
def zIs (m : List (Nat × Nat)) (s : St) : List (Nat × Ent) → Prop
 | [] => True
 | (k, e) :: ps => s.entc (renI m k) = some e ∧ zIs m s ps
def zEU : List (Nat × Ent) → List Nat
 | [] => []
 | (k, _) :: ps => k :: zEU ps
def renOk (m : List (Nat × Nat)) (E0 : List (Nat × Ent)) : Bool := zD1 ((zEU E0).map (renI m))
theorem zX {m : List (Nat × Nat)} {s : St} : zIs m s [] := trivial
theorem zR {m : List (Nat × Nat)} {s : St} {k : Nat} {e : Ent} {ps : List (Nat × Ent)} (h : s.entc (renI m k) = some e) (t : zIs m s ps) : zIs m s ((k, e) :: ps) := ⟨h, t⟩
theorem zCB {s : St} : HasE s [] := trivial
theorem zU {s : St} {k : Nat} {e : Ent} {ps : List (Nat × Ent)} (h : s.ent k = some e) (t : HasE s ps) : HasE s ((k, e) :: ps) := ⟨h, t⟩
theorem zC5 (m : List (Nat × Nat)) (s : St) : ∀ (E0 : List (Nat × Ent)) (id : Nat) (e : Ent), zIs m s E0 → E0.lookup id = some e → s.entc (renI m id) = some e
 | [], id, e, _, h => by simp at h
 | (k, f) :: ps, id, e, hs, h => by
  simp only [List.lookup] at h
  cases hk : id == k with
  | true =>
   have : id = k := by simpa using hk
   subst this
   rw [hk] at h
   injection h with h
   subst h
   exact hs.1
  | false =>
   rw [hk] at h
   exact zC5 m s ps id e hs.2 h
theorem zEt : ∀ (E0 : List (Nat × Ent)) (id : Nat) (e : Ent), E0.lookup id = some e → id ∈ zEU E0
 | [], id, e, h => by simp at h
 | (k, f) :: ps, id, e, h => by
  simp only [List.lookup] at h
  cases hk : id == k with
  | true =>
   have : id = k := by simpa using hk
   subst this
   exact List.mem_cons_self
  | false =>
   rw [hk] at h
   exact List.mem_cons_of_mem _ (zEt ps id e h)
theorem zKG : ∀ (E0 : List (Nat × Ent)) (id : Nat), id ∈ zEU E0 → ∃ e, E0.lookup id = some e
 | [], id, h => by cases h
 | (q1, q2) :: ps, id, h => by
  by_cases hq : id = q1
  ·subst hq; exact ⟨q2, by simp [List.lookup]⟩
  ·have : (id == q1) = false := by rw [beq_eq_false_iff_ne]; exact hq
   rcases List.mem_cons.1 h with h2 | h2
   ·exact absurd h2 hq
   ·obtain ⟨f, hf⟩ := zKG ps id h2
    exact ⟨f, by simp only [List.lookup, this]; exact hf⟩
theorem nodup_inj (f : Nat → Nat) : ∀ (l : List Nat), zD1 (l.map f) = true → ∀ i, i ∈ l → ∀ j, j ∈ l → f i = f j → i = j
 | [], _, i, hi, _, _, _ => by cases hi
 | x :: xs, h, i, hi, j, hj, hf => by
  simp only [List.map_cons, zD1, Bool.and_eq_true, Bool.not_eq_true', List.contains_eq_mem, decide_eq_false_iff_not] at h
  obtain ⟨h1, h2⟩ := h
  rcases List.mem_cons.1 hi with a1 | a1 <;> rcases List.mem_cons.1 hj with b1 | b1
  ·rw [a1, b1]
  ·subst a1
   exact absurd (List.mem_map.2 ⟨j, b1, hf.symm⟩) h1
  ·subst b1
   exact absurd (List.mem_map.2 ⟨i, a1, hf⟩) h1
  ·exact nodup_inj f xs h2 i a1 j b1 hf
section
variable {P : Program}
theorem ren_rel {ok : Nat → Prop} {σ : Nat → Loc} {w : World} {m : List (Nat × Nat)} {av : AV} {y : Value} (h : Rel ok σ w (av.ren m) y) (hb : ∀ x r, av ≠ .tc x r) (hb2 : av ≠ .tn) : Rel ok (fun k => σ (renI m k)) w av y := by
 cases av with
 | bot => trivial
 | c t => exact h
 | ag cs => exact h
 | ow id => exact h
 | pt id off => exact h
 | po id sz i off => exact h
 | pe cs => exact h
 | fn f caps => exact h
 | er b => exact h
 | vw id els v => exact h
 | sf id z i => exact h
 | tn => exact absurd rfl hb2
 | tc x r => exact absurd rfl (hb x r)
def noTup : List AV → Bool
 | [] => true
 | .tc _ _ :: _ => false
 | .tn :: _ => false
 | _ :: asq => noTup asq
theorem ren_relA {ok : Nat → Prop} {σ : Nat → Loc} {w : World} {m : List (Nat × Nat)} : ∀ {args : List AV} {vs : List Value}, noTup args = true → RelA ok σ w (renL m args) vs → RelA ok (fun k => σ (renI m k)) w args vs
 | [], _, _, .nil => .nil
 | a :: asq, _, ht, .cons h hs => by
  have h1 : (∀ x r, a ≠ .tc x r) ∧ a ≠ .tn ∧ noTup asq = true := by
   cases a with
   | tc x r => cases ht
   | tn => cases ht
   | _ => exact ⟨(fun _ _ h => by cases h), (fun h => by cases h), ht⟩
  exact .cons (ren_rel h h1.1 h1.2.1) (ren_relA h1.2.2 hs)
theorem reE_pin (old e : Ent) (he : e.plain = true) : (reE old e).pin = old.pin := by
 cases old with
 | box cs => exact Ent.pin_of_plain he
 | arr T sz els => exact Ent.pin_of_plain he
 | mp b kvs => exact Ent.pin_of_plain he
 | qarr l0 T sz els => exact Ent.pin_of_plain he
 | pbox l cs => exact zIq he
 | parr l T sz els => exact zIq he
theorem updE_look (m : List (Nat × Nat)) (E : List (Nat × Ent)) : ∀ (E1 : List (Nat × Ent)), zD1 ((zEU E1).map (renI m)) = true → (∀ k e, E1.lookup k = some e → ∃ f, E.lookup (renI m k) = some f) → ∀ j, (updE m E E1).lookup j = match E1.find? (fun p => renI m p.1 == j) with
      | some p => some (reE ((E.lookup j).getD p.2) p.2)
      | none => E.lookup j
  | [], _, _, j => rfl
  | (k, e) :: ps, hn, hx, j => by
    have hn2 : zD1 ((zEU ps).map (renI m)) = true := by
      simp only [zEU, List.map_cons, zD1, Bool.and_eq_true] at hn
      exact hn.2
    have hn1 : renI m k ∉ (zEU ps).map (renI m) := by
      simp only [zEU, List.map_cons, zD1, Bool.and_eq_true, Bool.not_eq_true', List.contains_eq_mem, decide_eq_false_iff_not] at hn
      exact hn.1
    have ih := updE_look m E ps hn2 (fun k2 e2 h2 => by
      by_cases hk : k2 = k
      · subst hk
        exact absurd (List.mem_map.2 ⟨k2, zEt ps k2 e2 h2, rfl⟩) hn1
      · refine hx k2 e2 ?_
        have : (k2 == k) = false := by rw [beq_eq_false_iff_ne]; exact hk
        simp only [List.lookup, this]
        exact h2)
    have hself : (updE m E ps).lookup (renI m k) = E.lookup (renI m k) := by
      rw [ih]
      have hf : ps.find? (fun p => renI m p.1 == renI m k) = none := by
        rw [List.find?_eq_none]
        intro p hp hh
        have hh : renI m p.1 = renI m k := by simpa using hh
        have : p.1 ∈ zEU ps := by
          clear ih hn hx hn1 hn2
          induction ps with
          | nil => cases hp
          | cons q qs ihq =>
            obtain ⟨q1, q2⟩ := q
            rcases List.mem_cons.1 hp with h1 | h1
            · subst h1; exact List.mem_cons_self
            · exact List.mem_cons_of_mem _ (ihq h1)
        exact hn1 (List.mem_map.2 ⟨p.1, this, hh⟩)
      rw [hf]
    obtain ⟨f, hf⟩ := hx k e (by simp [List.lookup])
    have look := zDg (renI m k) (reE ((E.lookup (renI m k)).getD e) e) (updE m E ps) f (by rw [hself, hf])
    simp only [updE]
    rw [look j, List.find?_cons]
    by_cases hj : j = renI m k
    · subst hj
      simp
    · have : (renI m k == j) = false := by rw [beq_eq_false_iff_ne]; exact fun h => hj h.symm
      rw [if_neg hj, this, ih]
theorem find_look (m : List (Nat × Nat)) : ∀ (E1 : List (Nat × Ent)) (j : Nat) (p : Nat × Ent), zD1 ((zEU E1).map (renI m)) = true → E1.find? (fun p => renI m p.1 == j) = some p → E1.lookup p.1 = some p.2 ∧ renI m p.1 = j
 | [], j, p, _, h => by simp at h
 | (k, e) :: ps, j, p, hn, h => by
  rw [List.find?_cons] at h
  cases hk : renI m k == j with
  | true =>
   simp only [hk] at h
   injection h with h
   subst h
   exact ⟨by simp [List.lookup], by simpa using hk⟩
  | false =>
   simp only [hk] at h
   have hn2 : zD1 ((zEU ps).map (renI m)) = true := by
    simp only [zEU, List.map_cons, zD1, Bool.and_eq_true] at hn
    exact hn.2
   have hn1 : renI m k ∉ (zEU ps).map (renI m) := by
    simp only [zEU, List.map_cons, zD1, Bool.and_eq_true, Bool.not_eq_true', List.contains_eq_mem, decide_eq_false_iff_not] at hn
    exact hn.1
   obtain ⟨h1, h2⟩ := find_look m ps j p hn2 h
   have : (p.1 == k) = false := by
    rw [beq_eq_false_iff_ne]
    intro e1
    exact hn1 (List.mem_map.2 ⟨p.1, zEt ps _ _ h1, by rw [e1]⟩)
   exact ⟨by simp only [List.lookup, this]; exact h1, h2⟩
theorem reE_ok {ok : Nat → Prop} {w : World} {l : Loc} {old e : Ent} {ok0 : Nat → Prop} {w0 : World} (ho : zB6 ok0 w0 l old) (h : zB6 ok w l e) (he : e.plain = true) : zB6 ok w l (reE old e) := by
 cases old with
 | box cs => exact h
 | arr T sz els => exact h
 | mp b kvs => exact h
 | qarr l0 T sz els => exact h
 | pbox l0 cs =>
  obtain ⟨rfl, _⟩ := ho
  exact zKC h he
 | parr l0 T sz els =>
  obtain ⟨rfl, _⟩ := ho
  exact zKC h he
theorem R.ref {B : Fr} {w0 : World} {ok0 ok ok' : Nat → Prop} {σ σ' : Nat → Loc} {s : St} {a : Act} {w w' : World} (h : R B w0 ok0 ok σ s a w) {m : List (Nat × Nat)} {E0 E1 : List (Nat × Ent)} {av : AV} {ne : List (Nat × Ent)} {v : Value}
  (hm : zIs m s E0) (hk : zEU E1 = zEU E0) (hr : renOk m E0 = true) (hp : zLa E1 = true) (hn : NewX ⟨w.heap.size, exOf (fun k => σ (renI m k)) E0⟩ w w' ok ok' σ' av ne v) (hE : ∀ id e, E1.lookup id = some e → zB6 ok' w' (σ (renI m id)) e) :
  R B w0 ok0 ok' (fun id => σ id) ⟨s.T, updE m s.E E1⟩ a w' ∧ ∀ id e g, (St.mk s.T (updE m s.E E1)).ent id = some e → (σ id).blk = some g → g < w.heap.size := by
 have hsz := hn.below.size
 have key0 : ∀ k e, E1.lookup k = some e → ∃ f, E0.lookup k = some f := by
  intro k e hke
  have h1 := zEt E1 k e hke
  rw [hk] at h1
  exact zKG E0 k h1
 have hold : ∀ k e, E1.lookup k = some e → ∃ f, s.E.lookup (renI m k) = some f := by
  intro k e hke
  obtain ⟨f0, hf0⟩ := key0 k e hke
  obtain ⟨f, hf, _⟩ := zFA (zC5 m s E0 k f0 hm hf0)
  exact ⟨f, hf⟩
 have hr1 : zD1 ((zEU E1).map (renI m)) = true := by rw [hk]; exact hr
 have look := updE_look m s.E E1 hr1 hold
 -- an entry behind the call
 have cases_ : ∀ j f, (St.mk s.T (updE m s.E E1)).ent j = some f → (∃ k e old, E1.lookup k = some e ∧ renI m k = j ∧ s.ent j = some old ∧ f = reE old e) ∨ ((∀ k e, E1.lookup k = some e → renI m k ≠ j) ∧ s.ent j = some f) := by
  intro j f hj
  have h1 : (updE m s.E E1).lookup j = some f := hj
  rw [look] at h1
  cases hfd : E1.find? (fun p => renI m p.1 == j) with
  | some p =>
   rw [hfd] at h1
   obtain ⟨h2, h3⟩ := find_look m E1 j p hr1 hfd
   obtain ⟨old, hold1⟩ := hold p.1 p.2 h2
   rw [h3] at hold1
   rw [hold1] at h1
   injection h1 with h1
   exact .inl ⟨p.1, p.2, old, h2, h3, hold1, h1.symm⟩
  | none =>
   rw [hfd] at h1
   refine .inr ⟨fun k e hke hkj => ?_, h1⟩
   rw [List.find?_eq_none] at hfd
   have hmem : ∀ (L : List (Nat × Ent)), L.lookup k = some e → (k, e) ∈ L := by
    intro L
    induction L with
    | nil => intro h; simp at h
    | cons q qs ih =>
     intro h
     obtain ⟨q1, q2⟩ := q
     simp only [List.lookup] at h
     cases hq : k == q1 with
     | true =>
      rw [hq] at h
      injection h with h
      have : k = q1 := by simpa using hq
      subst this; subst h
      exact List.mem_cons_self
     | false =>
      rw [hq] at h
      exact List.mem_cons_of_mem _ (ih h)
   exact hfd (k, e) (hmem E1 hke) (by simpa using hkj)
 have exE : ∀ g, exOf (fun k => σ (renI m k)) E0 g → ∃ k f0, E0.lookup k = some f0 ∧ (σ (renI m k)).blk = some g := fun g ⟨k, f0, h1, h2⟩ => ⟨k, f0, h1, h2⟩
 have exNot : ∀ g, ok g → ¬ exOf (fun k => σ (renI m k)) E0 g := by
  intro g hg hx
  obtain ⟨k, f0, h1, h2⟩ := exE g hx
  obtain ⟨f, hf, _⟩ := zFA (zC5 m s E0 k f0 hm h1)
  exact (h.core.blk _ f g hf h2).1 hg
 have hwok : ∀ g, ok g → w'.heap[g]? = w.heap[g]? := fun g hg => hn.below.block g (h.core.okL g hg) (exNot g hg)
 have entOld : ∀ j f, (St.mk s.T (updE m s.E E1)).ent j = some f → ∃ old, s.ent j = some old ∧ f.pin = old.pin := by
  intro j f hj
  rcases cases_ j f hj with ⟨k, e, old, h1, h2, h3, rfl⟩ | ⟨_, h2⟩
  ·exact ⟨old, h3, reE_pin old e (zFc E1 k e hp h1)⟩
  ·exact ⟨f, h2, rfl⟩
 refine ⟨?_, fun j f g hj hg => by obtain ⟨old, h1, _⟩ := entOld j f hj; exact (h.core.blk j old g h1 hg).2⟩
 refine ⟨⟨h.core.len, hn.okL, h.core.lib.mono hn.okM hwok, fun t => (h.core.tmp t).mono0 hn.okM hwok, fun j f hj => ?_, fun j f g hj hg => ?_, fun i j f1 f2 g hi hj h1 h2 => ?_⟩, h.defers, ?_, Nat.le_trans h.base hsz, fun g hg => hn.okM g (h.old g hg), fun g hg => ?_, fun j f g hj hg => ?_⟩
 ·rcases cases_ j f hj with ⟨k, e, old, h1, h2, h3, rfl⟩ | ⟨h1, h2⟩
  ·have h4 := hE k e h1
   rw [h2] at h4
   exact reE_ok (h.core.ent j old h3) h4 (zFc E1 k e hp h1)
  ·refine (h.core.ent j f h2).mono hn.okM hwok fun g hg => hn.below.block g (h.core.blk j f g h2 hg).2 fun hx => ?_
   obtain ⟨k, f0, h3, h4⟩ := exE g hx
   obtain ⟨f2, hf2, _⟩ := zFA (zC5 m s E0 k f0 hm h3)
   have h5 := h.core.inj _ _ _ _ _ h2 hf2 hg h4
   -- k is a key of E1 too
   have h6 := zEt E0 k f0 h3
   rw [← hk] at h6
   have h7 := zKG E1 k h6
   obtain ⟨e1, he1⟩ := h7
   exact h1 k e1 he1 h5.symm
 ·obtain ⟨old, h1, h2⟩ := entOld j f hj
  obtain ⟨h3, h4⟩ := h.core.blk j old g h1 hg
  refine ⟨fun h5 => ?_, Nat.lt_of_lt_of_le h4 hsz⟩
  rcases hn.okN g h5 with h6 | h6
  ·exact h3 h6
  ·omega
 ·obtain ⟨o1, a1, _⟩ := entOld i f1 hi
  obtain ⟨o2, a2, _⟩ := entOld j f2 hj
  exact h.core.inj i j o1 o2 g a1 a2 h1 h2
 ·refine h.below.trans ⟨hn.below.os, hn.below.tape, hn.below.output, hn.below.size, fun k hk1 hk2 => ?_⟩
  refine hn.below.block k (Nat.lt_of_lt_of_le hk1 h.base) fun hx => ?_
  obtain ⟨k2, f0, h3, h4⟩ := exE k hx
  obtain ⟨f2, hf2, _⟩ := zFA (zC5 m s E0 k2 f0 hm h3)
  have h5 := h.own _ f2 k hf2 h4
  split at h5
  ·exact hk2 h5
  ·omega
 ·rcases hn.okN g hg with h1 | h1
  ·exact h.fresh g h1
  ·exact .inr (Nat.le_trans h.base h1)
 ·obtain ⟨old, h1, h2⟩ := entOld j f hj
  rw [h2]
  exact h.own j old g h1 hg
theorem R.updN {B : Fr} {w0 : World} {ok0 ok : Nat → Prop} {σ σ' : Nat → Loc} {s : St} {a : Act} {w : World} (h : R B w0 ok0 ok σ s a w) {d N : Nat} {av : AV} {ne : List (Nat × Ent)} {v : Value}
  (hsm : ∀ id e g, s.ent id = some e → (σ id).blk = some g → g < N) (hBN : B.n ≤ N) (hrel : Rel ok σ' w av v) (hkeys : ∀ id e, ne.lookup id = some e → id < 8) (hids : ∀ e, e ≠ 0 → av.ment e = false) (hent : ∀ id e, ne.lookup id = some e → zB6 ok w (σ' id) e)
  (hblk : ∀ id e g, ne.lookup id = some e → (σ' id).blk = some g → N ≤ g ∧ ¬ ok g ∧ g < w.heap.size) (hinj : ∀ i j e f g, ne.lookup i = some e → ne.lookup j = some f → (σ' i).blk = some g → (σ' j).blk = some g → i = j) (hnp : ∀ id e, ne.lookup id = some e → e.pin = false) :
  R B w0 ok0 ok (fun id => if id / 8 = d then σ' (id % 8) else σ id) (s.upd d av ne) (a.put (some d) v) w := by
 have hσ : ∀ id, id / 8 ≠ d → (fun id => if id / 8 = d then σ' (id % 8) else σ id) id = σ id := fun id hid => by simp [hid]
 have look : ∀ id e, (s.upd d av ne).ent id = some e → (id / 8 = d ∧ ne.lookup (id % 8) = some e) ∨ (id / 8 ≠ d ∧ s.ent id = some e) := by
  intro id e he
  unfold St.ent St.upd at he
  rw [zEB] at he
  cases hs : (zDr d ne).lookup id with
  | some e2 =>
   rw [hs] at he
   injection he with he
   subst he
   obtain ⟨h1, h2⟩ := zEZ d ne id _ hs
   have h3 := hkeys _ _ h2
   have h4 : id - d * 8 = id % 8 := by omega
   rw [h4] at h2
   exact .inl ⟨by omega, h2⟩
  | none =>
   rw [hs] at he
   simp only [zEP] at he
   by_cases hd : id / 8 = d
   ·simp [hd] at he
   ·rw [if_neg hd] at he
    exact .inr ⟨hd, he⟩
 refine ⟨⟨?_, h.core.okL, h.core.lib, fun t => ?_, fun id e he => ?_, fun id e g he hg => ?_, fun i j e f g hi hj h1 h2 => ?_⟩, h.defers, h.below, h.base, h.old, h.fresh, fun id e g he hg => ?_⟩
 ·rw [zJL]
  simpa [St.upd, zDm] using h.core.len
 ·have hk : (s.upd d av ne).get t = if d = t ∧ d < s.T.length then av.shift d else (bif (s.get t).ment d then AV.bot else s.get t) := by
   have e := zC6 (s.kill d) d t (av.shift d)
   unfold St.put St.kill St.get at e
   simp only [zDm, zF5] at e
   unfold St.upd St.get
   exact e
  rw [hk, zJ9]
  by_cases hd : d = t ∧ d < s.T.length
  ·rw [if_pos hd, if_pos ⟨hd.1, Nat.lt_of_lt_of_le hd.2 h.core.len⟩]
   refine hrel.shift d fun k hk2 => ?_
   have hk0 : k / 8 = 0 := by
    rcases Nat.eq_zero_or_pos (k / 8) with h0 | h0
    ·exact h0
    ·rw [hids (k / 8) (by omega)] at hk2
     cases hk2
   have e1 : (d * 8 + k) / 8 = d := by omega
   have e2 : (d * 8 + k) % 8 = k := by omega
   simp [e1, e2]
  ·rw [if_neg hd]
   by_cases hd2 : d = t ∧ d < a.tmps.size
   ·rw [if_pos hd2]
    have hb : s.get t = .bot := by
     unfold St.get
     rw [List.getElem?_eq_none (by omega)]
     rfl
    rw [hb]
    trivial
   ·rw [if_neg hd2]
    cases hm : (s.get t).ment d with
    | true => trivial
    | false => exact (h.core.tmp t).mono d (fun _ h => h) (fun _ _ => rfl) hm hσ
 ·rcases look id e he with ⟨h1, h2⟩ | ⟨h1, h2⟩
  ·simpa [h1] using hent _ _ h2
  ·simp only [h1, if_false]
   exact h.core.ent id e h2
 ·rcases look id e he with ⟨h1, h2⟩ | ⟨h1, h2⟩
  ·simp only [h1, if_true] at hg
   exact (hblk _ _ _ h2 hg).2
  ·simp only [h1, if_false] at hg
   exact h.core.blk id e g h2 hg
 ·rcases look i e hi with ⟨a1, a2⟩ | ⟨a1, a2⟩ <;> rcases look j f hj with ⟨b1, b2⟩ | ⟨b1, b2⟩
  ·simp only [a1, b1, if_true] at h1 h2
   have := hinj _ _ _ _ _ a2 b2 h1 h2
   omega
  ·simp only [a1, b1, if_true, if_false] at h1 h2
   have x1 := (hblk _ _ _ a2 h1).1
   have x2 := hsm _ _ _ b2 h2
   omega
  ·simp only [a1, b1, if_true, if_false] at h1 h2
   have x1 := (hblk _ _ _ b2 h2).1
   have x2 := hsm _ _ _ a2 h1
   omega
  ·simp only [a1, b1, if_false] at h1 h2
   exact h.core.inj _ _ _ _ _ a2 b2 h1 h2
 ·rcases look id e he with ⟨h1, h2⟩ | ⟨h1, h2⟩
  ·simp only [h1, if_true] at hg
   rw [hnp _ _ h2, if_neg (by decide)]
   exact Nat.le_trans hBN (hblk _ _ _ h2 hg).1
  ·simp only [h1, if_false] at hg
   exact h.own id e g h2 hg
theorem zS {o : Oper} {s : St} {f : FuncId} {xs : Array Operand} {ts : Array TypeId} {args : List AV} {E0 E1 : List (Nat × Ent)} {av : AV} {ne E' : List (Nat × Ent)} (m : List (Nat × Nat)) (d : Nat) (hS : zDq P f args E0 av ne E1) (hc : ∀ args w, (callFunc f args).run P w = .ok (.enter f args) w)
  (ho : o.op = .call { callee := .value (.func f), args := xs, argTypes := ts }) (hd : o.dst = some d) (ha : evL s xs.toList = renL m args) (ht : noTup args = true) (hm : zIs m s E0) (hk : zEU E1 = zEU E0) (hr : renOk m E0 = true) (hp : zLa E1 = true) (hp0 : zLa E0 = true) (he : updE m s.E E1 = E') :
  X P o s ((St.mk s.T E').upd d av ne) := by
 intro B w0 ok0 ok σ a w hR K Q hK
 subst he
 have hheld : Held ok (fun k => σ (renI m k)) w E0 := by
  refine ⟨fun id e he => ?_, fun id e g he hg => ?_, fun i j e f g hi hj h1 h2 => ?_⟩
  ·exact ⟨hR.core.entc _ _ (zC5 m s E0 id e hm he), zFc E0 id e hp0 he⟩
  ·obtain ⟨f, hf, _⟩ := zFA (zC5 m s E0 id e hm he)
   exact hR.core.blk _ f g hf hg
  ·obtain ⟨f1, hf1, _⟩ := zFA (zC5 m s E0 i e hm hi)
   obtain ⟨f2, hf2, _⟩ := zFA (zC5 m s E0 j f hm hj)
   exact nodup_inj (renI m) _ hr i (zEt E0 i e hi) j (zEt E0 j f hj) (hR.core.inj _ _ _ _ _ hf1 hf2 h1 h2)
 refine zJJ hc ho (Calls.mono (hS ok (fun k => σ (renI m k)) w _ hR.core.okL hR.core.lib (ren_relA ht (ha ▸ evL_rel hR.core xs.toList)) hheld) ?_)
 rintro e w' ⟨v, ok', σ', he, hn, hE⟩
 obtain ⟨hR2, hsm⟩ := hR.ref hm hk hr hp hn hE
 refine ⟨v, he, ?_⟩
 rw [hd]
 exact hK _ _ _ _ (hR2.updN hsm hR.base hn.rel hn.keys hn.ids hn.ent hn.blk hn.inj hn.np)
end
def zHc (ms : List Nat) (mask : Nat) : Nat → List Nat
 | 0 => []
 | k + 1 => bif (!mask.testBit k) && ((ms.getD k 0 &&& mask) == ms.getD k 0) then k :: zHc ms mask k else zHc ms mask k
theorem zL2 (ms : List Nat) (mask : Nat) : ∀ (n i : Nat), i < n → mask.testBit i = false → (∀ j, (ms.getD i 0).testBit j = true → mask.testBit j = true) → i ∈ zHc ms mask n
 | 0, i, h, _, _ => by omega
 | k + 1, i, h, h1, h2 => by
  simp only [zHc]
  by_cases hk : i = k
  ·subst hk
   have e : (ms.getD i 0 &&& mask) = ms.getD i 0 := by
    apply Nat.eq_of_testBit_eq
    intro j
    rw [Nat.testBit_and]
    cases hj : (ms.getD i 0).testBit j with
    | false => rfl
    | true => rw [h2 j hj]; rfl
   rw [h1, e]
   simp
  ·have ih := zL2 ms mask k i (by omega) h1 h2
   cases (!mask.testBit k) && ((ms.getD k 0 &&& mask) == ms.getD k 0) with
   | true => exact List.mem_cons_of_mem _ ih
   | false => exact ih
section
variable (P : Program)
def zK6 (l : List Oper) (tab : List (Nat × St)) (mask : Nat) (s : St) : List Nat → Prop
 | [] => True
 | i :: is => (∃ o s' s2, l[i]? = some o ∧ o.guard = none ∧ X P o s s' ∧ tab.lookup (mask ||| 2 ^ i) = some s2 ∧ s2.T = s'.T ∧ HasE s' s2.E) ∧ zK6 l tab mask s is
def zGK (l : List Oper) (ms : List Nat) (tab : List (Nat × St)) (J : St → Prop) : List (Nat × St) → Prop
 | [] => True
 | (m, s) :: ps => zK6 P l tab m s (zHc ms m l.length) ∧ (m = 2 ^ l.length - 1 → J s) ∧ zGK l ms tab J ps
variable {P}
theorem stepT_at {l : List Oper} {tab : List (Nat × St)} {mask : Nat} {s : St} : ∀ (is : List Nat), zK6 P l tab mask s is → ∀ i, i ∈ is → ∃ o s' s2, l[i]? = some o ∧ o.guard = none ∧ X P o s s' ∧ tab.lookup (mask ||| 2 ^ i) = some s2 ∧ Le s2 s'
 | [], _, i, hi => by cases hi
 | j :: is, h, i, hi => by
  rcases List.mem_cons.1 hi with h1 | h1
  ·subst h1
   obtain ⟨o, s', s2, a1, a2, a3, a4, a5, a6⟩ := h.1
   exact ⟨o, s', s2, a1, a2, a3, a4, ⟨by rw [a5]; exact Nat.le_refl _, fun t => .inr (by unfold St.get; rw [a5]), fun id e he => zK2 s' s2.E id e a6 he⟩⟩
  ·exact stepT_at is h.2 i h1
theorem zLO {l : List Oper} {ms : List Nat} {tab : List (Nat × St)} {J : St → Prop} : ∀ (ps : List (Nat × St)), zGK P l ms tab J ps → ∀ m s, ps.lookup m = some s → zK6 P l tab m s (zHc ms m l.length) ∧ (m = 2 ^ l.length - 1 → J s)
 | [], _, m, s, h => by simp at h
 | (q, t) :: ps, h, m, s, hl => by
  simp only [List.lookup] at hl
  cases hq : m == q with
  | true =>
   have : m = q := by simpa using hq
   subst this
   rw [hq] at hl
   injection hl with hl
   subst hl
   exact ⟨h.1, h.2.1⟩
  | false =>
   rw [hq] at hl
   exact zLO ps h.2.2 m s hl
theorem dag_any {l : List Oper} {ms : List Nat} {tab : List (Nat × St)} {J : St → Prop} {Q : Exit → Act → World → Prop} {B : Fr} {w0 : World} {ok0 : Nat → Prop} (hc : chk1 ms l.length 0 l = true) (ht : zGK P l ms tab J tab)
  (hQ : ∀ s ok σ a w, J s → R B w0 ok0 ok σ s a w → Q .normal a w) :
  ∀ (fuel : Nat) (listed : Array Bool) (mask : Nat) (s : St) (ok : Nat → Prop) (σ : Nat → Loc) (a : Act) (w : World), listed.size = l.length → (∀ j, listed.getD j false = mask.testBit j) → (∀ j, listed.getD j false = true → ∀ m, (ms.getD j 0).testBit m = true → listed.getD m false = true) →
   left l.length (fun j => listed.getD j false) ≤ fuel → tab.lookup mask = some s → R B w0 ok0 ok σ s a w → wpAny P .any l.toArray Q fuel listed a w := by
 have full : ∀ (listed : Array Bool) (mask : Nat), listed.size = l.length → (∀ j, listed.getD j false = mask.testBit j) → (∀ j, j < l.length → listed.getD j false = true) → mask = 2 ^ l.length - 1 := by
  intro listed mask hs hm hall
  apply Nat.eq_of_testBit_eq
  intro j
  rw [Nat.testBit_two_pow_sub_one, ← hm]
  by_cases hj : j < l.length
  ·rw [hall j hj]; simp [hj]
  ·have : listed.getD j false = false := by
    rw [Array.getD_eq_getD_getElem?, Array.getElem?_eq_none (by omega)]
    rfl
   rw [this]
   simp [hj]
 intro fuel
 induction fuel with
 | zero =>
  intro listed mask s ok σ a w hs hm hcl hf hl hR
  have hall := left_zero (Nat.le_zero.1 hf)
  obtain ⟨_, h2⟩ := zLO tab ht mask s hl
  have hnil : Region.ready .any l.toArray listed = [] := by
   rw [List.eq_nil_iff_forall_not_mem]
   intro i hi
   obtain ⟨h1, o, h3, _⟩ := (zEr hs i).1 hi
   have hlt : i < l.length := by
    rcases Nat.lt_or_ge i l.length with h4 | h4
    ·exact h4
    ·rw [List.getElem?_eq_none h4] at h3; cases h3
   rw [hall i hlt] at h1
   cases h1
  exact ⟨hnil, hQ s ok σ a w (h2 (full listed mask hs hm hall)) hR⟩
 | succ fuel ih =>
  intro listed mask s ok σ a w hs hm hcl hf hl hR
  obtain ⟨hst, h2⟩ := zLO tab ht mask s hl
  refine ⟨fun hnil => ?_, fun i hi => ?_⟩
  ·refine hQ s ok σ a w (h2 (full listed mask hs hm fun j hj => ?_)) hR
   cases h3 : listed.getD j false with
   | true => rfl
   | false => exact absurd hnil (zIg hc hs j hj h3)
  ·have hbits := zHg hc hs hi hcl
   obtain ⟨h1, o, h3, _⟩ := (zEr hs i).1 hi
   have hlt : i < l.length := by
    rcases Nat.lt_or_ge i l.length with h4 | h4
    ·exact h4
    ·rw [List.getElem?_eq_none h4] at h3; cases h3
   obtain ⟨o2, s', s2, e1, e2, e3, e4, e5⟩ := stepT_at _ hst i (zL2 ms mask _ i hlt (by rw [← hm]; exact h1) fun j hj => by rw [← hm]; exact hbits j hj)
   rw [h3] at e1
   injection e1 with e1
   subst e1
   have hset := zF7 listed i (by omega)
   have hleft := left_set hs hlt h1
   unfold wpOp
   rw [show l.toArray[i]? = l[i]? by simp, h3]
   simp only
   rw [if_pos (zG2 hR.core (.inl e2))]
   refine .inl (e3 B w0 ok0 ok σ a w hR _ Q fun a' w' ok' σ' hR' => ?_)
   refine ih (listed.setIfInBounds i true) (mask ||| 2 ^ i) s2 ok' σ' a' w' (by simpa using hs) (fun j => ?_) (fun j hj m hmm => ?_) (by omega) e4 (hR'.le e5)
   ·rw [hset, Nat.testBit_or, Nat.testBit_two_pow, ← hm]
    by_cases hj : j = i
    ·subst hj; simp
    ·rw [if_neg hj]
     have : decide (i = j) = false := by simp; exact fun e => hj e.symm
     rw [this, Bool.or_false]
   ·rw [hset] at hj ⊢
    split
    ·rfl
    ·by_cases hji : j = i
     ·subst hji
      exact hbits m hmm
     ·rw [if_neg hji] at hj
      exact hcl j hj m hmm
theorem V_dag {id : Nat} {l : List Oper} {s : St} {J : Exit → St → Prop} (ms : List Nat) (tab : List (Nat × St)) (hm : P.follows .mixedOrders = true) (hc : chk1 ms l.length 0 l = true) (h0 : tab.lookup 0 = some s)
  (h : zGK P l ms tab (J .normal) tab) : V P (.region id l.toArray true) s J := by
 intro B w0 ok0 ok σ a w hR
 refine wp_region_any hm ?_
 have hrep : ∀ j, (Array.replicate l.toArray.size false).getD j false = false := by
  intro j
  rw [Array.getD_eq_getD_getElem?, Array.getElem?_replicate]
  split <;> rfl
 refine dag_any (B := B) (w0 := w0) (ok0 := ok0) hc h (fun s' ok' σ' a' w' hJ hR' => ⟨s', ok', σ', hJ, hR'⟩) l.toArray.size _ 0 s ok σ a _ (by simp) (fun j => by rw [hrep j, Nat.zero_testBit]) (fun j hj => by rw [hrep j] at hj; cases hj) ?_ h0 hR.drew
 unfold left
 refine Nat.le_trans List.countP_le_length ?_
 simp
theorem V_dagK {id : Nat} {l : List Oper} {s s1 : St} {J : Exit → St → Prop} (m : List Bool) (ids : List Nat) (ms : List Nat) (tab : List (Nat × St)) (hm : P.follows .mixedOrders = true) (hc : chk1 ms l.length 0 l = true) (h0 : tab.lookup 0 = some s)
  (h : zGK P l ms tab (fun s' => s'.keep m ids = s1) tab) (hj : J .normal s1) : V P (.region id l.toArray true) s J := by
 intro B w0 ok0 ok σ a w hR
 refine wp_mono (V_dag (J := fun e s' => e = .normal ∧ s'.keep m ids = s1) ms tab hm hc h0 ?_ B w0 ok0 ok σ a w hR) ?_
 ·have : ∀ ps, zGK P l ms tab (fun s' => s'.keep m ids = s1) ps → zGK P l ms tab (fun s' => Exit.normal = .normal ∧ s'.keep m ids = s1) ps := by
   intro ps
   induction ps with
   | nil => intro _; trivial
   | cons p ps ih => intro hp; exact ⟨hp.1, fun e => ⟨rfl, hp.2.1 e⟩, ih hp.2.2⟩
  exact this tab h
 ·rintro e a' w' ⟨s', ok', σ', ⟨rfl, hs⟩, hR'⟩
  subst hs
  exact ⟨_, ok', σ', hj, hR'.le (zGk m ids s')⟩
theorem V_sdagK {id : Nat} {l : List Oper} {y : Code} {s s1 : St} {J : Exit → St → Prop} (m : List Bool) (ids : List Nat) (ms : List Nat) (tab : List (Nat × St)) (hm : P.follows .mixedOrders = true) (hc : chk1 ms l.length 0 l = true) (h0 : tab.lookup 0 = some s)
  (h : zGK P l ms tab (fun s' => s'.keep m ids = s1) tab) (hv : V P y s1 J) : V P (.seq (.region id l.toArray true) y) s J := zK (V_dagK m ids ms tab hm hc h0 h hv)
theorem tab_nil {l : List Oper} {ms : List Nat} {tab : List (Nat × St)} {J : St → Prop} : zGK P l ms tab J [] := trivial
theorem zDY {l : List Oper} {ms : List Nat} {tab : List (Nat × St)} {J : St → Prop} {m : Nat} {s : St} {ps : List (Nat × St)} (is : List Nat) (h1 : zHc ms m l.length = is) (h3 : Nat.beq m (2 ^ l.length - 1) = false) (h2 : zK6 P l tab m s is) (h4 : zGK P l ms tab J ps) : zGK P l ms tab J ((m, s) :: ps) :=
 ⟨(by rw [h1]; exact h2), (fun e => by rw [← e, Nat.beq_refl] at h3; cases h3), h4⟩
theorem tab_last {l : List Oper} {ms : List Nat} {tab : List (Nat × St)} {J : St → Prop} {m : Nat} {s : St} {ps : List (Nat × St)} (h1 : zHc ms m l.length = []) (h3 : J s) (h4 : zGK P l ms tab J ps) : zGK P l ms tab J ((m, s) :: ps) :=
 ⟨(by rw [h1]; trivial), (fun _ => h3), h4⟩
theorem jU {l : List Oper} {tab : List (Nat × St)} {mask : Nat} {s : St} {i : Nat} {is : List Nat} {o : Oper} {s' s2 : St} (h1 : l[i]? = some o) (h2 : o.guard = none) (h3 : X P o s s') (h4 : tab.lookup (mask ||| 2 ^ i) = some s2) (h5 : s2.T = s'.T) (h6 : HasE s' s2.E) (h : zK6 P l tab mask s is) : zK6 P l tab mask s (i :: is) :=
 ⟨⟨o, s', s2, h1, h2, h3, h4, h5, h6⟩, h⟩
theorem zCZ {l : List Oper} {tab : List (Nat × St)} {mask : Nat} {s : St} : zK6 P l tab mask s [] := trivial
end
def zMS (kd : IntKind) (w : World) (a : Option Addr) (len cap : Nat) (zs : List Int) : Prop :=
 (a = none ∧ len = 0 ∧ cap = 0 ∧ zs = []) ∨
 ∃ g : Addr, a = some g ∧ len ≤ cap ∧ cap ≤ maxLen ∧ zs.length = cap ∧ (∀ i, i < zs.length → w.cell? (g.add i) = some (.int kd (zs.getD i 0))) ∧ (∀ n ∈ zs, (Lit.int kd n).wf = true)
theorem row_rd {kd : IntKind} {w : World} {a : Option Addr} {len cap : Nat} {zs : List Int} (h : zMS kd w a len cap zs) (c : Int → List Tr) (hc : ∀ x, c x = [.v (.int kd x)]) : Rd (fun g => g < w.heap.size) w (.sl ((zs.take len).map c)) (.slice a len cap) := by
 rcases h with ⟨rfl, rfl, rfl, rfl⟩ | ⟨g, rfl, hl, hm, hz, hcell, hwf⟩
 ·exact .nl _ _
 ·rcases Nat.eq_zero_or_pos len with h0 | h0
  ·subst h0
   simpa using Rd.nl _ _
  ·have h1 := hcell 0 (by omega)
   have h2 : g.add 0 = g := rfl
   rw [h2] at h1
   have hs : g.spot = none := World.cell?_spot h1
   obtain ⟨b, o, sp⟩ := g
   simp only at hs
   subst hs
   have hb : b < w.heap.size := by
    unfold World.cell? at h1
    simp only at h1
    rcases Nat.lt_or_ge b w.heap.size with h3 | h3
    ·exact h3
    ·rw [Array.getElem?_eq_none h3] at h1; cases h1
   have hat : ∀ i j c', at2 ((zs.take len).map c) i j = some c' → i < len ∧ j = 0 ∧ c' = .v (.int kd (zs.getD i 0)) := by
    intro i j c' hh
    unfold at2 at hh
    rw [List.getElem?_map] at hh
    have hi : i < len := by
     rcases Nat.lt_or_ge i len with h3 | h3
     ·exact h3
     ·rw [List.getElem?_eq_none (by simp; omega)] at hh; cases hh
    have hzi : (zs.take len)[i]? = some (zs.getD i 0) := by
     rw [List.getElem?_take, if_pos hi, List.getD_eq_getElem?_getD]
     have : i < zs.length := by omega
     rw [List.getElem?_eq_getElem this]
     rfl
    rw [hzi] at hh
    simp only [Option.map_some, Option.bind_some, hc] at hh
    cases j with
    | zero => simp at hh; exact ⟨hi, rfl, hh.symm⟩
    | succ j => simp at hh
   refine .sl b o len cap 1 _ (fun i j => .int kd (zs.getD i 0)) (by simp; omega) hl hb (fun el hel => ?_) (fun i j c' hh => ?_) (fun i j c' hh => ?_)
   ·obtain ⟨x, _, rfl⟩ := List.mem_map.1 hel
    rw [hc]; rfl
   ·obtain ⟨h3, h4, _⟩ := hat i j c' hh
    subst h4
    have h5 := hcell i (by omega)
    rw [zCv] at h5
    simpa using h5
   ·obtain ⟨h3, h4, h5⟩ := hat i j c' hh
    rw [h5]
    exact .v _ rfl
theorem relA_row {kd : IntKind} {w : World} {σ : Nat → Loc} {a : Option Addr} {len cap : Nat} {zs : List Int} {args : List AV} {vs : List Value} (h : zMS kd w a len cap zs) (c : Int → List Tr) (hc : ∀ x, c x = [.v (.int kd x)]) (hs : RelA (fun g => g < w.heap.size) σ w args vs) :
  RelA (fun g => g < w.heap.size) σ w (.c (.sl ((zs.take len).map c)) :: args) (.slice a len cap :: vs) := .cons (row_rd h c hc) hs
theorem row_u8 {w : World} {a : Option Addr} {len cap : Nat} {zs : List Int} (h : zMS .u8 w a len cap zs) : ∀ x ∈ zs.take len, 0 ≤ x ∧ x ≤ 255 := by
 intro x hx
 have hx := List.mem_of_mem_take hx
 rcases h with ⟨_, _, _, rfl⟩ | ⟨g, _, _, _, _, _, hwf⟩
 ·cases hx
 ·exact bounds_u8 (hwf x hx)
section
variable {P : Program}
theorem zAY {n : Nat} {l h : Int} {u : Unit} (hh : slc n l h = some u) : 0 ≤ l ∧ l ≤ h ∧ h ≤ n := by
 unfold slc at hh
 cases hb : (leI 0 l && (leI l h && leI h n)) with
 | false => rw [hb] at hh; cases hh
 | true => simpa [q9] using hb
theorem zGQ {k : IntKind} {n : Int} {y : Nat} {code : BoundsCode} (h0 : 0 ≤ n) (h1 : n ≤ y) (w : World) : (Instr.sliceBound (.int k n) y code).run P w = .ok n.toNat w := by
 unfold Instr.sliceBound
 simp [asIntOf, h0, h1]
theorem rd_part {ok : Nat → Prop} {w : World} {els : List (List Tr)} {A : Option Addr} {n cap sz : Nat} (h : Rd ok w (.sl els) (.slice A n cap)) (hs : ∀ el, el ∈ els → el.length = sz) {l h' : Nat} (h1 : l ≤ h') (h2 : h' ≤ els.length) :
  Rd ok w (.sl ((els.drop l).take (h' - l))) (.slice (if cap = l then A else A.map (·.add (l * sz))) (h' - l) (cap - l)) := by
 cases h with
 | nl A cap =>
  have e1 : l = 0 := by simp at h2; omega
  have e2 : h' = 0 := by simp at h2; omega
  subst e1 e2
  simpa using Rd.nl _ _
 | sl g off n cap sz2 els f hn hcap hok hsz hc hr =>
  rcases Nat.eq_zero_or_pos (h' - l) with h0 | h0
  ·rw [h0]
   simpa using Rd.nl _ _
  ·have hlen : els ≠ [] := by intro e; subst e; simp at h2; omega
   have hcl : ¬ cap = l := by omega
   rw [if_neg hcl]
   have hz : sz2 = sz := by
    obtain ⟨e, he⟩ := List.exists_mem_of_ne_nil els hlen
    rw [← hsz e he, hs e he]
   subst hz
   have hat : ∀ i j c, at2 ((els.drop l).take (h' - l)) i j = some c → at2 els (l + i) j = some c := by
    intro i j c hh
    unfold at2 at hh ⊢
    rw [List.getElem?_take] at hh
    split at hh
    ·rw [List.getElem?_drop] at hh
     exact hh
    ·cases hh
   have ha : (Option.map (fun x : Addr => x.add (l * sz2)) (some ⟨g, off, none⟩)) = some ⟨g, off + l * sz2, none⟩ := by
    rw [Option.map_some, zCv]
   rw [ha]
   refine .sl g (off + l * sz2) (h' - l) (cap - l) sz2 _ (fun i j => f (l + i) j) ?_ (by omega) hok (fun el hel => hsz el (List.mem_of_mem_drop (List.mem_of_mem_take hel))) (fun i j c hh => ?_) (fun i j c hh => hr _ _ _ (hat i j c hh))
   ·simp; omega
   ·have h3 := hc _ _ _ (hat i j c hh)
    have e : off + l * sz2 + (i * sz2 + j) = off + ((l + i) * sz2 + j) := by rw [Nat.add_mul]; omega
    rw [e]
    exact h3
theorem zIC {α : Type} {c : α → List Tr} {xs : List α} {o : Oper} {s : St} {t e sz : Nat} {x : Operand} {lo hi : Option Operand} {l h : Int} (hu : P.underlying t = some (.slice e)) (hsz : (P.info? e).map (·.size) = some sz) (hc : ∀ v, (c v).length = sz) (ho : o.op = .slice t x lo hi none)
  (hx : s.ev x = .c (.sl (xs.map c))) (hlo : ∀ y, lo = some y → ∃ k, s.ev y = .c (.v (.int k l))) (hlo0 : lo = none → l = 0) (hhi : ∀ y, hi = some y → ∃ k, s.ev y = .c (.v (.int k h))) (hhi0 : hi = none → h = (xs.length : Int)) (hb : 0 ≤ l ∧ l ≤ h ∧ h ≤ xs.length) : Y0 P o s (.c (.sl ((subl xs l h).map c))) :=
 q8 fun ok σ a w hC => by
  obtain ⟨b1, b2, b3⟩ := hb
  have h1 := hC.ev x
  rw [hx] at h1
  have h2 : Rd ok w (.sl (xs.map c)) (a.eval x) := h1
  generalize hv : a.eval x = v at h2
  obtain ⟨A, n, cap, rfl, hn, hcap⟩ : ∃ A n cap, v = .slice A n cap ∧ n = xs.length ∧ n ≤ cap := by
   generalize hT : Tr.sl (xs.map c) = T at h2
   cases h2 with
   | v y hy => cases hT
   | mp b es clock hb hm => cases hT
   | nl A cap =>
    injection hT with hT
    have : xs = [] := by simpa using hT
    subst this
    exact ⟨A, 0, cap, rfl, rfl, Nat.zero_le _⟩
   | sl g off n cap sz els f hn hcap hok hsz hc hr =>
    injection hT with hT
    subst hT
    exact ⟨_, n, cap, rfl, by rw [hn]; simp, hcap⟩
  have h3 := rd_part (sz := sz) h2 (fun el hel => by obtain ⟨y, _, rfl⟩ := List.mem_map.1 hel; exact hc y) (l := l.toNat) (h' := h.toNat) (by omega) (by simp; omega)
  have e1 : ((xs.map c).drop l.toNat).take (h.toNat - l.toNat) = (subl xs l h).map c := by
   unfold subl
   rw [← List.map_drop, ← List.map_take]
  rw [e1] at h3
  refine ⟨_, ?_, h3⟩
  have eL : (lo.map a.eval) = none ∧ l = 0 ∨ ∃ k, lo.map a.eval = some (.int k l) := by
   cases lo with
   | none => exact .inl ⟨rfl, hlo0 rfl⟩
   | some y => obtain ⟨k, hk⟩ := hlo y rfl; exact .inr ⟨k, by simp [hC.exact hk]⟩
  have eH : (hi.map a.eval) = none ∧ h = (n : Int) ∨ ∃ k, hi.map a.eval = some (.int k h) := by
   cases hi with
   | none => exact .inl ⟨rfl, by rw [hhi0 rfl, hn]⟩
   | some y => obtain ⟨k, hk⟩ := hhi y rfl; exact .inr ⟨k, by simp [hC.exact hk]⟩
  have hbounds : ∀ w, (Instr.sliceBounds true n cap (lo.map a.eval) (hi.map a.eval) none).run P w = .ok (l.toNat, h.toNat, cap) w := by
   intro w
   unfold Instr.sliceBounds
   rcases eL with ⟨e2, e3⟩ | ⟨k, e2⟩ <;> rcases eH with ⟨e4, e5⟩ | ⟨k2, e4⟩
   ·subst e3 e5
    simp [e2, e4]
   ·subst e3
    simp only [e2, e4, Sem.run_bind, Sem.run_pure, Result.andThen_ok, zGQ (P := P) (k := k2) (n := h) (y := cap) (by omega) (by omega)]
    rfl
   ·subst e5
    simp only [e2, e4, Sem.run_bind, Sem.run_pure, Result.andThen_ok, zGQ (P := P) (k := k) (n := l) (y := n) b1 (by omega)]
    simp
   ·simp only [e2, e4, Sem.run_bind, Sem.run_pure, Result.andThen_ok, zGQ (P := P) (k := k2) (n := h) (y := cap) (by omega) (by omega), zGQ (P := P) (k := k) (n := l) (y := h.toNat) b1 (by omega)]
  cases hii : P.info? e with
  | none => rw [hii] at hsz; cases hsz
  | some i =>
   have hi2 : i.size = sz := by rw [hii] at hsz; simpa using hsz
   unfold execOp
   rw [ho]
   simp [hv, Instr.sliceAt, Instr.slice, run_underlying hu, hbounds, sizeOf, typeInfo, hii, hi2]
theorem X_append0 {o : Oper} {s : St} {x y : Operand} {t e d id sz bytes : Nat} {z : Value} {els : List (List Tr)} (ho : o.op = .call { callee := .builtin .append, args := #[x, y], argTypes := #[t, t] }) (hd : o.dst = some d) (ht : P.underlying t = some (.slice e))
  (hi : (P.info? e).map (fun i => (i.zero, i.size, i.bytes)) = some (some z, sz, bytes)) (hx : s.ev x = .ow id) (he : s.ent id = some (.arr e sz els)) (hy : zCk s (s.ev y) = some []) : X P o s ⟨(zE9 id s.T).set d (.ow id), setE id (.arr e sz (els ++ [])) s.E⟩ := by
 intro B w0 ok0 ok σ a w hR K Q hK
 have h3 := hR.core.ev x
 rw [hx] at h3
 have h4 : a.eval x = zAB (σ id) := h3
 obtain ⟨A, cap2, h5, _, _⟩ := zG7 hR.core (hR.core.ev y) hy
 obtain ⟨h0, hn, hs, vs, hown, hrd⟩ := hR.core.ent id _ he
 have hle : (σ id).n ≤ (σ id).cap := by
  rcases hown.2 with ⟨hv, hv0⟩ | ⟨g, cap, cur, hv, _, _, hnc, _⟩
  ·omega
  ·unfold zAB at hv
   injection hv with _ q1 q2
   omega
 cases hii : P.info? e with
 | none => rw [hii] at hi; simp at hi
 | some i =>
  have hi2 : i.size = sz := by rw [hii] at hi; simp at hi; exact hi.2.1
  have hrun : (Builtin.append_ #[t, t] o.type #[zAB (σ id), .slice A 0 cap2]).run P w = .ok (zAB (σ id)) w := by
   unfold Builtin.append_ zAB
   cases A <;> cases (σ id).blk <;> simp [run_underlying ht, sizeOf, typeInfo, hii, hi2, Builtin.lenOf, Builtin.firstCells, hle, loadCells, loadCellsFrom, storeCells]
  unfold Oper.wp execOp
  simp only [ho, resolve, invoke, builtin, Sem.run_bind, Sem.run_pure, Result.andThen_ok, List.map_toArray, List.map_cons, List.map_nil, h4, h5, List.length_nil, hrun, Oper.upon, hd]
  refine hK _ _ ok σ ((hR.put (d := d) (av := .ow id) (v := zAB (σ id)) rfl).le ⟨by simp [St.put, zF6], fun u => ?_, fun j f hj => ?_⟩)
  ·have e0 := zC6 ⟨zE9 id s.T, s.E⟩ d u (.ow id)
   have e1 := zC6 s d u (.ow id)
   unfold St.put St.get at e0 e1
   unfold St.get St.put
   simp only [zF6, zIO] at e0
   rw [e0, e1]
   split
   ·exact .inr rfl
   ·cases ((s.T[u]?).getD .bot).mid id with
    | true => exact .inl rfl
    | false => exact .inr rfl
  ·have h7 : (setE id (.arr e sz (els ++ [])) s.E).lookup j = some f := hj
   rw [zDg id _ s.E _ he, List.append_nil] at h7
   show s.ent j = some f
   split at h7
   ·rename_i hji
    subst hji
    rw [he]
    exact h7
   ·exact h7
theorem zIV {α : Type} {c : α → List Tr} {xs ys : List α} {o : Oper} {s : St} {x y : Operand} {t e d id sz bytes : Nat} {z : Value} (ho : o.op = .call { callee := .builtin .append, args := #[x, y], argTypes := #[t, t] }) (hd : o.dst = some d) (ht : P.underlying t = some (.slice e))
  (hi : (P.info? e).map (fun i => (i.zero, i.size, i.bytes)) = some (some z, sz, bytes)) (hzs : z.cells.size = sz) (hx : s.ev x = .ow id) (he : s.ent id = some (.arr e sz (xs.map c))) (hy : zCk s (s.ev y) = some (ys.map c)) (hc : ∀ v, (c v).length = sz)
  (hr : xs.length + ys.length ≤ 1099511627776) (hby : bytes ≤ 128) : X P o s ⟨(zE9 id s.T).set d (.ow id), setE id (.arr e sz ((xs ++ ys).map c)) s.E⟩ := by
 cases ys with
 | nil =>
  have := X_append0 ho hd ht hi hx he (by simpa using hy)
  simpa using this
 | cons v vs => exact zAn ho hd ht hi hzs hx he hy hc (by simp) hr hby
end
section
variable {P : Program}
theorem RelA.app {ok : Nat → Prop} {σ : Nat → Loc} {w : World} {ts us : List AV} {xs ys : List Value} (h : RelA ok σ w ts xs) (h2 : RelA ok σ w us ys) : RelA ok σ w (ts ++ us) (xs ++ ys) := by
 induction h with
 | nil => exact h2
 | cons h hs ih => exact .cons h ih
end
end Go.Proofs.YtfmjfofocklgpaaGreatDoor
namespace Go.Proofs.YtfmjfofocklgpaaGreatDoor
def getB (b : ByteArray) (i : Int) : Option Int := if 0 ≤ i ∧ i < b.size then some (((b.data.toList[i.toNat]?).getD 0).toNat : Int) else none
def zBs (xs : List Int) : ByteArray := xs.foldl (fun r n => r.push (UInt8.ofNat n.toNat)) ByteArray.empty
def catR (a b : ByteArray) : Option Unit := if a.size + b.size ≤ 9223372036854775807 then some () else none
def zAo (n : Int) : Option ByteArray := if -9223372036854775808 ≤ n ∧ n ≤ 9223372036854775807 then some ⟨(Go.Lib.itoa n).toArray⟩ else none
def zCn (xs : List ByteArray) (sep : ByteArray) : Option ByteArray :=
 if xs.length ≤ 140737488355328 ∧ (Go.Lib.join (xs.map (·.data.toList)) sep.data.toList).length ≤ 140737488355328 then some ⟨(Go.Lib.join (xs.map (·.data.toList)) sep.data.toList).toArray⟩ else none
section
variable {κ ν : Type} [DecidableEq κ]
def ixM (a : κ) : List κ → Option Nat
 | [] => none
 | k :: ks => if a = k then some 0 else (ixM a ks).map (· + 1)
def mGet (a : κ) : List (κ × ν) → Option ν
 | [] => none
 | p :: ps => if a = p.1 then some p.2 else mGet a ps
def mPut (a : κ) (v : ν) : List (κ × ν) → List (κ × ν)
 | [] => [(a, v)]
 | p :: ps => if a = p.1 then (a, v) :: ps else p :: mPut a v ps
def mHas (a : κ) (m : List (κ × ν)) : Bool := (mGet a m).isSome
def mAt (a : κ) (m : List (κ × ν)) (z : ν) : ν := (mGet a m).getD z
end
end Go.Proofs.YtfmjfofocklgpaaGreatDoor
namespace Go.Proofs.YtfmjfofocklgpaaGreatDoor
open Go.RowKit
section
variable {P : Program}
theorem qJ {a b : ByteArray} {u : Unit} (h : catR a b = some u) : a.size + b.size ≤ 9223372036854775807 := by
 unfold catR at h
 split at h
 ·assumption
 ·cases h
theorem getB_some {b : ByteArray} {i v : Int} (h : getB b i = some v) : ∃ h : 0 ≤ i ∧ i < b.size, v = (b[i.toNat]'(by omega)).toNat := by
 unfold getB at h
 split at h
 ·rename_i hi
  injection h with h
  refine ⟨hi, ?_⟩
  rw [← h]
  have h2 : i.toNat < b.data.toList.length := by
   have : b.data.toList.length = b.size := by simp
   omega
  rw [List.getElem?_eq_getElem h2]
  rfl
 ·cases h
theorem zC9 {o : Oper} {s : St} {x i : Operand} {t : TypeId} {b : ByteArray} {k : IntKind} {n v : Int} (hu : P.underlying t = some .string) (ho : o.op = .index t x i) (hx : s.ev x = .c (.v (.string b))) (hi : s.ev i = .c (.v (.int k n))) (hg : getB b n = some v) : Y0 P o s (.c (.v (.int .u8 v))) :=
 q8 fun ok σ a w hC => by
  obtain ⟨h1, h2⟩ := getB_some hg
  refine ⟨.int .u8 v, ?_, zHd _ _ _ _⟩
  unfold execOp
  rw [ho]
  simp only [hC.exact hx, hC.exact hi, Sem.run_bind, run_index_string w t b k n hu, dif_pos h1, Result.andThen_ok, Sem.run_pure]
  rw [h2]
theorem rd_str (ok : Nat → Prop) (σ : Nat → Loc) (w : World) (b : ByteArray) : Rel ok σ w (.c (.v (.string b))) (.string b) := Rd.v _ rfl
theorem zBF {o : Oper} {s : St} {t : TypeId} {x : Operand} {lo hi : Option Operand} {b : ByteArray} {l h : Int} (hu : P.underlying t = some .string) (ho : o.op = .slice t x lo hi none)
  (hx : s.ev x = .c (.v (.string b))) (hlo : ∀ y, lo = some y → ∃ k, s.ev y = .c (.v (.int k l))) (hlo0 : lo = none → l = 0) (hhi : ∀ y, hi = some y → ∃ k, s.ev y = .c (.v (.int k h))) (hhi0 : hi = none → h = (b.size : Int)) (hb : 0 ≤ l ∧ l ≤ h ∧ h ≤ b.size) : Y0 P o s (.c (.v (.string (b.extract l.toNat h.toNat)))) :=
 q8 fun ok σ a w hC => by
  obtain ⟨b1, b2, b3⟩ := hb
  refine ⟨.string (b.extract l.toNat h.toNat), ?_, rd_str _ _ _ _⟩
  unfold execOp
  rw [ho]
  have hrun : (Instr.sliceAt t (.string b) (lo.map a.eval) (hi.map a.eval) none).run P w = .ok (.string (b.extract l.toNat h.toNat)) w := by
   rw [run_sliceAt_string w t (.string b) (lo.map a.eval) (hi.map a.eval) none hu]
   cases lo with
   | none =>
    have hl := hlo0 rfl
    subst hl
    cases hi with
    | none =>
     have hh := hhi0 rfl
     subst hh
     simpa using run_slice_string_all w t b hu
    | some y =>
     obtain ⟨k, hk⟩ := hhi y rfl
     simp only [Option.map_none, Option.map_some, hC.exact hk]
     simpa using run_slice_string_h w t b hu k h b2 b3
   | some z =>
    obtain ⟨k1, hk1⟩ := hlo z rfl
    cases hi with
    | none =>
     have hh := hhi0 rfl
     subst hh
     simp only [Option.map_none, Option.map_some, hC.exact hk1]
     simpa using run_slice_string_l w t b hu k1 l b1 b2
    | some y =>
     obtain ⟨k, hk⟩ := hhi y rfl
     simp only [Option.map_some, hC.exact hk, hC.exact hk1]
     exact run_slice_string w t b k1 k l h hu b1 b2 b3
  simp only [hC.exact hx, Option.map_none, Sem.run_bind, hrun, Result.andThen_ok, Sem.run_pure]
theorem Y0_b2s {o : Oper} {s : St} {src dst e : TypeId} {x : Operand} {c : Int → List Tr} (hc : ∀ v, c v = [.v (.int .u8 v)]) (xs : List Int) (hs : P.underlying src = some (.slice e)) (he : P.underlying e = some (.int .u8)) (hd : P.underlying dst = some .string) (ho : o.op = .convert src dst x)
  (hx : zCk s (s.ev x) = some (xs.map c)) : Y0 P o s (.c (.v (.string (zBs xs)))) :=
 q8 fun ok σ a w hC => by
  obtain ⟨A, cap, h1, h2, h3⟩ := zG7 hC (hC.ev x) hx
  refine ⟨.string (zBs xs), ?_, rd_str _ _ _ _⟩
  unfold execOp
  rw [ho]
  have hrun : (convert src dst (a.eval x)).run P w = .ok (.string (zBs xs)) w := by
   rw [h1, run_convert_bytes_string w src dst e A _ cap hs he hd]
   by_cases hn : xs = []
   ·subst hn
    cases A with
    | none => simp [Conv.bytesToString, zBs]
    | some A =>
     have := run_bytesToString (P := P) w A 0 cap [] (by simpa using run_loadCells_list (P := P) w A [] (fun j v hj => by simp at hj))
     simpa [zBs] using this
   ·obtain ⟨g, off, sz, vs, rfl, hs1, hr, hcell⟩ := h3 (by simpa using hn)
    have hflat : (xs.map c).flatten = xs.map fun v => Tr.v (.int .u8 v) := by
     clear h1 h2 h3 hs1 hr hcell hn hx
     induction xs with
     | nil => rfl
     | cons v xs ih => rw [List.map_cons, List.flatten_cons, ih, hc]; rfl
    rw [hflat] at hr
    have hvs : vs = xs.map fun v => Value.int .u8 v := by
     clear h1 h2 h3 hs1 hcell hn hx hflat
     induction xs generalizing vs with
     | nil => cases hr; rfl
     | cons v xs ih =>
      cases hr with
      | cons h hs =>
       cases h
       rw [ih _ hs]
       rfl
    have := run_bytesToString (P := P) w ⟨g, off, none⟩ xs.length cap xs (by
     have hl := run_loadCells_list (P := P) w ⟨g, off, none⟩ (xs.map (Value.int .u8)) (fun j v hj => by
      rw [zCv]
      exact hcell j v (by rw [hvs]; exact hj))
     simpa using hl)
    simpa [zBs] using this
  simp only [Sem.run_bind, hrun, Result.andThen_ok, Sem.run_pure]
theorem CallS_str {f : FuncId} {args : List AV} {b : ByteArray} (h : ∀ ok σ w vs, (∀ g, ok g → g < w.heap.size) → Lb ok w → RelA ok σ w args vs → Calls P f vs.toArray w fun e w' => e = .returned (.string b) ∧ Below w.heap.size w w') : zV P f args (.c (.v (.string b))) [] := by
 intro ok σ w vs hok hlib hargs
 refine (h ok σ w vs hok hlib hargs).mono ?_
 rintro e w' ⟨rfl, hb⟩
 refine ⟨_, ok, σ, rfl, ⟨hb, fun _ h => h, fun _ h => .inl h, fun g hg => Nat.lt_of_lt_of_le (hok g hg) hb.size, rd_str _ _ _ _, fun id e h => by simp at h, fun e he => rfl, fun id e h => by simp at h, fun id e g h => by simp at h, fun i j e f g h => by simp at h, fun id e h => by simp at h⟩⟩
theorem rel_int_inv {ok : Nat → Prop} {σ : Nat → Loc} {w : World} {k : IntKind} {n : Int} {v : Value} (h : Rel ok σ w (.c (.v (.int k n))) v) : v = .int k n := by
 have h2 : Rd ok w (.v (.int k n)) v := h
 cases h2
 rfl
theorem zD5 {ok : Nat → Prop} {σ : Nat → Loc} {w : World} {b : ByteArray} {v : Value} (h : Rel ok σ w (.c (.v (.string b))) v) : v = .string b := by
 have h2 : Rd ok w (.v (.string b)) v := h
 cases h2
 rfl
theorem CallS_itoa {f : FuncId} (hc : ∀ ok w n, Lb ok w → -9223372036854775808 ≤ n → n ≤ 9223372036854775807 → Calls P f #[.int .i64 n] w fun e w' => e = .returned (.string ⟨(Go.Lib.itoa n).toArray⟩) ∧ Below w.heap.size w w') {n : Int} {r : ByteArray} (h : zAo n = some r) : zV P f [I n] (.c (.v (.string r))) [] := by
 unfold zAo at h
 split at h
 ·rename_i hn
  injection h with h
  subst h
  refine CallS_str fun ok σ w vs hok hlib hargs => ?_
  cases hargs with
  | cons h1 h2 =>
   cases h2
   have := rel_int_inv h1
   subst this
   exact hc ok w n hlib hn.1 hn.2
 ·cases h
theorem CallS_join {f : FuncId} {c : ByteArray → List Tr} (hcc : ∀ v, c v = [.v (.string v)])
  (hc0 : ∀ (A : Option Addr) (c : Nat) (sep : ByteArray) (w : World), Calls P f #[.slice A 0 c, .string sep] w fun e w' => e = .returned (.string ⟨#[]⟩) ∧ w' = w)
  (hc : ∀ (bk o c : Nat) (xs : List ByteArray) (sep : ByteArray) (w : World), (∀ (j : Nat) x, xs[j]? = some x → w.cell? ⟨bk, o + j, none⟩ = some (.string x)) → bk < w.heap.size → xs.length ≤ 140737488355328 → xs.length ≤ c → (Go.Lib.join (xs.map (·.data.toList)) sep.data.toList).length ≤ 140737488355328 →
   Calls P f #[.slice (some ⟨bk, o, none⟩) xs.length c, .string sep] w fun e w' => e = .returned (.string ⟨(Go.Lib.join (xs.map (·.data.toList)) sep.data.toList).toArray⟩) ∧ Below w.heap.size w w')
  {xs : List ByteArray} {sep r : ByteArray} (h : zCn xs sep = some r) : zV P f [.c (.sl (xs.map c)), .c (.v (.string sep))] (.c (.v (.string r))) [] := by
 unfold zCn at h
 split at h
 ·rename_i hn
  injection h with h
  subst h
  refine CallS_str fun ok σ w vs hok hlib hargs => ?_
  cases hargs with
  | cons h1 h2 =>
   cases h2 with
   | cons h3 h4 =>
    cases h4
    have := zD5 h3
    subst this
    rename_i v
    have h1 : Rd ok w (.sl (xs.map c)) v := h1
    generalize hT : Tr.sl (xs.map c) = T at h1
    cases h1 with
    | v y hy => cases hT
    | mp b es clock hb hm => cases hT
    | nl A cap =>
     injection hT with hT
     have e1 : xs = [] := by simpa using hT
     subst e1
     refine (hc0 A cap sep w).mono ?_
     rintro e w' ⟨rfl, rfl⟩
     exact ⟨rfl, Below.refl _ _⟩
    | sl g off n cap sz els f hn1 hcap hok1 hs hcell hrr =>
     injection hT with hT
     subst hT
     subst hn1
     rw [List.length_map]
     refine hc g off cap xs sep w (fun j x hj => ?_) (hok g hok1) hn.1 (by simpa using hcap) hn.2
     have hce : c x = [.v (.string x)] := hcc x
     have hxl : j < xs.length := by
      have := List.getElem?_eq_some_iff.1 hj
      exact this.1
     have hs1 : sz = 1 := by
      have := hs (c x) (List.mem_map.2 ⟨x, List.mem_of_getElem? hj, rfl⟩)
      rw [hce] at this
      simpa using this.symm
     have hat : at2 (xs.map c) j 0 = some (.v (.string x)) := by
      unfold at2
      rw [List.getElem?_map, hj]
      simp [hce]
     have h5 := hcell j 0 _ hat
     have h6 := hrr j 0 _ hat
     rw [hs1] at h5
     rw [Nat.mul_one, Nat.add_zero] at h5
     rw [h5]
     generalize f j 0 = u at h6
     cases h6
     rfl
 ·cases h
end
section
variable {P : Program}
end
section
variable {P : Program}
def bt : Nat → List AV → List AV
 | 0, l => l
 | n + 1, l => .bot :: bt n l
def mb : Nat → Nat → List Bool
 | 0, _ => []
 | n + 1, x => Nat.beq (Nat.mod x 2) 1 :: mb n (Nat.div x 2)
theorem L0 {ops : Array Oper} {o : Oper} {rest : List Oper} {s : St} {av : AV} {d : Nat} {J : St → Prop} (hg : o.guard = none) (hd : o.dst = some d) (h : Y0 P o s av) (hk : XL P ops rest (s.put d av) J) : XL P ops (o :: rest) s J := zL hg (qB hd h) hk
theorem L1 {ops : Array Oper} {o : Oper} {rest : List Oper} {s : St} {av : AV} {ne : List (Nat × Ent)} {d : Nat} {J : St → Prop} (hg : o.guard = none) (hd : o.dst = some d) (h : Y1 P o s av ne) (hk : XL P ops rest (s.upd d av ne) J) : XL P ops (o :: rest) s J := zL hg (zBo hd h) hk
theorem V_cutS {α β : Type} {q : α ⊕ β} {x y : Code} {s : St} {S : α → St} {J : Exit → St → Prop} (m : List Bool) (ids : List Nat) (h1 : V P x s (zK5 (fun s' => ∃ o, q = .inl o ∧ s'.keep m ids = S o) J)) (h2 : ∀ o, q = .inl o → V P y (S o) J) : V P (.seq x y) s J := by
 refine zK (zFN (q := q) (S := S) m ids (zMO h1 fun e s' h => ?_) h2)
 cases e <;> exact h
theorem E_idxA {o : Oper} {s : St} {t e : TypeId} {x ix : Operand} {k : IntKind} {N sz : Nat} {n : Int} (av : AV) (hu : P.underlying t = some (.array N e)) (hsz : (P.info? e).map (·.size) = some sz) (ho : o.op = .indexAddr t x ix) (hi : s.ev ix = .c (.v (.int k n)))
  (hn : (decide (0 ≤ n) && decide (n < N)) = true) (hx : (s.ev x).adv (n.toNat * sz) = av) (hb : av ≠ .bot) : Y0 P o s av :=
 q8 fun ok σ a w hC => by
  subst hx
  obtain ⟨g, off, h1, h2⟩ := adv_rel (n.toNat * sz) (hC.ev x) hb
  refine ⟨_, ?_, h2⟩
  simp only [Bool.and_eq_true, decide_eq_true_eq] at hn
  have h3 := hC.exact hi
  cases hii : P.info? e with
  | none => rw [hii] at hsz; simp at hsz
  | some i =>
   have h5 : i.size = sz := by rw [hii] at hsz; simpa using hsz
   unfold execOp
   rw [ho]
   simp [h1, h3, Instr.indexAt, asIntOf, run_underlying hu, Instr.sureAddr, sizeOf, typeInfo, hii, h5, hn.1, hn.2, zCv]
end
theorem kk {p : Prop} (h : p := by kernel_rfl) : p := h
section
variable (P : Program)
def nbA : AV → Option AV
 | .bot => none
 | av => some av
def xbin (op : BinOp) : AV → AV → Option AV
 | .c (.v (.int .i64 a)), .c (.v (.int .i64 b)) => match op with
  | .add => some (I (w64 (a + b)))
  | .sub => some (I (w64 (a - b)))
  | .mul => some (I (w64 (a * b)))
  | .lss => some (Bo (ltI a b))
  | .leq => some (Bo (leI a b))
  | .gtr => some (Bo (ltI b a))
  | .geq => some (Bo (leI b a))
  | .eql => some (Bo (eqI a b))
  | .neq => some (Bo (!eqI a b))
  | _ => none
 | _, _ => none
def xun (op : UnOp) : AV → Option AV
 | .c (.v (.int .i64 a)) => match op with
  | .neg => some (I (w64 (0 - a)))
  | _ => none
 | .c (.v (.bool b)) => match op with
  | .not => some (.c (.v (.bool (!b))))
  | _ => none
 | _ => none
def zI4 (t : TypeId) : Option Nat := (P.info? t).map (·.size)
def xv (s : St) : Op → Option AV
 | .move x => some (s.ev x)
 | .assign x => some (s.ev x)
 | .extract x n => match s.ev x with
  | .tc y r => nbA ((AV.tc y r).nth n)
  | _ => none
 | .fieldAddr t x f => match P.underlying t with
  | some (.struct fields) => match fields[f]? with
   | some fd => match zI4 P fd.type with
    | some (_ + 1) => nbA ((s.ev x).adv fd.offset)
    | _ => none
   | none => none
  | _ => none
 | .load t x => match P.underlying t with
  | some d => bif aggD d then (match zI4 P t, zAu s (s.ev x) with
    | some n, some cs => bif Nat.ble n cs.length then some (.ag (cs.take n)) else none
    | _, _ => none)
   else (match zAu s (s.ev x) with
    | some (c :: _) => some (.c c)
    | _ => none)
  | none => none
 | .indexAddr t x ix => match P.underlying t with
  | some (.array N e) => match zI4 P e, s.ev ix with
   | some sz, .c (.v (.int _ n)) => bif (decide (0 ≤ n) && decide (n < N)) then nbA ((s.ev x).adv (n.toNat * sz)) else none
   | _, _ => none
  | _ => none
 | .binOp op _ x y _ => xbin op (s.ev x) (s.ev y)
 | .unOp op _ x => xun op (s.ev x)
 | _ => none
def xn (s : St) : Op → Option (AV × List (Nat × Ent))
 | .alloc e => match (P.info? e).bind (·.zero) with
  | some z => bif zFk z.cells then some (.pt 0 0, [(0, .box (z.cells.toList.map Tr.v))]) else none
  | none => none
 | .box _ x => match zDK (s.ev x) with
  | some cs => some (.pt 0 0, [(0, .box cs)])
  | none => none
 | _ => none
def xs (s : St) : Op → Option St
 | .store t x y => match s.ev x, zDK (s.ev y) with
  | .pt id off, some vc => match s.ent id with
   | some (.box cs) => bif (zI4 P t == some vc.length) && Nat.ble (off + vc.length) cs.length then some ⟨s.T, setE id (.box (splice cs off vc)) s.E⟩ else none
   | some (.pbox l cs) => bif (zI4 P t == some vc.length) && Nat.ble (off + vc.length) cs.length then some ⟨s.T, setE id (.pbox l (splice cs off vc)) s.E⟩ else none
   | _ => none
  | _, _ => none
 | _ => none
def xo (o : Oper) (s : St) : Option St := match o.dst with
 | some d => match xv P s o.op with
  | some av => some (s.put d av)
  | none => match xn P s o.op with
   | some r => some (s.upd d r.1 r.2)
   | none => none
 | none => xs P s o.op
def xr : List Oper → St → Option St
 | [], s => some s
 | o :: os, s => match o.guard with
  | none => match xo P o s with
   | some s' => xr os s'
   | none => none
  | some _ => none
def rD (l : List Oper) (s : St) : St := (xr P l s).getD s
end
section
variable {P : Program}
theorem nbA_ok {a b : AV} (h : nbA a = some b) : a = b ∧ b ≠ .bot := by
 cases a <;> simp only [nbA] at h <;> first | (cases h; done) | (cases h; exact ⟨rfl, fun h => by cases h⟩)
theorem xbin_ok {o : Oper} {s : St} {op : BinOp} {t t2 : TypeId} {x y : Operand} {av : AV} (ho : o.op = .binOp op t x y t2) (h : xbin op (s.ev x) (s.ev y) = some av) : Y0 P o s av := by
 generalize hx : s.ev x = a at h
 generalize hy : s.ev y = b at h
 unfold xbin at h
 split at h
 ·cases op <;> simp only [Option.some.injEq, reduceCtorEq] at h <;> subst h
  ·exact Y0_add64 ho hx hy
  ·exact Y0_sub64 ho hx hy
  ·exact Y0_mul64 ho hx hy
  all_goals first | exact zMM ho hx hy | exact Y0_new ho hx hy | exact Y0_ltw ho hx hy | exact Y0_lew ho hx hy | exact Y0_gtw ho hx hy | exact Y0_gew ho hx hy
 ·cases h
theorem xun_ok {o : Oper} {s : St} {op : UnOp} {t : TypeId} {x : Operand} {av : AV} (ho : o.op = .unOp op t x) (h : xun op (s.ev x) = some av) : Y0 P o s av := by
 generalize hx : s.ev x = a at h
 unfold xun at h
 split at h
 ·cases op <;> simp only [Option.some.injEq, reduceCtorEq] at h
  subst h
  exact Y0_neg64 ho hx
 ·cases op <;> simp only [Option.some.injEq, reduceCtorEq] at h
  subst h
  exact Y0_not ho hx
 ·cases h
theorem xv_ok {o : Oper} {s : St} {av : AV} (h : xv P s o.op = some av) : Y0 P o s av := by
 unfold xv at h
 split at h
 ·cases h; rename_i ho; exact Y0_move ho
 ·cases h; rename_i ho; exact Y0_assign ho
 ·rename_i ho
  split at h
  ·rename_i hx
   obtain ⟨h1, h2⟩ := nbA_ok h
   exact E_ext _ _ _ ho hx h1 h2
  ·cases h
 ·rename_i ho
  split at h
  ·rename_i hu
   split at h
   ·rename_i hf
    split at h
    ·rename_i hs
     obtain ⟨h1, h2⟩ := nbA_ok h
     exact zLM _ hu hf hs ho h1 h2
    ·cases h
   ·cases h
  ·cases h
 ·rename_i ho
  split at h
  ·rename_i d hu
   cases ha : aggD d with
   | true =>
    rw [ha, cond_true] at h
    split at h
    ·rename_i n cs hn hm
     cases hb : Nat.ble n cs.length with
     | true =>
      rw [hb, cond_true] at h
      cases h
      exact zGx _ ⟨⟨d, hu, ha⟩, hn⟩ ho hm (Nat.le_of_ble_eq_true hb) rfl
     | false => rw [hb, cond_false] at h; cases h
    ·cases h
   | false =>
    rw [ha, cond_false] at h
    split at h
    ·rename_i c cs hm
     cases h
     exact zID ⟨d, hu, ha⟩ ho hm
    ·cases h
  ·cases h
 ·rename_i ho
  split at h
  ·rename_i N e hu
   split at h
   ·rename_i sz k n hs hi
    cases hb : (decide (0 ≤ n) && decide (n < (N : Int))) with
    | true =>
     rw [hb, cond_true] at h
     obtain ⟨h1, h2⟩ := nbA_ok h
     exact E_idxA _ hu hs ho hi hb h1 h2
    | false => rw [hb, cond_false] at h; cases h
   ·cases h
  ·cases h
 ·rename_i ho; exact xbin_ok ho h
 ·rename_i ho; exact xun_ok ho h
 ·cases h
theorem xn_ok {o : Oper} {s : St} {r : AV × List (Nat × Ent)} (h : xn P s o.op = some r) : Y1 P o s r.1 r.2 := by
 unfold xn at h
 split at h
 ·rename_i e ho
  split at h
  ·rename_i z hz
   cases hc : zFk z.cells with
   | true => rw [hc, cond_true] at h; cases h; exact zFM ho hz hc
   | false => rw [hc, cond_false] at h; cases h
  ·cases h
 ·rename_i e x ho
  split at h
  ·rename_i cs hx
   cases h
   exact Y1_box ho hx
  ·cases h
 ·cases h
theorem xs_ok {o : Oper} {s s' : St} (hd : o.dst = none) (h : xs P s o.op = some s') : X P o s s' := by
 unfold xs at h
 split at h
 ·rename_i t x y ho
  split at h
  ·rename_i id off vc hx hy
   split at h
   ·rename_i cs he
    cases hb : (zI4 P t == some vc.length) && Nat.ble (off + vc.length) cs.length with
    | true =>
     rw [hb, cond_true] at h
     cases h
     rw [Bool.and_eq_true, beq_iff_eq] at hb
     exact E_store _ ho hd hx he hy hb.1 (Nat.le_of_ble_eq_true hb.2) rfl
    | false => rw [hb, cond_false] at h; cases h
   ·rename_i l cs he
    cases hb : (zI4 P t == some vc.length) && Nat.ble (off + vc.length) cs.length with
    | true =>
     rw [hb, cond_true] at h
     cases h
     rw [Bool.and_eq_true, beq_iff_eq] at hb
     exact E_storep _ ho hd hx he hy hb.1 (Nat.le_of_ble_eq_true hb.2) rfl
    | false => rw [hb, cond_false] at h; cases h
   ·cases h
  ·cases h
 ·cases h
theorem xo_ok {o : Oper} {s s' : St} (h : xo P o s = some s') : X P o s s' := by
 unfold xo at h
 split at h
 ·rename_i d hd
  split at h
  ·rename_i av hv
   cases h
   exact qB hd (xv_ok hv)
  ·split at h
   ·rename_i r hn
    cases h
    exact zBo hd (xn_ok hn)
   ·cases h
 ·rename_i hd; exact xs_ok hd h
theorem xr_ok {ops : Array Oper} {J : St → Prop} (rest : List Oper) : ∀ (l : List Oper) (s s' : St), xr P l s = some s' → XL P ops rest s' J → XL P ops (l ++ rest) s J
 | [], s, s', h, hk => by cases h; exact hk
 | o :: os, s, s', h, hk => by
  unfold xr at h
  split at h
  ·rename_i hg
   split at h
   ·rename_i s1 h1
    exact zL hg (xo_ok h1) (xr_ok rest os s1 s' h hk)
   ·cases h
  ·cases h
theorem XR (n : Nat) {ops : Array Oper} {rest : List Oper} {s : St} {J : St → Prop} (hk : XL P ops (rest.drop n) (rD P (rest.take n) s) J) (h : (xr P (rest.take n) s).isSome = true := by kernel_rfl) : XL P ops rest s J := by
 cases hx : xr P (rest.take n) s with
 | none => rw [hx] at h; cases h
 | some s' =>
  have e : rD P (rest.take n) s = s' := by unfold rD; rw [hx]; rfl
  rw [e] at hk
  have := xr_ok (ops := ops) (J := J) (rest.drop n) (rest.take n) s s' hx hk
  rwa [List.take_append_drop] at this
theorem XE {ops : Array Oper} {rest : List Oper} {s s1 : St} {m : List Bool} {ids : List Nat} (h : (xr P rest s).map (fun s' => s'.keep m ids) = some s1 := by kernel_rfl) : XL P ops rest s (fun s' => s'.keep m ids = s1) := by
 cases hx : xr P rest s with
 | none => rw [hx] at h; cases h
 | some s' =>
  rw [hx] at h
  have h2 : s'.keep m ids = s1 := by injection h
  have := xr_ok (ops := ops) (J := fun s' => s'.keep m ids = s1) [] rest s s' hx (zM h2)
  rwa [List.append_nil] at this
theorem XC {ops : Array Oper} {o : Oper} {rest : List Oper} {s : St} {J : St → Prop} {d : Nat} {f : FuncId} {xs : Array Operand} {ts : Array TypeId} {args : List AV} {av : AV} {ne : List (Nat × Ent)} (hS : zV P f args av ne) (hc : ∀ args w, (callFunc f args).run P w = .ok (.enter f args) w) (hg : o.guard = none) (hd : o.dst = some d)
  (ho : o.op = .call { callee := .value (.func f), args := xs, argTypes := ts }) (hk : XL P ops rest (s.upd d av ne) J) (ha : evL s xs.toList = args := by kernel_rfl) : XL P ops (o :: rest) s J := L1 hg hd (zIU hS hc ho ha) hk
def cdr : Nat → Nat → List Cd
 | 0, _ => []
 | k + 1, n => (match Nat.mod n 4 with | 0 => Cd.z | 1 => Cd.a | _ => Cd.b) :: cdr k (Nat.div n 4)
def cdm (k : Nat) : List Nat → List (List Cd)
 | [] => []
 | n :: ns => cdr k n :: cdm k ns
section
variable (P)
def dr2 (l : List Oper) (ms : List Nat) (n1 : Nat) (css : List (List Cd)) (rs : List Res) (S : St) : Op → Option (List Res)
 | .store t x y => match S.ev x, zDK (S.ev y) with
  | .pt id off, some vc => match S.ent id with
   | some (.box cs) => bif (zI4 P t == some vc.length) && Nat.ble (off + vc.length) cs.length && (zJf rs.length id css && (mkOk ms rs.length id 0 (l.take n1) && zGC id rs)) then some (rs ++ [.r2 id (.box (splice cs off vc))]) else none
   | _ => none
  | _, _ => none
 | _ => none
def dr1 (l : List Oper) (ms : List Nat) (n1 : Nat) (css : List (List Cd)) (s0 : St) (rs : List Res) : Option (List Res) := match l[rs.length]?, css[rs.length]? with
 | some o, some c => bif Nat.blt rs.length n1 then (match o.guard, o.dst with
  | none, some _ => match xv P (appC c (l.take n1) rs s0) o.op with
   | some av => bif zFd ms rs.length av 0 (l.take n1) then some (rs ++ [.r0 av]) else none
   | none => match xn P (appC c (l.take n1) rs s0) o.op with
    | some r => bif zFV r.2 && (makes o && r.1.small) then some (rs ++ [.r1 r.1 r.2]) else none
    | none => none
  | none, none => dr2 P l ms n1 css rs (appC c (l.take n1) rs s0) o.op
  | _, _ => none) else none
 | _, _ => none
def drN (l : List Oper) (ms : List Nat) (n1 : Nat) (css : List (List Cd)) (s0 : St) : Nat → List Res → Option (List Res)
 | 0, rs => some rs
 | k + 1, rs => match dr1 P l ms n1 css s0 rs with
  | some rs' => drN l ms n1 css s0 k rs'
  | none => none
end
theorem dr1_ok {l : List Oper} {ms : List Nat} {n1 : Nat} {css : List (List Cd)} {s0 : St} {rs rs' : List Res} {K : St → Prop} (h : dr1 P l ms n1 css s0 rs = some rs') (hk : DL P l ms n1 css s0 rs' K) : DL P l ms n1 css s0 rs K := by
 unfold dr1 at h
 split at h
 ·rename_i o c ho hc
  cases hb : Nat.blt rs.length n1 with
  | false => rw [hb, cond_false] at h; cases h
  | true =>
   rw [hb, cond_true] at h
   split at h
   ·rename_i d hg hd
    split at h
    ·rename_i av hv
     cases hm : zFd ms rs.length av 0 (l.take n1) with
     | false => rw [hm, cond_false] at h; cases h
     | true =>
      rw [hm, cond_true] at h
      cases h
      exact DE_0 rs.length av rfl hb ho hc (qS hg) hm (xv_ok hv) d hd hk
    ·split at h
     ·rename_i r hr
      cases hm : zFV r.2 && (makes o && r.1.small) with
      | false => rw [hm, cond_false] at h; cases h
      | true =>
       rw [hm, cond_true] at h
       cases h
       rw [Bool.and_eq_true, Bool.and_eq_true] at hm
       exact DE_1 rs.length rfl hb ho hc (qS hg) (xn_ok hr) hm.1 hm.2.1 hm.2.2 d hd hk
     ·cases h
   ·rename_i hg hd
    unfold dr2 at h
    split at h
    ·rename_i t x y hop
     split at h
     ·rename_i id off vc hx hy
      split at h
      ·rename_i cs he
       cases hm : (zI4 P t == some vc.length) && Nat.ble (off + vc.length) cs.length && (zJf rs.length id css && (mkOk ms rs.length id 0 (l.take n1) && zGC id rs)) with
       | false => rw [hm, cond_false] at h; cases h
       | true =>
        rw [hm, cond_true] at h
        cases h
        rw [Bool.and_eq_true, Bool.and_eq_true, Bool.and_eq_true, Bool.and_eq_true, beq_iff_eq] at hm
        exact DE_2 rs.length id _ rfl hb ho hc (qS hg) hop hd hx he hy hm.1.1 (Nat.le_of_ble_eq_true hm.1.2) rfl hm.2.1 hm.2.2.1 hm.2.2.2 hk
      ·cases h
     ·cases h
    ·cases h
   ·cases h
 ·cases h
theorem drN_ok {l : List Oper} {ms : List Nat} {n1 : Nat} {css : List (List Cd)} {s0 : St} {K : St → Prop} : ∀ (k : Nat) (rs rs' : List Res), drN P l ms n1 css s0 k rs = some rs' → DL P l ms n1 css s0 rs' K → DL P l ms n1 css s0 rs K
 | 0, rs, rs', h, hk => by cases h; exact hk
 | k + 1, rs, rs', h, hk => by
  unfold drN at h
  split at h
  ·rename_i r1 h1
   exact dr1_ok h1 (drN_ok k r1 rs' h hk)
  ·cases h
theorem DR (k : Nat) {l : List Oper} {ms : List Nat} {n1 : Nat} {css : List (List Cd)} {s0 : St} {rs : List Res} {K : St → Prop} (hk : DL P l ms n1 css s0 ((drN P l ms n1 css s0 k rs).getD rs) K) (h : (drN P l ms n1 css s0 k rs).isSome = true := by kernel_rfl) : DL P l ms n1 css s0 rs K := by
 cases hx : drN P l ms n1 css s0 k rs with
 | none => rw [hx] at h; cases h
 | some r => rw [hx] at hk; exact drN_ok k rs r hx hk
theorem DA {l : List Oper} {ms : List Nat} {n1 : Nat} {css : List (List Cd)} {s0 : St} {rs : List Res} {K : St → Prop} (k : Nat) (hk : K (fin (l.take n1) ((drN P l ms n1 css s0 k rs).getD rs) s0)) (h : (drN P l ms n1 css s0 k rs).map List.length = some n1 := by kernel_rfl) : DL P l ms n1 css s0 rs K := by
 cases hx : drN P l ms n1 css s0 k rs with
 | none => rw [hx] at h; cases h
 | some r =>
  rw [hx] at hk h
  exact drN_ok k rs r hx (DL_nil (by injection h) hk)
theorem DC {l : List Oper} {ms : List Nat} {n1 : Nat} {css : List (List Cd)} {s0 : St} {rs : List Res} {K : St → Prop} {o : Oper} {c : List Cd} {f : FuncId} {xs : Array Operand} {ts : Array TypeId} {args : List AV} {av : AV} {ne : List (Nat × Ent)} (j : Nat) (hS : zV P f args av ne) (hcf : ∀ args w, (callFunc f args).run P w = .ok (.enter f args) w) (ho : l[j]? = some o) (hc : css[j]? = some c) (hg : o.guard = none)
  (hop : o.op = .call { callee := .value (.func f), args := xs, argTypes := ts }) (d : Nat) (hd : o.dst = some d) (h : DL P l ms n1 css s0 (rs ++ [.r1 av ne]) K) (hj : rs.length = j := by kernel_rfl) (hlt : Nat.blt j n1 = true := by kernel_rfl) (ha : evL (appC c (l.take n1) rs s0) xs.toList = args := by kernel_rfl) (h1 : zFV ne = true := by kernel_rfl) (h2 : makes o = true := by kernel_rfl) (h3 : av.small = true := by kernel_rfl) : DL P l ms n1 css s0 rs K :=
 DE_1 j hj hlt ho hc (qS hg) (zIU hS hcf hop ha) h1 h2 h3 d hd h
end
end Go.Proofs.YtfmjfofocklgpaaGreatDoor
namespace Go.Proofs.YtfmjfofocklgpaaGreatDoor
def zBS (s sep : ByteArray) : Option (List ByteArray) := if s.size < 4294967281 ∧ 1 ≤ sep.size then some (Go.Lib.splitB sep 0 (Go.Lib.countB s sep) s) else none
def zCD (s sep : ByteArray) : Option (ByteArray × ByteArray × Bool) := if s.size < 4294967281 then some (⟨(Go.Lib.cut s.data.toList sep.data.toList).1.toArray⟩, ⟨(Go.Lib.cut s.data.toList sep.data.toList).2.1.toArray⟩, (Go.Lib.cut s.data.toList sep.data.toList).2.2) else none
def zAy (p : Nat → Bool) (s : ByteArray) : Option (List ByteArray) := if s.size ≤ 4294967296 then some (Go.Lib.goFieldsP p s) else none
def zAp (s : ByteArray) : Option (Int × Bool) := if s.size ≤ 281474976710656 then (match Go.Lib.atoiAll s.data.toList with
 | .ok v => some (v, true)
 | .syntax => some (0, false)
 | .range => some (Go.Lib.atoiSat s.data.toList, false)) else none
def pOf (f : Int → Option Bool) (n : Nat) : Bool := (f (n : Int)).getD false
def idxB (b : ByteArray) (c : Int) : Int := firstIdx b c.toNat.toUInt8
def bendB (s : ByteArray) (k v : Int) : Option ByteArray := match s.data.toList[k.toNat]? with
 | some x => bif leI 0 k && eqI (((xorI .u8 (x.toNat : Int) v).toNat.toUInt8).toNat : Int) (xorI .u8 (x.toNat : Int) v) then some ⟨(s.data.toList.set k.toNat ((xorI .u8 (x.toNat : Int) v).toNat.toUInt8)).toArray⟩ else none
 | none => none
theorem bendB_some {s q : ByteArray} {k v : Int} (h : bendB s k v = some q) : ∃ (j : Nat) (hj : j < s.data.toList.length) (u : UInt8), k = (j : Int) ∧ xorI .u8 ((s.data.toList[j]'hj).toNat : Int) v = (u.toNat : Int) ∧ q = ⟨(s.data.toList.set j u).toArray⟩ := by
 unfold bendB at h
 split at h
 ·rename_i x hx
  cases hb : (leI 0 k && eqI (((xorI .u8 (x.toNat : Int) v).toNat.toUInt8).toNat : Int) (xorI .u8 (x.toNat : Int) v)) with
  | false => rw [hb] at h; cases h
  | true =>
   rw [hb] at h
   rw [Bool.and_eq_true, q9, zBN] at hb
   obtain ⟨hj, hx2⟩ := List.getElem?_eq_some_iff.1 hx
   refine ⟨k.toNat, hj, _, ?_, ?_, (Option.some.inj h).symm⟩
   ·have := of_decide_eq_true hb.1
    omega
   ·rw [hx2]
    have := hb.2
    simp only [beq_iff_eq] at this
    exact this.symm
 ·cases h
end Go.Proofs.YtfmjfofocklgpaaGreatDoor
namespace Go.Proofs.YtfmjfofocklgpaaGreatDoor
open Go.RowKit
section
variable {P : Program}
theorem Y0_erne {o : Oper} {s : St} {x : Operand} {t t2 : TypeId} {ms : Array (String × TypeId)} {b : Bool} (hu : P.underlying t = some (.interface ms)) (ho : o.op = .binOp .neq t x (.const .nilIface) t2) (hx : s.ev x = .er b) : Y0 P o s (Bo (!b)) :=
 q8 fun ok σ a w hC => by
  have h1 := hC.ev x
  rw [hx] at h1
  have h2 : (b = true ∧ a.eval x = .nilIface) ∨ (b = false ∧ ∃ t v, a.eval x = .iface t v) := h1
  refine ⟨.bool (!b), ?_, zII _ _ _⟩
  unfold execOp
  rw [ho]
  have e1 : ∀ w, (eqGuard .neq t x (.const .nilIface) (a.eval x) .nilIface).run P w = .ok () w := fun w => by
   rcases h2 with ⟨_, h3⟩ | ⟨_, tx, v, h3⟩ <;> rw [h3] <;> simp [eqGuard]
  have e2 : ∀ d : Nat, (Op.equalIn (d + 1) t (a.eval x) .nilIface).run P w = .ok b w := fun d => by
   rcases h2 with ⟨h4, h3⟩ | ⟨h4, tx, v, h3⟩ <;> rw [h3, h4] <;> simp [Op.equalIn, run_underlying hu]
  have e3 : (binOp .neq t (a.eval x) .nilIface).run P w = .ok (.bool (!b)) w := by
   have e4 := e2 9999
   rcases h2 with ⟨h4, h3⟩ | ⟨h4, tx, v, h3⟩ <;> rw [h3] at e4 ⊢ <;> simp only [binOp] <;> simp [Op.equal, Op.maxDepth, e4]
  have e5 : a.eval (.const .nilIface) = .nilIface := rfl
  simp only [e5, Sem.run_bind, e1, e3, Result.andThen_ok, Sem.run_pure]
theorem Y0_idxb {o : Oper} {s : St} {x y : Operand} {f : FuncId} {ts : Array TypeId} {b : ByteArray} {c : Int} (hc : ∀ args w, (callFunc f args).run P w = ((Extern.BytealgIndexByte.indexByte args).run P w).andThen fun v w' => .ok (.value v) w') (ho : o.op = .call { callee := .value (.func f), args := #[x, y], argTypes := ts }) (hx : s.ev x = .c (.v (.string b))) (hy : s.ev y = .c (.v (.int .u8 c))) : Y0 P o s (I (idxB b c)) :=
 q8 fun ok σ ac w hC => by
  refine ⟨_, ?_, zHd _ _ _ _⟩
  have h1 : (callFunc f #[.string b, .int .u8 c]).run P w = .ok (.value (.int .i64 (idxB b c))) w := by
   rw [hc, run_indexByte_string]
   rfl
  have h3 : (#[x, y] : Array Operand).map ac.eval = #[.string b, .int .u8 c] := by
   rw [List.map_toArray]
   show #[ac.eval x, ac.eval y] = _
   rw [hC.exact hx, hC.exact hy]
  unfold execOp
  rw [ho]
  simp only [resolve, Act.eval, Deferred.ofValue, Sem.run_bind, Sem.run_pure, Result.andThen_ok, invoke, h3, Array.append_empty, Array.empty_append]
  exact h1
theorem flat_str {c : ByteArray → List Tr} (hcc : ∀ v, c v = [.v (.string v)]) : ∀ (xs : List ByteArray), (xs.map c).flatten = xs.map fun x => Tr.v (.string x)
 | [] => rfl
 | x :: xs => by simp [hcc, flat_str hcc xs]
theorem rdl_str {ok : Nat → Prop} {w : World} : ∀ (xs : List ByteArray), RdL ok w (xs.map fun x => Tr.v (.string x)) (xs.map Value.string)
 | [] => .nil
 | x :: xs => .cons (Rd.v _ rfl) (rdl_str xs)
theorem CallS_row {f : FuncId} {args : List AV} {T : TypeId} {c : ByteArray → List Tr} (hcc : ∀ v, c v = [.v (.string v)]) {xs : List ByteArray}
  (h : ∀ ok σ w vs, (∀ g, ok g → g < w.heap.size) → Lb ok w → RelA ok σ w args vs → Calls P f vs.toArray w fun e w' => ∃ A cap, e = .returned (.slice (some ⟨A, 0, none⟩) xs.length cap) ∧ w.heap.size ≤ A ∧
   w'.ownsRow w.heap.size T 1 (.slice (some ⟨A, 0, none⟩) xs.length cap) xs.length (xs.map Value.string) ∧ Below w.heap.size w w') : zV P f args (.ow 0) [(0, .arr T 1 (xs.map c))] := by
 intro ok σ w vs hok hlib hargs
 refine (h ok σ w vs hok hlib hargs).mono ?_
 rintro e w' ⟨A, cap, rfl, hA, hown, hb⟩
 refine ⟨_, ok, fun _ => ⟨some A, xs.length, cap⟩, rfl, ⟨hb, fun _ h => h, fun _ h => .inl h, fun g hg => Nat.lt_of_lt_of_le (hok g hg) hb.size, rfl, ?_, ?_, ?_, ?_, ?_, ?_⟩⟩
 ·intro id e he
  obtain ⟨rfl, _⟩ := zAI _ _ _ _ he
  decide
 ·intro e he
  simp only [AV.ment]
  cases h : (0 / 8 == e) with
  | false => rfl
  | true => exact absurd (by simpa using h : 0 = e).symm he
 ·intro id e he
  obtain ⟨rfl, rfl⟩ := zAI _ _ _ _ he
  refine ⟨by decide, (List.length_map ..).symm, fun el hel => ?_, xs.map Value.string, ?_, ?_⟩
  ·obtain ⟨x, _, rfl⟩ := List.mem_map.1 hel
   rw [hcc]
   rfl
  ·refine ⟨by simp, ?_⟩
   rcases hown.2 with ⟨h1, _⟩ | ⟨g, cap2, cur, h1, h2, h3, h4, h5, h6, h7⟩
   ·cases h1
   ·refine .inr ⟨g, cap2, cur, ?_, Nat.zero_le _, h3, by simpa using h4, h5, h6, by simpa using h7⟩
    rw [List.length_map]
    exact h1
  ·rw [flat_str hcc]
   exact rdl_str xs
 ·intro id e g he hg
  obtain ⟨rfl, rfl⟩ := zAI _ _ _ _ he
  have hg2 : some A = some g := hg
  injection hg2 with hg2
  subst hg2
  refine ⟨hA, fun h => ?_, ?_⟩
  ·have := hok _ h
   omega
  ·rcases hown.2 with ⟨h1, _⟩ | ⟨g, cap2, cur, h1, h2, h3, h4, h5, h6, h7⟩
   ·cases h1
   ·injection h1 with h1
    injection h1 with h1
    injection h1 with h1
    subst h1
    by_cases hlt : A < w'.heap.size
    ·exact hlt
    ·have := Array.getElem?_eq_none (xs := w'.heap) (i := A) (by omega)
     rw [this] at h3
     cases h3
 ·intro i j e f g hi hj h1 h2
  obtain ⟨rfl, _⟩ := zAI _ _ _ _ hi
  obtain ⟨rfl, _⟩ := zAI _ _ _ _ hj
  rfl
 ·intro id e he
  obtain ⟨rfl, rfl⟩ := zAI _ _ _ _ he
  rfl
theorem CallS_split {f : FuncId} {T : TypeId} {c : ByteArray → List Tr} (hcc : ∀ v, c v = [.v (.string v)])
  (hc : ∀ ok w (s sep : ByteArray), Lb ok w → s.size < 4294967281 → 1 ≤ sep.size → Calls P f #[.string s, .string sep] w fun e w' => e = .returned (.slice (some ⟨w.heap.size, 0, none⟩) (Go.Lib.countB s sep + 1) (Go.Lib.countB s sep + 1)) ∧ w' = w.alloc (.cells ((Go.Lib.splitB sep 0 (Go.Lib.countB s sep) s).map Value.string).toArray T))
  {s sep : ByteArray} {r : List ByteArray} (h : zBS s sep = some r) : zV P f [.c (.v (.string s)), .c (.v (.string sep))] (.ow 0) [(0, .arr T 1 (r.map c))] := by
 unfold zBS at h
 split at h
 ·rename_i hn
  injection h with h
  subst h
  have hlen := Go.Lib.splitB_all sep hn.2 0 _ s rfl
  refine CallS_row hcc fun ok σ w vs hok hlib hargs => ?_
  cases hargs with
  | cons h1 h2 =>
   cases h2 with
   | cons h3 h4 =>
    cases h4
    have := zD5 h1
    subst this
    have := zD5 h3
    subst this
    refine (hc ok w s sep hlib hn.1 hn.2).mono ?_
    rintro e w' ⟨rfl, rfl⟩
    have hle := Go.Lib.countB_le sep hn.2 s.size s (Nat.le_refl _)
    refine ⟨w.heap.size, Go.Lib.countB s sep + 1, by rw [hlen], Nat.le_refl _, ⟨by simp, .inr ⟨w.heap.size, Go.Lib.countB s sep + 1, ((Go.Lib.splitB sep 0 (Go.Lib.countB s sep) s).map Value.string).toArray, rfl, Nat.le_refl _, ?_, by omega, ?_, ?_, ?_⟩⟩, (Below.refl _ _).alloc (Nat.le_refl _) _⟩
    ·exact (MapKept.heap_alloc w _).1
    ·unfold maxLen; omega
    ·simp [hlen]
    ·rw [List.take_of_length_le (by simp)]
 ·cases h
theorem CallS_cut {f : FuncId} (hc : ∀ ok w (s sep : ByteArray), Lb ok w → s.size < 4294967281 → Calls P f #[.string s, .string sep] w fun e w' => e = .returned (.tuple #[.string ⟨(Go.Lib.cut s.data.toList sep.data.toList).1.toArray⟩, .string ⟨(Go.Lib.cut s.data.toList sep.data.toList).2.1.toArray⟩, .bool (Go.Lib.cut s.data.toList sep.data.toList).2.2]) ∧ Below w.heap.size w w')
  {s sep : ByteArray} {r : ByteArray × ByteArray × Bool} (h : zCD s sep = some r) : zV P f [.c (.v (.string s)), .c (.v (.string sep))] (.tc (.c (.v (.string r.1))) (.tc (.c (.v (.string r.2.1))) (.tc (Bo r.2.2) .tn))) [] := by
 unfold zCD at h
 split at h
 ·rename_i hn
  injection h with h
  subst h
  intro ok σ w vs hok hlib hargs
  cases hargs with
  | cons h1 h2 =>
   cases h2 with
   | cons h3 h4 =>
    cases h4
    have := zD5 h1
    subst this
    have := zD5 h3
    subst this
    refine (hc ok w s sep hlib hn).mono ?_
    rintro e w' ⟨rfl, hb⟩
    exact ⟨_, ok, σ, rfl, ⟨hb, fun _ h => h, fun _ h => .inl h, fun g hg => Nat.lt_of_lt_of_le (hok g hg) hb.size, ⟨_, rfl, Rd.v _ rfl, Rd.v _ rfl, zII _ _ _, trivial⟩, fun id e h => by simp at h, fun e he => rfl, fun id e h => by simp at h, fun id e g h => by simp at h, fun i j e f g h => by simp at h, fun id e h => by simp at h⟩⟩
 ·cases h
theorem CallS_atoi {f : FuncId} (hc : ∀ ok w (s : ByteArray), Lb ok w → s.size ≤ 281474976710656 → ∀ r, zAp s = some r → Calls P f #[.string s] w fun e w' => (∃ v, e = .returned (.tuple #[.int .i64 r.1, v]) ∧ ((r.2 = true ∧ v = .nilIface) ∨ (r.2 = false ∧ ∃ t u, v = .iface t u))) ∧ Below w.heap.size w w')
  {s : ByteArray} {r : Int × Bool} (h : zAp s = some r) : zV P f [.c (.v (.string s))] (.tc (I r.1) (.tc (.er r.2) .tn)) [] := by
 have hn : s.size ≤ 281474976710656 := by
  unfold zAp at h
  split at h
  ·assumption
  ·cases h
 intro ok σ w vs hok hlib hargs
 cases hargs with
 | cons h1 h2 =>
  cases h2
  have := zD5 h1
  subst this
  refine (hc ok w s hlib hn r h).mono ?_
  rintro e w' ⟨⟨v, rfl, hv⟩, hb⟩
  exact ⟨_, ok, σ, rfl, ⟨hb, fun _ h => h, fun _ h => .inl h, fun g hg => Nat.lt_of_lt_of_le (hok g hg) hb.size, ⟨_, rfl, zHd _ _ _ _, hv, trivial⟩, fun id e h => by simp at h, fun e he => rfl, fun id e h => by simp at h, fun id e g h => by simp at h, fun i j e f g h => by simp at h, fun id e h => by simp at h⟩⟩
end
end Go.Proofs.YtfmjfofocklgpaaGreatDoor

namespace Go.Proofs.YtfmjfofocklgpaaGreatDoor
def zDH (code1 : List Int) (more2 : List Int) : Option Bool :=
 (some (bif (ltI 1048576 ((code1.length : Int))) then true else (ltI (w64 (1048576 - ((code1.length : Int)))) ((more2.length : Int))))).bind fun t4 =>
 some t4
def zBi (c1 : ((List Int) × Int × Int)) : Option (Int × (((List Int) × Int × Int))) :=
 (
  bif (ltI c1.2.1 ((c1.1.length : Int))) then
   (
    (getI c1.1 c1.2.1).bind fun e4 =>
    sI (IntKind.i64.wrap e4) fun b5 =>
    some b5
   )
  else
   (
    some 0
   )
 ).bind fun j2 =>
 sI (w64 (c1.2.1 + 1)) fun f6 =>
 sI (IntKind.u64.wrap ((IntKind.u64.wrap ((IntKind.u64.wrap (c1.2.2 * 6364136223846793005)) + (IntKind.u64.wrap j2))) + 1442695040888963407)) fun f7 =>
 bif (leI f6 ((c1.1.length : Int))) then
  (
   some ((j2, (c1.1, f6, f7)))
  )
 else
  (
   sI (IntKind.i64.wrap (andI .u64 (shrI .u64 f7 40) 255)) fun t9 =>
   some ((t9, (c1.1, f6, f7)))
  )
def zD (c1 : ((List Int) × Int × Int)) (vn2 : Int) : Option (Int × (((List Int) × Int × Int))) :=
 bif (leI vn2 1) then
  (
   some ((0, c1))
  )
 else
  (
   (zBi c1).bind fun y4 =>
   bif (ltI 200 vn2) then
    (
     (zBi y4.2).bind fun y6 =>
     sI (w64 ((w64 (y4.1 * 256)) + y6.1)) fun x7 =>
     (nz vn2).bind fun z8 =>
     sI (Int.tmod x7 vn2) fun t9 =>
     some ((t9, y6.2))
    )
   else
    (
     (nz vn2).bind fun z10 =>
     sI (Int.tmod y4.1 vn2) fun t11 =>
     some ((t11, y4.2))
    )
  )
def jY (c1 : ((List Int) × Int × Int)) (vn2 : Int) : Option (Bool × (((List Int) × Int × Int))) :=
 (zD c1 vn2).bind fun y3 =>
 some ((eqI y3.1 0, y3.2))
def jJ (c1 : ((List Int) × Int × Int)) (list2 : List Int) : Option (Int × (((List Int) × Int × Int))) :=
 (zD c1 ((list2.length : Int))).bind fun y3 =>
 (getI list2 y3.1).bind fun e4 =>
 some ((e4, y3.2))
def zBq (c1 : ((List Int) × Int × Int)) (list2 : List ByteArray) : Option (ByteArray × (((List Int) × Int × Int))) :=
 (zD c1 ((list2.length : Int))).bind fun y3 =>
 (getI list2 y3.1).bind fun e4 =>
 some ((e4, y3.2))
def zAH (c1 : ((List Int) × Int × Int)) : Option (ByteArray × (((List Int) × Int × Int))) :=
 (jY c1 30).bind fun y2 =>
 bif y2.1 then
  (
   (zBq y2.2 ([(⟨#[]⟩ : ByteArray), (⟨#[97, 98, 99, 100, 101, 102, 103, 104]⟩ : ByteArray), (⟨#[97, 98, 99, 100, 101, 102, 103, 104, 105]⟩ : ByteArray), (⟨#[65]⟩ : ByteArray), (⟨#[97, 32, 98]⟩ : ByteArray), (⟨#[122]⟩ : ByteArray)])).bind fun y4 =>
   some ((y4.1, y4.2))
  )
 else
  (
   (zBq y2.2 ([(⟨#[97]⟩ : ByteArray), (⟨#[98]⟩ : ByteArray), (⟨#[99]⟩ : ByteArray), (⟨#[100]⟩ : ByteArray), (⟨#[101]⟩ : ByteArray), (⟨#[102]⟩ : ByteArray), (⟨#[103]⟩ : ByteArray), (⟨#[97, 98]⟩ : ByteArray), (⟨#[98, 97]⟩ : ByteArray), (⟨#[120]⟩ : ByteArray)])).bind fun y5 =>
   some ((y5.1, y5.2))
  )
def zAg (c1 : ((List Int) × Int × Int)) : Option (Int × (((List Int) × Int × Int))) :=
 (zD c1 12).bind fun y2 =>
 bif (eqI y2.1 0) then
  (
   (jJ y2.2 ([0, 1, -1, 1000000, -1000000, 1000001, -1000001, -9223372036854775808, 9223372036854775807, 999983, 999999, 1000])).bind fun y4 =>
   some ((y4.1, y4.2))
  )
 else
  (
   (
    bif (eqI y2.1 1) then
     (
      some (eqI y2.1 1)
     )
    else
     (
      some (eqI y2.1 2)
     )
   ).bind fun j5 =>
   bif j5 then
    (
     (zD y2.2 50000).bind fun y8 =>
     (zD y8.2 20).bind fun y9 =>
     (zD y9.2 2).bind fun y10 =>
     sI (w64 ((w64 (y8.1 * (w64 (1 + y9.1)))) * (w64 (1 - (w64 (2 * y10.1)))))) fun t11 =>
     some ((t11, y10.2))
    )
   else
    (
     (
      bif (eqI y2.1 3) then
       (
        some (eqI y2.1 3)
       )
      else
       (
        some (eqI y2.1 4)
       )
     ).bind fun j12 =>
     bif j12 then
      (
       (zD y2.2 2000).bind fun y15 =>
       some ((y15.1, y15.2))
      )
     else
      (
       (zD y2.2 121).bind fun y16 =>
       sI (w64 (y16.1 - 40)) fun t17 =>
       some ((t17, y16.2))
      )
    )
  )
def zC0 (c1 : ((List Int) × Int × Int)) : Option (((Int × Int × Int)) × (((List Int) × Int × Int))) :=
 (zD c1 14).bind fun y2 =>
 bif (eqI y2.1 0) then
  (
   (zAg y2.2).bind fun y4 =>
   (zAg y4.2).bind fun y5 =>
   (zAg y5.2).bind fun y6 =>
   some (((y4.1, y5.1, y6.1), y6.2))
  )
 else
  (
   bif (eqI y2.1 1) then
    (
     (jJ y2.2 ([2, 3, -1, 0, 1000])).bind fun y8 =>
     (zD y8.2 20).bind fun y9 =>
     (zD y9.2 21).bind fun y10 =>
     (zD y10.2 20).bind fun y11 =>
     sI (w64 (y8.1 * y9.1)) fun f12 =>
     sI (w64 (y8.1 * (w64 (y10.1 - 10)))) fun f13 =>
     sI (w64 (y8.1 * y11.1)) fun f14 =>
     some (((f12, f13, f14), y11.2))
    )
   else
    (
     bif (eqI y2.1 2) then
      (
       (zD y2.2 2000).bind fun y16 =>
       (zD y16.2 3000).bind fun y17 =>
       (zD y17.2 2000).bind fun y18 =>
       sI (w64 (y17.1 - 1500)) fun f19 =>
       some (((y16.1, f19, y18.1), y18.2))
      )
     else
      (
       bif (eqI y2.1 3) then
        (
         (zD y2.2 21).bind fun y21 =>
         (zD y21.2 21).bind fun y22 =>
         (zD y22.2 21).bind fun y23 =>
         sI (w64 (y21.1 - 10)) fun f24 =>
         sI (w64 (y22.1 - 10)) fun f25 =>
         sI (w64 (y23.1 - 10)) fun f26 =>
         some (((f24, f25, f26), y23.2))
        )
       else
        (
         (zD y2.2 25).bind fun y27 =>
         (zD y27.2 40).bind fun y28 =>
         sI (w64 (1 + y27.1)) fun a29 =>
         (zD y28.2 (w64 (2 * a29))).bind fun y30 =>
         sI (w64 ((w64 (y30.1 - a29)) + 1)) fun b31 =>
         (nz (w64 (4 * a29))).bind fun z32 =>
         sI (w64 ((w64 (Int.tdiv (w64 ((w64 (b31 * b31)) + (w64 (4 * a29)))) (w64 (4 * a29)))) + y28.1)) fun f33 =>
         some (((a29, b31, f33), y30.2))
        )
      )
    )
  )
def zAS (a1 : Int) (vm2 : Int) : Option Int :=
 (nz vm2).bind fun z3 =>
 sI (Int.tmod a1 vm2) fun vr4 =>
 bif (ltI vr4 0) then
  (
   sI (w64 (vr4 + vm2)) fun vr6 =>
   some vr6
  )
 else
  (
   some vr4
  )
def zB8 (a1 : Int) (b2 : Int) : Option Int :=
 bif (ltI b2 a1) then
  (
   some a1
  )
 else
  (
   some b2
  )
def zC1 (c1 : ((List Int) × Int × Int)) : Option (Int × (((List Int) × Int × Int))) :=
 (zD c1 16).bind fun y2 =>
 bif (eqI y2.1 0) then
  (
   (jJ y2.2 ([-3, -4, -2000, -1999, -1996, -1995, -163, -2001, -2003, -2004, 0, 1, 5, -1, -2, -5, -9223372036854775808])).bind fun y4 =>
   some ((y4.1, y4.2))
  )
 else
  (
   (
    bif (eqI y2.1 1) then
     (
      some (eqI y2.1 1)
     )
    else
     (
      some (eqI y2.1 2)
     )
   ).bind fun j5 =>
   bif j5 then
    (
     (zD y2.2 1998).bind fun y8 =>
     sI (w64 ((-3) - y8.1)) fun d9 =>
     (zAS d9 4).bind fun y10 =>
     bif (ltI 1 y10) then
      (
       (zB8 (-2000) (w64 (d9 - 2))).bind fun y12 =>
       some ((y12, y8.2))
      )
     else
      (
       some ((d9, y8.2))
      )
    )
   else
    (
     (
      bif (eqI y2.1 3) then
       (
        some (eqI y2.1 3)
       )
      else
       (
        bif (eqI y2.1 4) then
         (
          some (eqI y2.1 4)
         )
        else
         (
          some (eqI y2.1 5)
         )
       )
     ).bind fun j13 =>
     bif j13 then
      (
       (jJ y2.2 ([-84, -420, -231, -260, -455, -520, -660, -1155, -1320, -1380, -1428, -1540, -399, -1092, -1560, -1785])).bind fun y17 =>
       some ((y17.1, y17.2))
      )
     else
      (
       (
        bif (eqI y2.1 6) then
         (
          some (eqI y2.1 6)
         )
        else
         (
          some (eqI y2.1 7)
         )
       ).bind fun j18 =>
       bif j18 then
        (
         (zD y2.2 60).bind fun y21 =>
         sI (w64 ((-4) * (w64 (1 + y21.1)))) fun t22 =>
         some ((t22, y21.2))
        )
       else
        (
         (zD y2.2 50).bind fun y23 =>
         sI (w64 ((-3) - (w64 (4 * y23.1)))) fun t24 =>
         some ((t24, y23.2))
        )
      )
    )
  )
def jQ (vn1 : Int) (lo2 : Int) (hi3 : Int) : Option Bool :=
 some (bif (leI lo2 vn1) then (leI vn1 hi3) else false)
def zDx (d1 : Int) : Option Bool :=
 (jQ d1 (-2000) (-3)).bind fun y2 =>
 (bif y2 then ((zAS d1 4).bind fun y4 => some (ltI y4 2)) else some false).bind fun b5 =>
 some b5
def zAR (c1 : ((List Int) × Int × Int)) : Option (Int × (((List Int) × Int × Int))) :=
 (zC1 c1).bind fun y2 =>
 (zDx y2.1).bind fun y3 =>
 bif (!y3) then
  (
   some ((-23, y2.2))
  )
 else
  (
   some ((y2.1, y2.2))
  )
def zAM (f1 : (Int × Int × Int)) : Option Int :=
 sI (w64 ((w64 (f1.2.1 * f1.2.1)) - (w64 ((w64 (4 * f1.1)) * f1.2.2)))) fun t2 =>
 some t2
def zCx (f1 : (Int × Int × Int)) : Option Bool :=
 (some (bif (bif (ltI (w64 (0 - f1.1)) f1.2.1) then (leI f1.2.1 f1.1) else false) then (bif (ltI f1.1 f1.2.2) then true else (bif (eqI f1.1 f1.2.2) then (leI 0 f1.2.1) else false)) else false)).bind fun t6 =>
 some t6
def zAz (a2 : Int) (d1 : Int) : Nat → Int → List ((Int × Int × Int)) → Option (List ((Int × Int × Int)))
 | 0, _, _ => none
 | n + 1, b8, l9 =>
  bif (leI b8 a2) then
   (
    (nz (w64 (4 * a2))).bind fun z13 =>
    sI (w64 (Int.tdiv (w64 ((w64 (b8 * b8)) - d1)) (w64 (4 * a2)))) fun f14 =>
    (zAM ((a2, b8, f14))).bind fun y15 =>
    (bif (eqI y15 d1) then ((zCx ((a2, b8, f14))).bind fun y17 => some y17) else some false).bind fun b18 =>
    bif b18 then
     (
      (room (l9.length + ([(a2, b8, f14)]).length)).bind fun u20 =>
      sI (w64 (b8 + 1)) fun b21 =>
      zAz a2 d1 n b21 (l9 ++ ([(a2, b8, f14)]))
     )
    else
     (
      sI (w64 (b8 + 1)) fun b22 =>
      zAz a2 d1 n b22 l9
     )
   )
  else
   (
    some l9
   )
def zCU (d1 : Int) : Nat → Int → List ((Int × Int × Int)) → Option (List ((Int × Int × Int)))
 | 0, _, _ => none
 | n + 1, a2, l3 =>
  bif (leI (w64 ((w64 (3 * a2)) * a2)) (w64 (0 - d1))) then
   (
    sI (w64 (1 - a2)) fun b7 =>
    (zAz a2 d1 FU b7 l3).bind fun o11 =>
    sI (w64 (a2 + 1)) fun a23 =>
    zCU d1 n a23 o11
   )
  else
   (
    some l3
   )
def zFX (d1 : Int) : Option (List ((Int × Int × Int))) :=
 (zCU d1 FU 1 (([] : List ((Int × Int × Int))))).bind fun o5 =>
 some o5
def zDE (vn1 : Int) : Option Int :=
 (zB8 vn1 (w64 (0 - vn1))).bind fun y2 =>
 some y2
def zA3 : Nat → Int → Int → Option Int
 | 0, _, _ => none
 | n + 1, a5, b6 =>
  bif (!eqI b6 0) then
   (
    (nz b6).bind fun z10 =>
    sI (Int.tmod a5 b6) fun b11 =>
    zA3 n b6 b11
   )
  else
   (
    some a5
   )
def zAv (a1 : Int) (b2 : Int) : Option Int :=
 (zDE a1).bind fun y3 =>
 (zDE b2).bind fun y4 =>
 (zA3 FU y3 y4).bind fun o8 =>
 some o8
def zA9 (f1 : (Int × Int × Int)) : Option Int :=
 (zAv f1.1 f1.2.1).bind fun y2 =>
 (zAv y2 f1.2.2).bind fun y3 =>
 some y3
def zB4 (y2 : List ((Int × Int × Int))) : Nat → Int → List ((Int × Int × Int)) → Option (List ((Int × Int × Int)))
 | 0, _, _ => none
 | n + 1, t3, l4 =>
  bif (ltI t3 ((y2.length : Int))) then
   (
    (getI y2 t3).bind fun e8 =>
    (getI y2 t3).bind fun e9 =>
    (zA9 e9).bind fun y10 =>
    bif (eqI y10 1) then
     (
      (room (l4.length + ([e9]).length)).bind fun u12 =>
      sI (w64 (t3 + 1)) fun t13 =>
      zB4 y2 n t13 (l4 ++ ([e9]))
     )
    else
     (
      sI (w64 (t3 + 1)) fun t14 =>
      zB4 y2 n t14 l4
     )
   )
  else
   (
    some l4
   )
def zDw (d1 : Int) : Option (List ((Int × Int × Int))) :=
 (zFX d1).bind fun y2 =>
 (zB4 y2 FU 0 (([] : List ((Int × Int × Int))))).bind fun o6 =>
 some o6
def zAZ (c1 : ((List Int) × Int × Int)) (d2 : Int) : Option (((Int × Int × Int)) × (((List Int) × Int × Int))) :=
 (zDw d2).bind fun y3 =>
 (zD c1 ((y3.length : Int))).bind fun y4 =>
 (getI y3 y4.1).bind fun e5 =>
 (getI y3 y4.1).bind fun e6 =>
 some ((e6, y4.2))
def qO (vm1 : (Int × Int × Int × Int)) (vn2 : (Int × Int × Int × Int)) : Option (Int × Int × Int × Int) :=
 sI (w64 ((w64 (vm1.1 * vn2.1)) + (w64 (vm1.2.1 * vn2.2.2.1)))) fun f3 =>
 sI (w64 ((w64 (vm1.1 * vn2.2.1)) + (w64 (vm1.2.1 * vn2.2.2.2)))) fun f4 =>
 sI (w64 ((w64 (vm1.2.2.1 * vn2.1)) + (w64 (vm1.2.2.2 * vn2.2.2.1)))) fun f5 =>
 sI (w64 ((w64 (vm1.2.2.1 * vn2.2.1)) + (w64 (vm1.2.2.2 * vn2.2.2.2)))) fun f6 =>
 some ((f3, f4, f5, f6))
def jB : Nat → Int → Int → Int → Int → Int → List Int → Int → Int → Option (Int × Int × Int × Int × (List Int) × Int × Int)
 | 0, _, _, _, _, _, _, _, _ => none
 | n + 1, k3, f4, f5, f6, f7, f8, f9, f10 =>
  bif (ltI 0 k3) then
   (
    (zD ((f8, f9, f10)) 9).bind fun y14 =>
    sI (w64 (y14.1 - 4)) fun t15 =>
    (zD y14.2 3).bind fun y16 =>
    bif (eqI y16.1 0) then
     (
      (qO ((f4, f5, f6, f7)) ((1, t15, 0, 1))).bind fun y18 =>
      sI (w64 (k3 - 1)) fun k19 =>
      jB n k19 y18.1 y18.2.1 y18.2.2.1 y18.2.2.2 y16.2.1 y16.2.2.1 y16.2.2.2
     )
    else
     (
      bif (eqI y16.1 1) then
       (
        (qO ((f4, f5, f6, f7)) ((1, 0, t15, 1))).bind fun y21 =>
        sI (w64 (k3 - 1)) fun k22 =>
        jB n k22 y21.1 y21.2.1 y21.2.2.1 y21.2.2.2 y16.2.1 y16.2.2.1 y16.2.2.2
       )
      else
       (
        (qO ((f4, f5, f6, f7)) ((0, -1, 1, 0))).bind fun y23 =>
        sI (w64 (k3 - 1)) fun k24 =>
        jB n k24 y23.1 y23.2.1 y23.2.2.1 y23.2.2.2 y16.2.1 y16.2.2.1 y16.2.2.2
       )
     )
   )
  else
   (
    some (f4, f5, f6, f7, f8, f9, f10)
   )
def zBw (c1 : ((List Int) × Int × Int)) : Option (((Int × Int × Int × Int)) × (((List Int) × Int × Int))) :=
 (zD c1 6).bind fun y2 =>
 (jB FU y2.1 1 0 0 1 y2.2.1 y2.2.2.1 y2.2.2.2).bind fun o12 =>
 some (((o12.1, o12.2.1, o12.2.2.1, o12.2.2.2.1), o12.2.2.2.2))
def zBK (f1 : (Int × Int × Int)) (x2 : Int) (y3 : Int) : Option Int :=
 sI (w64 ((w64 ((w64 ((w64 (f1.1 * x2)) * x2)) + (w64 ((w64 (f1.2.1 * x2)) * y3)))) + (w64 ((w64 (f1.2.2 * y3)) * y3)))) fun t4 =>
 some t4
def zCp (f1 : (Int × Int × Int)) (x2 : Int) (y3 : Int) (u4 : Int) (v5 : Int) : Option Int :=
 sI (w64 ((w64 ((w64 ((w64 ((w64 (2 * f1.1)) * x2)) * u4)) + (w64 (f1.2.1 * (w64 ((w64 (x2 * v5)) + (w64 (y3 * u4)))))))) + (w64 ((w64 ((w64 (2 * f1.2.2)) * y3)) * v5)))) fun t6 =>
 some t6
def zDG (f1 : (Int × Int × Int)) (vm2 : (Int × Int × Int × Int)) : Option (Int × Int × Int) :=
 (zBK f1 vm2.1 vm2.2.2.1).bind fun y3 =>
 (zCp f1 vm2.1 vm2.2.2.1 vm2.2.1 vm2.2.2.2).bind fun y4 =>
 (zBK f1 vm2.2.1 vm2.2.2.2).bind fun y5 =>
 some ((y3, y4, y5))
def zCb (vn1 : Int) : Option Bool :=
 (jQ vn1 (-1000000) 1000000).bind fun y2 =>
 some y2
def zDQ (f1 : (Int × Int × Int)) : Option Bool :=
 (zCb f1.1).bind fun y2 =>
 (bif y2 then ((zCb f1.2.1).bind fun y4 => some y4) else some false).bind fun b5 =>
 (bif b5 then ((zCb f1.2.2).bind fun y7 => some y7) else some false).bind fun b8 =>
 some b8
def zAG (c1 : ((List Int) × Int × Int)) (f2 : (Int × Int × Int)) : Option (((Int × Int × Int)) × (((List Int) × Int × Int))) :=
 (zBw c1).bind fun y3 =>
 (zDG f2 y3.1).bind fun y4 =>
 (zDQ y4).bind fun y5 =>
 bif (!y5) then
  (
   some ((f2, y3.2))
  )
 else
  (
   some ((y4, y3.2))
  )
def zBY (c1 : ((List Int) × Int × Int)) : Option (((Int × Int × Int)) × (((List Int) × Int × Int))) :=
 (zD c1 12).bind fun y2 =>
 bif (eqI y2.1 0) then
  (
   (zC0 y2.2).bind fun y4 =>
   some ((y4.1, y4.2))
  )
 else
  (
   bif (eqI y2.1 1) then
    (
     (zAR y2.2).bind fun y6 =>
     (zAZ y6.2 y6.1).bind fun y7 =>
     (zD y7.2 5).bind fun y8 =>
     sI (w64 (1 + y8.1)) fun k9 =>
     (zAG y8.2 ((w64 (k9 * y7.1.1), w64 (k9 * y7.1.2.1), w64 (k9 * y7.1.2.2)))).bind fun y10 =>
     some ((y10.1, y10.2))
    )
   else
    (
     bif (eqI y2.1 2) then
      (
       (zD y2.2 1000000).bind fun y12 =>
       (zD y12.2 1000001).bind fun y13 =>
       (zD y13.2 750001).bind fun y14 =>
       sI (w64 (1 + y12.1)) fun f15 =>
       sI (w64 (250000 + y14.1)) fun f16 =>
       some (((f15, y13.1, f16), y14.2))
      )
     else
      (
       (zAR y2.2).bind fun y17 =>
       (zAZ y17.2 y17.1).bind fun y18 =>
       (zAG y18.2 y18.1).bind fun y19 =>
       some ((y19.1, y19.2))
      )
    )
  )
def zA8 (c1 : ((List Int) × Int × Int)) : Option (((Int × Int × Int)) × (((List Int) × Int × Int))) :=
 (jY c1 12).bind fun y2 =>
 bif y2.1 then
  (
   (zBY y2.2).bind fun y4 =>
   some ((y4.1, y4.2))
  )
 else
  (
   (zAR y2.2).bind fun y5 =>
   (zAZ y5.2 y5.1).bind fun y6 =>
   (jY y6.2 2).bind fun y7 =>
   bif y7.1 then
    (
     (zAG y7.2 y6.1).bind fun y9 =>
     some ((y9.1, y9.2))
    )
   else
    (
     some ((y6.1, y7.2))
    )
  )
def zC2 (f1 : (Int × Int × Int)) : Option Bool :=
 (zDQ f1).bind fun y2 =>
 (bif y2 then ((zAM f1).bind fun y4 => some (ltI y4 0)) else some false).bind fun b5 =>
 some (bif b5 then (ltI 0 f1.1) else false)
def zDv (f1 : (Int × Int × Int)) : Option Bool :=
 (zC2 f1).bind fun y2 =>
 (bif y2 then ((zAM f1).bind fun y4 => some (leI (-2000) y4)) else some false).bind fun b5 =>
 some b5
def zCc (f1 : (Int × Int × Int)) : Option Bool :=
 (zDv f1).bind fun y2 =>
 (bif y2 then ((zA9 f1).bind fun y4 => some (eqI y4 1)) else some false).bind fun b5 =>
 some b5
def zBB (c1 : ((List Int) × Int × Int)) (l2 : List ((ByteArray × ((Int × Int × Int))))) : Option (((Int × ByteArray × ByteArray × ByteArray × ((Int × Int × Int)))) × (((List Int) × Int × Int))) :=
 (jJ c1 ([1, 1, 1, 3, 3, 4, 5, 5, 2])).bind fun y3 =>
 (zAH y3.2).bind fun y4 =>
 (zAH y4.2).bind fun y5 =>
 (zAH y5.2).bind fun y6 =>
 (zA8 y6.2).bind fun y7 =>
 (
  (bif (ltI 0 ((l2.length : Int))) then ((jY y7.2 6).bind fun y10 => some (!y10.1, y10.2)) else some (false, y7.2)).bind fun b11 =>
  bif b11.1 then
   (
    (zD b11.2 ((l2.length : Int))).bind fun y13 =>
    (getI l2 y13.1).bind fun e14 =>
    (zD y13.2 ((l2.length : Int))).bind fun y15 =>
    (getI l2 y15.1).bind fun e16 =>
    (
     bif (bif (eqI y3.1 2) then true else (eqI y3.1 5)) then
      (
       some e14.1
      )
     else
      (
       some y4.1
      )
    ).bind fun j17 =>
    (zCc e14.2).bind fun y20 =>
    bif y20 then
     (
      (zAG y15.2 e14.2).bind fun y22 =>
      some (e14.1, e16.1, y22.1.1, y22.1.2.1, y22.1.2.2, j17, y22.2.1, y22.2.2.1, y22.2.2.2)
     )
    else
     (
      some (e14.1, e16.1, y7.1.1, y7.1.2.1, y7.1.2.2, j17, y15.2.1, y15.2.2.1, y15.2.2.2)
     )
   )
  else
   (
    some (y5.1, y6.1, y7.1.1, y7.1.2.1, y7.1.2.2, y4.1, b11.2.1, b11.2.2.1, b11.2.2.2)
   )
 ).bind fun j8 =>
 (
  (some (bif (ltI 10 ((l2.length : Int))) then (bif (eqI y3.1 1) then true else (eqI y3.1 3)) else false)).bind fun t26 =>
  bif t26 then
   (
    (zBq j8.2.2.2.2.2.2 ([(⟨#[122, 122]⟩ : ByteArray), (⟨#[122, 121]⟩ : ByteArray), (⟨#[97]⟩ : ByteArray), (⟨#[122, 120]⟩ : ByteArray)])).bind fun y28 =>
    some (y28.1, y28.2.1, y28.2.2.1, y28.2.2.2)
   )
  else
   (
    some (j8.2.2.2.2.2.1, j8.2.2.2.2.2.2.1, j8.2.2.2.2.2.2.2.1, j8.2.2.2.2.2.2.2.2)
   )
 ).bind fun j23 =>
 (
  (
   bif (eqI y3.1 1) then
    (
     some (eqI y3.1 1)
    )
   else
    (
     some (eqI y3.1 5)
    )
  ).bind fun j30 =>
  bif j30 then
   (
    some (ByteArray.empty, ByteArray.empty, j8.2.2.1, j8.2.2.2.1, j8.2.2.2.2.1)
   )
  else
   (
    bif (eqI y3.1 3) then
     (
      some (j8.1, j8.2.1, 0, 0, 0)
     )
    else
     (
      bif (eqI y3.1 4) then
       (
        some (j8.1, ByteArray.empty, 0, 0, 0)
       )
      else
       (
        some (ByteArray.empty, ByteArray.empty, 0, 0, 0)
       )
     )
   )
 ).bind fun j29 =>
 (zD j23.2 40).bind fun y35 =>
 bif (eqI y35.1 0) then
  (
   (jJ y35.2 ([0, 6, -1, 2])).bind fun y37 =>
   some (((y37.1, j23.1, j29.1, j29.2.1, j29.2.2), y37.2))
  )
 else
  (
   bif (eqI y35.1 1) then
    (
     some (((y3.1, j23.1, j29.1, (⟨#[98]⟩ : ByteArray), j29.2.2), y35.2))
    )
   else
    (
     bif (eqI y35.1 2) then
      (
       some (((y3.1, j23.1, j29.1, j29.2.1, (1, 0, 1)), y35.2))
      )
     else
      (
       some (((y3.1, j23.1, j29.1, j29.2.1, j29.2.2), y35.2))
      )
    )
  )
def zCI (vs1 : ByteArray) : Nat → Int → Option (Unit ⊕ Bool)
 | 0, _ => none
 | n + 1, i2 =>
  bif (ltI i2 ((vs1.size : Int))) then
   (
    (getB vs1 i2).bind fun e6 =>
    (bif (ltI e6 97) then some true else ((getB vs1 i2).bind fun e8 => some (ltI 122 e8))).bind fun b9 =>
    bif b9 then
     (
      some (.inr false)
     )
    else
     (
      sI (w64 (i2 + 1)) fun i11 =>
      zCI vs1 n i11
     )
   )
  else
   (
    some (.inl ())
   )
def zCE (vs1 : ByteArray) : Option Bool :=
 (zCI vs1 FU 0).bind fun qo4 =>
 match qo4 with
 | .inr r => some r
 | .inl o4 =>
  (jQ ((vs1.size : Int)) 1 8).bind fun y12 =>
  some y12
def zA7 (kind1 : Int) : Option Bool :=
 some (bif (eqI kind1 1) then true else (eqI kind1 5))
def jX (c1 : (Int × ByteArray × ByteArray × ByteArray × ((Int × Int × Int)))) : Option Bool :=
 (jQ c1.1 1 5).bind fun y2 =>
 (bif (!y2) then some true else ((zCE c1.2.1).bind fun y4 => some (!y4))).bind fun b5 =>
 bif b5 then
  (
   some false
  )
 else
  (
   (zA7 c1.1).bind fun y7 =>
   bif y7 then
    (
     (zCc c1.2.2.2.2).bind fun y9 =>
     (some (bif (bif y9 then (c1.2.2.1.toList == ((⟨#[]⟩ : ByteArray)).toList) else false) then (c1.2.2.2.1.toList == ((⟨#[]⟩ : ByteArray)).toList) else false)).bind fun t12 =>
     some t12
    )
   else
    (
     (some (!((c1.2.2.2.2.1 == 0) && ((c1.2.2.2.2.2.1 == 0) && (c1.2.2.2.2.2.2 == 0))))).bind fun t13 =>
     bif t13 then
      (
       some false
      )
     else
      (
       bif (eqI c1.1 3) then
        (
         (zCE c1.2.2.1).bind fun y16 =>
         (bif y16 then ((zCE c1.2.2.2.1).bind fun y18 => some y18) else some false).bind fun b19 =>
         some b19
        )
       else
        (
         bif (eqI c1.1 4) then
          (
           (zCE c1.2.2.1).bind fun y21 =>
           (some (bif y21 then (c1.2.2.2.1.toList == ((⟨#[]⟩ : ByteArray)).toList) else false)).bind fun t23 =>
           some t23
          )
         else
          (
           (some (bif (c1.2.2.1.toList == ((⟨#[]⟩ : ByteArray)).toList) then (c1.2.2.2.1.toList == ((⟨#[]⟩ : ByteArray)).toList) else false)).bind fun t25 =>
           some t25
          )
        )
      )
    )
  )
def zBA (l1 : List ((ByteArray × ((Int × Int × Int))))) (name2 : ByteArray) : Nat → Int → Option (Unit ⊕ Int)
 | 0, _ => none
 | n + 1, t3 =>
  bif (ltI t3 ((l1.length : Int))) then
   (
    (getI l1 t3).bind fun e7 =>
    bif (e7.1.toList == name2.toList) then
     (
      some (.inr t3)
     )
    else
     (
      sI (w64 (t3 + 1)) fun t9 =>
      zBA l1 name2 n t9
     )
   )
  else
   (
    some (.inl ())
   )
def zBI (l1 : List ((ByteArray × ((Int × Int × Int))))) (name2 : ByteArray) : Option Int :=
 (zBA l1 name2 FU 0).bind fun qo5 =>
 match qo5 with
 | .inr r => some r
 | .inl o5 =>
  some (-1)
def zDP (l1 : List ((ByteArray × ((Int × Int × Int))))) (vat2 : Int) : Option (List ((ByteArray × ((Int × Int × Int))))) :=
 (slc l1.length 0 vat2).bind fun u3 =>
 (room ((([] : List ((ByteArray × ((Int × Int × Int)))))).length + (subl l1 0 vat2).length)).bind fun u4 =>
 (some ((([] : List ((ByteArray × ((Int × Int × Int)))))) ++ (subl l1 0 vat2))).bind fun l5 =>
 (slc l1.length (w64 (vat2 + 1)) ((l1.length : Int))).bind fun u6 =>
 (room (l5.length + (subl l1 (w64 (vat2 + 1)) ((l1.length : Int))).length)).bind fun u7 =>
 some (l5 ++ (subl l1 (w64 (vat2 + 1)) ((l1.length : Int))))
def zEG (f1 : (Int × Int × Int)) : Option Int :=
 (zAS (w64 (f1.1 - f1.2.1)) (w64 (2 * f1.1))).bind fun y2 =>
 (nz (w64 (2 * f1.1))).bind fun z3 =>
 sI (w64 (Int.tdiv (w64 ((w64 (f1.1 - f1.2.1)) - y2)) (w64 (2 * f1.1)))) fun t4 =>
 some t4
def zDO (f1 : (Int × Int × Int)) : Option (Int × Int × Int × Int) :=
 (zEG f1).bind fun y2 =>
 bif (!eqI y2 0) then
  (
   some ((1, y2, 0, 1))
  )
 else
  (
   (zCx f1).bind fun y4 =>
   bif y4 then
    (
     some ((1, 0, 0, 1))
    )
   else
    (
     some ((0, -1, 1, 0))
    )
  )
def zB3 : Nat → Int → Int → Int → Int → Int → Int → Int → Option (Int × Int × Int × Int × Int × Int × Int)
 | 0, _, _, _, _, _, _, _ => none
 | n + 1, f2, f3, f4, f5, f6, f7, f8 =>
  (zCx ((f6, f7, f8))).bind fun y11 =>
  bif (!y11) then
   (
    (zDO ((f6, f7, f8))).bind fun y13 =>
    (zDG ((f6, f7, f8)) y13).bind fun y14 =>
    (qO ((f2, f3, f4, f5)) y13).bind fun y15 =>
    zB3 n y15.1 y15.2.1 y15.2.2.1 y15.2.2.2 y14.1 y14.2.1 y14.2.2
   )
  else
   (
    some (f2, f3, f4, f5, f6, f7, f8)
   )
def jN (f1 : (Int × Int × Int)) : Option (((Int × Int × Int)) × ((Int × Int × Int × Int))) :=
 (zB3 FU 1 0 0 1 f1.1 f1.2.1 f1.2.2).bind fun o10 =>
 some ((o10.2.2.2.2, (o10.1, o10.2.1, o10.2.2.1, o10.2.2.2.1)))
def zAq (f1 : (Int × Int × Int)) : Option (Int × Int × Int) :=
 (jN f1).bind fun y2 =>
 some y2.1
def zBT (e2 : (ByteArray × ((Int × Int × Int)))) (l1 : List ((ByteArray × ((Int × Int × Int))))) : Nat → Int → Option Int
 | 0, _ => none
 | n + 1, k3 =>
  (bif (ltI k3 ((l1.length : Int))) then ((getI l1 k3).bind fun e7 => some (Op.bytesLess e7.1.toList e2.1.toList)) else some false).bind fun b8 =>
  bif b8 then
   (
    sI (w64 (k3 + 1)) fun k10 =>
    zBT e2 l1 n k10
   )
  else
   (
    some k3
   )
def zDk (l1 : List ((ByteArray × ((Int × Int × Int))))) (e2 : (ByteArray × ((Int × Int × Int)))) : Option (List ((ByteArray × ((Int × Int × Int))))) :=
 (zBT e2 l1 FU 0).bind fun o5 =>
 (slc l1.length 0 o5).bind fun u11 =>
 (room ((([] : List ((ByteArray × ((Int × Int × Int)))))).length + (subl l1 0 o5).length)).bind fun u12 =>
 (some ((([] : List ((ByteArray × ((Int × Int × Int)))))) ++ (subl l1 0 o5))).bind fun l13 =>
 (room (l13.length + ([e2]).length)).bind fun u14 =>
 (slc l1.length o5 ((l1.length : Int))).bind fun u15 =>
 (room ((l13 ++ ([e2])).length + (subl l1 o5 ((l1.length : Int))).length)).bind fun u16 =>
 some ((l13 ++ ([e2])) ++ (subl l1 o5 ((l1.length : Int))))
def zB5 (a2 : Int) (g1 : (Int × Int × Int)) (k3 : Int) (x7 : Int) : Nat → Int → Option (Unit ⊕ (Int × Int))
 | 0, _ => none
 | n + 1, y11 =>
  bif (leI y11 k3) then
   (
    (zB8 x7 y11).bind fun y15 =>
    (bif (eqI y15 k3) then ((zAv x7 y11).bind fun y17 => some (eqI y17 1)) else some false).bind fun b18 =>
    (bif b18 then ((zBK g1 x7 y11).bind fun y20 => (zAv y20 a2).bind fun y21 => some (eqI y21 1)) else some false).bind fun b22 =>
    bif b22 then
     (
      some (.inr (((x7, y11))))
     )
    else
     (
      sI (w64 (y11 + 1)) fun y24 =>
      zB5 a2 g1 k3 x7 n y24
     )
   )
  else
   (
    some (.inl ())
   )
def zBj (a2 : Int) (g1 : (Int × Int × Int)) (k3 : Int) : Nat → Int → Option (Unit ⊕ (Int × Int))
 | 0, _ => none
 | n + 1, x7 =>
  bif (leI x7 k3) then
   (
    (zB5 a2 g1 k3 x7 FU 0).bind fun qo13 =>
    match qo13 with
    | .inr r => some (.inr r)
    | .inl o13 =>
     sI (w64 (x7 + 1)) fun x25 =>
     zBj a2 g1 k3 n x25
   )
  else
   (
    some (.inl ())
   )
def zBk (a2 : Int) (g1 : (Int × Int × Int)) : Nat → Int → Option (Unit ⊕ (Int × Int))
 | 0, _ => none
 | n + 1, k3 =>
  bif (leI k3 100) then
   (
    (zBj a2 g1 k3 FU 0).bind fun qo9 =>
    match qo9 with
    | .inr r => some (.inr r)
    | .inl o9 =>
     sI (w64 (k3 + 1)) fun k26 =>
     zBk a2 g1 n k26
   )
  else
   (
    some (.inl ())
   )
def zCO (g1 : (Int × Int × Int)) (a2 : Int) : Option (Int × Int) :=
 (zBk a2 g1 FU 1).bind fun qo5 =>
 match qo5 with
 | .inr r => some r
 | .inl o5 =>
  some ((1, 0))
def zGB (vn1 : Int) : Option Int :=
 bif (ltI 0 vn1) then
  (
   some 1
  )
 else
  (
   bif (ltI vn1 0) then
    (
     some (-1)
    )
   else
    (
     some 0
    )
  )
def zBO (vm2 : Int) : Nat → Int → Int → Int → Int → Option (Int × Int)
 | 0, _, _, _, _ => none
 | n + 1, vr4, next5, x6, y7 =>
  bif (!eqI next5 0) then
   (
    (nz next5).bind fun z11 =>
    sI (w64 (Int.tdiv vr4 next5)) fun q12 =>
    sI (w64 (vr4 - (w64 (q12 * next5)))) fun next13 =>
    sI (w64 (x6 - (w64 (q12 * y7)))) fun y14 =>
    zBO vm2 n next5 next13 y7 y14
   )
  else
   (
    some (vr4, x6)
   )
def zCH (a1 : Int) (vm2 : Int) : Option Int :=
 (zAS a1 vm2).bind fun y3 =>
 (zBO vm2 FU vm2 y3 0 1).bind fun o9 =>
 bif (!eqI o9.1 1) then
  (
   some (-1)
  )
 else
  (
   (zAS o9.2 vm2).bind fun y16 =>
   some y16
  )
def zDL (a1 : Int) (b2 : Int) : Option (Int × Int × Int) :=
 (zAv a1 b2).bind fun y3 =>
 bif (eqI b2 0) then
  (
   (zGB a1).bind fun y5 =>
   some ((y3, y5, 0))
  )
 else
  (
   (nz y3).bind fun z6 =>
   (zDE b2).bind fun y7 =>
   (nz y3).bind fun z8 =>
   (zCH (w64 (Int.tdiv a1 y3)) (w64 (Int.tdiv y7 y3))).bind fun y9 =>
   (nz b2).bind fun z10 =>
   sI (w64 (Int.tdiv (w64 (y3 - (w64 (a1 * y9)))) b2)) fun t11 =>
   some ((y3, y9, t11))
  )
def zAi (f1 : (Int × Int × Int)) (x2 : Int) (y3 : Int) : Option (((Int × Int × Int)) × ((Int × Int × Int × Int))) :=
 (zDL x2 y3).bind fun y4 =>
 (zBK f1 x2 y3).bind fun y5 =>
 sI (w64 (0 - y4.2.2)) fun q6 =>
 (zCp f1 x2 y3 q6 y4.2.1).bind fun y7 =>
 (zAS y7 (w64 (2 * y5))).bind fun y8 =>
 (nz (w64 (2 * y5))).bind fun z9 =>
 sI (w64 (Int.tdiv (w64 (y8 - y7)) (w64 (2 * y5)))) fun t10 =>
 sI (w64 (q6 + (w64 (x2 * t10)))) fun f11 =>
 sI (w64 (y4.2.1 + (w64 (y3 * t10)))) fun f12 =>
 sI (w64 (y7 + (w64 ((w64 (2 * y5)) * t10)))) fun b13 =>
 (zAM f1).bind fun y14 =>
 (nz (w64 (4 * y5))).bind fun z15 =>
 sI (w64 (Int.tdiv (w64 ((w64 (b13 * b13)) - y14)) (w64 (4 * y5)))) fun f16 =>
 some (((y5, b13, f16), (x2, f11, y3, f12)))
def zCV (a1 : Int) (vm2 : Int) (b3 : Int) (vn4 : Int) : Option (Int × Int × Bool) :=
 (zAv vm2 vn4).bind fun y5 =>
 (nz y5).bind fun z6 =>
 bif (!eqI (Int.tmod (w64 (b3 - a1)) y5) 0) then
  (
   some ((0, 0, false))
  )
 else
  (
   (nz y5).bind fun z8 =>
   (nz y5).bind fun z9 =>
   (nz y5).bind fun z10 =>
   (zCH (w64 (Int.tdiv vm2 y5)) (w64 (Int.tdiv vn4 y5))).bind fun y11 =>
   (nz y5).bind fun z12 =>
   (zAS (w64 ((w64 (Int.tdiv (w64 (b3 - a1)) y5)) * y11)) (w64 (Int.tdiv vn4 y5))).bind fun y13 =>
   (nz y5).bind fun z14 =>
   sI (w64 ((w64 (Int.tdiv vm2 y5)) * vn4)) fun all15 =>
   (zAS (w64 (a1 + (w64 (vm2 * y13)))) all15).bind fun y16 =>
   some ((y16, all15, true))
  )
def zD7 (t1 : Int) : Option (Int × Int × Int × Int) :=
 some ((1, t1, 0, 1))
def zCN (f1 : (Int × Int × Int)) (g2 : (Int × Int × Int)) : Option (((Int × Int × Int)) × ((Int × Int × Int)) × ((Int × Int × Int × Int)) × ((Int × Int × Int × Int))) :=
 (jN f1).bind fun y3 =>
 (jN g2).bind fun y4 =>
 (zCO y4.1 y3.1.1).bind fun y5 =>
 (zAi y4.1 y5.1 y5.2).bind fun y6 =>
 (qO y4.2 y6.2).bind fun y7 =>
 (zAS y3.1.2.1 (w64 (2 * y3.1.1))).bind fun y8 =>
 (zCV y8 (w64 (2 * y3.1.1)) y6.1.2.1 (w64 (2 * y6.1.1))).bind fun y9 =>
 (nz (w64 (2 * y3.1.1))).bind fun z10 =>
 (zD7 (w64 (Int.tdiv (w64 (y9.1 - y3.1.2.1)) (w64 (2 * y3.1.1))))).bind fun y11 =>
 (qO y3.2 y11).bind fun y12 =>
 (nz (w64 (2 * y6.1.1))).bind fun z13 =>
 (zD7 (w64 (Int.tdiv (w64 (y9.1 - y6.1.2.1)) (w64 (2 * y6.1.1))))).bind fun y14 =>
 (qO y7 y14).bind fun y15 =>
 (zAM y3.1).bind fun y16 =>
 (nz (w64 ((w64 (4 * y3.1.1)) * y6.1.1))).bind fun z17 =>
 sI (w64 (Int.tdiv (w64 ((w64 (y9.1 * y9.1)) - y16)) (w64 ((w64 (4 * y3.1.1)) * y6.1.1)))) fun c18 =>
 sI (w64 (y3.1.1 * c18)) fun f19 =>
 sI (w64 (y6.1.1 * c18)) fun f20 =>
 some (((y3.1.1, y9.1, f20), (y6.1.1, y9.1, f19), y12, y15))
def zEH (a1 : (Int × Int × Int)) (e2 : (Int × Int × Int)) : Option (Int × Int × Int) :=
 (nz e2.1).bind fun z3 =>
 sI (w64 (a1.1 * e2.1)) fun f4 =>
 sI (w64 (Int.tdiv a1.2.2 e2.1)) fun f5 =>
 some ((f4, a1.2.1, f5))
def zDl (f1 : (Int × Int × Int)) (g2 : (Int × Int × Int)) : Option (Int × Int × Int) :=
 (zCN f1 g2).bind fun y3 =>
 (zEH y3.1 y3.2.1).bind fun y4 =>
 (zAq y4).bind fun y5 =>
 some y5
def zDZ (f1 : (Int × Int × Int)) : Option (Int × Int × Int) :=
 sI (w64 (0 - f1.2.1)) fun f2 =>
 some ((f1.1, f2, f1.2.2))
def zCq (f1 : (Int × Int × Int)) : Option (Int × Int × Int) :=
 (zDZ f1).bind fun y2 =>
 (zAq y2).bind fun y3 =>
 some y3
def zDC (l1 : List ((ByteArray × ((Int × Int × Int))))) (c2 : (Int × ByteArray × ByteArray × ByteArray × ((Int × Int × Int)))) : Option ((List ((ByteArray × ((Int × Int × Int))))) × Int) :=
 (zBI l1 c2.2.1).bind fun y3 =>
 (zBI l1 c2.2.2.1).bind fun y4 =>
 (zBI l1 c2.2.2.2.1).bind fun y5 =>
 (some (bif (!(bif (eqI c2.1 2) then true else (eqI c2.1 5))) then (leI 0 y3) else false)).bind fun t8 =>
 bif t8 then
  (
   some ((([] : List ((ByteArray × ((Int × Int × Int))))), 2))
  )
 else
  (
   (some (bif (bif (bif (bif (eqI c2.1 2) then true else (eqI c2.1 5)) then (ltI y3 0) else false) then true else (bif (!(c2.2.2.1.toList == ((⟨#[]⟩ : ByteArray)).toList)) then (ltI y4 0) else false)) then true else (bif (!(c2.2.2.2.1.toList == ((⟨#[]⟩ : ByteArray)).toList)) then (ltI y5 0) else false))).bind fun t15 =>
   bif t15 then
    (
     some ((([] : List ((ByteArray × ((Int × Int × Int))))), 3))
    )
   else
    (
     ((
      bif (eqI c2.1 2) then
       (
        (zDP l1 y3).bind fun y19 =>
        some (.inr (((y19, 0))))
       )
      else
       (
        bif (eqI c2.1 5) then
         (
          (zAq c2.2.2.2.2).bind fun y21 =>
          (getI l1 y3).bind fun e22 =>
          (zAq e22.2).bind fun y23 =>
          (some (!((y21.1 == y23.1) && ((y21.2.1 == y23.2.1) && (y21.2.2 == y23.2.2))))).bind fun t24 =>
          bif t24 then
           (
            some (.inr (((([] : List ((ByteArray × ((Int × Int × Int))))), 4))))
           )
          else
           (
            (zDP l1 y3).bind fun y26 =>
            (zDk y26 ((c2.2.1, c2.2.2.2.2))).bind fun y27 =>
            some (.inr (((y27, 0))))
           )
         )
        else
         (
          bif (eqI c2.1 3) then
           (
            (getI l1 y4).bind fun e29 =>
            (zAM e29.2).bind fun y30 =>
            (getI l1 y5).bind fun e31 =>
            (zAM e31.2).bind fun y32 =>
            bif (!eqI y30 y32) then
             (
              some (.inr (((([] : List ((ByteArray × ((Int × Int × Int))))), 4))))
             )
            else
             (
              (getI l1 y4).bind fun e34 =>
              (getI l1 y5).bind fun e35 =>
              (zDl e34.2 e35.2).bind fun y36 =>
              some (.inl (y36.1, y36.2.1, y36.2.2))
             )
           )
          else
           (
            bif (eqI c2.1 4) then
             (
              (getI l1 y4).bind fun e38 =>
              (zCq e38.2).bind fun y39 =>
              some (.inl (y39.1, y39.2.1, y39.2.2))
             )
            else
             (
              some (.inl (c2.2.2.2.2.1, c2.2.2.2.2.2.1, c2.2.2.2.2.2.2))
             )
           )
         )
       )
     ) : Option ((Int × Int × Int) ⊕ ((List ((ByteArray × ((Int × Int × Int))))) × Int))).bind fun qo17 =>
     match qo17 with
     | .inr r => some r
     | .inl o17 =>
      bif (leI 20 ((l1.length : Int))) then
       (
        some ((([] : List ((ByteArray × ((Int × Int × Int))))), 5))
       )
      else
       (
        (zDk l1 ((c2.2.1, o17))).bind fun y41 =>
        some ((y41, 0))
       )
    )
  )
def qL : Nat → List ((ByteArray × ((Int × Int × Int)))) → List ((Int × ByteArray × ByteArray × ByteArray × ((Int × Int × Int)))) → List Int → Int → Int → Int → Option ((List ((Int × ByteArray × ByteArray × ByteArray × ((Int × Int × Int))))) × (List Int) × Int × Int)
 | 0, _, _, _, _, _, _ => none
 | n + 1, l4, l5, f6, f7, f8, vn9 =>
  bif (ltI ((l5.length : Int)) vn9) then
   (
    (zBB ((f6, f7, f8)) l4).bind fun y13 =>
    (room (l5.length + ([y13.1]).length)).bind fun u14 =>
    (jX y13.1).bind fun y15 =>
    bif y15 then
     (
      (zDC l4 y13.1).bind fun y17 =>
      bif (eqI y17.2 0) then
       (
        qL n y17.1 (l5 ++ ([y13.1])) y13.2.1 y13.2.2.1 y13.2.2.2 vn9
       )
      else
       (
        (jY y13.2 4).bind fun y19 =>
        bif (!y19.1) then
         (
          (slc (l5 ++ ([y13.1])).length 0 (w64 ((((l5 ++ ([y13.1])).length : Int)) - 1))).bind fun u21 =>
          (some (subl (l5 ++ ([y13.1])) 0 (w64 ((((l5 ++ ([y13.1])).length : Int)) - 1)))).bind fun l22 =>
          sI (w64 (vn9 - 1)) fun vn23 =>
          qL n l4 l22 y19.2.1 y19.2.2.1 y19.2.2.2 vn23
         )
        else
         (
          qL n l4 (l5 ++ ([y13.1])) y19.2.1 y19.2.2.1 y19.2.2.2 vn9
         )
       )
     )
    else
     (
      qL n l4 (l5 ++ ([y13.1])) y13.2.1 y13.2.2.1 y13.2.2.2 vn9
     )
   )
  else
   (
    some (l5, f6, f7, f8)
   )
def zBZ (c1 : ((List Int) × Int × Int)) (vn2 : Int) : Option ((List ((Int × ByteArray × ByteArray × ByteArray × ((Int × Int × Int))))) × (((List Int) × Int × Int))) :=
 (some (([] : List ((Int × ByteArray × ByteArray × ByteArray × ((Int × Int × Int))))))).bind fun l3 =>
 (qL FU (([] : List ((ByteArray × ((Int × Int × Int)))))) l3 c1.1 c1.2.1 c1.2.2 vn2).bind fun o11 =>
 some ((o11.1, o11.2))
def zD6 : Option (List ByteArray) :=
 (some ([(⟨#[]⟩ : ByteArray), (⟨#[97, 100, 100]⟩ : ByteArray), (⟨#[100, 114, 111, 112]⟩ : ByteArray), (⟨#[109, 117, 108]⟩ : ByteArray), (⟨#[105, 110, 118]⟩ : ByteArray), (⟨#[109, 111, 118, 101]⟩ : ByteArray)])).bind fun l1 =>
 some l1
def zB7 : Nat → Int → Option ByteArray
 | 0, _ => none
 | n + 1, vn1 =>
  bif (ltI vn1 10) then
   (
    some (zBs ([IntKind.u8.wrap (w64 (48 + vn1))]))
   )
  else
   (
    (zB7 n (w64 (Int.tdiv vn1 10))).bind fun y3 =>
    (catR y3 (zBs ([IntKind.u8.wrap (w64 (48 + (Int.tmod vn1 10)))]))).bind fun u4 =>
    some (y3 ++ (zBs ([IntKind.u8.wrap (w64 (48 + (Int.tmod vn1 10)))])))
   )
def zDD (vn1 : Int) : Option ByteArray :=
 bif (ltI vn1 0) then
  (
   (zB7 FU (w64 (0 - vn1))).bind fun y3 =>
   (catR ((⟨#[45]⟩ : ByteArray)) y3).bind fun u4 =>
   some (((⟨#[45]⟩ : ByteArray)) ++ y3)
  )
 else
  (
   (zB7 FU vn1).bind fun y5 =>
   some y5
  )
def zDz (f1 : (Int × Int × Int)) : Option ByteArray :=
 (zDD f1.1).bind fun y2 =>
 (catR ((⟨#[40]⟩ : ByteArray)) y2).bind fun u3 =>
 (catR (((⟨#[40]⟩ : ByteArray)) ++ y2) ((⟨#[44]⟩ : ByteArray))).bind fun u4 =>
 (zDD f1.2.1).bind fun y5 =>
 (catR ((((⟨#[40]⟩ : ByteArray)) ++ y2) ++ ((⟨#[44]⟩ : ByteArray))) y5).bind fun u6 =>
 (catR (((((⟨#[40]⟩ : ByteArray)) ++ y2) ++ ((⟨#[44]⟩ : ByteArray))) ++ y5) ((⟨#[44]⟩ : ByteArray))).bind fun u7 =>
 (zDD f1.2.2).bind fun y8 =>
 (catR ((((((⟨#[40]⟩ : ByteArray)) ++ y2) ++ ((⟨#[44]⟩ : ByteArray))) ++ y5) ++ ((⟨#[44]⟩ : ByteArray))) y8).bind fun u9 =>
 (catR (((((((⟨#[40]⟩ : ByteArray)) ++ y2) ++ ((⟨#[44]⟩ : ByteArray))) ++ y5) ++ ((⟨#[44]⟩ : ByteArray))) ++ y8) ((⟨#[41]⟩ : ByteArray))).bind fun u10 =>
 some ((((((((⟨#[40]⟩ : ByteArray)) ++ y2) ++ ((⟨#[44]⟩ : ByteArray))) ++ y5) ++ ((⟨#[44]⟩ : ByteArray))) ++ y8) ++ ((⟨#[41]⟩ : ByteArray)))
def qY (c1 : (Int × ByteArray × ByteArray × ByteArray × ((Int × Int × Int)))) : Option ByteArray :=
 (zD6).bind fun y2 =>
 (getI y2 c1.1).bind fun e3 =>
 (getI y2 c1.1).bind fun e4 =>
 (catR e4 ((⟨#[32]⟩ : ByteArray))).bind fun u5 =>
 (catR (e4 ++ ((⟨#[32]⟩ : ByteArray))) c1.2.1).bind fun u6 =>
 (
  bif (!(c1.2.2.1.toList == ((⟨#[]⟩ : ByteArray)).toList)) then
   (
    (catR ((⟨#[32]⟩ : ByteArray)) c1.2.2.1).bind fun u9 =>
    (catR ((e4 ++ ((⟨#[32]⟩ : ByteArray))) ++ c1.2.1) (((⟨#[32]⟩ : ByteArray)) ++ c1.2.2.1)).bind fun u10 =>
    some (((e4 ++ ((⟨#[32]⟩ : ByteArray))) ++ c1.2.1) ++ (((⟨#[32]⟩ : ByteArray)) ++ c1.2.2.1))
   )
  else
   (
    some ((e4 ++ ((⟨#[32]⟩ : ByteArray))) ++ c1.2.1)
   )
 ).bind fun j7 =>
 (
  bif (!(c1.2.2.2.1.toList == ((⟨#[]⟩ : ByteArray)).toList)) then
   (
    (catR ((⟨#[32]⟩ : ByteArray)) c1.2.2.2.1).bind fun u13 =>
    (catR j7 (((⟨#[32]⟩ : ByteArray)) ++ c1.2.2.2.1)).bind fun u14 =>
    some (j7 ++ (((⟨#[32]⟩ : ByteArray)) ++ c1.2.2.2.1))
   )
  else
   (
    some j7
   )
 ).bind fun j11 =>
 (zA7 c1.1).bind fun y15 =>
 bif y15 then
  (
   (zDz c1.2.2.2.2).bind fun y17 =>
   (catR ((⟨#[32]⟩ : ByteArray)) y17).bind fun u18 =>
   (catR j11 (((⟨#[32]⟩ : ByteArray)) ++ y17)).bind fun u19 =>
   some (j11 ++ (((⟨#[32]⟩ : ByteArray)) ++ y17))
  )
 else
  (
   some j11
  )
def zBh (vs1 : ByteArray) : Nat → Int → Int → Option Int
 | 0, _, _ => none
 | n + 1, before3, i4 =>
  bif (ltI i4 ((vs1.size : Int))) then
   (
    (getB vs1 i4).bind fun e8 =>
    sI (Int.tmod (w64 ((w64 ((w64 (31 * before3)) + (IntKind.i64.wrap e8))) + 1)) 9973) fun before9 =>
    sI (w64 (i4 + 1)) fun i10 =>
    zBh vs1 n before9 i10
   )
  else
   (
    some before3
   )
def zCM (vs1 : ByteArray) (before2 : Int) : Option Int :=
 (zBh vs1 FU before2 0).bind fun o6 =>
 some o6
def zBp (c1 : (Int × ByteArray × ByteArray × ByteArray × ((Int × Int × Int)))) (before2 : Int) : Option ByteArray :=
 (qY c1).bind fun y3 =>
 (catR y3 ((⟨#[35]⟩ : ByteArray))).bind fun u4 =>
 (zCM y3 before2).bind fun y5 =>
 (zB7 FU y5).bind fun y6 =>
 (catR (y3 ++ ((⟨#[35]⟩ : ByteArray))) y6).bind fun u7 =>
 (catR ((y3 ++ ((⟨#[35]⟩ : ByteArray))) ++ y6) ((⟨#[10]⟩ : ByteArray))).bind fun u8 =>
 some (((y3 ++ ((⟨#[35]⟩ : ByteArray))) ++ y6) ++ ((⟨#[10]⟩ : ByteArray)))
def zAQ (l1 : List ((Int × ByteArray × ByteArray × ByteArray × ((Int × Int × Int))))) : Nat → ByteArray → Int → Int → Option ByteArray
 | 0, _, _, _ => none
 | n + 1, out2, check3, t4 =>
  bif (ltI t4 ((l1.length : Int))) then
   (
    (getI l1 t4).bind fun e8 =>
    (zBp e8 check3).bind fun y9 =>
    (catR out2 y9).bind fun u10 =>
    (qY e8).bind fun y11 =>
    (zCM y11 check3).bind fun y12 =>
    sI (w64 (t4 + 1)) fun t13 =>
    zAQ l1 n (out2 ++ y9) y12 t13
   )
  else
   (
    some out2
   )
def zCo (l1 : List ((Int × ByteArray × ByteArray × ByteArray × ((Int × Int × Int))))) : Option ByteArray :=
 (zAQ l1 FU ((⟨#[]⟩ : ByteArray)) 0 0).bind fun o6 =>
 some o6
def jA (vwith3 : ByteArray) : Nat → ByteArray → Int → List Int → Int → Int → Option (ByteArray × (List Int) × Int × Int)
 | 0, _, _, _, _, _ => none
 | n + 1, t6, vn7, f8, f9, f10 =>
  bif (bif (ltI 0 vn7) then (ltI 0 ((t6.size : Int))) else false) then
   (
    (zD ((f8, f9, f10)) ((t6.size : Int))).bind fun y15 =>
    (zD y15.2 ((vwith3.size : Int))).bind fun y16 =>
    (getB vwith3 y16.1).bind fun e17 =>
    (zD y16.2 3).bind fun y18 =>
    bif (eqI y18.1 0) then
     (
      (slc t6.size 0 y15.1).bind fun u20 =>
      (catR (t6.extract (Int.toNat 0) (Int.toNat y15.1)) (zBs ([e17]))).bind fun u21 =>
      (slc t6.size y15.1 ((t6.size : Int))).bind fun u22 =>
      (catR ((t6.extract (Int.toNat 0) (Int.toNat y15.1)) ++ (zBs ([e17]))) (t6.extract (Int.toNat y15.1) (Int.toNat ((t6.size : Int))))).bind fun u23 =>
      sI (w64 (vn7 - 1)) fun vn24 =>
      jA vwith3 n (((t6.extract (Int.toNat 0) (Int.toNat y15.1)) ++ (zBs ([e17]))) ++ (t6.extract (Int.toNat y15.1) (Int.toNat ((t6.size : Int))))) vn24 y18.2.1 y18.2.2.1 y18.2.2.2
     )
    else
     (
      bif (eqI y18.1 1) then
       (
        (slc t6.size 0 y15.1).bind fun u26 =>
        (catR (t6.extract (Int.toNat 0) (Int.toNat y15.1)) (zBs ([e17]))).bind fun u27 =>
        (slc t6.size (w64 (y15.1 + 1)) ((t6.size : Int))).bind fun u28 =>
        (catR ((t6.extract (Int.toNat 0) (Int.toNat y15.1)) ++ (zBs ([e17]))) (t6.extract (Int.toNat (w64 (y15.1 + 1))) (Int.toNat ((t6.size : Int))))).bind fun u29 =>
        sI (w64 (vn7 - 1)) fun vn30 =>
        jA vwith3 n (((t6.extract (Int.toNat 0) (Int.toNat y15.1)) ++ (zBs ([e17]))) ++ (t6.extract (Int.toNat (w64 (y15.1 + 1))) (Int.toNat ((t6.size : Int))))) vn30 y18.2.1 y18.2.2.1 y18.2.2.2
       )
      else
       (
        (slc t6.size 0 y15.1).bind fun u31 =>
        (slc t6.size (w64 (y15.1 + 1)) ((t6.size : Int))).bind fun u32 =>
        (catR (t6.extract (Int.toNat 0) (Int.toNat y15.1)) (t6.extract (Int.toNat (w64 (y15.1 + 1))) (Int.toNat ((t6.size : Int))))).bind fun u33 =>
        sI (w64 (vn7 - 1)) fun vn34 =>
        jA vwith3 n ((t6.extract (Int.toNat 0) (Int.toNat y15.1)) ++ (t6.extract (Int.toNat (w64 (y15.1 + 1))) (Int.toNat ((t6.size : Int))))) vn34 y18.2.1 y18.2.2.1 y18.2.2.2
       )
     )
   )
  else
   (
    some (t6, f8, f9, f10)
   )
def zBv (c1 : ((List Int) × Int × Int)) (t2 : ByteArray) (vwith3 : ByteArray) : Option (ByteArray × (((List Int) × Int × Int))) :=
 (zD c1 2).bind fun y4 =>
 sI (w64 (1 + y4.1)) fun vn5 =>
 (jA vwith3 FU t2 vn5 y4.2.1 y4.2.2.1 y4.2.2.2).bind fun o12 =>
 some ((o12.1, o12.2))
def qZ (y9 : ((List ((Int × ByteArray × ByteArray × ByteArray × ((Int × Int × Int))))) × (((List Int) × Int × Int)))) : Nat → Int → List ((Int × ByteArray × ByteArray × ByteArray × ((Int × Int × Int)))) → Option (List ((Int × ByteArray × ByteArray × ByteArray × ((Int × Int × Int)))))
 | 0, _, _ => none
 | n + 1, t10, l11 =>
  bif (ltI t10 ((y9.1.length : Int))) then
   (
    (getI y9.1 t10).bind fun e15 =>
    (getI y9.1 t10).bind fun e16 =>
    (jX e16).bind fun y17 =>
    bif y17 then
     (
      (room (l11.length + ([e16]).length)).bind fun u19 =>
      sI (w64 (t10 + 1)) fun t20 =>
      qZ y9 n t20 (l11 ++ ([e16]))
     )
    else
     (
      sI (w64 (t10 + 1)) fun t21 =>
      qZ y9 n t21 l11
     )
   )
  else
   (
    some l11
   )
def zBe (c1 : ((List Int) × Int × Int)) : Option (ByteArray × (((List Int) × Int × Int))) :=
 (some (([] : List ((Int × ByteArray × ByteArray × ByteArray × ((Int × Int × Int))))))).bind fun l2 =>
 (zD c1 8).bind fun y3 =>
 (
  (jY y3.2 16).bind fun y5 =>
  bif y5.1 then
   (
    (zD y5.2 2).bind fun y7 =>
    sI (w64 (40 + y7.1)) fun vn8 =>
    some (vn8, y7.2.1, y7.2.2.1, y7.2.2.2)
   )
  else
   (
    some (y3.1, y5.2.1, y5.2.2.1, y5.2.2.2)
   )
 ).bind fun j4 =>
 (zBZ j4.2 j4.1).bind fun y9 =>
 (qZ y9 FU 0 l2).bind fun o13 =>
 (zCo o13).bind fun y22 =>
 bif (eqI ((y22.size : Int)) 0) then
  (
   some ((y22, y9.2))
  )
 else
  (
   (zD y9.2 6).bind fun y24 =>
   bif (eqI y24.1 0) then
    (
     (zD y24.2 ((y22.size : Int))).bind fun y26 =>
     (slc y22.size 0 y26.1).bind fun u27 =>
     some ((y22.extract (Int.toNat 0) (Int.toNat y26.1), y26.2))
    )
   else
    (
     bif (eqI y24.1 1) then
      (
       (zBv y24.2 y22 ((⟨#[97, 35, 40, 49, 44, 48, 32, 10, 57]⟩ : ByteArray))).bind fun y29 =>
       some ((y29.1, y29.2))
      )
     else
      (
       some ((y22, y24.2))
      )
    )
  )
def zAT (b2 : Int) (vs1 : ByteArray) : Nat → Int → Int → List ByteArray → Option (Int × (List ByteArray))
 | 0, _, _, _ => none
 | n + 1, vfrom3, i4, l5 =>
  bif (ltI i4 ((vs1.size : Int))) then
   (
    (getB vs1 i4).bind fun e9 =>
    bif (eqI e9 b2) then
     (
      (slc vs1.size vfrom3 i4).bind fun u11 =>
      (room (l5.length + ([vs1.extract (Int.toNat vfrom3) (Int.toNat i4)]).length)).bind fun u12 =>
      sI (w64 (i4 + 1)) fun vfrom13 =>
      sI (w64 (i4 + 1)) fun i14 =>
      zAT b2 vs1 n vfrom13 i14 (l5 ++ ([vs1.extract (Int.toNat vfrom3) (Int.toNat i4)]))
     )
    else
     (
      sI (w64 (i4 + 1)) fun i15 =>
      zAT b2 vs1 n vfrom3 i15 l5
     )
   )
  else
   (
    some (vfrom3, l5)
   )
def zBd (vs1 : ByteArray) (b2 : Int) : Option (List ByteArray) :=
 (zAT b2 vs1 FU 0 0 (([] : List ByteArray))).bind fun o7 =>
 (slc vs1.size o7.1 ((vs1.size : Int))).bind fun u16 =>
 (room (o7.2.length + ([vs1.extract (Int.toNat o7.1) (Int.toNat ((vs1.size : Int)))]).length)).bind fun u17 =>
 (some (o7.2 ++ ([vs1.extract (Int.toNat o7.1) (Int.toNat ((vs1.size : Int)))]))).bind fun l18 =>
 some l18
def zBU (vs1 : ByteArray) (first2 : Int) (last3 : Int) : Option (ByteArray × Bool) :=
 (bif (ltI ((vs1.size : Int)) 2) then some true else ((getB vs1 0).bind fun e5 => some (!eqI e5 first2))).bind fun b6 =>
 (bif b6 then some true else ((getB vs1 (w64 (((vs1.size : Int)) - 1))).bind fun e8 => some (!eqI e8 last3))).bind fun b9 =>
 bif b9 then
  (
   some (((⟨#[]⟩ : ByteArray), false))
  )
 else
  (
   (slc vs1.size 1 (w64 (((vs1.size : Int)) - 1))).bind fun u11 =>
   some ((vs1.extract (Int.toNat 1) (Int.toNat (w64 (((vs1.size : Int)) - 1))), true))
  )
def zAj (vs1 : ByteArray) : Nat → Int → Int → Option (Int ⊕ Int)
 | 0, _, _ => none
 | n + 1, vn8, i9 =>
  bif (ltI i9 ((vs1.size : Int))) then
   (
    (getB vs1 i9).bind fun e13 =>
    (bif (ltI e13 48) then some true else ((getB vs1 i9).bind fun e15 => some (ltI 57 e15))).bind fun b16 =>
    bif b16 then
     (
      some (.inr ((-1)))
     )
    else
     (
      (getB vs1 i9).bind fun e18 =>
      sI (w64 ((w64 (10 * vn8)) + (IntKind.i64.wrap (IntKind.u8.wrap (e18 - 48))))) fun vn19 =>
      sI (w64 (i9 + 1)) fun i20 =>
      zAj vs1 n vn19 i20
     )
   )
  else
   (
    some (.inl vn8)
   )
def zDy (vs1 : ByteArray) : Option Int :=
 (jQ ((vs1.size : Int)) 1 10).bind fun y2 =>
 (bif (!y2) then some true else ((getB vs1 0).bind fun e4 => some (bif (eqI e4 48) then (ltI 1 ((vs1.size : Int))) else false))).bind fun b6 =>
 bif b6 then
  (
   some (-1)
  )
 else
  (
   (zAj vs1 FU 0 0).bind fun qo11 =>
   match qo11 with
   | .inr r => some r
   | .inl o11 =>
    some o11
  )
def zDF (vs1 : ByteArray) : Option (Int × Bool) :=
 (bif (ltI 1 ((vs1.size : Int))) then ((getB vs1 0).bind fun e3 => some (eqI e3 45)) else some false).bind fun b4 =>
 (
  bif b4 then
   (
    (slc vs1.size 1 ((vs1.size : Int))).bind fun u7 =>
    some (vs1.extract (Int.toNat 1) (Int.toNat ((vs1.size : Int))))
   )
  else
   (
    some vs1
   )
 ).bind fun j5 =>
 (zDy j5).bind fun y8 =>
 (some (bif (bif (ltI y8 0) then true else (bif b4 then (eqI y8 0) else false)) then true else (ltI 1000000 y8))).bind fun t12 =>
 bif t12 then
  (
   some ((0, false))
  )
 else
  (
   bif b4 then
    (
     sI (w64 (0 - y8)) fun t15 =>
     some ((t15, true))
    )
   else
    (
     some ((y8, true))
    )
  )
def zAL (y4 : List ByteArray) : Nat → Int → List Int → Option (List Int ⊕ List Int)
 | 0, _, _ => none
 | n + 1, t6, l7 =>
  bif (ltI t6 ((y4.length : Int))) then
   (
    (getI y4 t6).bind fun e11 =>
    (getI y4 t6).bind fun e12 =>
    (zDF e12).bind fun y13 =>
    bif (!y13.2) then
     (
      some (.inr ((([] : List Int))))
     )
    else
     (
      (room (l7.length + ([y13.1]).length)).bind fun u15 =>
      sI (w64 (t6 + 1)) fun t16 =>
      zAL y4 n t16 (l7 ++ ([y13.1]))
     )
   )
  else
   (
    some (.inl l7)
   )
def zB9 (vs1 : ByteArray) (b2 : Int) (count3 : Int) : Option (List Int) :=
 (zBd vs1 b2).bind fun y4 =>
 bif (!eqI ((y4.length : Int)) count3) then
  (
   some (([] : List Int))
  )
 else
  (
   (zAL y4 FU 0 (([] : List Int))).bind fun qo9 =>
   match qo9 with
   | .inr r => some r
   | .inl o9 =>
    some o9
  )
def zCF (vs1 : ByteArray) : Option (((Int × Int × Int)) × Bool) :=
 (zBU vs1 40 41).bind fun y2 =>
 (zB9 y2.1 44 3).bind fun y3 =>
 bif (bif (!y2.2) then true else (!eqI ((y3.length : Int)) 3)) then
  (
   some (((0, 0, 0), false))
  )
 else
  (
   (getI y3 0).bind fun e6 =>
   (getI y3 0).bind fun e7 =>
   (getI y3 1).bind fun e8 =>
   (getI y3 1).bind fun e9 =>
   (getI y3 2).bind fun e10 =>
   (getI y3 2).bind fun e11 =>
   some (((e7, e9, e11), true))
  )
def jP (e6 : ByteArray) (vs1 : ByteArray) (y2 : List ByteArray) (y7 : List ByteArray) : Nat → Int → Int → Option Int
 | 0, _, _ => none
 | n + 1, t8, f9 =>
  bif (ltI t8 ((y7.length : Int))) then
   (
    (getI y7 t8).bind fun e13 =>
    (getI y7 t8).bind fun e14 =>
    (bif (ltI 0 t8) then ((getI y2 0).bind fun e16 => (getI y2 0).bind fun e17 => some (e14.toList == e17.toList)) else some false).bind fun b18 =>
    bif b18 then
     (
      sI (w64 (t8 + 1)) fun t20 =>
      jP e6 vs1 y2 y7 n t20 t8
     )
    else
     (
      sI (w64 (t8 + 1)) fun t21 =>
      jP e6 vs1 y2 y7 n t21 f9
     )
   )
  else
   (
    some f9
   )
def zBH (vs1 : ByteArray) : Option (((Int × ByteArray × ByteArray × ByteArray × ((Int × Int × Int)))) × Bool) :=
 (zBd vs1 32).bind fun y2 =>
 (jQ ((y2.length : Int)) 2 4).bind fun y3 =>
 bif (!y3) then
  (
   some (((0, ByteArray.empty, ByteArray.empty, ByteArray.empty, (0, 0, 0)), false))
  )
 else
  (
   (getI y2 1).bind fun e5 =>
   (getI y2 1).bind fun e6 =>
   (zD6).bind fun y7 =>
   (jP e6 vs1 y2 y7 FU 0 0).bind fun o11 =>
   ((
    (zA7 o11).bind fun y23 =>
    bif y23 then
     (
      bif (!eqI ((y2.length : Int)) 3) then
       (
        some (.inr ((((0, ByteArray.empty, ByteArray.empty, ByteArray.empty, (0, 0, 0)), false))))
       )
      else
       (
        (getI y2 2).bind fun e26 =>
        (getI y2 2).bind fun e27 =>
        (zCF e27).bind fun y28 =>
        bif (!y28.2) then
         (
          some (.inr ((((0, ByteArray.empty, ByteArray.empty, ByteArray.empty, (0, 0, 0)), false))))
         )
        else
         (
          some (.inl (ByteArray.empty, ByteArray.empty, y28.1.1, y28.1.2.1, y28.1.2.2))
         )
       )
     )
    else
     (
      (
       bif (ltI 2 ((y2.length : Int))) then
        (
         (getI y2 2).bind fun e32 =>
         (getI y2 2).bind fun e33 =>
         some e33
        )
       else
        (
         some ByteArray.empty
        )
      ).bind fun j30 =>
      bif (ltI 3 ((y2.length : Int))) then
       (
        (getI y2 3).bind fun e35 =>
        (getI y2 3).bind fun e36 =>
        some (.inl (j30, e36, 0, 0, 0))
       )
      else
       (
        some (.inl (j30, ByteArray.empty, 0, 0, 0))
       )
     )
   ) : Option ((ByteArray × ByteArray × Int × Int × Int) ⊕ (((Int × ByteArray × ByteArray × ByteArray × ((Int × Int × Int)))) × Bool))).bind fun qo22 =>
   match qo22 with
   | .inr r => some r
   | .inl o22 =>
    (jX ((o11, e6, o22.1, o22.2.1, o22.2.2))).bind fun y37 =>
    (bif (!y37) then some true else ((qY ((o11, e6, o22.1, o22.2.1, o22.2.2))).bind fun y39 => some (!(y39.toList == vs1.toList)))).bind fun b40 =>
    bif b40 then
     (
      some (((0, ByteArray.empty, ByteArray.empty, ByteArray.empty, (0, 0, 0)), false))
     )
    else
     (
      some (((o11, e6, o22.1, o22.2.1, o22.2.2), true))
     )
  )
def zAf (check5 : Int) (l2 : List ((ByteArray × ((Int × Int × Int))))) (records3 : Int) (vat4 : Int) (vs1 : ByteArray) : Nat → Int → Option Int
 | 0, _ => none
 | n + 1, vend9 =>
  (bif (ltI vend9 ((vs1.size : Int))) then ((getB vs1 vend9).bind fun e13 => some (!eqI e13 10)) else some false).bind fun b14 =>
  bif b14 then
   (
    sI (w64 (vend9 + 1)) fun vend16 =>
    zAf check5 l2 records3 vat4 vs1 n vend16
   )
  else
   (
    some vend9
   )
def zAe (check5 : Int) (l2 : List ((ByteArray × ((Int × Int × Int))))) (o11 : Int) (records3 : Int) (vat4 : Int) (vs1 : ByteArray) : Nat → Int → Option Int
 | 0, _ => none
 | n + 1, mark17 =>
  (bif (ltI mark17 o11) then ((getB vs1 mark17).bind fun e21 => some (!eqI e21 35)) else some false).bind fun b22 =>
  bif b22 then
   (
    sI (w64 (mark17 + 1)) fun mark24 =>
    zAe check5 l2 o11 records3 vat4 vs1 n mark24
   )
  else
   (
    some mark17
   )
def jD (vs1 : ByteArray) : Nat → List ((ByteArray × ((Int × Int × Int)))) → Int → Int → Int → Option ((List ((ByteArray × ((Int × Int × Int))))) × Int × Int × Int)
 | 0, _, _, _, _ => none
 | n + 1, l2, records3, vat4, check5 =>
  bif (ltI records3 40) then
   (
    (zAf check5 l2 records3 vat4 vs1 FU vat4).bind fun o11 =>
    (zAe check5 l2 o11 records3 vat4 vs1 FU vat4).bind fun o19 =>
    (slc vs1.size vat4 o19).bind fun u25 =>
    (zBH (vs1.extract (Int.toNat vat4) (Int.toNat o19))).bind fun y26 =>
    (bif (bif (eqI o11 ((vs1.size : Int))) then true else (!y26.2)) then some true else ((slc vs1.size vat4 (w64 (o11 + 1))).bind fun u29 => (zBp y26.1 check5).bind fun y30 => some (!((vs1.extract (Int.toNat vat4) (Int.toNat (w64 (o11 + 1)))).toList == y30.toList)))).bind fun b31 =>
    bif b31 then
     (
      some (l2, records3, vat4, check5)
     )
    else
     (
      (zDC l2 y26.1).bind fun y33 =>
      bif (!eqI y33.2 0) then
       (
        some (l2, records3, vat4, check5)
       )
      else
       (
        (slc vs1.size vat4 o19).bind fun u35 =>
        (zCM (vs1.extract (Int.toNat vat4) (Int.toNat o19)) check5).bind fun y36 =>
        sI (w64 (o11 + 1)) fun vat37 =>
        sI (w64 (records3 + 1)) fun records38 =>
        jD vs1 n y33.1 records38 vat37 y36
       )
     )
   )
  else
   (
    some (l2, records3, vat4, check5)
   )
def zA4 (vs1 : ByteArray) : Option ((List ((ByteArray × ((Int × Int × Int))))) × Int × Int × Int) :=
 (jD vs1 FU (([] : List ((ByteArray × ((Int × Int × Int)))))) 0 0 0).bind fun o7 =>
 some ((o7.1, o7.2.1, o7.2.2.1, o7.2.2.2))
def zAr (code1 : List Int) : Option (ByteArray × ((Int × ByteArray × ByteArray × ByteArray × ((Int × Int × Int))))) :=
 (zBe ((code1, 0, 0))).bind fun y2 =>
 (zA4 y2.1).bind fun y3 =>
 (zBB y2.2 y3.1).bind fun y4 =>
 some ((y2.1, y4.1))
def zAN (vs1 : ByteArray) : Nat → Int → Option (Unit ⊕ Bool)
 | 0, _ => none
 | n + 1, i2 =>
  bif (ltI i2 ((vs1.size : Int))) then
   (
    (getB vs1 i2).bind fun e6 =>
    (bif (ltI e6 97) then some true else ((getB vs1 i2).bind fun e8 => some (ltI 122 e8))).bind fun b9 =>
    bif b9 then
     (
      some (.inr false)
     )
    else
     (
      sI (w64 (i2 + 1)) fun i11 =>
      zAN vs1 n i11
     )
   )
  else
   (
    some (.inl ())
   )
def zBa (vs1 : ByteArray) : Option Bool :=
 (zAN vs1 FU 0).bind fun qo4 =>
 match qo4 with
 | .inr r => some r
 | .inl o4 =>
  (some (bif (leI 1 ((vs1.size : Int))) then (leI ((vs1.size : Int)) 8) else false)).bind fun t13 =>
  some t13
def zBD (list1 : List Int) : Nat → Int → Option (Unit ⊕ Bool)
 | 0, _ => none
 | n + 1, t2 =>
  bif (ltI t2 ((list1.length : Int))) then
   (
    (getI list1 t2).bind fun e6 =>
    bif (bif (ltI e6 (-1000000)) then true else (ltI 1000000 e6)) then
     (
      some (.inr false)
     )
    else
     (
      sI (w64 (t2 + 1)) fun t9 =>
      zBD list1 n t9
     )
   )
  else
   (
    some (.inl ())
   )
def zC4 (list1 : List Int) : Option Bool :=
 (zBD list1 FU 0).bind fun qo4 =>
 match qo4 with
 | .inr r => some r
 | .inl o4 =>
  some true
def zDR (f1 : (Int × Int × Int)) : Option Bool :=
 (zC4 ([f1.1, f1.2.1, f1.2.2])).bind fun y2 =>
 some y2
def qI (f1 : (Int × Int × Int)) : Option Int :=
 sI (w64 ((w64 (f1.2.1 * f1.2.1)) - (w64 ((w64 (4 * f1.1)) * f1.2.2)))) fun t2 =>
 some t2
def zAU (f1 : (Int × Int × Int)) : Option Bool :=
 (zDR f1).bind fun y2 =>
 (bif y2 then ((qI f1).bind fun y4 => some (ltI y4 0)) else some false).bind fun b5 =>
 some (bif b5 then (ltI 0 f1.1) else false)
def jT (f1 : (Int × Int × Int)) : Option Bool :=
 (zAU f1).bind fun y2 =>
 (bif y2 then ((qI f1).bind fun y4 => some (leI (-2000) y4)) else some false).bind fun b5 =>
 some b5
def zDb (vn1 : Int) : Option Int :=
 sI (mxI vn1 (w64 (0 - (mxI vn1 (-9223372036854775807))))) fun t2 =>
 some t2
def zA6 : Nat → Int → Int → Option Int
 | 0, _, _ => none
 | n + 1, a3, b4 =>
  bif (!eqI b4 0) then
   (
    (nz b4).bind fun z8 =>
    sI (Int.tmod a3 b4) fun b9 =>
    zA6 n b4 b9
   )
  else
   (
    some a3
   )
def zDa (a1 : Int) (b2 : Int) : Option Int :=
 (zA6 FU a1 b2).bind fun o6 =>
 (zDb o6).bind fun y10 =>
 some y10
def zBx (f1 : (Int × Int × Int)) : Option Int :=
 (zDa f1.2.1 f1.2.2).bind fun y2 =>
 (zDa f1.1 y2).bind fun y3 =>
 some y3
def qC (f1 : (Int × Int × Int)) : Option Bool :=
 (jT f1).bind fun y2 =>
 (bif y2 then ((zBx f1).bind fun y4 => some (eqI y4 1)) else some false).bind fun b5 =>
 some b5
def zAO (c1 : (Int × ByteArray × ByteArray × ByteArray × ((Int × Int × Int)))) : Option Bool :=
 (zBa c1.2.1).bind fun y2 =>
 bif (!y2) then
  (
   some false
  )
 else
  (
   (
    bif (eqI c1.1 1) then
     (
      some (eqI c1.1 1)
     )
    else
     (
      some (eqI c1.1 5)
     )
   ).bind fun j4 =>
   bif j4 then
    (
     (bif (bif (c1.2.2.1.toList == ((⟨#[]⟩ : ByteArray)).toList) then (c1.2.2.2.1.toList == ((⟨#[]⟩ : ByteArray)).toList) else false) then ((qC c1.2.2.2.2).bind fun y9 => some y9) else some false).bind fun b10 =>
     some b10
    )
   else
    (
     bif (eqI c1.1 2) then
      (
       (some (bif (bif (c1.2.2.1.toList == ((⟨#[]⟩ : ByteArray)).toList) then (c1.2.2.2.1.toList == ((⟨#[]⟩ : ByteArray)).toList) else false) then (((c1.2.2.2.2.1 == 0) && ((c1.2.2.2.2.2.1 == 0) && (c1.2.2.2.2.2.2 == 0)))) else false)).bind fun t14 =>
       some t14
      )
     else
      (
       bif (eqI c1.1 3) then
        (
         (zBa c1.2.2.1).bind fun y16 =>
         (bif y16 then ((zBa c1.2.2.2.1).bind fun y18 => some y18) else some false).bind fun b19 =>
         (some (bif b19 then (((c1.2.2.2.2.1 == 0) && ((c1.2.2.2.2.2.1 == 0) && (c1.2.2.2.2.2.2 == 0)))) else false)).bind fun t21 =>
         some t21
        )
       else
        (
         bif (eqI c1.1 4) then
          (
           (zBa c1.2.2.1).bind fun y23 =>
           (some (bif (bif y23 then (c1.2.2.2.1.toList == ((⟨#[]⟩ : ByteArray)).toList) else false) then (((c1.2.2.2.2.1 == 0) && ((c1.2.2.2.2.2.1 == 0) && (c1.2.2.2.2.2.2 == 0)))) else false)).bind fun t26 =>
           some t26
          )
         else
          (
           some false
          )
        )
      )
    )
  )
def jS (vs1 : ByteArray) (c2 : Int) : Option Int :=
 sI (idxB vs1 c2) fun t3 =>
 some t3
def zBu (vs1 : ByteArray) (c2 : Int) : Option Int :=
 (jS vs1 c2).bind fun y3 =>
 some y3
def zBQ (c1 : Int) : Option Bool :=
 (some (bif (!eqI c1 45) then (bif (ltI c1 48) then true else (ltI 57 c1)) else false)).bind fun t4 =>
 some t4
def qR (y2 : List ByteArray) : Nat → Int → List Int → Option (List Int ⊕ List Int)
 | 0, _, _ => none
 | n + 1, t3, l4 =>
  bif (ltI t3 ((y2.length : Int))) then
   (
    (getI y2 t3).bind fun e8 =>
    (getI y2 t3).bind fun e9 =>
    (zAp e9).bind fun y10 =>
    bif (!y10.2) then
     (
      some (.inr ((([] : List Int))))
     )
    else
     (
      (room (l4.length + ([y10.1]).length)).bind fun u12 =>
      sI (w64 (t3 + 1)) fun t13 =>
      qR y2 n t13 (l4 ++ ([y10.1]))
     )
   )
  else
   (
    some (.inl l4)
   )
def zBM (vs1 : ByteArray) : Option (List Int) :=
 (zAy (pOf zBQ) vs1).bind fun y2 =>
 (qR y2 FU 0 (([] : List Int))).bind fun qo6 =>
 match qo6 with
 | .inr r => some r
 | .inl o6 =>
  some o6
def zCX (f1 : (Int × Int × Int)) : Option ByteArray :=
 (zAo f1.1).bind fun y2 =>
 (catR ((⟨#[40]⟩ : ByteArray)) y2).bind fun u3 =>
 (catR (((⟨#[40]⟩ : ByteArray)) ++ y2) ((⟨#[44]⟩ : ByteArray))).bind fun u4 =>
 (zAo f1.2.1).bind fun y5 =>
 (catR ((((⟨#[40]⟩ : ByteArray)) ++ y2) ++ ((⟨#[44]⟩ : ByteArray))) y5).bind fun u6 =>
 (catR (((((⟨#[40]⟩ : ByteArray)) ++ y2) ++ ((⟨#[44]⟩ : ByteArray))) ++ y5) ((⟨#[44]⟩ : ByteArray))).bind fun u7 =>
 (zAo f1.2.2).bind fun y8 =>
 (catR ((((((⟨#[40]⟩ : ByteArray)) ++ y2) ++ ((⟨#[44]⟩ : ByteArray))) ++ y5) ++ ((⟨#[44]⟩ : ByteArray))) y8).bind fun u9 =>
 (catR (((((((⟨#[40]⟩ : ByteArray)) ++ y2) ++ ((⟨#[44]⟩ : ByteArray))) ++ y5) ++ ((⟨#[44]⟩ : ByteArray))) ++ y8) ((⟨#[41]⟩ : ByteArray))).bind fun u10 =>
 some ((((((((⟨#[40]⟩ : ByteArray)) ++ y2) ++ ((⟨#[44]⟩ : ByteArray))) ++ y5) ++ ((⟨#[44]⟩ : ByteArray))) ++ y8) ++ ((⟨#[41]⟩ : ByteArray)))
def zAa (vs1 : ByteArray) : Option (((Int × Int × Int)) × Bool) :=
 (zBM vs1).bind fun y2 =>
 bif (!eqI ((y2.length : Int)) 3) then
  (
   some (((0, 0, 0), false))
  )
 else
  (
   (getI y2 0).bind fun e4 =>
   (getI y2 0).bind fun e5 =>
   (getI y2 1).bind fun e6 =>
   (getI y2 1).bind fun e7 =>
   (getI y2 2).bind fun e8 =>
   (getI y2 2).bind fun e9 =>
   (zDR ((e5, e7, e9))).bind fun y10 =>
   (bif (!y10) then some true else ((zCX ((e5, e7, e9))).bind fun y12 => some (!(y12.toList == vs1.toList)))).bind fun b13 =>
   bif b13 then
    (
     some (((0, 0, 0), false))
    )
   else
    (
     some (((e5, e7, e9), true))
    )
  )
def qU (c1 : (Int × ByteArray × ByteArray × ByteArray × ((Int × Int × Int)))) (t4 : Int) : Nat → Int → List ByteArray → Option (List ByteArray)
 | 0, _, _ => none
 | n + 1, t5, l6 =>
  bif (ltI t5 t4) then
   (
    (getI ([c1.2.2.1, c1.2.2.2.1] : List ByteArray) t5).bind fun e10 =>
    (getI ([c1.2.2.1, c1.2.2.2.1] : List ByteArray) t5).bind fun e11 =>
    bif (!(e11.toList == ((⟨#[]⟩ : ByteArray)).toList)) then
     (
      (room (l6.length + ([e11]).length)).bind fun u13 =>
      sI (w64 (t5 + 1)) fun t14 =>
      qU c1 t4 n t14 (l6 ++ ([e11]))
     )
    else
     (
      sI (w64 (t5 + 1)) fun t15 =>
      qU c1 t4 n t15 l6
     )
   )
  else
   (
    some l6
   )
def qK (c1 : (Int × ByteArray × ByteArray × ByteArray × ((Int × Int × Int)))) : Option ByteArray :=
 (getI ([(⟨#[97, 100, 100]⟩ : ByteArray), (⟨#[100, 114, 111, 112]⟩ : ByteArray), (⟨#[109, 117, 108]⟩ : ByteArray), (⟨#[105, 110, 118]⟩ : ByteArray), (⟨#[109, 111, 118, 101]⟩ : ByteArray)] : List ByteArray) (w64 (c1.1 - 1))).bind fun e2 =>
 (getI ([(⟨#[97, 100, 100]⟩ : ByteArray), (⟨#[100, 114, 111, 112]⟩ : ByteArray), (⟨#[109, 117, 108]⟩ : ByteArray), (⟨#[105, 110, 118]⟩ : ByteArray), (⟨#[109, 111, 118, 101]⟩ : ByteArray)] : List ByteArray) (w64 (c1.1 - 1))).bind fun e3 =>
 sI ((([c1.2.2.1, c1.2.2.2.1]).length : Int)) fun t4 =>
 (qU c1 t4 FU 0 ([e3, c1.2.1])).bind fun o8 =>
 (
  (some (!((c1.2.2.2.2.1 == 0) && ((c1.2.2.2.2.2.1 == 0) && (c1.2.2.2.2.2.2 == 0))))).bind fun t17 =>
  bif t17 then
   (
    (zCX c1.2.2.2.2).bind fun y19 =>
    (room (o8.length + ([y19]).length)).bind fun u20 =>
    some (o8 ++ ([y19]))
   )
  else
   (
    some o8
   )
 ).bind fun j16 =>
 (zCn j16 ((⟨#[32]⟩ : ByteArray))).bind fun y21 =>
 some y21
def zQ (e8 : ByteArray) (f9 : Int) (t11 : Int) (vs1 : ByteArray) (y2 : List ByteArray) : Nat → Int → Int → Int → Int → ByteArray → ByteArray → Option (ByteArray × ByteArray × Int × Int × Int)
 | 0, _, _, _, _, _, _ => none
 | n + 1, t12, f13, f14, f15, f16, f17 =>
  bif (ltI t12 t11) then
   (
    (getI (subl y2 2 ((y2.length : Int))) t12).bind fun e21 =>
    bif (bif (eqI f9 1) then true else (eqI f9 5)) then
     (
      (zAa e21).bind fun y24 =>
      sI (w64 (t12 + 1)) fun t25 =>
      zQ e8 f9 t11 vs1 y2 n t25 y24.1.1 y24.1.2.1 y24.1.2.2 f16 f17
     )
    else
     (
      bif (f16.toList == ((⟨#[]⟩ : ByteArray)).toList) then
       (
        sI (w64 (t12 + 1)) fun t27 =>
        zQ e8 f9 t11 vs1 y2 n t27 f13 f14 f15 e21 f17
       )
      else
       (
        sI (w64 (t12 + 1)) fun t28 =>
        zQ e8 f9 t11 vs1 y2 n t28 f13 f14 f15 f16 e21
       )
     )
   )
  else
   (
    some (f16, f17, f13, f14, f15)
   )
def qX (vs1 : ByteArray) : Option (((Int × ByteArray × ByteArray × ByteArray × ((Int × Int × Int)))) × Bool) :=
 (zBS vs1 ((⟨#[32]⟩ : ByteArray))).bind fun y2 =>
 (some (mPut ((⟨#[109, 111, 118, 101]⟩ : ByteArray)) 5 (mPut ((⟨#[105, 110, 118]⟩ : ByteArray)) 4 (mPut ((⟨#[109, 117, 108]⟩ : ByteArray)) 3 (mPut ((⟨#[100, 114, 111, 112]⟩ : ByteArray)) 2 (mPut ((⟨#[97, 100, 100]⟩ : ByteArray)) 1 (([] : List ((ByteArray × Int)))))))))).bind fun l3 =>
 bif (ltI ((y2.length : Int)) 2) then
  (
   some (((0, ByteArray.empty, ByteArray.empty, ByteArray.empty, (0, 0, 0)), false))
  )
 else
  (
   (getI y2 0).bind fun e5 =>
   (getI y2 0).bind fun e6 =>
   (getI y2 1).bind fun e7 =>
   (getI y2 1).bind fun e8 =>
   sI (mAt e6 l3 0) fun f9 =>
   (slc y2.length 2 ((y2.length : Int))).bind fun u10 =>
   sI (((subl y2 2 ((y2.length : Int))).length : Int)) fun t11 =>
   (zQ e8 f9 t11 vs1 y2 FU 0 0 0 0 ByteArray.empty ByteArray.empty).bind fun o19 =>
   (zAO ((f9, e8, o19.1, o19.2.1, o19.2.2))).bind fun y29 =>
   (bif (!y29) then some true else ((qK ((f9, e8, o19.1, o19.2.1, o19.2.2))).bind fun y31 => some (!(y31.toList == vs1.toList)))).bind fun b32 =>
   bif b32 then
    (
     some (((0, ByteArray.empty, ByteArray.empty, ByteArray.empty, (0, 0, 0)), false))
    )
   else
    (
     some (((f9, e8, o19.1, o19.2.1, o19.2.2), true))
    )
  )
def qE (vs1 : ByteArray) : Nat → Int → Int → Option Int
 | 0, _, _ => none
 | n + 1, before3, i4 =>
  bif (ltI i4 ((vs1.size : Int))) then
   (
    (getB vs1 i4).bind fun e8 =>
    sI (Int.tmod (w64 ((w64 ((w64 (31 * before3)) + (IntKind.i64.wrap e8))) + 1)) 9973) fun before9 =>
    sI (w64 (i4 + 1)) fun i10 =>
    qE vs1 n before9 i10
   )
  else
   (
    some before3
   )
def qD (vs1 : ByteArray) (before2 : Int) : Option Int :=
 (qE vs1 FU before2 0).bind fun o6 =>
 some o6
def zBL (c1 : (Int × ByteArray × ByteArray × ByteArray × ((Int × Int × Int)))) (before2 : Int) : Option (ByteArray × Int) :=
 (qK c1).bind fun y3 =>
 (qD y3 before2).bind fun y4 =>
 (catR y3 ((⟨#[35]⟩ : ByteArray))).bind fun u5 =>
 (zAo y4).bind fun y6 =>
 (catR (y3 ++ ((⟨#[35]⟩ : ByteArray))) y6).bind fun u7 =>
 (catR ((y3 ++ ((⟨#[35]⟩ : ByteArray))) ++ y6) ((⟨#[10]⟩ : ByteArray))).bind fun u8 =>
 some ((((y3 ++ ((⟨#[35]⟩ : ByteArray))) ++ y6) ++ ((⟨#[10]⟩ : ByteArray)), y4))
def zBf (l1 : List ((ByteArray × ((Int × Int × Int))))) (name2 : ByteArray) : Nat → Int → Option (Unit ⊕ (((Int × Int × Int)) × Bool))
 | 0, _ => none
 | n + 1, t3 =>
  bif (ltI t3 ((l1.length : Int))) then
   (
    (getI l1 t3).bind fun e7 =>
    bif (e7.1.toList == name2.toList) then
     (
      some (.inr (((e7.2, true))))
     )
    else
     (
      sI (w64 (t3 + 1)) fun t9 =>
      zBf l1 name2 n t9
     )
   )
  else
   (
    some (.inl ())
   )
def zBV (l1 : List ((ByteArray × ((Int × Int × Int))))) (name2 : ByteArray) : Option (((Int × Int × Int)) × Bool) :=
 (zBf l1 name2 FU 0).bind fun qo5 =>
 match qo5 with
 | .inr r => some r
 | .inl o5 =>
  some (((0, 0, 0), false))
def zEs : Option (Int × Int × Int × Int) :=
 some ((1, 0, 0, 1))
def qN (f1 : (Int × Int × Int)) : Option Bool :=
 (some (bif (ltI (w64 (0 - f1.1)) f1.2.1) then (leI f1.2.1 f1.1) else false)).bind fun t3 =>
 some t3
def jK (f1 : (Int × Int × Int)) : Option Bool :=
 (qN f1).bind fun y2 =>
 (some (bif y2 then (bif (ltI f1.1 f1.2.2) then true else (bif (eqI f1.1 f1.2.2) then (leI 0 f1.2.1) else false)) else false)).bind fun t6 =>
 some t6
def zBr (a1 : Int) (vm2 : Int) : Option Int :=
 (nz vm2).bind fun z3 =>
 sI (Int.tmod a1 vm2) fun vr4 =>
 bif (ltI vr4 0) then
  (
   sI (w64 (vr4 + vm2)) fun vr6 =>
   some vr6
  )
 else
  (
   some vr4
  )
def zAw (a1 : Int) (vm2 : Int) : Option Int :=
 (zBr a1 vm2).bind fun y3 =>
 (nz vm2).bind fun z4 =>
 sI (w64 (Int.tdiv (w64 (a1 - y3)) vm2)) fun t5 =>
 some t5
def qW (f1 : (Int × Int × Int)) : Option (Int × Int × Int × Int) :=
 (jK f1).bind fun y2 =>
 bif y2 then
  (
   (zEs).bind fun y4 =>
   some y4
  )
 else
  (
   (qN f1).bind fun y5 =>
   bif (!y5) then
    (
     (zAw (w64 (f1.1 - f1.2.1)) (w64 (2 * f1.1))).bind fun y7 =>
     some ((1, y7, 0, 1))
    )
   else
    (
     some ((0, -1, 1, 0))
    )
  )
def zAt (f1 : (Int × Int × Int)) (x2 : Int) (y3 : Int) : Option Int :=
 sI (w64 ((w64 ((w64 ((w64 (f1.1 * x2)) * x2)) + (w64 ((w64 (f1.2.1 * x2)) * y3)))) + (w64 ((w64 (f1.2.2 * y3)) * y3)))) fun t4 =>
 some t4
def zAl (f1 : (Int × Int × Int)) (x2 : Int) (y3 : Int) (u4 : Int) (v5 : Int) : Option Int :=
 sI (w64 ((w64 ((w64 ((w64 ((w64 (2 * f1.1)) * x2)) * u4)) + (w64 (f1.2.1 * (w64 ((w64 (x2 * v5)) + (w64 (y3 * u4)))))))) + (w64 ((w64 ((w64 (2 * f1.2.2)) * y3)) * v5)))) fun t6 =>
 some t6
def qF (f1 : (Int × Int × Int)) (vm2 : (Int × Int × Int × Int)) : Option (Int × Int × Int) :=
 (zAt f1 vm2.1 vm2.2.2.1).bind fun y3 =>
 (zAl f1 vm2.1 vm2.2.2.1 vm2.2.1 vm2.2.2.2).bind fun y4 =>
 (zAt f1 vm2.2.1 vm2.2.2.2).bind fun y5 =>
 some ((y3, y4, y5))
def qG (vm1 : (Int × Int × Int × Int)) (vn2 : (Int × Int × Int × Int)) : Option (Int × Int × Int × Int) :=
 sI (w64 ((w64 (vm1.1 * vn2.1)) + (w64 (vm1.2.1 * vn2.2.2.1)))) fun f3 =>
 sI (w64 ((w64 (vm1.1 * vn2.2.1)) + (w64 (vm1.2.1 * vn2.2.2.2)))) fun f4 =>
 sI (w64 ((w64 (vm1.2.2.1 * vn2.1)) + (w64 (vm1.2.2.2 * vn2.2.2.1)))) fun f5 =>
 sI (w64 ((w64 (vm1.2.2.1 * vn2.2.1)) + (w64 (vm1.2.2.2 * vn2.2.2.2)))) fun f6 =>
 some ((f3, f4, f5, f6))
def zAk : Nat → Int → Int → Int → Int → Int → Int → Int → Option (Int × Int × Int × Int × Int × Int × Int)
 | 0, _, _, _, _, _, _, _ => none
 | n + 1, f3, f4, f5, f6, f7, f8, f9 =>
  (jK ((f7, f8, f9))).bind fun y12 =>
  bif (!y12) then
   (
    (qW ((f7, f8, f9))).bind fun y14 =>
    (qF ((f7, f8, f9)) y14).bind fun y15 =>
    (qG ((f3, f4, f5, f6)) y14).bind fun y16 =>
    zAk n y16.1 y16.2.1 y16.2.2.1 y16.2.2.2 y15.1 y15.2.1 y15.2.2
   )
  else
   (
    some (f3, f4, f5, f6, f7, f8, f9)
   )
def zAs (f1 : (Int × Int × Int)) : Option (((Int × Int × Int)) × ((Int × Int × Int × Int))) :=
 (zEs).bind fun y2 =>
 (zAk FU y2.1 y2.2.1 y2.2.2.1 y2.2.2.2 f1.1 f1.2.1 f1.2.2).bind fun o11 =>
 some ((o11.2.2.2.2, (o11.1, o11.2.1, o11.2.2.1, o11.2.2.2.1)))
def jZ (f1 : (Int × Int × Int)) : Option (Int × Int × Int) :=
 (zAs f1).bind fun y2 =>
 some y2.1
def zD8 (l1 : List ((ByteArray × ((Int × Int × Int))))) (c2 : (Int × ByteArray × ByteArray × ByteArray × ((Int × Int × Int)))) : Option Int :=
 (zBV l1 c2.2.1).bind fun y3 =>
 (zBV l1 c2.2.2.1).bind fun y4 =>
 (zBV l1 c2.2.2.2.1).bind fun y5 =>
 (some (bif (bif (eqI c2.1 1) then true else (eqI c2.1 3)) then true else (eqI c2.1 4))).bind fun puts8 =>
 bif (bif puts8 then y3.2 else false) then
  (
   some 2
  )
 else
  (
   (
    bif (bif (!puts8) then (!y3.2) else false) then
     (
      some (bif (!puts8) then (!y3.2) else false)
     )
    else
     (
      (some (bif (!(c2.2.2.1.toList == ((⟨#[]⟩ : ByteArray)).toList)) then (!y4.2) else false)).bind fun t15 =>
      bif t15 then
       (
        some t15
       )
      else
       (
        (some (bif (!(c2.2.2.2.1.toList == ((⟨#[]⟩ : ByteArray)).toList)) then (!y5.2) else false)).bind fun t18 =>
        some t18
       )
     )
   ).bind fun j11 =>
   bif j11 then
    (
     some 3
    )
   else
    (
     (bif (eqI c2.1 3) then ((qI y4.1).bind fun y21 => (qI y5.1).bind fun y22 => some (!eqI y21 y22)) else some false).bind fun b23 =>
     bif b23 then
      (
       some 4
      )
     else
      (
       (bif (eqI c2.1 5) then ((jZ y3.1).bind fun y26 => (jZ c2.2.2.2.2).bind fun y27 => some (!((y26.1 == y27.1) && ((y26.2.1 == y27.2.1) && (y26.2.2 == y27.2.2))))) else some false).bind fun b28 =>
       bif b28 then
        (
         some 4
        )
       else
        (
         some 0
        )
      )
    )
  )
def jG (l1 : List ((ByteArray × ((Int × Int × Int))))) (name2 : ByteArray) : Nat → Int → List ((ByteArray × ((Int × Int × Int)))) → Option (List ((ByteArray × ((Int × Int × Int)))))
 | 0, _, _ => none
 | n + 1, t3, l4 =>
  bif (ltI t3 ((l1.length : Int))) then
   (
    (getI l1 t3).bind fun e8 =>
    bif (!(e8.1.toList == name2.toList)) then
     (
      (room (l4.length + ([e8]).length)).bind fun u10 =>
      sI (w64 (t3 + 1)) fun t11 =>
      jG l1 name2 n t11 (l4 ++ ([e8]))
     )
    else
     (
      sI (w64 (t3 + 1)) fun t12 =>
      jG l1 name2 n t12 l4
     )
   )
  else
   (
    some l4
   )
def zBP (l1 : List ((ByteArray × ((Int × Int × Int))))) (name2 : ByteArray) : Option (List ((ByteArray × ((Int × Int × Int))))) :=
 (jG l1 name2 FU 0 (([] : List ((ByteArray × ((Int × Int × Int))))))).bind fun o6 =>
 some o6
def zAm (a2 : Int) (g1 : (Int × Int × Int)) (size3 : Int) (x6 : Int) : Nat → Int → Option (Unit ⊕ (Int × Int))
 | 0, _ => none
 | n + 1, y10 =>
  bif (leI y10 size3) then
   (
    (bif (eqI (mxI x6 y10) size3) then ((zDa x6 y10).bind fun y15 => some (eqI y15 1)) else some false).bind fun b16 =>
    (bif b16 then ((zAt g1 x6 y10).bind fun y18 => (zDa y18 a2).bind fun y19 => some (eqI y19 1)) else some false).bind fun b20 =>
    bif b20 then
     (
      some (.inr (((x6, y10))))
     )
    else
     (
      sI (w64 (y10 + 1)) fun y22 =>
      zAm a2 g1 size3 x6 n y22
     )
   )
  else
   (
    some (.inl ())
   )
def zBC (a2 : Int) (g1 : (Int × Int × Int)) (size3 : Int) : Nat → Int → Option (Unit ⊕ (Int × Int))
 | 0, _ => none
 | n + 1, x6 =>
  bif (leI x6 size3) then
   (
    (zAm a2 g1 size3 x6 FU 0).bind fun qo12 =>
    match qo12 with
    | .inr r => some (.inr r)
    | .inl o12 =>
     sI (w64 (x6 + 1)) fun x23 =>
     zBC a2 g1 size3 n x23
   )
  else
   (
    some (.inl ())
   )
def zAC (a2 : Int) (g1 : (Int × Int × Int)) : Nat → Int → Option (Unit ⊕ (Int × Int))
 | 0, _ => none
 | n + 1, size3 =>
  (zBC a2 g1 size3 FU 0).bind fun qo8 =>
  match qo8 with
  | .inr r => some (.inr r)
  | .inl o8 =>
   sI (w64 (size3 + 1)) fun size24 =>
   zAC a2 g1 n size24
def zC3 (g1 : (Int × Int × Int)) (a2 : Int) : Option (Int × Int) :=
 (zAC a2 g1 FU 0).bind fun qo5 =>
 match qo5 with
 | .inr r => some r
 | .inl _ => none
def zD0 (vm2 : Int) : Nat → Int → Int → Int → Int → Option Int
 | 0, _, _, _, _ => none
 | n + 1, x4, y5, vr6, vs7 =>
  bif (!eqI vs7 0) then
   (
    (nz vs7).bind fun z11 =>
    sI (w64 (Int.tdiv vr6 vs7)) fun q12 =>
    sI (w64 (vr6 - (w64 (q12 * vs7)))) fun vs13 =>
    sI (w64 (x4 - (w64 (q12 * y5)))) fun y14 =>
    zD0 vm2 n y5 y14 vs7 vs13
   )
  else
   (
    some x4
   )
def zD9 (a1 : Int) (vm2 : Int) : Option Int :=
 (zBr a1 vm2).bind fun y3 =>
 (zD0 vm2 FU 1 0 y3 vm2).bind fun o9 =>
 (zBr o9 vm2).bind fun y15 =>
 some y15
def zBE (f1 : (Int × Int × Int)) (x2 : Int) (y3 : Int) : Option (((Int × Int × Int)) × ((Int × Int × Int × Int))) :=
 (
  bif (eqI y3 0) then
   (
    some (0, x2)
   )
  else
   (
    (zDb y3).bind fun y6 =>
    (zD9 x2 y6).bind fun y7 =>
    (nz y3).bind fun z8 =>
    sI (w64 (Int.tdiv (w64 ((w64 (x2 * y7)) - 1)) y3)) fun f9 =>
    some (f9, y7)
   )
 ).bind fun j4 =>
 (qF f1 ((x2, j4.1, y3, j4.2))).bind fun y10 =>
 (zAw y10.2.1 (w64 (2 * y10.1))).bind fun y11 =>
 sI (w64 (0 - y11)) fun t12 =>
 sI (w64 (j4.1 + (w64 (t12 * x2)))) fun f13 =>
 sI (w64 (j4.2 + (w64 (t12 * y3)))) fun f14 =>
 (qF f1 ((x2, f13, y3, f14))).bind fun y15 =>
 some ((y15, (x2, f13, y3, f14)))
def zCW (f1 : (Int × Int × Int)) (y4 : (((Int × Int × Int)) × ((Int × Int × Int × Int)))) : Nat → Int → Option Int
 | 0, _ => none
 | n + 1, f6 =>
  (zBr (w64 (f6 - y4.1.2.1)) (w64 (2 * y4.1.1))).bind fun y9 =>
  bif (!eqI y9 0) then
   (
    sI (w64 (f6 + (w64 (2 * f1.1)))) fun f11 =>
    zCW f1 y4 n f11
   )
  else
   (
    some f6
   )
def zDI (f1 : (Int × Int × Int)) (g2 : (Int × Int × Int)) : Option (Int × Int × Int × Int × ((Int × Int × Int × Int)) × ((Int × Int × Int × Int))) :=
 (zC3 g2 f1.1).bind fun y3 =>
 (zBE g2 y3.1 y3.2).bind fun y4 =>
 (zBr f1.2.1 (w64 (2 * f1.1))).bind fun y5 =>
 (zCW f1 y4 FU y5).bind fun o8 =>
 (zBr o8 (w64 ((w64 (2 * f1.1)) * y4.1.1))).bind fun y12 =>
 (qI f1).bind fun y13 =>
 (nz (w64 ((w64 (4 * f1.1)) * y4.1.1))).bind fun z14 =>
 sI (w64 (Int.tdiv (w64 ((w64 (y12 * y12)) - y13)) (w64 ((w64 (4 * f1.1)) * y4.1.1)))) fun f15 =>
 (nz (w64 (2 * f1.1))).bind fun z16 =>
 sI (w64 (Int.tdiv (w64 (y12 - f1.2.1)) (w64 (2 * f1.1)))) fun f17 =>
 (nz (w64 (2 * y4.1.1))).bind fun z18 =>
 (qG y4.2 ((1, w64 (Int.tdiv (w64 (y12 - y4.1.2.1)) (w64 (2 * y4.1.1))), 0, 1))).bind fun y19 =>
 some ((f1.1, y4.1.1, y12, f15, (1, f17, 0, 1), y19))
def zBl (u1 : (Int × Int × Int × Int × ((Int × Int × Int × Int)) × ((Int × Int × Int × Int)))) : Option (Int × Int × Int) :=
 sI (w64 (u1.1 * u1.2.1)) fun f2 =>
 some ((f2, u1.2.2.1, u1.2.2.2.1))
def zCr (f1 : (Int × Int × Int)) (g2 : (Int × Int × Int)) : Option (Int × Int × Int) :=
 (jZ f1).bind fun y3 =>
 (jZ g2).bind fun y4 =>
 (zDI y3 y4).bind fun y5 =>
 (zBl y5).bind fun y6 =>
 (jZ y6).bind fun y7 =>
 some y7
def zAE (f1 : (Int × Int × Int)) : Option (Int × Int × Int) :=
 sI (w64 (0 - f1.2.1)) fun f2 =>
 some ((f1.1, f2, f1.2.2))
def jW (f3 : (Int × Int × Int)) (name2 : ByteArray) (y4 : List ((ByteArray × ((Int × Int × Int))))) : Nat → Bool → Int → List ((ByteArray × ((Int × Int × Int)))) → Option (Bool × (List ((ByteArray × ((Int × Int × Int))))))
 | 0, _, _, _ => none
 | n + 1, done5, t6, l7 =>
  bif (ltI t6 ((y4.length : Int))) then
   (
    (getI y4 t6).bind fun e11 =>
    (getI y4 t6).bind fun e12 =>
    (some (bif (!done5) then (Op.bytesLess name2.toList e12.1.toList) else false)).bind fun t14 =>
    bif t14 then
     (
      (room (l7.length + ([(name2, f3)]).length)).bind fun u16 =>
      (room ((l7 ++ ([(name2, f3)])).length + ([e12]).length)).bind fun u17 =>
      sI (w64 (t6 + 1)) fun t18 =>
      jW f3 name2 y4 n true t18 ((l7 ++ ([(name2, f3)])) ++ ([e12]))
     )
    else
     (
      (room (l7.length + ([e12]).length)).bind fun u19 =>
      sI (w64 (t6 + 1)) fun t20 =>
      jW f3 name2 y4 n done5 t20 (l7 ++ ([e12]))
     )
   )
  else
   (
    some (done5, l7)
   )
def zCJ (l1 : List ((ByteArray × ((Int × Int × Int))))) (name2 : ByteArray) (f3 : (Int × Int × Int)) : Option (List ((ByteArray × ((Int × Int × Int))))) :=
 (zBP l1 name2).bind fun y4 =>
 (jW f3 name2 y4 FU false 0 (([] : List ((ByteArray × ((Int × Int × Int))))))).bind fun o9 =>
 bif (!o9.1) then
  (
   (room (o9.2.length + ([(name2, f3)]).length)).bind fun u22 =>
   some (o9.2 ++ ([(name2, f3)]))
  )
 else
  (
   some o9.2
  )
def qV (l1 : List ((ByteArray × ((Int × Int × Int))))) (c2 : (Int × ByteArray × ByteArray × ByteArray × ((Int × Int × Int)))) : Option ((List ((ByteArray × ((Int × Int × Int))))) × Int) :=
 (zD8 l1 c2).bind fun y3 =>
 bif (!eqI y3 0) then
  (
   some ((([] : List ((ByteArray × ((Int × Int × Int))))), y3))
  )
 else
  (
   (zBV l1 c2.2.2.1).bind fun y5 =>
   (zBV l1 c2.2.2.2.1).bind fun y6 =>
   ((
    bif (eqI c2.1 2) then
     (
      (zBP l1 c2.2.1).bind fun y9 =>
      some (.inr (((y9, 0))))
     )
    else
     (
      bif (eqI c2.1 3) then
       (
        (zCr y5.1 y6.1).bind fun y11 =>
        some (.inl (y11.1, y11.2.1, y11.2.2))
       )
      else
       (
        bif (eqI c2.1 4) then
         (
          (zAE y5.1).bind fun y13 =>
          (jZ y13).bind fun y14 =>
          some (.inl (y14.1, y14.2.1, y14.2.2))
         )
        else
         (
          some (.inl (c2.2.2.2.2.1, c2.2.2.2.2.2.1, c2.2.2.2.2.2.2))
         )
       )
     )
   ) : Option ((Int × Int × Int) ⊕ ((List ((ByteArray × ((Int × Int × Int))))) × Int))).bind fun qo7 =>
   match qo7 with
   | .inr r => some r
   | .inl o7 =>
    (zCJ l1 c2.2.1 o7).bind fun y15 =>
    bif (ltI 20 ((y15.length : Int))) then
     (
      some ((([] : List ((ByteArray × ((Int × Int × Int))))), 5))
     )
    else
     (
      some ((y15, 0))
     )
  )
def jO (vs1 : ByteArray) : Nat → Int → Int → Int → List ((ByteArray × ((Int × Int × Int)))) → Option (Int × Int × Int × (List ((ByteArray × ((Int × Int × Int))))))
 | 0, _, _, _, _ => none
 | n + 1, many2, vat3, vn4, l5 =>
  bif (ltI many2 40) then
   (
    (slc vs1.size vat3 ((vs1.size : Int))).bind fun u9 =>
    (zBu (vs1.extract (Int.toNat vat3) (Int.toNat ((vs1.size : Int)))) 10).bind fun y10 =>
    bif (ltI y10 0) then
     (
      some (many2, vat3, vn4, l5)
     )
    else
     (
      (slc vs1.size vat3 (w64 ((w64 (vat3 + y10)) + 1))).bind fun u12 =>
      (zCD (vs1.extract (Int.toNat vat3) (Int.toNat (w64 ((w64 (vat3 + y10)) + 1)))) ((⟨#[35]⟩ : ByteArray))).bind fun y13 =>
      (qX y13.1).bind fun y14 =>
      bif (!y14.2) then
       (
        some (many2, vat3, vn4, l5)
       )
      else
       (
        (zBL y14.1 vn4).bind fun y16 =>
        (qV l5 y14.1).bind fun y17 =>
        (some (bif (!(y16.1.toList == (vs1.extract (Int.toNat vat3) (Int.toNat (w64 ((w64 (vat3 + y10)) + 1)))).toList)) then true else (!eqI y17.2 0))).bind fun t19 =>
        bif t19 then
         (
          some (many2, vat3, vn4, l5)
         )
        else
         (
          sI (w64 (many2 + 1)) fun many21 =>
          sI (w64 (vat3 + (((vs1.extract (Int.toNat vat3) (Int.toNat (w64 ((w64 (vat3 + y10)) + 1)))).size : Int)))) fun vat22 =>
          jO vs1 n many21 vat22 y16.2 y17.1
         )
       )
     )
   )
  else
   (
    some (many2, vat3, vn4, l5)
   )
def zA5 (vs1 : ByteArray) : Option ((List ((ByteArray × ((Int × Int × Int))))) × Int × Int × Int) :=
 (jO vs1 FU 0 0 0 (([] : List ((ByteArray × ((Int × Int × Int))))))).bind fun o7 =>
 some ((o7.2.2.2, o7.1, o7.2.1, o7.2.2.1))
def zA2 (vs1 : ByteArray) (c2 : (Int × ByteArray × ByteArray × ByteArray × ((Int × Int × Int)))) : Option (ByteArray × Int) :=
 (zAO c2).bind fun y3 =>
 bif (bif (!y3) then true else (ltI 4000 ((vs1.size : Int)))) then
  (
   some (((⟨#[]⟩ : ByteArray), 1))
  )
 else
  (
   (zA5 vs1).bind fun y6 =>
   bif (ltI y6.2.2.1 ((vs1.size : Int))) then
    (
     some (((⟨#[]⟩ : ByteArray), 1))
    )
   else
    (
     (qV y6.1 c2).bind fun y8 =>
     bif (!eqI y8.2 0) then
      (
       some (((⟨#[]⟩ : ByteArray), y8.2))
      )
     else
      (
       bif (eqI y6.2.1 40) then
        (
         some (((⟨#[]⟩ : ByteArray), 5))
        )
       else
        (
         (zBL c2 y6.2.2.2).bind fun y11 =>
         (catR vs1 y11.1).bind fun u12 =>
         some ((vs1 ++ y11.1, 0))
        )
      )
    )
  )
def zA1 (vs1 : ByteArray) (c2 : (Int × ByteArray × ByteArray × ByteArray × ((Int × Int × Int)))) : Option (ByteArray × Int) :=
 (jX c2).bind fun y3 =>
 bif (bif (!y3) then true else (ltI 4000 ((vs1.size : Int)))) then
  (
   some (((⟨#[]⟩ : ByteArray), 1))
  )
 else
  (
   (zA4 vs1).bind fun y6 =>
   bif (ltI y6.2.2.1 ((vs1.size : Int))) then
    (
     some (((⟨#[]⟩ : ByteArray), 1))
    )
   else
    (
     (zDC y6.1 c2).bind fun y8 =>
     bif (!eqI y8.2 0) then
      (
       some (((⟨#[]⟩ : ByteArray), y8.2))
      )
     else
      (
       bif (eqI y6.2.1 40) then
        (
         some (((⟨#[]⟩ : ByteArray), 5))
        )
       else
        (
         (zBp c2 y6.2.2.2).bind fun y11 =>
         (catR vs1 y11).bind fun u12 =>
         some ((vs1 ++ y11, 0))
        )
      )
    )
  )
def qM (vs1 : ByteArray) : Option ((List ((ByteArray × ((Int × Int × Int))))) × Int × Int × Bool) :=
 bif (ltI 4000 ((vs1.size : Int))) then
  (
   some ((([] : List ((ByteArray × ((Int × Int × Int))))), 0, 0, false))
  )
 else
  (
   (zA5 vs1).bind fun y3 =>
   some ((y3.1, y3.2.1, y3.2.2.1, true))
  )
def zA0 (vs1 : ByteArray) : Option ((List ((ByteArray × ((Int × Int × Int))))) × Int × Int × Bool) :=
 bif (ltI 4000 ((vs1.size : Int))) then
  (
   some ((([] : List ((ByteArray × ((Int × Int × Int))))), 0, 0, false))
  )
 else
  (
   (zA4 vs1).bind fun y3 =>
   some ((y3.1, y3.2.1, y3.2.2.1, true))
  )
def jV (l1 : List ((ByteArray × ((Int × Int × Int))))) : Nat → Int → Option (Unit ⊕ Bool)
 | 0, _ => none
 | n + 1, t2 =>
  bif (ltI t2 ((l1.length : Int))) then
   (
    (getI l1 t2).bind fun e6 =>
    (zBa e6.1).bind fun y7 =>
    (bif (!y7) then some true else ((qC e6.2).bind fun y9 => some (!y9))).bind fun b10 =>
    (bif b10 then some true else ((bif (ltI 0 t2) then ((getI l1 (w64 (t2 - 1))).bind fun e13 => some (!(Op.bytesLess e13.1.toList e6.1.toList))) else some false).bind fun b14 => some b14)).bind fun b15 =>
    bif b15 then
     (
      some (.inr false)
     )
    else
     (
      sI (w64 (t2 + 1)) fun t17 =>
      jV l1 n t17
     )
   )
  else
   (
    some (.inl ())
   )
def zCP (l1 : List ((ByteArray × ((Int × Int × Int))))) : Option Bool :=
 (jV l1 FU 0).bind fun qo4 =>
 match qo4 with
 | .inr r => some r
 | .inl o4 =>
  some (leI ((l1.length : Int)) 20)
def zBm (l1 : List ((ByteArray × ((Int × Int × Int))))) (c2 : (Int × ByteArray × ByteArray × ByteArray × ((Int × Int × Int)))) : Option ((List ((ByteArray × ((Int × Int × Int))))) × Int) :=
 (zCP l1).bind fun y3 =>
 (bif (!y3) then some true else ((zAO c2).bind fun y5 => some (!y5))).bind fun b6 =>
 bif b6 then
  (
   some ((([] : List ((ByteArray × ((Int × Int × Int))))), 1))
  )
 else
  (
   (qV l1 c2).bind fun y8 =>
   some ((y8.1, y8.2))
  )
def jR (a1 : List ((ByteArray × ((Int × Int × Int))))) (b2 : List ((ByteArray × ((Int × Int × Int))))) : Nat → Int → Option (Unit ⊕ Bool)
 | 0, _ => none
 | n + 1, t4 =>
  bif (ltI t4 ((a1.length : Int))) then
   (
    (getI a1 t4).bind fun e8 =>
    (getI b2 t4).bind fun e9 =>
    (some (!((e8.1.toList == e9.1.toList) && ((e8.2.1 == e9.2.1) && ((e8.2.2.1 == e9.2.2.1) && (e8.2.2.2 == e9.2.2.2)))))).bind fun t10 =>
    bif t10 then
     (
      some (.inr false)
     )
    else
     (
      sI (w64 (t4 + 1)) fun t12 =>
      jR a1 b2 n t12
     )
   )
  else
   (
    some (.inl ())
   )
def zAh (a1 : List ((ByteArray × ((Int × Int × Int))))) (b2 : List ((ByteArray × ((Int × Int × Int))))) : Option Bool :=
 bif (!eqI ((a1.length : Int)) ((b2.length : Int))) then
  (
   some false
  )
 else
  (
   (jR a1 b2 FU 0).bind fun qo6 =>
   match qo6 with
   | .inr r => some r
   | .inl o6 =>
    some true
  )
def rm47 (n : Nat) : Option Unit := bif Nat.ble n 140737488355328 then some () else none
def zAD (l1 : List ((Int × ByteArray × ByteArray × ByteArray × ((Int × Int × Int))))) : Nat → Int → Int → List UInt8 → Option ((List UInt8) ⊕ (ByteArray × Bool))
 | 0, _, _, _ => none
 | n + 1, k2, m3, acc4 =>
  bif (ltI k2 ((l1.length : Int))) then
   (
    (getI l1 k2).bind fun e5 =>
    (zAO e5).bind fun y6 =>
    bif (!y6) then
     (
      some (.inr ((⟨#[]⟩ : ByteArray), false))
     )
    else
     (
      (zBL e5 m3).bind fun y7 =>
      (rm47 (acc4.length + y7.1.size)).bind fun u8 =>
      zAD l1 n (w64 (k2 + 1)) y7.2 (acc4 ++ y7.1.data.toList)
     )
   )
  else
   (
    some (.inl acc4)
   )
def zCQ (l1 : List ((Int × ByteArray × ByteArray × ByteArray × ((Int × Int × Int))))) : Option (ByteArray × Bool) :=
 bif (ltI 40 ((l1.length : Int))) then
  (
   some ((⟨#[]⟩ : ByteArray), false)
  )
 else
  (
   (zAD l1 FU 0 0 []).bind fun q2 =>
   match q2 with
   | .inr r => some r
   | .inl acc => some ((⟨acc.toArray⟩ : ByteArray), true)
  )
def jH (y2 : ((List ((ByteArray × ((Int × Int × Int))))) × Int × Int × Bool)) : Nat → Int → List ((Int × ByteArray × ByteArray × ByteArray × ((Int × Int × Int)))) → Option (List ((Int × ByteArray × ByteArray × ByteArray × ((Int × Int × Int)))))
 | 0, _, _ => none
 | n + 1, t5, l6 =>
  bif (ltI t5 ((y2.1.length : Int))) then
   (
    (getI y2.1 t5).bind fun e10 =>
    (getI y2.1 t5).bind fun e11 =>
    (room (l6.length + ([(1, e11.1, ByteArray.empty, ByteArray.empty, e11.2)]).length)).bind fun u12 =>
    (some (l6 ++ ([(1, e11.1, ByteArray.empty, ByteArray.empty, e11.2)]))).bind fun l13 =>
    sI (w64 (t5 + 1)) fun t14 =>
    jH y2 n t14 l13
   )
  else
   (
    some l6
   )
def zB0 (vs1 : ByteArray) : Option (ByteArray × Bool) :=
 (qM vs1).bind fun y2 =>
 bif (!y2.2.2.2) then
  (
   some (((⟨#[]⟩ : ByteArray), false))
  )
 else
  (
   (some (([] : List ((Int × ByteArray × ByteArray × ByteArray × ((Int × Int × Int))))))).bind fun l4 =>
   (jH y2 FU 0 l4).bind fun o8 =>
   (zCQ o8).bind fun y15 =>
   some ((y15.1, y15.2))
  )
def zAx (b1 : List Int) : Nat → Int → Int → Option Int
 | 0, _, _ => none
 | n + 1, vn2, t3 =>
  bif (ltI t3 ((b1.length : Int))) then
   (
    (getI b1 t3).bind fun e7 =>
    sI (Int.tmod (w64 ((w64 (31 * vn2)) + (IntKind.i64.wrap e7))) 1000003) fun vn8 =>
    sI (w64 (t3 + 1)) fun t9 =>
    zAx b1 n vn8 t9
   )
  else
   (
    some vn2
   )
def zDM (b1 : List Int) : Option Int :=
 (zAx b1 FU 0 0).bind fun o5 =>
 some o5
def zCT (code1 : List Int) (more2 : List Int) : Option Bool :=
 (zDH code1 more2).bind fun y3 =>
 bif y3 then
  (
   some true
  )
 else
  (
   (zAr code1).bind fun y5 =>
   (zA2 y5.1 y5.2).bind fun y6 =>
   (zA1 y5.1 y5.2).bind fun y7 =>
   (some (bif (!(y6.1.toList == y7.1.toList)) then true else (!eqI y6.2 y7.2))).bind fun t9 =>
   bif t9 then
    (
     some false
    )
   else
    (
     (qM y5.1).bind fun y11 =>
     (zA0 y5.1).bind fun y12 =>
     (some (bif (bif (y11.2.2.2 != y12.2.2.2) then true else (!eqI y11.2.1 y12.2.1)) then true else (!eqI y11.2.2.1 y12.2.2.1))).bind fun t15 =>
     bif t15 then
      (
       some false
      )
     else
      (
       bif (!y11.2.2.2) then
        (
         some true
        )
       else
        (
         ((
          bif (eqI y6.2 0) then
           (
            (zBm y11.1 y5.2).bind fun y20 =>
            (qM y6.1).bind fun y21 =>
            (bif (bif (bif (!eqI y20.2 0) then true else (!y21.2.2.2)) then true else (!eqI y21.2.1 (w64 (y11.2.1 + 1)))) then some true else ((zAh y21.1 y20.1).bind fun y25 => some (!y25))).bind fun b26 =>
            bif b26 then
             (
              some (.inr false)
             )
            else
             (
              some (.inl ())
             )
           )
          else
           (
            some (.inl ())
           )
         ) : Option (Unit ⊕ Bool)).bind fun qo18 =>
         match qo18 with
         | .inr r => some r
         | .inl o18 =>
          (zB0 y5.1).bind fun y28 =>
          (qM y28.1).bind fun y29 =>
          (bif (bif (bif (!y28.2) then true else (!y29.2.2.2)) then true else (!eqI y29.2.2.1 ((y28.1.size : Int)))) then some true else ((zAh y29.1 y11.1).bind fun y33 => some (!y33))).bind fun b34 =>
          bif b34 then
           (
            some false
           )
          else
           (
            bif (ltI 0 y11.2.2.1) then
             (
              (zDM more2).bind fun y37 =>
              (nz y11.2.2.1).bind fun z38 =>
              sI (Int.tmod y37 y11.2.2.1) fun vat39 =>
              (bendB y5.1 vat39 (IntKind.u8.wrap (w64 (1 + (Int.tmod ((more2.length : Int)) 200))))).bind fun q40 =>
              (qM q40).bind fun y41 =>
              some (bif y41.2.2.2 then (leI y41.2.2.1 vat39) else false)
             )
            else
             (
              some true
             )
           )
        )
      )
    )
  )
end Go.Proofs.YtfmjfofocklgpaaGreatDoor
namespace Go.Proofs.YtfmjfofocklgpaaGreatDoor
theorem FUge : 1000000 ≤ FU := by decide
theorem nzOk {b : Int} (h : b ≠ 0) : nz b = some () := by
 unfold nz
 rw [zBN]
 have : (b == 0) = false := by rw [beq_eq_false_iff_ne]; exact h
 rw [this]
 rfl
theorem zEu (a : Int) : eqI a a = true := by rw [zBN]; exact beq_self_eq_true a
theorem eqNe {a b : Int} (h : a ≠ b) : eqI a b = false := by rw [zBN, beq_eq_false_iff_ne]; exact h
theorem zCA {n : Nat} (h : n ≤ 1000000000) : room n = some () := by
 unfold room
 rw [Nat.ble_eq_true_of_le (by omega), cond_true]
theorem zDV {α : Type} {l : List α} {k : Nat} (hk : k < l.length) : getI l (k : Int) = some (l[k]'hk) := by
 unfold getI
 rw [q9, decide_eq_true (by omega), cond_true]
 simp
theorem zCC {k : Nat} (h : k < 1000000000) : w64 ((k : Int) + 1) = ((k + 1 : Nat) : Int) := by rw [zJ (by omega)]; push_cast; omega
def bl (l : List UInt8) : ByteArray := ⟨l.toArray⟩
theorem zBW (a b : List UInt8) : bl a ++ bl b = bl (a ++ b) := by
 apply ByteArray.ext
 simp [bl]
theorem jI (l : List UInt8) : (bl l).size = l.length := by simp [bl, ByteArray.size]
theorem zBX (l : List UInt8) : (bl l).data.toList = l := by simp [bl]
theorem zCu {a b : List UInt8} (h : a.length + b.length ≤ 9223372036854775807) : catR (bl a) (bl b) = some () := by
 unfold catR
 rw [if_pos (by rw [jI, jI]; exact h)]
theorem bytes_one {d : Int} (h0 : 0 ≤ d) (h1 : d ≤ 9) : zBs [IntKind.u8.wrap (w64 (48 + d))] = bl [UInt8.ofNat (48 + d.toNat)] := by
 rw [zJ (by omega), IntKind.wrap_u8]
 have e : (48 + d) % 256 = 48 + d := by omega
 have e2 : (48 + d).toNat = 48 + d.toNat := by omega
 apply ByteArray.ext
 simp only [zBs, List.foldl_cons, List.foldl_nil, e, e2]
 rfl
theorem zIN : ∀ (n k u : Nat), u < 10 ^ k → k ≤ 18 → k < n → zB7 n (u : Int) = some (bl (Go.Lib.decDigits u))
 | 0, k, u, _, _, h => by omega
 | n + 1, k, u, h1, h18, h2 => by
  rw [zB7, zP]
  by_cases hu : u < 10
  ·rw [decide_eq_true (by omega), cond_true, bytes_one (by omega) (by omega), Go.Lib.decDigits_one hu]
   rfl
  ·have hk : k ≠ 0 := by
    intro e
    subst e
    simp at h1
    omega
   obtain ⟨j, rfl⟩ : ∃ j, k = j + 1 := ⟨k - 1, by omega⟩
   have h3 : u / 10 < 10 ^ j := by
    rw [Nat.pow_succ] at h1
    omega
   have hbig : 10 ^ (j + 1) ≤ 10 ^ 18 := Nat.pow_le_pow_right (by decide) h18
   have hb2 : u < 1000000000000000000 := Nat.lt_of_lt_of_le h1 hbig
   have e1 : w64 (Int.tdiv (u : Int) 10) = ((u / 10 : Nat) : Int) := by
    rw [show Int.tdiv (u : Int) 10 = ((u / 10 : Nat) : Int) from rfl, zJ (by omega)]
   have e2 : Int.tmod (u : Int) 10 = ((u % 10 : Nat) : Int) := rfl
   rw [decide_eq_false (by omega), cond_false, e1, zIN n j (u / 10) h3 (by omega) (by omega), e2]
   simp only [Option.bind_some]
   rw [bytes_one (by omega) (by omega)]
   have h4 : Go.Lib.nDigits (u / 10) ≤ 20 := by
    rcases Nat.lt_or_ge 20 (Go.Lib.nDigits (u / 10)) with h5 | h5
    ·exfalso
     have h6 : ∀ (m v : Nat), v < 10 ^ m → 1 ≤ m → Go.Lib.nDigits v ≤ m := by
      intro m
      induction m with
      | zero => intro v hv h; omega
      | succ m ih =>
       intro v hv _
       by_cases hv10 : v < 10
       ·rw [Go.Lib.nDigits_small hv10]; omega
       ·rw [Go.Lib.nDigits_big hv10]
        have : m ≠ 0 := by intro e; subst e; simp at hv; omega
        have := ih (v / 10) (by rw [Nat.pow_succ] at hv; omega) (by omega)
        omega
     have := h6 20 (u / 10) (by omega) (by omega)
     omega
    ·exact h5
   rw [zCu (by rw [Go.Lib.decDigits_length]; simp; omega), Option.bind_some, zBW]
   have e3 : Go.Lib.decDigits u = Go.Lib.decDigits (u / 10) ++ [UInt8.ofNat (48 + u % 10)] := by
    rw [Go.Lib.decDigits, dif_neg hu]
   rw [e3]
   rfl
theorem zJ6 : ∀ (m v : Nat), v < 10 ^ m → 1 ≤ m → Go.Lib.nDigits v ≤ m
 | 0, v, hv, h => by omega
 | m + 1, v, hv, _ => by
  by_cases hv10 : v < 10
  ·rw [Go.Lib.nDigits_small hv10]; omega
  ·rw [Go.Lib.nDigits_big hv10]
   have : m ≠ 0 := by intro e; subst e; simp at hv; omega
   have := zJ6 m (v / 10) (by rw [Nat.pow_succ] at hv; omega) (by omega)
   omega
def sm18 (n : Int) : Prop := -1000000000000000000 < n ∧ n < 1000000000000000000
theorem zEC {n : Int} (h : sm18 n) : (Go.Lib.itoa n).length ≤ 19 := by
 obtain ⟨h0, h1⟩ := h
 unfold Go.Lib.itoa
 split
 ·rw [List.length_cons, Go.Lib.decDigits_length]
  have := zJ6 18 n.natAbs (by omega) (by omega)
  omega
 ·rw [Go.Lib.decDigits_length]
  have := zJ6 18 n.toNat (by omega) (by omega)
  omega
theorem zLg {n : Int} (h : sm18 n) : zDD n = some (bl (Go.Lib.itoa n)) := by
 have hl := zEC h
 obtain ⟨h0, h1⟩ := h
 have hF := FUge
 unfold zDD
 unfold Go.Lib.itoa at hl ⊢
 rw [zP]
 by_cases hn : n < 0
 ·rw [decide_eq_true hn, cond_true, if_pos hn]
  rw [if_pos hn] at hl
  have e1 : w64 (0 - n) = ((n.natAbs : Nat) : Int) := by rw [zJ (by omega)]; omega
  rw [e1, zIN FU 18 n.natAbs (by omega) (by omega) (by omega)]
  have e2 : (⟨#[45]⟩ : ByteArray) = bl [45] := rfl
  simp only [Option.bind_some]
  rw [e2, zCu (by simp at hl ⊢; omega), Option.bind_some, zBW]
  rfl
 ·rw [decide_eq_false hn, cond_false, if_neg hn]
  have e1 : n = ((n.toNat : Nat) : Int) := by omega
  rw [e1, zIN FU 18 n.toNat (by omega) (by omega) (by omega)]
  rfl
theorem zLA {n : Int} (h : sm18 n) : zAo n = some (bl (Go.Lib.itoa n)) := by
 obtain ⟨h0, h1⟩ := h
 unfold zAo
 rw [if_pos (by omega)]
 rfl
theorem tail_len (ls : List (List UInt8)) (h : ∀ x ∈ ls, x.length ≤ 1000) : (Go.Lib.joinTail [32] ls).length ≤ 1001 * ls.length := by
 induction ls with
 | nil => simp [Go.Lib.joinTail]
 | cons x r ih =>
  have h1 := ih fun y hy => h y (List.mem_cons_of_mem _ hy)
  have h2 := h x List.mem_cons_self
  simp only [Go.Lib.joinTail, List.map_cons, List.flatten_cons, List.length_append, List.length_cons, List.length_nil] at h1 ⊢
  omega
theorem tail_cons (x : List UInt8) (r : List (List UInt8)) : Go.Lib.joinTail [32] (x :: r) = 32 :: (x ++ Go.Lib.joinTail [32] r) := by
 simp [Go.Lib.joinTail]
def spl (c : UInt8) : List UInt8 → List (List UInt8)
 | [] => [[]]
 | b :: l => if b = c then [] :: spl c l else match spl c l with
  | w :: ws => (b :: w) :: ws
  | [] => [[b]]
theorem zJq (c : UInt8) : ∀ l, spl c l ≠ []
 | [] => by simp [spl]
 | b :: l => by
  unfold spl
  split
  ·simp
  ·split <;> simp
theorem zJr (c : UInt8) (l : List UInt8) : spl c (c :: l) = [] :: spl c l := by simp [spl]
theorem zEY {b c : UInt8} (h : b ≠ c) {l w : List UInt8} {ws : List (List UInt8)} (e : spl c l = w :: ws) : spl c (b :: l) = (b :: w) :: ws := by simp [spl, h, e]
theorem index_eq (c : UInt8) (l : List UInt8) : Go.Lib.index (c :: l) [c] = 0 := by simp [Go.Lib.index]
theorem index_ne {b c : UInt8} (h : b ≠ c) (l : List UInt8) : Go.Lib.index (b :: l) [c] = if Go.Lib.index l [c] == -1 then -1 else Go.Lib.index l [c] + 1 := by
 have : ([c] : List UInt8).isPrefixOf (b :: l) = false := by
  simp [List.isPrefixOf, Ne.symm h]
 rw [show Go.Lib.index (b :: l) [c] = if ([c] : List UInt8).isPrefixOf (b :: l) = true then 0 else if Go.Lib.index l [c] == -1 then -1 else Go.Lib.index l [c] + 1 from rfl, this]
 rfl
theorem zLP (c : UInt8) : ∀ (l : List UInt8), Go.Lib.splitK [c] 0 (l.count c) l = spl c l
 | [] => rfl
 | b :: l => by
  have ih := zLP c l
  by_cases h : b = c
  ·subst h
   rw [List.count_cons_self, zJr, ← ih, Go.Lib.splitK, index_eq]
   rfl
  ·rw [List.count_cons_of_ne (by exact fun e => h e)]
   cases hk : l.count c with
   | zero =>
    rw [hk] at ih
    have ih : [l] = spl c l := ih
    rw [zEY h ih.symm]
    rfl
   | succ k =>
    rw [hk] at ih
    rw [Go.Lib.splitK] at ih ⊢
    rw [index_ne h]
    cases hi : (Go.Lib.index l [c] == -1) with
    | true =>
     rw [hi, if_pos rfl] at ih
     rw [if_pos (by rfl), zEY h ih.symm]
    | false =>
     rw [hi, if_neg (by decide)] at ih
     have hge := Go.Lib.index_ge l [c]
     have hne : Go.Lib.index l [c] ≠ -1 := by rw [beq_eq_false_iff_ne] at hi; exact hi
     have e1 : (if false = true then (-1 : Int) else Go.Lib.index l [c] + 1) = Go.Lib.index l [c] + 1 := rfl
     have e2 : (Go.Lib.index l [c] + 1 == -1) = false := by rw [beq_eq_false_iff_ne]; omega
     have e3 : (Go.Lib.index l [c] + 1).toNat = (Go.Lib.index l [c]).toNat + 1 := by omega
     rw [e1, e2, if_neg (by decide), zEY h ih.symm, e3]
     rfl
theorem split_val (s : ByteArray) (c : UInt8) (h : s.size < 4294967281) : zBS s ⟨#[c]⟩ = some ((spl c s.data.toList).map bl) := by
 have h1 : 1 ≤ (⟨#[c]⟩ : ByteArray).size := Nat.le_refl 1
 unfold zBS
 rw [if_pos ⟨h, h1⟩]
 have e1 := Go.Lib.splitB_data ⟨#[c]⟩ 0 (Go.Lib.countB s ⟨#[c]⟩) s
 have e2 : Go.Lib.countB s ⟨#[c]⟩ = s.data.toList.count c := Go.Lib.count_one c _
 have e3 : (⟨#[c]⟩ : ByteArray).data.toList = [c] := rfl
 rw [e2] at e1 ⊢
 rw [e3, zLP] at e1
 rw [← e1, List.map_map]
 have : (bl ∘ fun x : ByteArray => x.data.toList) = id := by
  funext x
  rfl
 rw [this, List.map_id]
def fld (p : UInt8 → Bool) : List UInt8 → List UInt8 → List (List UInt8)
 | cur, [] => if cur = [] then [] else [cur]
 | cur, b :: l => if p b = true then (if cur = [] then fld p [] l else cur :: fld p [] l) else fld p (cur ++ [b]) l
theorem fld_nil {p : UInt8 → Bool} {cur : List UInt8} (h : cur ≠ []) : fld p cur [] = [cur] := by
 unfold fld
 rw [if_neg h]
theorem fld_sep {p : UInt8 → Bool} {cur l : List UInt8} {b : UInt8} (hb : p b = true) (h : cur ≠ []) : fld p cur (b :: l) = cur :: fld p [] l := by
 rw [fld, if_pos hb, if_neg h]
theorem fld_sep0 {p : UInt8 → Bool} {l : List UInt8} {b : UInt8} (hb : p b = true) : fld p [] (b :: l) = fld p [] l := by
 rw [fld, if_pos hb, if_pos rfl]
theorem fld_in {p : UInt8 → Bool} {cur l : List UInt8} {b : UInt8} (hb : p b = false) : fld p cur (b :: l) = fld p (cur ++ [b]) l := by
 rw [fld, if_neg (by rw [hb]; decide)]
theorem dec_ascii {s : ByteArray} {i : Nat} (hi : i < s.size) (h : (s.data.toList[i]'hi).toNat < 128) : Utf8.decode s i = ((s.data.toList[i]'hi).toNat, 1) := by
 have e : (s.get! (i + 0)).toNat = (s.data.toList[i]'hi).toNat := by
  have : s.get! (i + 0) = s.data.toList[i]'hi := by
   show s.data[i + 0]! = _
   have hi2 : i < s.data.size := hi
   rw [Nat.add_zero, getElem!_pos s.data i hi2]
   rfl
  rw [this]
 unfold Utf8.decode
 simp only [e]
 rw [if_pos h]
def curO (s : ByteArray) (pos : Nat) : Option Nat → List UInt8
 | some a => (s.data.toList.drop a).take (pos - a)
 | none => []
theorem take_more {α : Type} {l : List α} {a i : Nat} {x : α} (ha : a ≤ i) (h : l[i]? = some x) : (l.drop a).take (i + 1 - a) = (l.drop a).take (i - a) ++ [x] := by
 rw [show i + 1 - a = (i - a) + 1 by omega, List.take_add_one, List.getElem?_drop, show a + (i - a) = i by omega, h]
 rfl
theorem take_ne {α : Type} {l : List α} {a i : Nat} (h : a < i) (hi : i ≤ l.length) : (l.drop a).take (i - a) ≠ [] := by
 intro e
 have := congrArg List.length e
 simp at this
 omega
theorem zHm (s : ByteArray) (a b : Nat) : s.extract a b = bl ((s.data.toList.drop a).take (b - a)) := by
 have h := Go.Lib.extract_data s a b
 have e : ∀ x : ByteArray, x = bl x.data.toList := fun x => rfl
 rw [e (s.extract a b), h]
theorem fld_end (p : Nat → Bool) (s : ByteArray) (st : Option Nat) (acc : List (Nat × Nat)) (hst : ∀ a, st = some a → a < s.size) :
  (Go.Lib.closeSpans s (acc, st)).map (fun x => s.extract x.1 x.2) = acc.map (fun x => s.extract x.1 x.2) ++ (fld (fun b => p b.toNat) (curO s s.size st) []).map bl := by
 cases st with
 | none => simp [Go.Lib.closeSpans, fld, curO]
 | some a =>
  have ha := hst a rfl
  have hne : (s.data.toList.drop a).take (s.size - a) ≠ [] := by
   intro h
   have := congrArg List.length h
   simp at this
   have e : s.data.size = s.size := rfl
   omega
  simp only [Go.Lib.closeSpans, curO, List.map_append, List.map_cons, List.map_nil, zHm]
  rw [fld_nil hne]
  rfl
theorem fld_spans (p : Nat → Bool) (s : ByteArray) (ha : ∀ b ∈ s.data.toList, b.toNat < 128) : ∀ (f pos : Nat) (st : Option Nat) (acc : List (Nat × Nat)), s.size ≤ pos + f → pos ≤ s.size → (∀ a, st = some a → a < pos) →
  (Go.Lib.closeSpans s (Go.Lib.spansFromP p s f pos st acc)).map (fun x => s.extract x.1 x.2) = acc.map (fun x => s.extract x.1 x.2) ++ (fld (fun b => p b.toNat) (curO s pos st) (s.data.toList.drop pos)).map bl := by
 intro f
 have hsz : s.data.toList.length = s.size := rfl
 induction f with
 | zero =>
  intro pos st acc hf hp hst
  have e : pos = s.size := by omega
  subst e
  rw [List.drop_of_length_le (by omega)]
  rw [show Go.Lib.spansFromP p s 0 s.size st acc = (acc, st) from rfl]
  exact fld_end p s st acc hst
 | succ f ih =>
  intro pos st acc hf hp hst
  by_cases hlt : pos < s.size
  ·have hd := dec_ascii hlt (ha _ (List.getElem_mem ..))
   have hdr : s.data.toList.drop pos = s.data.toList[pos]'hlt :: s.data.toList.drop (pos + 1) := List.drop_eq_getElem_cons hlt
   generalize hb : s.data.toList[pos]'hlt = b at hd hdr
   have hget : s.data.toList[pos]? = some b := by rw [← hb]; exact List.getElem?_eq_getElem hlt
   unfold Go.Lib.spansFromP
   rw [if_pos hlt, hd, hdr]
   cases hpb : p b.toNat with
   | true =>
    rw [if_pos rfl]
    cases st with
    | some a =>
     have hap := hst a rfl
     have hne : (s.data.toList.drop a).take (pos - a) ≠ [] := take_ne hap (by omega)
     rw [ih (pos + 1) none _ (by omega) (by omega) (fun a h => by cases h)]
     simp only [curO, List.map_append, List.map_cons, List.map_nil, zHm, List.append_assoc, List.singleton_append]
     rw [fld_sep (p := fun b => p b.toNat) hpb hne]
     rfl
    | none =>
     rw [ih (pos + 1) none _ (by omega) (by omega) (fun a h => by cases h)]
     simp only [curO]
     rw [fld_sep0 (p := fun b => p b.toNat) hpb]
   | false =>
    rw [if_neg (by decide)]
    cases st with
    | some a =>
     have hap := hst a rfl
     rw [ih (pos + 1) (some a) _ (by omega) (by omega) (fun a' h => by injection h with h; omega)]
     simp only [curO, take_more (Nat.le_of_lt hap) hget]
     rw [fld_in (p := fun b => p b.toNat) hpb]
    | none =>
     rw [ih (pos + 1) (some pos) _ (by omega) (by omega) (fun a' h => by injection h with h; omega)]
     have e : (s.data.toList.drop pos).take (pos + 1 - pos) = [b] := by
      rw [hdr, Nat.add_sub_cancel_left]
      rfl
     simp only [curO, e]
     rw [fld_in (p := fun b => p b.toNat) hpb]
     rfl
  ·have e : pos = s.size := by omega
   rw [Go.Lib.spansFromP_end _ _ _ _ _ _ hlt]
   subst e
   rw [List.drop_of_length_le (by omega)]
   exact fld_end p s st acc hst
theorem fields_val (p : Nat → Bool) (s : ByteArray) (ha : ∀ b ∈ s.data.toList, b.toNat < 128) : Go.Lib.goFieldsP p s = (fld (fun b => p b.toNat) [] s.data.toList).map bl := by
 have h := fld_spans p s ha s.size 0 none [] (by omega) (by omega) (fun a h => by cases h)
 exact h
end Go.Proofs.YtfmjfofocklgpaaGreatDoor
namespace Go.Proofs.YtfmjfofocklgpaaGreatDoor
open Go.Lib
def isD (b : UInt8) : Bool := decide (48 ≤ b.toNat) && decide (b.toNat ≤ 57)
theorem zHp {d : Nat} (h : d < 10) : (UInt8.ofNat (48 + d)).toNat = 48 + d := by
 rw [UInt8.toNat_ofNat']
 omega
theorem zIR {u : Nat} (h : u < 10) : decDigits u = [UInt8.ofNat (48 + u)] := by rw [decDigits, dif_pos h]
theorem zGV {u : Nat} (h : ¬ u < 10) : decDigits u = decDigits (u / 10) ++ [UInt8.ofNat (48 + u % 10)] := by rw [decDigits, dif_neg h]
theorem zLG (Q : Nat → Prop) (h1 : ∀ u, u < 10 → Q u) (h2 : ∀ u, ¬ u < 10 → Q (u / 10) → Q u) : ∀ u, Q u := by
 intro u
 induction u using Nat.strongRecOn with
 | ind u ih =>
  by_cases h : u < 10
  ·exact h1 u h
  ·exact h2 u h (ih _ (by omega))
theorem zJe : ∀ u, ∀ b ∈ decDigits u, isD b = true := by
 refine zLG _ (fun u h b hb => ?_) fun u h ih b hb => ?_
 ·rw [zIR h, List.mem_singleton] at hb
  subst hb
  simp only [isD, zHp h, Bool.and_eq_true, decide_eq_true_eq]
  omega
 ·rw [zGV h, List.mem_append, List.mem_singleton] at hb
  rcases hb with hb | rfl
  ·exact ih b hb
  ·simp only [isD, zHp (show u % 10 < 10 by omega), Bool.and_eq_true, decide_eq_true_eq]
   omega
theorem zKO (u : Nat) : decDigits u ≠ [] := by
 by_cases h : u < 10
 ·rw [zIR h]; simp
 ·rw [zGV h]; simp
theorem zKc : ∀ (l : List UInt8) (acc n : Nat) (b : UInt8) (d : Nat), decFrom acc l = some n → digitVal b = some d → decFrom acc (l ++ [b]) = some (n * 10 + d)
 | [], acc, n, b, d, h, hb => by
  simp only [decFrom, Option.some.injEq] at h
  subst h
  simp [decFrom, hb]
 | c :: r, acc, n, b, d, h, hb => by
  simp only [List.cons_append, decFrom] at h ⊢
  cases hc : digitVal c with
  | none => rw [hc] at h; cases h
  | some e =>
   rw [hc] at h
   exact zKc r _ n b d h hb
theorem dg_val {d : Nat} (h : d < 10) : digitVal (UInt8.ofNat (48 + d)) = some d := by
 unfold digitVal
 rw [zHp h]
 rw [if_pos (by omega)]
 congr 1
 omega
theorem decFrom_dec : ∀ u, decFrom 0 (decDigits u) = some u := by
 refine zLG _ (fun u h => ?_) fun u h ih => ?_
 ·rw [zIR h]
  show (match digitVal (UInt8.ofNat (48 + u)) with | some d => decFrom (0 * 10 + d) [] | none => none) = _
  rw [dg_val h]
  simp [decFrom]
 ·rw [zGV h, zKc _ _ _ _ _ ih (dg_val (show u % 10 < 10 by omega))]
  congr 1
  omega
theorem zLq (u : Nat) : decNat (decDigits u) = some u := by
 unfold decNat
 have : (decDigits u).isEmpty = false := by
  cases h : decDigits u with
  | nil => exact absurd h (zKO u)
  | cons a l => rfl
 rw [this]
 exact decFrom_dec u
theorem zF0 {n : Int} (h : 0 ≤ n) : Go.Lib.itoa n = decDigits n.toNat := by unfold Go.Lib.itoa; rw [if_neg (by omega)]
theorem zGm {n : Int} (h : n < 0) : Go.Lib.itoa n = 45 :: decDigits n.natAbs := by unfold Go.Lib.itoa; rw [if_pos h]
theorem dec_head (u : Nat) : ∃ b r, decDigits u = b :: r ∧ isD b = true := by
 cases h : decDigits u with
 | nil => exact absurd h (zKO u)
 | cons b r => exact ⟨b, r, rfl, zJe u b (by rw [h]; exact List.mem_cons_self ..)⟩
theorem isD_ne {b : UInt8} (h : isD b = true) (c : UInt8) (hc : isD c = false) : b ≠ c := by
 intro e
 rw [e, hc] at h
 cases h
theorem zG0 (n : Int) : atoi (Go.Lib.itoa n) = some n := by
 by_cases h : n < 0
 ·rw [zGm h]
  show (if (45 : UInt8) == 45 then (decNat (decDigits n.natAbs)).map fun (m : Nat) => -(m : Int) else if (45 : UInt8) == 43 then (decNat (decDigits n.natAbs)).map fun (m : Nat) => (m : Int) else (decNat (45 :: decDigits n.natAbs)).map fun (m : Nat) => (m : Int)) = _
  rw [if_pos (by rfl), zLq]
  simp only [Option.map_some]
  congr 1
  omega
 ·rw [zF0 (by omega)]
  obtain ⟨b, r, e, hb⟩ := dec_head n.toNat
  rw [e]
  show (if b == 45 then (decNat r).map fun (m : Nat) => -(m : Int) else if b == 43 then (decNat r).map fun (m : Nat) => (m : Int) else (decNat (b :: r)).map fun (m : Nat) => (m : Int)) = _
  have h1 : (b == 45) = false := by rw [beq_eq_false_iff_ne]; exact isD_ne hb 45 (by decide)
  have h2 : (b == 43) = false := by rw [beq_eq_false_iff_ne]; exact isD_ne hb 43 (by decide)
  rw [h1, h2, if_neg (by decide), if_neg (by decide), ← e, zLq]
  simp only [Option.map_some]
  congr 1
  omega
theorem zEQ {n : Int} (h1 : -1000000 ≤ n) (h2 : n ≤ 1000000) : (Go.Lib.itoa n).length ≤ 8 := by
 by_cases h : n < 0
 ·rw [zGm h, List.length_cons, decDigits_length]
  have := zJ6 7 n.natAbs (by omega) (by decide)
  omega
 ·rw [zF0 (by omega), decDigits_length]
  have := zJ6 7 n.toNat (by omega) (by decide)
  omega
theorem atoi_val {n : Int} (h1 : -1000000 ≤ n) (h2 : n ≤ 1000000) : zAp (bl (Go.Lib.itoa n)) = some (n, true) := by
 have hl := zEQ h1 h2
 unfold zAp
 rw [if_pos (by rw [jI]; omega), zBX, atoiAll_short _ (by omega), zG0]
 rfl
theorem atoi_some (s : ByteArray) (h : s.size ≤ 281474976710656) : ∃ r, zAp s = some r := by
 unfold zAp
 rw [if_pos h]
 cases atoiAll s.data.toList <;> exact ⟨_, rfl⟩
def isN (b : UInt8) : Bool := (b.toNat == 45) || isD b
theorem zHi (n : Int) : ∀ b ∈ Go.Lib.itoa n, isN b = true := by
 intro b hb
 by_cases h : n < 0
 ·rw [zGm h] at hb
  cases hb with
  | head => rfl
  | tail _ hb => simp only [isN, zJe _ b hb, Bool.or_true]
 ·rw [zF0 (by omega)] at hb
  simp only [isN, zJe _ b hb, Bool.or_true]
theorem itoa_ne (n : Int) : Go.Lib.itoa n ≠ [] := by
 by_cases h : n < 0
 ·rw [zGm h]; simp
 ·rw [zF0 (by omega)]; exact zKO _
theorem zKH {b : UInt8} (h : isN b = true) : b.toNat < 128 := by
 simp only [isN, isD, Bool.or_eq_true, Bool.and_eq_true, decide_eq_true_eq, beq_iff_eq] at h
 omega
theorem fld_word {p : UInt8 → Bool} : ∀ (w cur l : List UInt8), (∀ b ∈ w, p b = false) → fld p cur (w ++ l) = fld p (cur ++ w) l
 | [], cur, l, h => by rw [List.nil_append, List.append_nil]
 | b :: w, cur, l, h => by
  rw [List.cons_append, fld_in (h b (List.mem_cons_self ..)), fld_word w _ l (fun x hx => h x (List.mem_cons_of_mem _ hx)), List.append_assoc]
  rfl
theorem fld_num {p : UInt8 → Bool} (hp : ∀ b, isN b = true → p b = false) {c : UInt8} (hc : p c = true) (n : Int) (l : List UInt8) : fld p [] (Go.Lib.itoa n ++ c :: l) = Go.Lib.itoa n :: fld p [] l := by
 rw [fld_word _ _ _ (fun b hb => hp b (zHi n b hb)), List.nil_append, fld_sep hc (itoa_ne n)]
end Go.Proofs.YtfmjfofocklgpaaGreatDoor
namespace Go.Proofs.YtfmjfofocklgpaaGreatDoor
def fB (f : Int × Int × Int) : List UInt8 := ((((([40] ++ Go.Lib.itoa f.1) ++ [44]) ++ Go.Lib.itoa f.2.1) ++ [44]) ++ Go.Lib.itoa f.2.2) ++ [41]
theorem fB_len {f : Int × Int × Int} (h1 : sm18 f.1) (h2 : sm18 f.2.1) (h3 : sm18 f.2.2) : (fB f).length ≤ 100 := by
 have a1 := zEC h1
 have a2 := zEC h2
 have a3 := zEC h3
 simp [fB]
 omega
theorem foText_eq {f : Int × Int × Int} (h1 : sm18 f.1) (h2 : sm18 f.2.1) (h3 : sm18 f.2.2) : zDz f = some (bl (fB f)) := by
 have a1 := zEC h1
 have a2 := zEC h2
 have a3 := zEC h3
 have e1 : (⟨#[40]⟩ : ByteArray) = bl [40] := rfl
 have e2 : (⟨#[44]⟩ : ByteArray) = bl [44] := rfl
 have e3 : (⟨#[41]⟩ : ByteArray) = bl [41] := rfl
 unfold zDz
 rw [zLg h1, Option.bind_some, e1, e2, e3, zCu (by simp; omega), Option.bind_some, zBW, zCu (by simp; omega), Option.bind_some, zBW, zLg h2, Option.bind_some, zCu (by simp; omega), Option.bind_some, zBW, zCu (by simp; omega), Option.bind_some, zBW, zLg h3, Option.bind_some, zCu (by simp; omega), Option.bind_some, zBW, zCu (by simp; omega), Option.bind_some, zBW]
 rfl
theorem zHk {f : Int × Int × Int} (h1 : sm18 f.1) (h2 : sm18 f.2.1) (h3 : sm18 f.2.2) : zCX f = some (bl (fB f)) := by
 have a1 := zEC h1
 have a2 := zEC h2
 have a3 := zEC h3
 have e1 : (⟨#[40]⟩ : ByteArray) = bl [40] := rfl
 have e2 : (⟨#[44]⟩ : ByteArray) = bl [44] := rfl
 have e3 : (⟨#[41]⟩ : ByteArray) = bl [41] := rfl
 unfold zCX
 rw [zLA h1, Option.bind_some, e1, e2, e3, zCu (by simp; omega), Option.bind_some, zBW, zCu (by simp; omega), Option.bind_some, zBW, zLA h2, Option.bind_some, zCu (by simp; omega), Option.bind_some, zBW, zCu (by simp; omega), Option.bind_some, zBW, zLA h3, Option.bind_some, zCu (by simp; omega), Option.bind_some, zBW, zCu (by simp; omega), Option.bind_some, zBW]
 rfl
end Go.Proofs.YtfmjfofocklgpaaGreatDoor
namespace Go.Proofs.YtfmjfofocklgpaaGreatDoor
open Go.Lib
theorem spl_one {c : UInt8} : ∀ (w : List UInt8), (∀ b ∈ w, b ≠ c) → spl c w = [w]
 | [], _ => rfl
 | b :: w, h => zEY (h b (List.mem_cons_self ..)) (spl_one w fun x hx => h x (List.mem_cons_of_mem _ hx))
theorem spl_word {c : UInt8} : ∀ (w l : List UInt8), (∀ b ∈ w, b ≠ c) → spl c (w ++ c :: l) = w :: spl c l
 | [], l, _ => zJr c l
 | b :: w, l, h => zEY (h b (List.mem_cons_self ..)) (spl_word w l fun x hx => h x (List.mem_cons_of_mem _ hx))
theorem zFZ (n : Int) (c : UInt8) (hc : isN c = false) : ∀ b ∈ Go.Lib.itoa n, b ≠ c := fun b hb e => by
 have := zHi n b hb
 rw [e, hc] at this
 cases this
theorem fB_eq (f : Int × Int × Int) : fB f = 40 :: (Go.Lib.itoa f.1 ++ 44 :: (Go.Lib.itoa f.2.1 ++ 44 :: (Go.Lib.itoa f.2.2 ++ [41]))) := by
 simp [fB]
def pN (x : Nat) : Bool := (x != 45) && (decide (x < 48) || decide (57 < x))
theorem pN_isN (b : UInt8) : pN b.toNat = !isN b := by
 unfold pN isN isD
 rw [Bool.eq_iff_iff]
 simp only [Bool.and_eq_true, Bool.or_eq_true, bne_iff_ne, decide_eq_true_eq, Bool.not_eq_true', Bool.or_eq_false_iff, beq_eq_false_iff_ne, Bool.and_eq_false_iff, decide_eq_false_iff_not]
 omega
theorem fB_fields (f : Int × Int × Int) : fld (fun b => pN b.toNat) [] (fB f) = [Go.Lib.itoa f.1, Go.Lib.itoa f.2.1, Go.Lib.itoa f.2.2] := by
 have hp : ∀ b, isN b = true → (fun b : UInt8 => pN b.toNat) b = false := fun b h => by simp only [pN_isN, h, Bool.not_true]
 rw [fB_eq, fld_sep0 (by decide), fld_num hp (by decide), fld_num hp (by decide), fld_num hp (by decide)]
 rfl
theorem fB_ascii (f : Int × Int × Int) : ∀ b ∈ fB f, b.toNat < 128 := by
 intro b hb
 rw [fB_eq] at hb
 simp only [List.mem_cons, List.mem_append, List.not_mem_nil, or_false] at hb
 rcases hb with rfl | hb | rfl | hb | rfl | hb | rfl
 ·decide
 ·exact zKH (zHi _ b hb)
 ·decide
 ·exact zKH (zHi _ b hb)
 ·decide
 ·exact zKH (zHi _ b hb)
 ·decide
theorem zHl (f : Int × Int × Int) : goFieldsP pN (bl (fB f)) = [bl (Go.Lib.itoa f.1), bl (Go.Lib.itoa f.2.1), bl (Go.Lib.itoa f.2.2)] := by
 rw [fields_val pN (bl (fB f)) (by rw [zBX]; exact fB_ascii f), zBX, fB_fields]
 rfl
theorem zKg (x : ByteArray) : x = bl x.data.toList := rfl
theorem zDX {a b : List UInt8} (h : bl a = bl b) : a = b := by
 have := congrArg (fun x : ByteArray => x.data.toList) h
 simpa [bl] using this
theorem eqS (a b : ByteArray) : (a.toList == b.toList) = decide (a = b) := by
 rw [ByteArray.toList_eq, ByteArray.toList_eq, Bool.eq_iff_iff, beq_iff_eq, decide_eq_true_iff]
 constructor
 ·intro h
  rw [zKg a, zKg b, h]
 ·intro h
  rw [h]
theorem zDd {s : ByteArray} {i : Nat} (h : i < s.size) : getB s (i : Int) = some (((s.data.toList[i]'h).toNat : Nat) : Int) := by
 have h2 : i < s.data.toList.length := h
 unfold getB
 rw [if_pos (by omega)]
 simp only [Int.toNat_natCast, List.getElem?_eq_getElem h2, Option.getD_some]
theorem zEk {n l h : Nat} (h1 : l ≤ h) (h2 : h ≤ n) : slc n (l : Int) (h : Int) = some () := by
 unfold slc
 rw [q9, q9, q9, decide_eq_true (by omega), decide_eq_true (by omega), decide_eq_true (by omega)]
 rfl
def splP (c : UInt8) (cur l : List UInt8) : List (List UInt8) := match spl c l with
 | w :: ws => (cur ++ w) :: ws
 | [] => [cur]
theorem splP_nil (c : UInt8) (l : List UInt8) : splP c [] l = spl c l := by
 unfold splP
 cases h : spl c l with
 | nil => exact absurd h (zJq c l)
 | cons w ws => rfl
theorem splP_eq (c : UInt8) (cur l : List UInt8) : splP c cur (c :: l) = cur :: spl c l := by
 unfold splP
 rw [zJr]
 simp
theorem splP_ne {b c : UInt8} (h : b ≠ c) (cur l : List UInt8) : splP c cur (b :: l) = splP c (cur ++ [b]) l := by
 unfold splP
 cases e : spl c l with
 | nil => exact absurd e (zJq c l)
 | cons w ws =>
  rw [zEY h e]
  simp
theorem zKw (c : UInt8) : ∀ l, (spl c l).length ≤ l.length + 1
 | [] => by simp [spl]
 | b :: l => by
  have ih := zKw c l
  by_cases h : b = c
  ·subst h; rw [zJr]; simp; omega
  ·cases e : spl c l with
   | nil => exact absurd e (zJq c l)
   | cons w ws => rw [zEY h e]; rw [e] at ih; simp at ih ⊢; omega
theorem zLJ (b c : UInt8) : ((b.toNat : Int) == (c.toNat : Int)) = decide (b = c) := by
 rw [Bool.eq_iff_iff, beq_iff_eq, decide_eq_true_iff]
 constructor
 ·intro h
  exact UInt8.toNat_inj.1 (by omega)
 ·intro h
  rw [h]
theorem l1Split_run (s : ByteArray) (c : UInt8) (hs : s.size ≤ 100000000) : ∀ (k n f i : Nat) (l : List ByteArray), s.size - i = k → k < n → f ≤ i → i ≤ s.size → l.length ≤ i →
  ∃ f' l', zAT ((c.toNat : Nat) : Int) s n (f : Int) (i : Int) l = some (((f' : Nat) : Int), l') ∧ f' ≤ s.size ∧ l'.length ≤ s.size ∧ l' ++ [bl (s.data.toList.drop f')] = l ++ (splP c ((s.data.toList.drop f).take (i - f)) (s.data.toList.drop i)).map bl := by
 have hsz : s.data.toList.length = s.size := rfl
 intro k
 induction k with
 | zero =>
  intro n f i l hk hn hfi his hl
  obtain ⟨n, rfl⟩ : ∃ m, n = m + 1 := ⟨n - 1, by omega⟩
  refine ⟨f, l, ?_, by omega, by omega, ?_⟩
  ·unfold zAT
   rw [zP, decide_eq_false (by omega), cond_false]
  ·have e : i = s.size := by omega
   subst e
   rw [List.drop_of_length_le (show s.data.toList.length ≤ s.size by omega), splP]
   simp only [spl, List.append_nil, List.map_cons, List.map_nil]
   rw [List.take_of_length_le (by simp)]
 | succ k ih =>
  intro n f i l hk hn hfi his hl
  obtain ⟨n, rfl⟩ : ∃ m, n = m + 1 := ⟨n - 1, by omega⟩
  have hlt : i < s.size := by omega
  have hdr : s.data.toList.drop i = s.data.toList[i]'hlt :: s.data.toList.drop (i + 1) := List.drop_eq_getElem_cons hlt
  have hg := zDd hlt
  have hget : s.data.toList[i]? = some (s.data.toList[i]'hlt) := List.getElem?_eq_getElem hlt
  generalize s.data.toList[i]'hlt = b at hdr hg hget
  unfold zAT
  rw [zP, decide_eq_true (by omega), cond_true, hg, Option.bind_some, zBN, zLJ, hdr]
  by_cases hb : b = c
  ·subst hb
   rw [decide_eq_true rfl, cond_true, zEk hfi (by omega), Option.bind_some, zCA (by simp; omega), Option.bind_some, qA, qA, zCC (by omega)]
   obtain ⟨f', l', h1, h2, h3, h4⟩ := ih n (i + 1) (i + 1) (l ++ [s.extract f i]) (by omega) (by omega) (Nat.le_refl _) (by omega) (by simp; omega)
   refine ⟨f', l', h1, h2, h3, ?_⟩
   rw [h4, splP_eq, Nat.sub_self, List.take_zero, splP_nil, zHm]
   simp
  ·rw [decide_eq_false hb, cond_false, qA, zCC (by omega)]
   obtain ⟨f', l', h1, h2, h3, h4⟩ := ih n f (i + 1) l (by omega) (by omega) (by omega) (by omega) (by omega)
   refine ⟨f', l', h1, h2, h3, ?_⟩
   rw [h4, splP_ne hb, take_more hfi hget]
theorem zHh (s : ByteArray) (c : UInt8) (hs : s.size ≤ 100000000) : zBd s ((c.toNat : Nat) : Int) = some ((spl c s.data.toList).map bl) := by
 have hF : 100000001 < FU := by decide
 obtain ⟨f', l', h1, h2, h3, h4⟩ := l1Split_run s c hs s.size FU 0 0 [] rfl (by omega) (Nat.le_refl _) (Nat.zero_le _) (Nat.zero_le _)
 have h1 : zAT ((c.toNat : Nat) : Int) s FU 0 0 [] = some (((f' : Nat) : Int), l') := h1
 unfold zBd
 rw [h1]
 simp only [Option.bind_some]
 rw [zEk h2 (Nat.le_refl _), Option.bind_some, zCA (by simp; omega), Option.bind_some]
 have e : s.extract ((f' : Nat) : Int).toNat ((s.size : Nat) : Int).toNat = bl (s.data.toList.drop f') := by
  rw [Int.toNat_natCast, Int.toNat_natCast, zHm, List.take_of_length_le (by simp)]
 rw [e, h4]
 simp [splP_nil]
def lowB (b : UInt8) : Bool := decide (97 ≤ b.toNat) && decide (b.toNat ≤ 122)
def nmB (s : ByteArray) : Bool := s.data.toList.all lowB && (decide (1 ≤ s.size) && decide (s.size ≤ 8))
theorem nameL_eq (s : ByteArray) : ∀ (n : Nat) (i : Int), zCI s n i = zAN s n i
 | 0, i => rfl
 | n + 1, i => by
  unfold zCI zAN
  simp only [nameL_eq s n]
theorem name_run (s : ByteArray) (hs : s.size ≤ 100000000) : ∀ (k n i : Nat), s.size - i = k → k < n → zAN s n (i : Int) = some (if (s.data.toList.drop i).all lowB then .inl () else .inr false) := by
 have hsz : s.data.toList.length = s.size := rfl
 intro k
 induction k with
 | zero =>
  intro n i hk hn
  obtain ⟨n, rfl⟩ : ∃ m, n = m + 1 := ⟨n - 1, by omega⟩
  unfold zAN
  rw [zP, decide_eq_false (by omega), cond_false, List.drop_of_length_le (by omega)]
  rfl
 | succ k ih =>
  intro n i hk hn
  obtain ⟨n, rfl⟩ : ∃ m, n = m + 1 := ⟨n - 1, by omega⟩
  have hlt : i < s.size := by omega
  have hdr : s.data.toList.drop i = s.data.toList[i]'hlt :: s.data.toList.drop (i + 1) := List.drop_eq_getElem_cons hlt
  have hg := zDd hlt
  generalize s.data.toList[i]'hlt = b at hdr hg
  unfold zAN
  rw [zP, decide_eq_true (by omega), cond_true]
  simp only [hg, Option.bind_some, zP, qA]
  rw [hdr, List.all_cons, zCC (by omega), ih n (i + 1) (by omega) (by omega)]
  by_cases h1 : b.toNat < 97
  ·have e : lowB b = false := by simp only [lowB, Bool.and_eq_false_iff, decide_eq_false_iff_not]; omega
   rw [decide_eq_true (show (b.toNat : Int) < 97 by omega), e]
   rfl
  ·rw [decide_eq_false (show ¬ (b.toNat : Int) < 97 by omega)]
   by_cases h2 : 122 < b.toNat
   ·have e : lowB b = false := by simp only [lowB, Bool.and_eq_false_iff, decide_eq_false_iff_not]; omega
    rw [decide_eq_true (show (122 : Int) < (b.toNat : Int) by omega), e]
    rfl
   ·have e : lowB b = true := by simp only [lowB, Bool.and_eq_true, decide_eq_true_iff]; omega
    rw [decide_eq_false (show ¬ (122 : Int) < (b.toNat : Int) by omega), e, Bool.true_and]
    rfl
theorem zJ5 (s : ByteArray) (hs : s.size ≤ 100000000) : zBa s = some (nmB s) ∧ zCE s = some (nmB s) := by
 have hF : 100000001 < FU := by decide
 have h := name_run s hs s.size FU 0 rfl (by omega)
 have h : zAN s FU 0 = some (if (s.data.toList.drop 0).all lowB then .inl () else .inr false) := h
 rw [List.drop_zero] at h
 have e1 : (bif leI 1 ((s.size : Nat) : Int) then leI ((s.size : Nat) : Int) 8 else false) = (decide (1 ≤ s.size) && decide (s.size ≤ 8)) := by
  rw [q9, q9]
  have a1 : decide ((1 : Int) ≤ ((s.size : Nat) : Int)) = decide (1 ≤ s.size) := by rw [decide_eq_decide]; omega
  have a2 : decide (((s.size : Nat) : Int) ≤ 8) = decide (s.size ≤ 8) := by rw [decide_eq_decide]; omega
  rw [a1, a2]
  cases decide (1 ≤ s.size) <;> rfl
 unfold nmB
 constructor
 ·unfold zBa
  rw [h]
  cases hall : s.data.toList.all lowB with
  | true => simp only [if_true, Option.bind_some, e1, Bool.true_and]
  | false => rfl
 ·unfold zCE
  rw [nameL_eq, h]
  cases hall : s.data.toList.all lowB with
  | true => simp only [if_true, Option.bind_some, jQ, e1, Bool.true_and]
  | false => rfl
def dvF (n : Nat) (l : List UInt8) : Nat := l.foldl (fun n b => 10 * n + (b.toNat - 48)) n
def dv (l : List UInt8) : Nat := dvF 0 l
theorem zHo (n : Nat) (b : UInt8) (l : List UInt8) : dvF n (b :: l) = dvF (10 * n + (b.toNat - 48)) l := by
 unfold dvF
 rw [List.foldl_cons]
theorem dv_app (l : List UInt8) (b : UInt8) : dv (l ++ [b]) = 10 * dv l + (b.toNat - 48) := by simp [dv, dvF]
theorem dvF_ge : ∀ (l : List UInt8) (n : Nat), n ≤ dvF n l
 | [], n => Nat.le_refl _
 | b :: l, n => by
  have := dvF_ge l (10 * n + (b.toNat - 48))
  rw [zHo]
  omega
theorem zFo {b : UInt8} : isD b = true ↔ 48 ≤ b.toNat ∧ b.toNat ≤ 57 := by
 unfold isD
 rw [Bool.and_eq_true, decide_eq_true_iff, decide_eq_true_iff]
theorem byte_back {b : UInt8} (h : isD b = true) : UInt8.ofNat (48 + (b.toNat - 48)) = b := by
 have h := zFo.1 h
 apply UInt8.toNat_inj.1
 rw [UInt8.toNat_ofNat']
 omega
def canD (l : List UInt8) : Bool := !l.isEmpty && l.all isD && (l.length == 1 || l.head? != some 48)
theorem dec_canon : ∀ (k : Nat) (l : List UInt8), l.length = k → l ≠ [] → (∀ b ∈ l, isD b = true) → (l.head? = some 48 → l.length = 1) → decDigits (dv l) = l
 | 0, l, hk, h, _, _ => absurd (List.length_eq_zero_iff.1 hk) h
 | k + 1, l, hk, h, hd, h0 => by
  obtain ⟨m, b, rfl⟩ : ∃ m b, l = m ++ [b] := ⟨l.dropLast, l.getLast h, (List.dropLast_concat_getLast h).symm⟩
  have hb : isD b = true := hd b (by simp)
  have hb2 := zFo.1 hb
  rw [dv_app]
  cases m with
  | nil =>
   rw [show dv [] = 0 from rfl, zIR (by omega), show 10 * 0 + (b.toNat - 48) = b.toNat - 48 by omega, byte_back hb]
   rfl
  | cons c m =>
   have hc : isD c = true := hd c (by simp)
   have hc2 := zFo.1 hc
   have hc3 : c ≠ 48 := by
    intro e
    have := h0 (by simp [e])
    simp at this
   have hc4 : c.toNat ≠ 48 := fun e => hc3 (UInt8.toNat_inj.1 (by rw [e]; rfl))
   have hpos : 1 ≤ dv (c :: m) := by
    have := dvF_ge m (10 * 0 + (c.toNat - 48))
    show 1 ≤ dvF 0 (c :: m)
    rw [zHo]
    omega
   rw [zGV (by omega), show (10 * dv (c :: m) + (b.toNat - 48)) / 10 = dv (c :: m) by omega, show (10 * dv (c :: m) + (b.toNat - 48)) % 10 = b.toNat - 48 by omega, byte_back hb]
   rw [dec_canon k (c :: m) (by simp at hk; simp; omega) (by simp) (fun x hx => hd x (List.mem_append_left _ hx)) (fun e => by
    injection e with e
    exact absurd e hc3)]
theorem dv_dec (u : Nat) : dv (decDigits u) = u := by
 revert u
 refine zLG _ (fun u h => ?_) fun u h ih => ?_
 ·rw [zIR h]
  unfold dv
  rw [zHo, zHp h]
  unfold dvF
  rw [List.foldl_nil]
  omega
 ·rw [zGV h, dv_app, ih, zHp (by omega)]
  omega
theorem canD_dec (u : Nat) : canD (decDigits u) = true := by
 have h1 := zKO u
 have h2 := zJe u
 have h3 : ∀ u, (decDigits u).head? = some 48 → (decDigits u).length = 1 := by
  refine zLG _ (fun u h => ?_) fun u h ih => ?_
  ·rw [zIR h]
   intro _
   rfl
  ·rw [zGV h]
   intro e
   exfalso
   have h4 := zKO (u / 10)
   cases hm : decDigits (u / 10) with
   | nil => exact h4 hm
   | cons c m =>
    rw [hm] at e
    have h5 := ih (by rw [hm]; exact e)
    rw [hm] at h5
    have h6 : m = [] := by
     cases m with
     | nil => rfl
     | cons _ _ => simp at h5
    subst h6
    have h7 := dv_dec (u / 10)
    rw [hm] at h7
    injection e with e
    subst e
    unfold dv at h7
    rw [zHo] at h7
    have h8 : dvF (10 * 0 + ((48 : UInt8).toNat - 48)) [] = 0 := rfl
    omega
 unfold canD
 have h3 := h3 u
 cases hl : decDigits u with
 | nil => exact absurd hl h1
 | cons c m =>
  rw [hl] at h2 h3
  have ha : (c :: m).all isD = true := by rw [List.all_eq_true]; exact h2
  rw [ha]
  by_cases hc : c = 48
  ·have := h3 (by rw [hc]; rfl)
   rw [this]
   rfl
  ·have : ((c :: m).head? != some 48) = true := by
    rw [bne_iff_ne]
    intro e
    injection e with e
    exact hc e
   rw [this, Bool.or_true]
   rfl
theorem canD_back {l : List UInt8} (h : canD l = true) : decDigits (dv l) = l := by
 unfold canD at h
 simp only [Bool.and_eq_true, Bool.not_eq_true', Bool.or_eq_true, beq_iff_eq, bne_iff_ne, List.all_eq_true] at h
 refine dec_canon l.length l rfl (fun e => by rw [e] at h; cases h.1.1) h.1.2 fun e => ?_
 rcases h.2 with h2 | h2
 ·exact h2
 ·exact absurd e h2
theorem i8w {x : Int} (h0 : 0 ≤ x) (h1 : x < 256) : IntKind.i64.wrap (IntKind.u8.wrap x) = x := by
 rw [IntKind.wrap_u8]
 have e : x % 256 = x := by omega
 rw [e]
 exact zF1 (by omega)
theorem dstep {v : Nat} {b : UInt8} (hv : v < 1000000000000000) (hb : isD b = true) : w64 ((w64 (10 * (v : Int))) + (IntKind.i64.wrap (IntKind.u8.wrap ((b.toNat : Int) - 48)))) = ((10 * v + (b.toNat - 48) : Nat) : Int) := by
 have hb := zFo.1 hb
 have e1 : w64 (10 * (v : Int)) = 10 * (v : Int) := zJ (by omega)
 rw [i8w (by omega) (by omega), e1, zJ (by omega)]
 omega
theorem nuRead_run (s : ByteArray) (hs : s.size ≤ 10) : ∀ (k n i v : Nat), s.size - i = k → k < n → i ≤ s.size → v < 10 ^ i →
  zAj s n (v : Int) (i : Int) = some (if (s.data.toList.drop i).all isD then .inl ((dvF v (s.data.toList.drop i) : Nat) : Int) else .inr (-1)) := by
 have hsz : s.data.toList.length = s.size := rfl
 intro k
 induction k with
 | zero =>
  intro n i v hk hn hi hv
  obtain ⟨n, rfl⟩ : ∃ m, n = m + 1 := ⟨n - 1, by omega⟩
  unfold zAj
  rw [zP, decide_eq_false (by omega), cond_false, List.drop_of_length_le (by omega)]
  rfl
 | succ k ih =>
  intro n i v hk hn hi hv
  obtain ⟨n, rfl⟩ : ∃ m, n = m + 1 := ⟨n - 1, by omega⟩
  have hlt : i < s.size := by omega
  have hdr : s.data.toList.drop i = s.data.toList[i]'hlt :: s.data.toList.drop (i + 1) := List.drop_eq_getElem_cons hlt
  have hg := zDd hlt
  generalize s.data.toList[i]'hlt = b at hdr hg
  have hp : (10 : Nat) ^ i ≤ 10 ^ 10 := Nat.pow_le_pow_right (by omega) (by omega)
  have hp2 : (10 : Nat) ^ 10 = 10000000000 := by decide
  unfold zAj
  rw [zP, decide_eq_true (by omega), cond_true]
  simp only [hg, Option.bind_some, zP, qA]
  rw [hdr, List.all_cons]
  by_cases h1 : b.toNat < 48
  ·have e : isD b = false := by
    rw [Bool.eq_false_iff]
    intro e
    have := zFo.1 e
    omega
   rw [decide_eq_true (show (b.toNat : Int) < 48 by omega), e]
   rfl
  ·rw [decide_eq_false (show ¬ (b.toNat : Int) < 48 by omega)]
   by_cases h2 : 57 < b.toNat
   ·have e : isD b = false := by
     rw [Bool.eq_false_iff]
     intro e
     have := zFo.1 e
     omega
    rw [decide_eq_true (show (57 : Int) < (b.toNat : Int) by omega), e]
    rfl
   ·have e : isD b = true := zFo.2 (by omega)
    rw [decide_eq_false (show ¬ (57 : Int) < (b.toNat : Int) by omega), e, Bool.true_and, zHo, dstep (by omega) e, zCC (by omega)]
    have hb := zFo.1 e
    exact ih n (i + 1) _ (by omega) (by omega) (by omega) (by rw [Nat.pow_succ]; omega)
theorem zL9 (s : ByteArray) : zDy s = some (if canD s.data.toList = true ∧ s.size ≤ 10 then ((dv s.data.toList : Nat) : Int) else -1) := by
 have hF : 1000000 < FU := by decide
 have hsz : s.data.toList.length = s.size := rfl
 unfold zDy jQ
 rw [q9, q9]
 by_cases h0 : s.size = 0
 ·have hl : s.data.toList = [] := List.length_eq_zero_iff.1 (by omega)
  rw [decide_eq_false (by omega), if_neg (fun h => by rw [hl] at h; exact absurd h.1 (by decide))]
  rfl
 ·rw [decide_eq_true (by omega)]
  by_cases h10 : s.size ≤ 10
  ·rw [decide_eq_true (show ((s.size : Nat) : Int) ≤ 10 by omega)]
   have hlt : 0 < s.size := by omega
   have hg := zDd hlt
   have hg : getB s 0 = _ := hg
   obtain ⟨b, r, hl⟩ : ∃ b r, s.data.toList = b :: r := by
    cases h : s.data.toList with
    | nil => rw [h] at hsz; simp at hsz; omega
    | cons b r => exact ⟨b, r, rfl⟩
   have hg : getB s 0 = some ((b.toNat : Nat) : Int) := by
    rw [hg]
    congr 3
    simp only [hl]
    rfl
   have hr : r.length + 1 = s.size := by rw [← hsz, hl]; simp
   simp only [Bool.cond_true_left, cond_true, Option.bind_some, Bool.not_true, cond_false, hg, zBN, zP]
   by_cases hz : b = 48 ∧ 1 < s.size
   ·have e1 : (((b.toNat : Nat) : Int) == 48) = true := by rw [hz.1]; rfl
    rw [e1, cond_true, decide_eq_true (by omega), cond_true, if_neg]
    intro h
    have h := h.1
    rw [hl] at h
    unfold canD at h
    simp only [Bool.and_eq_true, Bool.or_eq_true, beq_iff_eq, bne_iff_ne, List.length_cons, List.head?_cons] at h
    rcases h.2 with h2 | h2
    ·omega
    ·exact h2 (by rw [hz.1])
   ·have e1 : (bif (((b.toNat : Nat) : Int) == 48) then decide ((1 : Int) < ((s.size : Nat) : Int)) else false) = false := by
     cases hb : (((b.toNat : Nat) : Int) == 48) with
     | false => rfl
     | true =>
      rw [beq_iff_eq] at hb
      have : b = 48 := UInt8.toNat_inj.1 (by show b.toNat = 48; omega)
      rw [cond_true, decide_eq_false]
      intro h
      exact hz ⟨this, by omega⟩
    rw [e1, cond_false]
    have h := nuRead_run s h10 s.size FU 0 0 rfl (by omega) (by omega) (by decide)
    have h : zAj s FU 0 0 = _ := h
    rw [h, List.drop_zero]
    by_cases hd : s.data.toList.all isD = true
    ·have hc : canD s.data.toList = true := by
      rw [hl] at hd ⊢
      unfold canD
      rw [hd]
      simp only [List.isEmpty_cons, Bool.not_false, Bool.true_and, Bool.or_eq_true, beq_iff_eq, bne_iff_ne, List.length_cons, List.head?_cons]
      by_cases hb : b = 48
      ·exact .inl (by
        have : ¬ 1 < s.size := fun h => hz ⟨hb, h⟩
        omega)
      ·exact .inr (fun e => by injection e with e; exact hb e)
     rw [if_pos hd, if_pos ⟨hc, h10⟩]
     rfl
    ·rw [if_neg hd, if_neg]
     ·rfl
     ·intro h
      have h := h.1
      unfold canD at h
      simp only [Bool.and_eq_true] at h
      exact hd h.1.2
  ·rw [decide_eq_false (show ¬ ((s.size : Nat) : Int) ≤ 10 by omega), if_neg (fun h => h10 h.2)]
   rfl
def NB (n : Int) : Prop := -1000000 ≤ n ∧ n ≤ 1000000
theorem dec_len7 {u : Nat} (h : u ≤ 1000000) : (decDigits u).length ≤ 8 := by
 have := zEQ (n := (u : Int)) (by omega) (by omega)
 rw [zF0 (by omega)] at this
 exact this
theorem foInt_spec (s : ByteArray) : (∃ n, NB n ∧ s = bl (itoa n) ∧ zDF s = some (n, true)) ∨ ((∀ n, NB n → s ≠ bl (itoa n)) ∧ zDF s = some (0, false)) := by
 have hsz : s.data.toList.length = s.size := rfl
 have fin : ∀ (m : Bool) (t : ByteArray), (if canD t.data.toList = true ∧ t.size ≤ 10 then ((dv t.data.toList : Nat) : Int) else -1) = -1 ∨ (canD t.data.toList = true ∧ t.size ≤ 10 ∧ (if canD t.data.toList = true ∧ t.size ≤ 10 then ((dv t.data.toList : Nat) : Int) else -1) = ((dv t.data.toList : Nat) : Int)) := by
  intro m t
  by_cases h : canD t.data.toList = true ∧ t.size ≤ 10
  ·rw [if_pos h]; exact .inr ⟨h.1, h.2, rfl⟩
  ·rw [if_neg h]; exact .inl rfl
 by_cases hm : ∃ r, s.data.toList = 45 :: r ∧ r ≠ []
 ·obtain ⟨r, hl, hr⟩ := hm
  have hlen : 1 < s.size := by
   rw [← hsz, hl]
   have := List.length_pos_iff.2 hr
   simp; omega
  have hg : getB s 0 = some 45 := by
   have hg := zDd (show 0 < s.size by omega)
   have hg : getB s 0 = _ := hg
   rw [hg]
   simp only [hl]
   rfl
  have hj : s.extract 1 s.size = bl r := by
   rw [zHm, hl, List.drop_succ_cons, List.drop_zero, List.take_of_length_le]
   have : r.length + 1 = s.size := by rw [← hsz, hl]; simp
   omega
  unfold zDF
  rw [zP, decide_eq_true (by omega), cond_true, hg]
  have hsl : slc s.size 1 (s.size : Int) = some () := zEk (l := 1) (by omega) (Nat.le_refl _)
  simp only [Option.bind_some, zBN, show ((45 : Int) == 45) = true from rfl, cond_true, hsl, show Int.toNat 1 = 1 from rfl, Int.toNat_natCast, hj, zL9]
  by_cases hc : canD r = true ∧ r.length ≤ 10 ∧ dv r ≠ 0 ∧ dv r ≤ 1000000
  ·left
   refine ⟨-((dv r : Nat) : Int), ⟨by omega, by omega⟩, ?_, ?_⟩
   ·rw [zGm (by omega), Int.natAbs_neg, Int.natAbs_natCast, canD_back hc.1, zKg s, hl]
   ·rw [if_pos ⟨by rw [zBX]; exact hc.1, by rw [jI]; exact hc.2.1⟩, zBX, zP, zP, decide_eq_false (by omega), cond_false, decide_eq_false (by omega)]
    have e : (((dv r : Nat) : Int) == 0) = false := by rw [beq_eq_false_iff_ne]; omega
    rw [e, qA]
    simp only [cond_false]
    rw [zJ (by omega)]
    congr 2
    omega
  ·right
   constructor
   ·intro n hn e
    apply hc
    have e2 : 45 :: r = itoa n := by
     rw [← hl]
     exact zDX (by rw [← zKg s]; exact e)
    have hneg : n < 0 := by
     by_cases h : n < 0
     ·exact h
     ·exfalso
      rw [zF0 (by omega)] at e2
      have := zJe n.toNat 45 (by rw [← e2]; exact List.mem_cons_self ..)
      exact absurd this (by decide)
    rw [zGm hneg] at e2
    injection e2 with _ e2
    subst e2
    have hb := hn.1
    refine ⟨canD_dec _, ?_, ?_, ?_⟩
    ·have := dec_len7 (u := n.natAbs) (by omega)
     omega
    ·rw [dv_dec]; omega
    ·rw [dv_dec]; omega
   ·rcases fin true (bl r) with h | ⟨h1, h2, h⟩
    ·rw [h]
     rfl
    ·rw [h]
     rw [zBX] at h1
     rw [jI] at h2
     rw [zBX, zP, zP, decide_eq_false (by omega), cond_false]
     by_cases h3 : dv r = 0
     ·rw [h3]; rfl
     ·have e : (((dv r : Nat) : Int) == 0) = false := by rw [beq_eq_false_iff_ne]; omega
      rw [e, cond_false, decide_eq_true]
      ·rfl
      ·have : ¬ dv r ≤ 1000000 := fun h4 => hc ⟨h1, h2, h3, h4⟩
       omega
 ·have hb4 : (bif ltI 1 (s.size : Int) then (getB s 0).bind fun e3 => some (eqI e3 45) else some false) = some false := by
   rw [zP]
   by_cases h1 : 1 < s.size
   ·rw [decide_eq_true (by omega), cond_true]
    obtain ⟨b, r, hl⟩ : ∃ b r, s.data.toList = b :: r := by
     cases h : s.data.toList with
     | nil => rw [h] at hsz; simp at hsz; omega
     | cons b r => exact ⟨b, r, rfl⟩
    have hg : getB s 0 = some ((b.toNat : Nat) : Int) := by
     have hg := zDd (show 0 < s.size by omega)
     have hg : getB s 0 = _ := hg
     rw [hg]
     simp only [hl]
     rfl
    rw [hg, Option.bind_some, zBN, beq_eq_false_iff_ne.2]
    intro e
    have hb : b = 45 := UInt8.toNat_inj.1 (by show b.toNat = 45; omega)
    refine hm ⟨r, by rw [hl, hb], ?_⟩
    intro hr
    rw [hl, hr] at hsz
    simp at hsz
    omega
   ·rw [decide_eq_false (by omega), cond_false]
  unfold zDF
  rw [hb4]
  simp only [Option.bind_some, cond_false, zL9]
  by_cases hc : canD s.data.toList = true ∧ s.size ≤ 10 ∧ dv s.data.toList ≤ 1000000
  ·left
   refine ⟨((dv s.data.toList : Nat) : Int), ⟨by omega, by omega⟩, ?_, ?_⟩
   ·rw [zF0 (by omega), Int.toNat_natCast, canD_back hc.1]
    rfl
   ·rw [if_pos ⟨hc.1, hc.2.1⟩, zP, zP, decide_eq_false (by omega), decide_eq_false (by omega)]
    rfl
  ·right
   constructor
   ·intro n hn e
    have e2 : s.data.toList = itoa n := zDX (by rw [← zKg s]; exact e)
    have hb := hn.1
    have hb2 := hn.2
    by_cases hneg : n < 0
    ·rw [zGm hneg] at e2
     exact hm ⟨_, e2, zKO _⟩
    ·rw [zF0 (by omega)] at e2
     apply hc
     rw [← hsz, e2]
     refine ⟨canD_dec _, ?_, ?_⟩
     ·have := dec_len7 (u := n.toNat) (by omega)
      omega
     ·rw [dv_dec]; omega
   ·rcases fin false s with h | ⟨h1, h2, h⟩
    ·rw [h]
     rfl
    ·rw [h, zP, zP, decide_eq_false (by omega), cond_false, decide_eq_true]
     ·rfl
     ·have : ¬ dv s.data.toList ≤ 1000000 := fun h4 => hc ⟨h1, h2, h4⟩
      omega
end Go.Proofs.YtfmjfofocklgpaaGreatDoor
namespace Go.Proofs.YtfmjfofocklgpaaGreatDoor
theorem dsc_value : zBK = zAt := rfl
theorem dsc_polar : zCp = zAl := rfl
theorem dsc_act : zDG = qF := rfl
theorem dsc_mul : qO = qG := rfl
theorem dsc_is (f : Int × Int × Int) : zCx f = jK f := by
 simp only [zCx, jK, qN, Option.bind_some]
theorem zFp (a m : Int) : zAS a m = zBr a m := by
 simp only [zAS, zBr, qA]
theorem dsc_floor (a m : Int) : ((zAS a m).bind fun y2 => (nz m).bind fun _ => sI (w64 (Int.tdiv (w64 (a - y2)) m)) fun t4 => some t4) = zAw a m := by
 simp only [zAw, zFp]
theorem dsc_normal (f : Int × Int × Int) : zEG f = zAw (w64 (f.1 - f.2.1)) (w64 (2 * f.1)) := dsc_floor _ _
theorem tmod_neg {a m : Int} (hm : 1 ≤ m) (h : a.tmod m < 0) : a.tmod m + m = a % m := by
 have e := Int.tmod_eq_emod (a := a) (b := m)
 have h1 := Int.emod_nonneg a (b := m) (by omega)
 have h2 := Int.emod_lt_of_pos a (b := m) (by omega)
 split at e <;> omega
theorem tmod_pos {a m : Int} (hm : 1 ≤ m) (h : 0 ≤ a.tmod m) : a.tmod m = a % m := by
 have e := Int.tmod_eq_emod (a := a) (b := m)
 have h1 := Int.emod_nonneg a (b := m) (by omega)
 have h2 := Int.emod_lt_of_pos a (b := m) (by omega)
 split at e <;> omega
theorem zBg {a m : Int} (h1 : 1 ≤ m) (h2 : m ≤ 9223372036854775807) : zBr a m = some (a % m) := by
 have h3 := Int.emod_nonneg a (b := m) (by omega)
 have h4 := Int.emod_lt_of_pos a (b := m) (by omega)
 have hz : nz m = some () := by
  unfold nz
  rw [zBN]
  have : (m == 0) = false := by rw [beq_eq_false_iff_ne]; omega
  rw [this]
  rfl
 simp only [zBr, hz, Option.bind_some, qA, zP]
 by_cases h : a.tmod m < 0
 ·rw [decide_eq_true h, cond_true, tmod_neg h1 h, zJ (by omega)]
 ·rw [decide_eq_false h, cond_false, tmod_pos h1 (by omega)]
theorem zFB {a m : Int} (h1 : 1 ≤ m) (h2 : m ≤ 4611686018427387904) (h3 : -4611686018427387904 ≤ a) (h4 : a ≤ 4611686018427387904) : zAw a m = some (a / m) := by
 have e1 := Int.emod_nonneg a (b := m) (by omega)
 have e2 := Int.emod_lt_of_pos a (b := m) (by omega)
 have hz : nz m = some () := by
  unfold nz
  rw [zBN]
  have : (m == 0) = false := by rw [beq_eq_false_iff_ne]; omega
  rw [this]
  rfl
 have e3 : a - a % m = m * (a / m) := by have := Int.emod_add_mul_ediv a m; omega
 have e4 : Int.tdiv (a - a % m) m = a / m := by rw [e3]; exact Int.mul_tdiv_cancel_left _ (by omega)
 have e5 : a / m ≤ 4611686018427387904 ∧ -4611686018427387904 ≤ a / m := by
  constructor
  ·rcases Int.lt_or_le a 0 with h | h
   ·have := Int.ediv_neg_of_neg_of_pos h (show 0 < m by omega); omega
   ·have := Int.ediv_le_self m h; omega
  ·have := Int.le_ediv_of_mul_le (c := m) (a := -4611686018427387904) (b := a) (by omega) (by
    have : -4611686018427387904 * m ≤ -4611686018427387904 := by omega
    omega)
   omega
 simp only [zAw, zBg h1 (by omega), hz, Option.bind_some, qA]
 rw [zJ (n := a - a % m) (by omega), e4, zJ (by omega)]
theorem dsc_step {a b c : Int} (ha : 1 ≤ a) (haM : a ≤ 2000000) (hb1 : -2000000 ≤ b) (hb2 : b ≤ 2000000) (hr : jK (a, b, c) = some false) : zDO (a, b, c) = qW (a, b, c) := by
 have hf := zFB (a := a - b) (m := 2 * a) (by omega) (by omega) (by omega) (by omega)
 have hn : qN (a, b, c) = some (decide (-a < b ∧ b ≤ a)) := by
  simp only [qN, Option.bind_some, zP, q9]
  rw [zJ (by omega)]
  by_cases h1 : -a < b <;> by_cases h2 : b ≤ a <;> simp [h1, h2]
  all_goals omega
 have hq : (a - b) / (2 * a) = 0 ↔ (-a < b ∧ b ≤ a) := by
  constructor
  ·intro h
   have h1 := Int.emod_add_mul_ediv (a - b) (2 * a)
   have h2 := Int.emod_nonneg (a - b) (b := 2 * a) (by omega)
   have h3 := Int.emod_lt_of_pos (a - b) (b := 2 * a) (by omega)
   rw [h] at h1
   omega
  ·rintro ⟨h1, h2⟩
   exact Int.ediv_eq_zero_of_lt (by omega) (by omega)
 simp only [zDO, qW, dsc_normal, dsc_is, hr, Option.bind_some, hn]
 rw [zJ (n := a - b) (by omega), zJ (n := 2 * a) (by omega), hf]
 simp only [Option.bind_some, cond_false, zBN]
 by_cases h : (a - b) / (2 * a) = 0
 ·have h2 := hq.1 h
  simp [h, h2]
 ·have h2 : ¬ (-a < b ∧ b ≤ a) := fun x => h (hq.2 x)
  have h3 : ((a - b) / (2 * a) == 0) = false := by rw [beq_eq_false_iff_ne]; exact h
  simp [h3, h2]
theorem zAX {n : Int} (h : n.natAbs ≤ 9223372036854775807) : w64 n = n := zJ (by omega)
theorem q7 {x y : Int} {A B : Nat} (hx : x.natAbs ≤ A) (hy : y.natAbs ≤ B) : (x * y).natAbs ≤ A * B := by
 rw [Int.natAbs_mul]; exact Nat.mul_le_mul hx hy
theorem zJc {a b c : Int} (ha : a.natAbs ≤ 2000000) (hb : b.natAbs ≤ 2000000) (hc : c.natAbs ≤ 2000000) : qF (a, b, c) (0, -1, 1, 0) = some (c, -b, a) := by
 simp only [qF, zAt, zAl, qA, Option.bind_some, Int.mul_zero, Int.zero_mul, Int.mul_one, Int.add_zero, Int.zero_add, Int.one_mul]
 rw [show w64 0 = 0 from rfl]
 simp only [Int.mul_zero, Int.zero_mul, Int.mul_one, Int.add_zero, Int.zero_add, Int.one_mul]
 rw [show w64 0 = 0 from rfl]
 simp only [Int.mul_zero, Int.zero_mul, Int.mul_one, Int.add_zero, Int.zero_add, Int.one_mul, Int.mul_neg, Int.neg_mul, Int.neg_neg]
 have e1 : w64 c = c := zAX (by omega)
 have e2 : w64 (-1) = -1 := rfl
 have e3 : w64 a = a := zAX (by omega)
 have e4 : w64 (-a) = -a := zAX (by omega)
 have e5 : w64 (-b) = -b := zAX (by omega)
 simp only [e1, e2, e3, e4, e5, Int.mul_neg, Int.neg_mul, Int.neg_neg, Int.mul_one, Int.one_mul, Int.add_zero, Int.zero_add, show w64 0 = 0 from rfl]
theorem zJd {a b c s : Int} (ha : a.natAbs ≤ 2000000) (hb : b.natAbs ≤ 2000000) (hc : c.natAbs ≤ 2000000) (hs : s.natAbs ≤ 2000000) : qF (a, b, c) (1, s, 0, 1) = some (a, 2 * a * s + b, a * s * s + b * s + c) := by
 have m1 := q7 ha hs
 have m2 := q7 hb hs
 have m3 := q7 m1 hs
 have m4 : (2 * a * s).natAbs ≤ 2 * 2000000 * 2000000 := q7 (q7 (x := 2) (A := 2) (by decide) ha) hs
 simp only [qF, zAt, zAl, qA, Option.bind_some, Int.mul_zero, Int.zero_mul, Int.mul_one, Int.add_zero, Int.zero_add, Int.one_mul]
 have z : w64 0 = 0 := rfl
 have o : w64 1 = 1 := rfl
 have e1 : w64 c = c := zAX (by omega)
 have e3 : w64 a = a := zAX (by omega)
 have e4 : w64 b = b := zAX (by omega)
 have e5 : w64 (2 * a) = 2 * a := zAX (by omega)
 have e6 : w64 (2 * a * s) = 2 * a * s := zAX (by omega)
 have e7 : w64 (a * s) = a * s := zAX (by omega)
 have e8 : w64 (a * s * s) = a * s * s := zAX (by omega)
 have e9 : w64 (b * s) = b * s := zAX (by omega)
 have e10 : w64 (a * s * s + b * s) = a * s * s + b * s := zAX (by omega)
 have e11 : w64 (a * s * s + b * s + c) = a * s * s + b * s + c := zAX (by omega)
 have e12 : w64 (2 * a * s + b) = 2 * a * s + b := zAX (by omega)
 simp only [z, o, e1, e3, e4, e5, e6, e7, e8, e9, e10, e11, e12, Int.mul_one, Int.one_mul, Int.add_zero, Int.zero_add, Int.mul_zero, Int.zero_mul]
theorem abs_val {n : Int} (h : n.natAbs ≤ 9223372036854775806) : zDb n = some (n.natAbs : Int) := by
 simp only [zDb, qA, mxI, zP]
 by_cases h1 : n < -9223372036854775807
 ·omega
 ·rw [decide_eq_false h1, cond_false, zJ (by omega)]
  by_cases h2 : n < 0 - n
  ·rw [decide_eq_true h2, cond_true]; congr 1; omega
  ·rw [decide_eq_false h2, cond_false]; congr 1; omega
theorem zJM {n : Int} (h : n.natAbs ≤ 9223372036854775806) : zDE n = some (n.natAbs : Int) := by
 simp only [zDE, zB8, Option.bind_some, zP]
 rw [zJ (by omega)]
 by_cases h2 : 0 - n < n
 ·rw [decide_eq_true h2, cond_true, Option.bind_some]; congr 1; omega
 ·rw [decide_eq_false h2, cond_false, Option.bind_some]; congr 1; omega
theorem zFI {b : Int} (h : b ≠ 0) : nz b = some () := by
 unfold nz
 rw [zBN]
 have : (b == 0) = false := by rw [beq_eq_false_iff_ne]; exact h
 rw [this]
 rfl
theorem zDn {a b : Int} (h : a ≠ b) : eqI a b = false := by rw [zBN, beq_eq_false_iff_ne]; exact h
theorem zDN (a : Int) : eqI a a = true := by rw [zBN]; exact beq_self_eq_true a
theorem zIP (a b : Int) : Int.gcd b (a.tmod b) = Int.gcd a b := by
 unfold Int.gcd
 rw [Int.natAbs_tmod, Nat.gcd_comm, ← Nat.gcd_rec, Nat.gcd_comm]
theorem gcd_two {x y : Nat} (k : Nat) (hy : 0 < y) (hxy : y < x) (h : x < 2 ^ (k + 1)) : x % y < 2 ^ k := by
 have h1 := Nat.mod_lt x hy
 have h2 := Nat.div_add_mod x y
 have h3 : 1 ≤ x / y := Nat.div_pos (Nat.le_of_lt hxy) hy
 have h4 : y * 1 ≤ y * (x / y) := Nat.mul_le_mul_left y h3
 rw [Nat.pow_succ] at h
 omega
theorem gcd_run : ∀ (k n : Nat) (a b : Int), b.natAbs < 2 ^ k → 2 * k + 1 ≤ n → ∃ r, zA6 n a b = some r ∧ r.natAbs = Int.gcd a b
 | k, 0, a, b, _, hn => by omega
 | 0, n + 1, a, b, hb, hn => by
  have : b = 0 := by simp at hb; omega
  subst this
  unfold zA6
  rw [zDN]
  exact ⟨a, rfl, by simp⟩
 | k + 1, n + 1, a, b, hb, hn => by
  unfold zA6
  by_cases h0 : b = 0
  ·subst h0
   rw [zDN]
   exact ⟨a, rfl, by simp⟩
  ·rw [zDn h0, zFI h0]
   simp only [Bool.not_false, cond_true, Option.bind_some, qA]
   rw [← zIP a b]
   match n, hn with
   | n + 1, hn =>
    unfold zA6
    by_cases h1 : a.tmod b = 0
    ·rw [h1, zDN]
     exact ⟨b, rfl, by simp⟩
    ·rw [zDn h1, zFI h1]
     simp only [Bool.not_false, cond_true, Option.bind_some, qA]
     rw [← zIP b (a.tmod b)]
     refine gcd_run k n _ _ ?_ (by omega)
     rw [Int.natAbs_tmod]
     have h2 : (a.tmod b).natAbs < b.natAbs := by rw [Int.natAbs_tmod]; exact Nat.mod_lt _ (by omega)
     exact gcd_two k (by omega) h2 hb
theorem FU_succ (k : Nat) (h : k ≤ 1000000) : k ≤ FU := Nat.le_trans h (by decide)
theorem gcd_le {a b : Int} {M : Nat} (ha : a.natAbs ≤ M) (hb : b.natAbs ≤ M) : Int.gcd a b ≤ M := by
 by_cases h : b = 0
 ·subst h; simpa using ha
 ·have : Int.gcd a b ∣ b.natAbs := Nat.gcd_dvd_right _ _
  exact Nat.le_trans (Nat.le_of_dvd (by omega) this) hb
theorem zLC {a b : Int} (ha : a.natAbs ≤ 9223372036854775806) (hb : b.natAbs ≤ 9223372036854775806) : zDa a b = some (Int.gcd a b : Int) := by
 obtain ⟨r, h1, h2⟩ := gcd_run 64 FU a b (by omega) (FU_succ 129 (by decide))
 have h3 := gcd_le ha hb
 simp only [zDa, h1, Option.bind_some, abs_val (n := r) (by omega), h2]
theorem sgcd_run : ∀ (n : Nat) (a b : Int), zA3 n a b = zA6 n a b
 | 0, a, b => rfl
 | n + 1, a, b => by
  unfold zA3 zA6
  simp only [qA, sgcd_run n]
theorem zIa (a b : Int) : Int.gcd (a.natAbs : Int) (b.natAbs : Int) = Int.gcd a b := by unfold Int.gcd; simp
theorem nn_run : ∀ (n : Nat) (a b r : Int), 0 ≤ a → 0 ≤ b → zA6 n a b = some r → 0 ≤ r
 | 0, a, b, r, _, _, h => by cases h
 | n + 1, a, b, r, ha, hb, h => by
  unfold zA6 at h
  by_cases h0 : b = 0
  ·subst h0
   rw [zDN] at h
   have h : some a = some r := h
   injection h with h
   omega
  ·rw [zDn h0, zFI h0] at h
   simp only [Bool.not_false, cond_true, Option.bind_some, qA] at h
   exact nn_run n _ _ _ hb (Int.tmod_nonneg _ ha) h
theorem zHV {a b : Int} (ha : a.natAbs ≤ 9223372036854775806) (hb : b.natAbs ≤ 9223372036854775806) : zAv a b = some (Int.gcd a b : Int) := by
 obtain ⟨r, h1, h2⟩ := gcd_run 64 FU (a.natAbs : Int) (b.natAbs : Int) (by omega) (FU_succ 129 (by decide))
 have h3 := nn_run _ _ _ _ (by omega) (by omega) h1
 rw [zIa] at h2
 simp only [zAv, zJM ha, zJM hb, Option.bind_some, sgcd_run, h1]
 congr 1
 omega
def inN (x : Int) : Bool := leI (-1000000) x && leI x 1000000
theorem zEJ {x : Int} : inN x = true ↔ -1000000 ≤ x ∧ x ≤ 1000000 := by
 unfold inN
 rw [q9, q9]
 simp
theorem num_run (l : List Int) (hl : l.length < 1000000) : ∀ (n i : Nat), i ≤ l.length → l.length - i < n → zBD l n (i : Int) = some (if (l.drop i).all inN then .inl () else .inr false)
 | 0, i, _, h => by omega
 | n + 1, i, hi, h => by
  unfold zBD
  rw [zP]
  by_cases h1 : (i : Int) < (l.length : Int)
  ·have h2 : i < l.length := by omega
   rw [decide_eq_true h1, cond_true]
   have h3 : getI l (i : Int) = some l[i] := by
    unfold getI
    rw [q9, decide_eq_true (by omega : (0 : Int) ≤ (i : Int)), cond_true]
    simp [h2]
   rw [h3, Option.bind_some, List.drop_eq_getElem_cons h2, List.all_cons]
   simp only [zP, inN, q9, qA]
   rw [zJ (by omega)]
   have ih := num_run l hl n (i + 1) (by omega) (by omega)
   rw [show ((i : Int) + 1) = ((i + 1 : Nat) : Int) by omega, ih]
   by_cases h4 : l[i] < -1000000
   ·have h6 : ¬ (-1000000 ≤ l[i]) := by omega
    simp [h4, h6]
   ·by_cases h5 : 1000000 < l[i]
    ·have h6 : ¬ (l[i] ≤ 1000000) := by omega
     simp [h4, h5, h6]
    ·have h6 : -1000000 ≤ l[i] := by omega
     have h7 : l[i] ≤ 1000000 := by omega
     simp only [h4, h5, h6, h7, decide_true, decide_false, cond_false, cond_true, Bool.and_true, Bool.true_and]
  ·rw [decide_eq_false h1, cond_false, List.drop_eq_nil_of_le (by omega)]
   rfl
theorem num_val (l : List Int) (hl : l.length < 1000000) : zC4 l = some (l.all inN) := by
 have h := num_run l hl FU 0 (Nat.zero_le _) (by (have : (1000000 : Nat) ≤ FU := by decide); omega)
 simp only [zC4, show (0 : Int) = ((0 : Nat) : Int) from rfl, h, List.drop_zero]
 cases l.all inN <;> rfl
theorem good_val (n : Int) : zCb n = some (inN n) := by
 simp only [zCb, jQ, Option.bind_some, inN]
 cases leI (-1000000) n <;> rfl
theorem zGU (f : Int × Int × Int) : zDR f = some (inN f.1 && (inN f.2.1 && inN f.2.2)) := by
 simp only [zDR, num_val _ (show [f.1, f.2.1, f.2.2].length < 1000000 by simp), Option.bind_some, List.all_cons, List.all_nil, Bool.and_true]
theorem sform_val (f : Int × Int × Int) : zDQ f = some (inN f.1 && (inN f.2.1 && inN f.2.2)) := by
 simp only [zDQ, good_val, Option.bind_some]
 cases inN f.1 <;> cases inN f.2.1 <;> cases inN f.2.2 <;> rfl
theorem zLF : zAM = qI := rfl
theorem disc_val {a b c : Int} (ha : inN a = true) (hb : inN b = true) (hc : inN c = true) : qI (a, b, c) = some (b * b - 4 * a * c) := by
 rw [zEJ] at ha hb hc
 have m1 := q7 (x := b) (y := b) (A := 1000000) (B := 1000000) (by omega) (by omega)
 have m2 := q7 (x := 4 * a) (y := c) (A := 4000000) (B := 1000000) (by omega) (by omega)
 simp only [qI, qA]
 rw [zAX (n := b * b) (by omega), zAX (n := 4 * a) (by omega), zAX (n := 4 * a * c) (by omega), zAX (by omega)]
theorem def_val (f : Int × Int × Int) : zC2 f = zAU f := by
 simp only [zC2, zAU, zGU, sform_val, zLF]
theorem shown_val (f : Int × Int × Int) : zDv f = jT f := by
 simp only [zDv, jT, def_val, zLF]
theorem zFq {a b c : Int} (ha : inN a = true) (hb : inN b = true) (hc : inN c = true) : zBx (a, b, c) = some (Int.gcd a (Int.gcd b c) : Int) := by
 rw [zEJ] at ha hb hc
 have h := gcd_le (a := b) (b := c) (M := 1000000) (by omega) (by omega)
 simp only [zBx, zLC (a := b) (b := c) (by omega) (by omega), Option.bind_some]
 rw [zLC (by omega) (by omega)]
 rfl
theorem scontent_val {a b c : Int} (ha : inN a = true) (hb : inN b = true) (hc : inN c = true) : zA9 (a, b, c) = some (Int.gcd a (Int.gcd b c) : Int) := by
 rw [zEJ] at ha hb hc
 have h := gcd_le (a := a) (b := b) (M := 1000000) (by omega) (by omega)
 simp only [zA9, zHV (a := a) (b := b) (by omega) (by omega), Option.bind_some]
 rw [zHV (by omega) (by omega), Option.bind_some]
 congr 2
 unfold Int.gcd
 simp [Nat.gcd_assoc]
theorem zIi {a b c : Int} (h : jT (a, b, c) = some true) : inN a = true ∧ inN b = true ∧ inN c = true ∧ b * b - 4 * a * c < 0 ∧ -2000 ≤ b * b - 4 * a * c ∧ 0 < a := by
 simp only [jT, zAU, zGU, Option.bind_some] at h
 cases ha : inN a <;> cases hb : inN b <;> cases hc : inN c <;> simp only [ha, hb, hc, Bool.and_true, Bool.and_false, Bool.true_and, Bool.false_and, cond_true, cond_false, Option.bind_some] at h
 all_goals first
  | (exfalso; exact absurd (zB h) (by decide))
  | skip
 rw [disc_val ha hb hc] at h
 simp only [Option.bind_some, zP, q9] at h
 by_cases h1 : b * b - 4 * a * c < 0 <;> by_cases h2 : 0 < a <;> by_cases h3 : -2000 ≤ b * b - 4 * a * c <;> simp [h1, h2, h3] at h
 exact ⟨rfl, rfl, rfl, h1, h3, h2⟩
theorem def_some (f : Int × Int × Int) : ∃ b, zAU f = some b := by
 simp only [zAU, zGU, Option.bind_some, qI, qA]
 cases (inN f.1 && (inN f.2.1 && inN f.2.2)) <;> exact ⟨_, rfl⟩
theorem zIj (f : Int × Int × Int) : ∃ b, jT f = some b := by
 obtain ⟨b, hb⟩ := def_some f
 simp only [jT, hb, Option.bind_some, qI, qA]
 cases b <;> exact ⟨_, rfl⟩
theorem class_val (f : Int × Int × Int) : zCc f = qC f := by
 simp only [zCc, qC, shown_val]
 obtain ⟨b, hb⟩ := zIj f
 rw [hb]
 cases b with
 | false => rfl
 | true =>
  obtain ⟨a, b, c⟩ := f
  obtain ⟨ha, hb, hc, _⟩ := zIi hb
  simp only [Option.bind_some, cond_true, zFq ha hb hc, scontent_val ha hb hc]
theorem zIx (f : Int × Int × Int) : ∃ b, qC f = some b := by
 obtain ⟨b, hb⟩ := zIj f
 simp only [qC, hb, Option.bind_some]
 cases b with
 | false => exact ⟨_, rfl⟩
 | true =>
  obtain ⟨a, b, c⟩ := f
  obtain ⟨ha, hb, hc, _⟩ := zIi hb
  simp only [Option.bind_some, cond_true, zFq ha hb hc]
  exact ⟨_, rfl⟩
theorem zGq {a b c : Int} (h : qC (a, b, c) = some true) : inN a = true ∧ inN b = true ∧ inN c = true ∧ b * b - 4 * a * c < 0 ∧ -2000 ≤ b * b - 4 * a * c ∧ 0 < a ∧ Int.gcd a (Int.gcd b c) = 1 := by
 simp only [qC] at h
 obtain ⟨s, hs⟩ := zIj (a, b, c)
 rw [hs] at h
 cases s with
 | false => exfalso; exact absurd (zB h) (by decide)
 | true =>
  obtain ⟨h1, h2, h3, h4, h5, h6⟩ := zIi hs
  simp only [Option.bind_some, cond_true, zFq h1 h2 h3, zBN] at h
  have h7 := zB h
  refine ⟨h1, h2, h3, h4, h5, h6, ?_⟩
  have := eq_of_beq h7
  omega
end Go.Proofs.YtfmjfofocklgpaaGreatDoor
namespace Go.Proofs.YtfmjfofocklgpaaGreatDoor
open Go.Lib
def jn (c : UInt8) : List (List UInt8) → List UInt8
 | [] => []
 | [w] => w
 | w :: v :: ws => w ++ c :: jn c (v :: ws)
theorem zGl (c : UInt8) (w : List UInt8) {ws : List (List UInt8)} (h : ws ≠ []) : jn c (w :: ws) = w ++ c :: jn c ws := by
 cases ws with
 | nil => exact absurd rfl h
 | cons v ws => rfl
theorem jn_spl (c : UInt8) : ∀ l, jn c (spl c l) = l
 | [] => rfl
 | b :: l => by
  have ih := jn_spl c l
  by_cases h : b = c
  ·subst h
   rw [zJr, zGl _ _ (zJq b l), ih]
   rfl
  ·cases e : spl c l with
   | nil => exact absurd e (zJq c l)
   | cons w ws =>
    rw [zEY h e]
    rw [e] at ih
    cases ws with
    | nil =>
     show b :: w = b :: l
     have ih : w = l := ih
     rw [ih]
    | cons v ws =>
     rw [zGl _ _ (by simp)] at ih ⊢
     rw [List.cons_append, ih]
theorem spl_jn (c : UInt8) : ∀ ws : List (List UInt8), ws ≠ [] → (∀ w ∈ ws, ∀ b ∈ w, b ≠ c) → spl c (jn c ws) = ws
 | [], h, _ => absurd rfl h
 | [w], _, h => spl_one w (h w (List.mem_singleton.2 rfl))
 | w :: v :: ws, _, h => by
  rw [zGl _ _ (by simp), spl_word w _ (h w (List.mem_cons_self ..)), spl_jn c (v :: ws) (by simp) fun x hx => h x (List.mem_cons_of_mem _ hx)]
theorem foInts_run (ws : List (List UInt8)) (hw : ws.length ≤ 100000001) : ∀ (m n k : Nat) (acc : List Int), ws.length - k = m → m < n → k ≤ ws.length → acc.length ≤ k →
  (∃ ns : List Int, (∀ x ∈ ns, NB x) ∧ ws.drop k = ns.map itoa ∧ zAL (ws.map bl) n (k : Int) acc = some (.inl (acc ++ ns))) ∨
  ((∀ ns : List Int, (∀ x ∈ ns, NB x) → ws.drop k ≠ ns.map itoa) ∧ zAL (ws.map bl) n (k : Int) acc = some (.inr [])) := by
 intro m
 induction m with
 | zero =>
  intro n k acc hk hn hkl ha
  obtain ⟨n, rfl⟩ : ∃ m, n = m + 1 := ⟨n - 1, by omega⟩
  left
  refine ⟨[], (fun x h => by cases h), by rw [List.drop_of_length_le (by omega)]; rfl, ?_⟩
  unfold zAL
  rw [zP, List.length_map, decide_eq_false (by omega), cond_false, List.append_nil]
 | succ m ih =>
  intro n k acc hk hn hkl ha
  obtain ⟨n, rfl⟩ : ∃ m, n = m + 1 := ⟨n - 1, by omega⟩
  have hlt : k < ws.length := by omega
  have hdr : ws.drop k = ws[k]'hlt :: ws.drop (k + 1) := List.drop_eq_getElem_cons hlt
  have hg : getI (ws.map bl) (k : Int) = some (bl (ws[k]'hlt)) := by
   rw [zDV (by rw [List.length_map]; exact hlt), List.getElem_map]
  generalize ws[k]'hlt = w at hdr hg
  unfold zAL
  rw [zP, List.length_map, decide_eq_true (by omega), cond_true]
  simp only [hg, Option.bind_some, hdr]
  rcases foInt_spec (bl w) with ⟨x, hx, hw1, hw2⟩ | ⟨hw1, hw2⟩
  ·have hw1 := zDX hw1
   subst hw1
   simp only [hw2, Option.bind_some, Bool.not_true, cond_false, qA]
   rw [zCA (by simp; omega), Option.bind_some, zCC (by omega)]
   rcases ih n (k + 1) (acc ++ [x]) (by omega) (by omega) (by omega) (by simp; omega) with ⟨ns, h1, h2, h3⟩ | ⟨h1, h3⟩
   ·left
    refine ⟨x :: ns, fun y hy => ?_, by rw [h2]; rfl, ?_⟩
    ·rcases List.mem_cons.1 hy with rfl | hy
     ·exact hx
     ·exact h1 y hy
    ·rw [h3, List.append_assoc]
     rfl
   ·right
    refine ⟨fun ns hns e => ?_, h3⟩
    cases ns with
    | nil => cases e
    | cons y ns =>
     injection e with _ e
     exact h1 ns (fun z hz => hns z (List.mem_cons_of_mem _ hz)) e
  ·right
   simp only [hw2, Option.bind_some, Bool.not_false, cond_true]
   refine ⟨fun ns hns e => ?_, trivial⟩
   cases ns with
   | nil => cases e
   | cons y ns =>
    injection e with e _
    exact hw1 y (hns y (List.mem_cons_self ..)) (by rw [e])
theorem zK9 {c : UInt8} (hc : isN c = false) (s : ByteArray) (hs : s.size ≤ 100000000) {cnt : Nat} (h1 : 1 ≤ cnt) :
  (∃ ns : List Int, (∀ x ∈ ns, NB x) ∧ ns.length = cnt ∧ s = bl (jn c (ns.map itoa)) ∧ zB9 s ((c.toNat : Nat) : Int) (cnt : Int) = some ns) ∨
  ((∀ ns : List Int, (∀ x ∈ ns, NB x) → ns.length = cnt → s ≠ bl (jn c (ns.map itoa))) ∧ zB9 s ((c.toNat : Nat) : Int) (cnt : Int) = some []) := by
 have hF : 200000000 < FU := by decide
 have back : ∀ ns : List Int, ns.length = cnt → s = bl (jn c (ns.map itoa)) → spl c s.data.toList = ns.map itoa := by
  intro ns hl e
  rw [e, zBX]
  refine spl_jn c _ (fun h => ?_) fun w hw => ?_
  ·have := congrArg List.length h
   simp at this
   rw [this] at hl
   simp at hl
   omega
  ·obtain ⟨n, _, rfl⟩ := List.mem_map.1 hw
   exact zFZ n c hc
 have hlen := zKw c s.data.toList
 have hsz : s.data.toList.length = s.size := rfl
 unfold zB9
 rw [zHh s c hs, Option.bind_some, List.length_map]
 by_cases hcnt : (spl c s.data.toList).length = cnt
 ·rw [hcnt, zEu, Bool.not_true, cond_false]
  have hr := foInts_run (spl c s.data.toList) (by omega) _ FU 0 [] rfl (by omega) (by omega) (by simp)
  simp only [List.drop_zero, List.nil_append] at hr
  rcases hr with ⟨ns, a1, a2, a3⟩ | ⟨a1, a3⟩
  ·have a3 : zAL ((spl c s.data.toList).map bl) FU 0 [] = _ := a3
   refine .inl ⟨ns, a1, by rw [← hcnt, a2, List.length_map], ?_, ?_⟩
   ·rw [← a2, jn_spl]
    rfl
   ·rw [a3]
    rfl
  ·have a3 : zAL ((spl c s.data.toList).map bl) FU 0 [] = _ := a3
   refine .inr ⟨fun ns b1 b2 b3 => a1 ns b1 (back ns b2 b3), ?_⟩
   rw [a3]
   rfl
 ·refine .inr ⟨fun ns b1 b2 b3 => hcnt ?_, ?_⟩
  ·rw [back ns b2 b3, List.length_map, b2]
  ·rw [eqNe (by omega), Bool.not_false, cond_true]
theorem foInside_spec (s : ByteArray) (hs : s.size ≤ 100000000) (a z : UInt8) : (∃ m, s = bl (a :: (m ++ [z])) ∧ zBU s ((a.toNat : Nat) : Int) ((z.toNat : Nat) : Int) = some (bl m, true)) ∨
  ((∀ m, s ≠ bl (a :: (m ++ [z]))) ∧ zBU s ((a.toNat : Nat) : Int) ((z.toNat : Nat) : Int) = some (bl [], false)) := by
 have hsz : s.data.toList.length = s.size := rfl
 unfold zBU
 rw [zP]
 by_cases h2 : s.size < 2
 ·refine .inr ⟨fun m e => ?_, ?_⟩
  ·rw [e, jI] at h2
   simp at h2
   omega
  ·rw [decide_eq_true (by omega)]
   rfl
 ·have hg0 := zDd (show 0 < s.size by omega)
  have hg0 : getB s 0 = _ := hg0
  have hg1 := zDd (show s.size - 1 < s.size by omega)
  have e1 : w64 (((s.size : Nat) : Int) - 1) = ((s.size - 1 : Nat) : Int) := by rw [zJ (by omega)]; omega
  have hl0 : s.data.toList = s.data.toList[0] :: s.data.toList.drop 1 := by
   have := List.drop_eq_getElem_cons (l := s.data.toList) (i := 0) (by omega)
   simpa using this
  have hl1 : s.data.toList.drop 1 = (s.data.toList.drop 1).take (s.size - 1 - 1) ++ [s.data.toList[s.size - 1]'(by omega)] := by
   have h3 : (s.data.toList.drop 1).drop (s.size - 1 - 1) = [s.data.toList[s.size - 1]'(by omega)] := by
    rw [List.drop_drop, show 1 + (s.size - 1 - 1) = s.size - 1 by omega, List.drop_eq_getElem_cons (by omega), List.drop_of_length_le (by omega)]
   rw [← h3, List.take_append_drop]
  generalize s.data.toList[0]'(by omega) = b0 at hg0 hl0
  generalize s.data.toList[s.size - 1]'(by omega) = b1 at hg1 hl1
  rw [decide_eq_false (by omega), cond_false, hg0, e1, hg1]
  simp only [Option.bind_some, zBN, zLJ]
  by_cases hb0 : b0 = a
  ·subst hb0
   simp only [decide_true, Bool.not_true, cond_false, Option.bind_some]
   by_cases hb1 : b1 = z
   ·subst hb1
    simp only [decide_true, Bool.not_true, cond_false]
    refine .inl ⟨(s.data.toList.drop 1).take (s.size - 1 - 1), ?_, ?_⟩
    ·rw [← hl1, ← hl0]
     rfl
    ·have hsl : slc s.size 1 ((s.size - 1 : Nat) : Int) = some () := zEk (l := 1) (by omega) (by omega)
     rw [hsl]
     simp only [Option.bind_some, show Int.toNat 1 = 1 from rfl, Int.toNat_natCast, zHm]
   ·refine .inr ⟨fun m e => hb1 ?_, ?_⟩
    ·have h4 : s.data.toList = b0 :: (m ++ [z]) := by rw [e, zBX]
     have h5 : b0 :: ((s.data.toList.drop 1).take (s.size - 1 - 1) ++ [b1]) = b0 :: (m ++ [z]) := by rw [← hl1, ← hl0]; exact h4
     injection h5 with _ h5
     have := congrArg List.getLast? h5
     simpa using this
    ·simp only [decide_eq_false hb1, Bool.not_false, cond_true]
     rfl
  ·refine .inr ⟨fun m e => hb0 ?_, ?_⟩
   ·have h4 : s.data.toList = a :: (m ++ [z]) := by rw [e, zBX]
    rw [hl0] at h4
    injection h4
   ·simp only [decide_eq_false hb0, Bool.not_false, cond_true, Option.bind_some]
    rfl
def FB (f : Int × Int × Int) : Prop := NB f.1 ∧ NB f.2.1 ∧ NB f.2.2
theorem fB_jn (f : Int × Int × Int) : fB f = 40 :: (jn 44 ([f.1, f.2.1, f.2.2].map itoa) ++ [41]) := by
 simp [fB, jn]
theorem fB_inj {f g : Int × Int × Int} (h : fB f = fB g) : f = g := by
 have h1 := zHl f
 rw [h, zHl g] at h1
 obtain ⟨a, b, c⟩ := f
 obtain ⟨a', b', c'⟩ := g
 simp only [List.cons.injEq, and_true] at h1
 have inj : ∀ {x y : Int}, bl (itoa x) = bl (itoa y) → x = y := fun {x y} e => by
  have e := zDX e
  have h2 := zG0 x
  rw [e, zG0 y] at h2
  exact (Option.some.inj h2).symm
 rw [inj h1.1, inj h1.2.1, inj h1.2.2]
theorem zK8 (s : ByteArray) (hs : s.size ≤ 100000000) : (∃ f, FB f ∧ s = bl (fB f) ∧ zCF s = some (f, true)) ∨ ((∀ f, FB f → s ≠ bl (fB f)) ∧ zCF s = some ((0, 0, 0), false)) := by
 unfold zCF
 rcases foInside_spec s hs 40 41 with ⟨m, h1, h2⟩ | ⟨h1, h2⟩
 ·have h2 : zBU s 40 41 = _ := h2
  rw [h2, Option.bind_some]
  have hm : (bl m).size ≤ 100000000 := by
   rw [h1, jI] at hs
   rw [jI]
   simp at hs
   omega
  rcases zK9 (c := 44) (by decide) (bl m) hm (cnt := 3) (by omega) with ⟨ns, a1, a2, a3, a4⟩ | ⟨a1, a4⟩
  ·have a4 : zB9 (bl m) 44 3 = _ := a4
   match ns, a2 with
   | [a, b, c], _ =>
    refine .inl ⟨(a, b, c), ⟨a1 a (by simp), a1 b (by simp), a1 c (by simp)⟩, ?_, ?_⟩
    ·rw [h1, fB_jn, zDX a3]
    ·rw [a4]
     rfl
  ·have a4 : zB9 (bl m) 44 3 = _ := a4
   refine .inr ⟨fun f hf e => ?_, ?_⟩
   ·rw [h1, fB_jn] at e
    have e := zDX e
    injection e with _ e
    have e := List.append_cancel_right e
    refine a1 [f.1, f.2.1, f.2.2] (fun x hx => ?_) rfl (by rw [e])
    simp only [List.mem_cons, List.not_mem_nil, or_false] at hx
    rcases hx with rfl | rfl | rfl
    ·exact hf.1
    ·exact hf.2.1
    ·exact hf.2.2
   ·rw [a4]
    rfl
 ·have h2 : zBU s 40 41 = _ := h2
  rw [h2, Option.bind_some]
  have h3 : ∃ l, zB9 (bl []) 44 3 = some l := by
   rcases zK9 (c := 44) (by decide) (bl []) (by decide) (cnt := 3) (by omega) with ⟨ns, _, _, _, a4⟩ | ⟨_, a4⟩
   ·exact ⟨_, a4⟩
   ·exact ⟨_, a4⟩
  obtain ⟨l, h3⟩ := h3
  refine .inr ⟨fun f hf e => h1 _ (by rw [e, fB_jn]), ?_⟩
  rw [h3]
  rfl
theorem pOf_pN : pOf zBQ = pN := by
 funext x
 unfold pOf pN zBQ
 simp only [Option.bind_some, Option.getD_some, zBN, zP]
 have e : ((x : Int) == 45) = (x == 45) := by rw [Bool.eq_iff_iff, beq_iff_eq, beq_iff_eq]; omega
 have e1 : decide ((x : Int) < 48) = decide (x < 48) := by rw [decide_eq_decide]; omega
 have e2 : decide ((57 : Int) < (x : Int)) = decide (57 < x) := by rw [decide_eq_decide]; omega
 rw [e, e1, e2]
 cases h1 : (x == 45) <;> cases h2 : decide (x < 48) <;> cases h3 : decide (57 < x) <;> simp_all [bne]
theorem zGM (p : Nat → Bool) (s : ByteArray) : ∀ (f pos : Nat) (st : Option Nat) (acc : List (Nat × Nat)), (Go.Lib.spansFromP p s f pos st acc).1.length ≤ acc.length + f
 | 0, pos, st, acc => by simp [Go.Lib.spansFromP]
 | f + 1, pos, st, acc => by
  unfold Go.Lib.spansFromP
  split
  ·split
   ·split
    ·have := zGM p s f (pos + (Utf8.decode s pos).2) none (acc ++ [(‹Nat›, pos)])
     simp at this ⊢
     omega
    ·have := zGM p s f (pos + (Utf8.decode s pos).2) none acc
     omega
   ·split
    ·have := zGM p s f (pos + (Utf8.decode s pos).2) (some ‹Nat›) acc
     omega
    ·have := zGM p s f (pos + (Utf8.decode s pos).2) (some pos) acc
     omega
  ·simp
theorem fields_len (p : Nat → Bool) (s : ByteArray) : (goFieldsP p s).length ≤ s.size + 1 := by
 have h := zGM p s s.size 0 none []
 unfold goFieldsP Go.Lib.spansOfP
 rw [List.length_map]
 generalize Go.Lib.spansFromP p s s.size 0 none [] = x at h
 obtain ⟨acc, st⟩ := x
 cases st with
 | none => simp [Go.Lib.closeSpans] at h ⊢; omega
 | some a => simp [Go.Lib.closeSpans] at h ⊢; omega
theorem fields_size (p : Nat → Bool) (s : ByteArray) : ∀ w ∈ goFieldsP p s, w.size ≤ s.size := by
 intro w hw
 unfold goFieldsP at hw
 obtain ⟨x, _, rfl⟩ := List.mem_map.1 hw
 rw [zHm, jI]
 have : s.data.toList.length = s.size := rfl
 simp
 omega
theorem ints_tot (ws : List ByteArray) (hw : ws.length ≤ 100000001) (hz : ∀ w ∈ ws, w.size ≤ 100000000) : ∀ (m n k : Nat) (acc : List Int), ws.length - k = m → m < n → k ≤ ws.length → acc.length ≤ k → ∃ r, qR ws n (k : Int) acc = some r := by
 intro m
 induction m with
 | zero =>
  intro n k acc hk hn hkl ha
  obtain ⟨n, rfl⟩ : ∃ m, n = m + 1 := ⟨n - 1, by omega⟩
  unfold qR
  rw [zP, decide_eq_false (by omega), cond_false]
  exact ⟨_, rfl⟩
 | succ m ih =>
  intro n k acc hk hn hkl ha
  obtain ⟨n, rfl⟩ : ∃ m, n = m + 1 := ⟨n - 1, by omega⟩
  have hlt : k < ws.length := by omega
  have hg : getI ws (k : Int) = some (ws[k]'hlt) := zDV hlt
  have hs := hz _ (List.getElem_mem hlt)
  generalize ws[k]'hlt = w at hg hs
  unfold qR
  rw [zP, decide_eq_true (by omega), cond_true]
  obtain ⟨r, hr⟩ := atoi_some w (by omega)
  simp only [hg, Option.bind_some, hr]
  cases r.2 with
  | false => exact ⟨_, rfl⟩
  | true =>
   simp only [Bool.not_true, cond_false, qA]
   rw [zCA (by simp; omega), Option.bind_some, zCC (by omega)]
   exact ih n (k + 1) _ (by omega) (by omega) (by omega) (by simp; omega)
theorem intsIn_tot (s : ByteArray) (hs : s.size ≤ 100000000) : ∃ l, zBM s = some l := by
 have hF : 200000000 < FU := by decide
 have hl := fields_len pN s
 obtain ⟨r, hr⟩ := ints_tot (goFieldsP pN s) (by omega) (fun w hw => by have := fields_size pN s w hw; omega) _ FU 0 [] rfl (by omega) (by omega) (by simp)
 have hr : qR (goFieldsP pN s) FU 0 [] = _ := hr
 unfold zBM zAy
 rw [pOf_pN, if_pos (by omega), Option.bind_some, hr]
 cases r with
 | inl x => exact ⟨_, rfl⟩
 | inr x => exact ⟨_, rfl⟩
theorem ints_run (ns : List Int) (hw : ns.length ≤ 1000) (hz : ∀ x ∈ ns, NB x) : ∀ (m n k : Nat) (acc : List Int), ns.length - k = m → m < n → k ≤ ns.length → acc.length ≤ k → qR (ns.map fun x => bl (itoa x)) n (k : Int) acc = some (.inl (acc ++ ns.drop k)) := by
 intro m
 induction m with
 | zero =>
  intro n k acc hk hn hkl ha
  obtain ⟨n, rfl⟩ : ∃ m, n = m + 1 := ⟨n - 1, by omega⟩
  unfold qR
  rw [zP, List.length_map, decide_eq_false (by omega), cond_false, List.drop_of_length_le (by omega), List.append_nil]
 | succ m ih =>
  intro n k acc hk hn hkl ha
  obtain ⟨n, rfl⟩ : ∃ m, n = m + 1 := ⟨n - 1, by omega⟩
  have hlt : k < ns.length := by omega
  have hg : getI (ns.map fun x => bl (itoa x)) (k : Int) = some (bl (itoa (ns[k]'hlt))) := by
   rw [zDV (by rw [List.length_map]; exact hlt), List.getElem_map]
  have hdr : ns.drop k = ns[k]'hlt :: ns.drop (k + 1) := List.drop_eq_getElem_cons hlt
  have hs := hz _ (List.getElem_mem hlt)
  generalize ns[k]'hlt = w at hg hs hdr
  unfold qR
  rw [zP, List.length_map, decide_eq_true (by omega), cond_true]
  simp only [hg, Option.bind_some, atoi_val hs.1 hs.2, Bool.not_true, cond_false, qA]
  rw [zCA (by simp; omega), Option.bind_some, zCC (by omega), ih n (k + 1) _ (by omega) (by omega) (by omega) (by simp; omega), hdr, List.append_assoc]
  rfl
theorem intsIn_of {s : ByteArray} (hs : s.size ≤ 100000000) {ns : List Int} (hw : ns.length ≤ 1000) (hz : ∀ x ∈ ns, NB x) (h : goFieldsP pN s = ns.map fun x => bl (itoa x)) : zBM s = some ns := by
 have hF : 200000000 < FU := by decide
 have hr := ints_run ns hw hz _ FU 0 [] rfl (by omega) (by omega) (by simp)
 have hr : qR (ns.map fun x => bl (itoa x)) FU 0 [] = _ := hr
 unfold zBM zAy
 rw [pOf_pN, if_pos (by omega), Option.bind_some, h, hr]
 rfl
theorem zEA {n : Int} (h : NB n) : sm18 n := by
 have h1 := h.1
 have h2 := h.2
 exact ⟨by omega, by omega⟩
theorem zGi {n : Int} : NB n ↔ inN n = true := by
 unfold NB inN
 rw [Bool.and_eq_true, q9, q9, decide_eq_true_iff, decide_eq_true_iff]
theorem zL4 (s : ByteArray) (hs : s.size ≤ 100000000) : (∃ f, FB f ∧ s = bl (fB f) ∧ zAa s = some (f, true)) ∨ ((∀ f, FB f → s ≠ bl (fB f)) ∧ zAa s = some ((0, 0, 0), false)) := by
 by_cases hf : ∃ f, FB f ∧ s = bl (fB f)
 ·obtain ⟨f, hf, rfl⟩ := hf
  refine .inl ⟨f, hf, rfl, ?_⟩
  obtain ⟨a, b, c⟩ := f
  have hi := intsIn_of (ns := [a, b, c]) hs (by simp) (fun x hx => by
   simp only [List.mem_cons, List.not_mem_nil, or_false] at hx
   rcases hx with rfl | rfl | rfl
   ·exact hf.1
   ·exact hf.2.1
   ·exact hf.2.2) (zHl (a, b, c))
  unfold zAa
  rw [hi]
  have g0 : getI [a, b, c] 0 = some a := rfl
  have g1 : getI [a, b, c] 1 = some b := rfl
  have g2 : getI [a, b, c] 2 = some c := rfl
  simp only [Option.bind_some, g0, g1, g2, zGU, zGi.1 hf.1, zGi.1 hf.2.1, zGi.1 hf.2.2, Bool.and_self, Bool.not_true, cond_false, zHk (zEA hf.1) (zEA hf.2.1) (zEA hf.2.2), eqS, decide_true]
  rfl
 ·refine .inr ⟨fun f h e => hf ⟨f, h, e⟩, ?_⟩
  obtain ⟨l, hl⟩ := intsIn_tot s hs
  unfold zAa
  rw [hl, Option.bind_some]
  by_cases h3 : l.length = 3
  ·match l, h3 with
   | [a, b, c], _ =>
    have g0 : getI [a, b, c] 0 = some a := rfl
    have g1 : getI [a, b, c] 1 = some b := rfl
    have g2 : getI [a, b, c] 2 = some c := rfl
    simp only [show eqI (([a, b, c].length : Nat) : Int) 3 = true from rfl, Bool.not_true, cond_false, Option.bind_some, g0, g1, g2, zGU]
    cases hb : (inN a && (inN b && inN c)) with
    | false => rfl
    | true =>
     simp only [Bool.and_eq_true] at hb
     have f1 := zGi.2 hb.1
     have f2 := zGi.2 hb.2.1
     have f3 := zGi.2 hb.2.2
     simp only [Bool.not_true, cond_false, zHk (f := (a, b, c)) (zEA f1) (zEA f2) (zEA f3), Option.bind_some, eqS]
     rw [decide_eq_false (fun e => hf ⟨(a, b, c), ⟨f1, f2, f3⟩, e.symm⟩)]
     rfl
  ·rw [eqNe (by omega)]
   rfl
theorem zFb (s : ByteArray) (hs : s.size ≤ 100000000) : ∃ r, zAa s = some r ∧ zCF s = some r ∧ ((∃ f, FB f ∧ s = bl (fB f) ∧ r = (f, true)) ∨ ((∀ f, FB f → s ≠ bl (fB f)) ∧ r = ((0, 0, 0), false))) := by
 rcases zL4 s hs with ⟨f, h1, h2, h3⟩ | ⟨h1, h3⟩ <;> rcases zK8 s hs with ⟨g, g1, g2, g3⟩ | ⟨g1, g3⟩
 ·have e : f = g := fB_inj (zDX (h2.symm.trans g2))
  subst e
  exact ⟨_, h3, g3, .inl ⟨f, h1, h2, rfl⟩⟩
 ·exact absurd h2 (g1 f h1)
 ·exact absurd g2 (h1 g g1)
 ·exact ⟨_, h3, g3, .inr ⟨h1, rfl⟩⟩
abbrev Cmd := Int × ByteArray × ByteArray × ByteArray × Int × Int × Int
def emp : ByteArray := ⟨#[]⟩
def cls (f : Int × Int × Int) : Bool := (qC f).getD false
theorem zJh (f : Int × Int × Int) : qC f = some (cls f) := by
 obtain ⟨b, h⟩ := zIx f
 unfold cls
 rw [h]
 rfl
theorem cls_spec (f : Int × Int × Int) : zCc f = some (cls f) := by rw [class_val, zJh]
theorem cls_FB {f : Int × Int × Int} (h : cls f = true) : FB f ∧ 0 < f.1 := by
 obtain ⟨a, b, c⟩ := f
 have := zGq (a := a) (b := b) (c := c) (by rw [zJh, h])
 exact ⟨⟨zGi.2 this.1, zGi.2 this.2.1, zGi.2 this.2.2.1⟩, this.2.2.2.2.2.1⟩
def cmdB (c : Cmd) : Bool :=
 nmB c.2.1 && (if c.1 = 1 ∨ c.1 = 5 then decide (c.2.2.1 = emp) && (decide (c.2.2.2.1 = emp) && cls c.2.2.2.2)
  else if c.1 = 2 then decide (c.2.2.1 = emp) && (decide (c.2.2.2.1 = emp) && decide (c.2.2.2.2 = (0, 0, 0)))
  else if c.1 = 3 then nmB c.2.2.1 && (nmB c.2.2.2.1 && decide (c.2.2.2.2 = (0, 0, 0)))
  else if c.1 = 4 then nmB c.2.2.1 && (decide (c.2.2.2.1 = emp) && decide (c.2.2.2.2 = (0, 0, 0))) else false)
theorem zero3 (f : Int × Int × Int) : ((f.1 == 0) && ((f.2.1 == 0) && (f.2.2 == 0))) = decide (f = (0, 0, 0)) := by
 obtain ⟨a, b, c⟩ := f
 rw [Bool.eq_iff_iff]
 simp
theorem zCd (c : Cmd) (h1 : c.2.1.size ≤ 100000000) (h2 : c.2.2.1.size ≤ 100000000) (h3 : c.2.2.2.1.size ≤ 100000000) : zAO c = some (cmdB c) ∧ jX c = some (cmdB c) := by
 obtain ⟨k, nm, A, B, f⟩ := c
 simp only at h1 h2 h3
 obtain ⟨n1, n2⟩ := zJ5 nm h1
 obtain ⟨a1, a2⟩ := zJ5 A h2
 obtain ⟨b1, b2⟩ := zJ5 B h3
 have c1 := zJh f
 have c2 := cls_spec f
 unfold zAO jX jQ zA7 cmdB
 simp only [n1, n2, a1, a2, b1, b2, c1, c2, eqS, zBN, q9, Option.bind_some, zero3, show (⟨#[]⟩ : ByteArray) = emp from rfl]
 generalize nmB nm = N
 generalize nmB A = NA
 generalize nmB B = NBb
 generalize decide (A = emp) = EA
 generalize decide (B = emp) = EB
 generalize cls f = C
 generalize decide (f = (0, 0, 0)) = Z
 by_cases hk : k = 1 ∨ k = 5 ∨ k = 2 ∨ k = 3 ∨ k = 4
 ·rcases hk with rfl | rfl | rfl | rfl | rfl <;> cases N <;> cases NA <;> cases NBb <;> cases EA <;> cases EB <;> cases C <;> cases Z <;> exact ⟨rfl, rfl⟩
 ·have e1 : (k == 1) = false := by rw [beq_eq_false_iff_ne]; omega
  have e2 : (k == 2) = false := by rw [beq_eq_false_iff_ne]; omega
  have e3 : (k == 3) = false := by rw [beq_eq_false_iff_ne]; omega
  have e4 : (k == 4) = false := by rw [beq_eq_false_iff_ne]; omega
  have e5 : (k == 5) = false := by rw [beq_eq_false_iff_ne]; omega
  rw [if_neg (by omega), if_neg (by omega), if_neg (by omega), if_neg (by omega)]
  have e6 : (bif decide ((1 : Int) ≤ k) then decide (k ≤ 5) else false) = false := by
   cases h : decide ((1 : Int) ≤ k) with
   | false => rfl
   | true =>
    rw [decide_eq_true_iff] at h
    rw [cond_true, decide_eq_false]
    omega
  rw [e1, e2, e3, e4, e5, e6]
  cases N <;> exact ⟨rfl, rfl⟩
theorem zEI {x : ByteArray} (h : nmB x = true) : 1 ≤ x.size ∧ x.size ≤ 8 ∧ ∀ b ∈ x.data.toList, 97 ≤ b.toNat ∧ b.toNat ≤ 122 := by
 unfold nmB at h
 simp only [Bool.and_eq_true, decide_eq_true_iff, List.all_eq_true] at h
 refine ⟨h.2.1, h.2.2, fun b hb => ?_⟩
 have := h.1 b hb
 unfold lowB at this
 simpa using this
theorem nm_ne {x : ByteArray} (h : nmB x = true) : x ≠ emp := fun e => by
 have := (zEI h).1
 rw [e] at this
 exact absurd this (by decide)
theorem zKQ {c : Cmd} (h : cmdB c = true) : ∃ nm, nmB nm = true ∧ ((∃ f, cls f = true ∧ (c = (1, nm, emp, emp, f) ∨ c = (5, nm, emp, emp, f))) ∨ c = (2, nm, emp, emp, (0, 0, 0)) ∨ (∃ a b, nmB a = true ∧ nmB b = true ∧ c = (3, nm, a, b, (0, 0, 0))) ∨ (∃ a, nmB a = true ∧ c = (4, nm, a, emp, (0, 0, 0)))) := by
 obtain ⟨k, nm, A, B, f⟩ := c
 unfold cmdB at h
 simp only [Bool.and_eq_true] at h
 obtain ⟨hn, h⟩ := h
 refine ⟨nm, hn, ?_⟩
 split at h
 ·rename_i hk
  simp only [Bool.and_eq_true, decide_eq_true_iff] at h
  obtain ⟨rfl, rfl, h⟩ := h
  rcases hk with rfl | rfl
  ·exact .inl ⟨f, h, .inl rfl⟩
  ·exact .inl ⟨f, h, .inr rfl⟩
 ·split at h
  ·rename_i hk
   simp only [Bool.and_eq_true, decide_eq_true_iff] at h
   obtain ⟨rfl, rfl, rfl⟩ := h
   subst hk
   exact .inr (.inl rfl)
  ·split at h
   ·rename_i hk
    simp only [Bool.and_eq_true, decide_eq_true_iff] at h
    obtain ⟨h1, h2, rfl⟩ := h
    subst hk
    exact .inr (.inr (.inl ⟨A, B, h1, h2, rfl⟩))
   ·split at h
    ·rename_i hk
     simp only [Bool.and_eq_true, decide_eq_true_iff] at h
     obtain ⟨h1, rfl, rfl⟩ := h
     subst hk
     exact .inr (.inr (.inr ⟨A, h1, rfl⟩))
    ·cases h
theorem tail_jn (x : List UInt8) (r : List (List UInt8)) : x ++ joinTail [32] r = jn 32 (x :: r) := by
 induction r generalizing x with
 | nil => simp [joinTail, jn]
 | cons y r ih => rw [tail_cons, zGl _ _ (by simp), ih]
theorem join_val (ws : List (List UInt8)) (h1 : ws ≠ []) (h2 : ws.length ≤ 100) (h3 : ∀ w ∈ ws, w.length ≤ 1000) : zCn (ws.map bl) ⟨#[32]⟩ = some (bl (jn 32 ws)) := by
 cases ws with
 | nil => exact absurd rfl h1
 | cons x r =>
  have ht := tail_len r fun y hy => h3 y (List.mem_cons_of_mem _ hy)
  have hx := h3 x (List.mem_cons_self ..)
  have e4 : ((x :: r).map bl).map (fun b : ByteArray => b.data.toList) = x :: r := by
   rw [List.map_map]
   conv => rhs; rw [← List.map_id (x :: r)]
   exact List.map_congr_left fun y _ => zBX y
  have e5 : join (x :: r) [32] = jn 32 (x :: r) := by rw [join_cons, tail_jn]
  unfold zCn
  rw [show ((⟨#[32]⟩ : ByteArray)).data.toList = [32] from rfl, e4, e5, if_pos]
  ·rfl
  ·constructor
   ·simp only [List.length_map]
    simp at h2 ⊢
    omega
   ·rw [← tail_jn, List.length_append]
    simp at h2
    omega
theorem ct_loop (c : Cmd) (l : List ByteArray) (hl : l.length ≤ 10) : qU c 2 FU 0 l = some (l ++ (if c.2.2.1 = emp then [] else [c.2.2.1]) ++ (if c.2.2.2.1 = emp then [] else [c.2.2.2.1])) := by
 obtain ⟨m, hm⟩ : ∃ m, FU = m + 3 := ⟨FU - 3, by decide⟩
 have g0 : getI [c.2.2.1, c.2.2.2.1] 0 = some c.2.2.1 := rfl
 have g1 : getI [c.2.2.1, c.2.2.2.1] 1 = some c.2.2.2.1 := rfl
 have w0 : w64 (0 + 1) = 1 := by decide
 have w1 : w64 (1 + 1) = 2 := by decide
 rw [hm]
 unfold qU
 simp only [show ltI 0 2 = true from rfl, cond_true, g0, Option.bind_some, eqS, qA, w0, show (⟨#[]⟩ : ByteArray) = emp from rfl]
 have step2 : ∀ l : List ByteArray, l.length ≤ 11 → qU c 2 (m + 1 + 1) 1 l = some (l ++ (if c.2.2.2.1 = emp then [] else [c.2.2.2.1])) := by
  intro l hl
  have step3 : ∀ l : List ByteArray, qU c 2 (m + 1) 2 l = some l := by
   intro l
   unfold qU
   rw [show ltI 2 2 = false from rfl, cond_false]
  unfold qU
  simp only [show ltI 1 2 = true from rfl, cond_true, g1, Option.bind_some, eqS, qA, w1, show (⟨#[]⟩ : ByteArray) = emp from rfl]
  by_cases hB : c.2.2.2.1 = emp
  ·rw [decide_eq_true hB, if_pos hB, Bool.not_true, cond_false, step3, List.append_nil]
  ·rw [decide_eq_false hB, if_neg hB, Bool.not_false, cond_true, zCA (by simp; omega), Option.bind_some, step3]
 by_cases hA : c.2.2.1 = emp
 ·rw [decide_eq_true hA, if_pos hA, Bool.not_true, cond_false, step2 l (by omega), List.append_nil]
 ·rw [decide_eq_false hA, if_neg hA, Bool.not_false, cond_true, zCA (by simp; omega), Option.bind_some, step2 _ (by simp; omega)]
end Go.Proofs.YtfmjfofocklgpaaGreatDoor
