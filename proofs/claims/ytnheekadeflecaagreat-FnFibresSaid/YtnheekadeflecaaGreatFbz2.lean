/-
  Rules of walks, plain functions and their laws, part 2.
  Conditions: none.
-/
import Derived.DataReads
import Derived.OpenShut
import Derived.Lib.ItoaNum
import Derived.Lib.Join
import Derived.Laws.BytesString
import Derived.Laws.Strings2
import Derived.Laws.Slices
import Derived.MapKept
import Derived.Lib.ReflectliteSwap
import Derived.Test.YtnheekadeflecaaGreatRows
import Derived.Shelf.GgSortFunc.Slice
import Derived.Lib.BitFns
import Derived.Test.YtnheekadeflecaaGreatFbz1
set_option linter.unusedSimpArgs false
set_option linter.unusedVariables false
namespace Go.Proofs.YtnheekadeflecaaGreat
open Go.RowKit
def renI (m : List (Nat × Nat)) (k : Nat) : Nat := (m.lookup k).getD k
def AV.ren (m : List (Nat × Nat)) : AV → AV
 | .ow k => .ow (renI m k)
 | .pt k o => .pt (renI m k) o
 | .po k z i o => .po (renI m k) z i o
 | .vw k els v => .vw (renI m k) els v
 | .sf k z i => .sf (renI m k) z i
 | .tc _ _ => .bot
 | .tn => .bot
 | av => av
def renL (m : List (Nat × Nat)) : List AV → List AV
 | [] => []
 | a :: asq => a.ren m :: renL m asq
def reE (old e : Ent) : Ent := bif old.pin then (match old with
 | .pbox l _ => e.pinned l
 | .parr l _ _ _ => e.pinned l
 | _ => e) else e
def Ent.row : Ent → Bool
 | .box _ => false
 | .arr _ _ _ => true
 | .pbox _ _ => false
 | .parr _ _ _ _ => true
 | .mp _ _ => false
 | .qarr _ _ _ _ => true
def updE (m : List (Nat × Nat)) : List (Nat × Ent) → List (Nat × Ent) → List (Nat × Ent)
 | E, [] => E
 | E, (k, e) :: ps => setE (renI m k) (reE ((E.lookup (renI m k)).getD e) e) (updE m E ps)
def zGK (m : List (Nat × Nat)) (s : St) : List (Nat × Ent) → Prop
 | [] => True
 | (k, e) :: ps => s.entc (renI m k) = some e ∧ zGK m s ps
def zDU : List (Nat × Ent) → List Nat
 | [] => []
 | (k, _) :: ps => k :: zDU ps
def renOk (m : List (Nat × Nat)) (E0 : List (Nat × Ent)) : Bool := zDT ((zDU E0).map (renI m))
theorem zZ {m : List (Nat × Nat)} {s : St} : zGK m s [] := trivial
theorem zI {m : List (Nat × Nat)} {s : St} {k : Nat} {e : Ent} {ps : List (Nat × Ent)} (h : s.entc (renI m k) = some e) (t : zGK m s ps) : zGK m s ((k, e) :: ps) := ⟨h, t⟩
theorem zBy {s : St} : HasE s [] := trivial
theorem zX {s : St} {k : Nat} {e : Ent} {ps : List (Nat × Ent)} (h : s.ent k = some e) (t : HasE s ps) : HasE s ((k, e) :: ps) := ⟨h, t⟩
theorem zC5 (m : List (Nat × Nat)) (s : St) : ∀ (E0 : List (Nat × Ent)) (id : Nat) (e : Ent), zGK m s E0 → E0.lookup id = some e → s.entc (renI m id) = some e
 | [], id, e, _, h => by simp at h
 | (k, f) :: ps, id, e, hs, h => by
  simp only [List.lookup] at h
  cases hk : id == k with
  | true =>
   have : id = k := by simpa using hk
   subst this
   rw [hk] at h
   injection h with h
   subst h
   exact hs.1
  | false =>
   rw [hk] at h
   exact zC5 m s ps id e hs.2 h
theorem zEg : ∀ (E0 : List (Nat × Ent)) (id : Nat) (e : Ent), E0.lookup id = some e → id ∈ zDU E0
 | [], id, e, h => by simp at h
 | (k, f) :: ps, id, e, h => by
  simp only [List.lookup] at h
  cases hk : id == k with
  | true =>
   have : id = k := by simpa using hk
   subst this
   exact List.mem_cons_self
  | false =>
   rw [hk] at h
   exact List.mem_cons_of_mem _ (zEg ps id e h)
theorem zIw : ∀ (E0 : List (Nat × Ent)) (id : Nat), id ∈ zDU E0 → ∃ e, E0.lookup id = some e
 | [], id, h => by cases h
 | (q1, q2) :: ps, id, h => by
  by_cases hq : id = q1
  ·subst hq; exact ⟨q2, by simp [List.lookup]⟩
  ·have : (id == q1) = false := by rw [beq_eq_false_iff_ne]; exact hq
   rcases List.mem_cons.1 h with h2 | h2
   ·exact absurd h2 hq
   ·obtain ⟨f, hf⟩ := zIw ps id h2
    exact ⟨f, by simp only [List.lookup, this]; exact hf⟩
theorem nodup_inj (f : Nat → Nat) : ∀ (l : List Nat), zDT (l.map f) = true → ∀ i, i ∈ l → ∀ j, j ∈ l → f i = f j → i = j
 | [], _, i, hi, _, _, _ => by cases hi
 | x :: xs, h, i, hi, j, hj, hf => by
  simp only [List.map_cons, zDT, Bool.and_eq_true, Bool.not_eq_true', List.contains_eq_mem, decide_eq_false_iff_not] at h
  obtain ⟨h1, h2⟩ := h
  rcases List.mem_cons.1 hi with a1 | a1 <;> rcases List.mem_cons.1 hj with b1 | b1
  ·rw [a1, b1]
  ·subst a1
   exact absurd (List.mem_map.2 ⟨j, b1, hf.symm⟩) h1
  ·subst b1
   exact absurd (List.mem_map.2 ⟨i, a1, hf⟩) h1
  ·exact nodup_inj f xs h2 i a1 j b1 hf
section
variable {P : Program}
theorem ren_rel {ok : Nat → Prop} {σ : Nat → Loc} {w : World} {m : List (Nat × Nat)} {av : AV} {y : Value} (h : Rel ok σ w (av.ren m) y) (hb : ∀ x r, av ≠ .tc x r) (hb2 : av ≠ .tn) : Rel ok (fun k => σ (renI m k)) w av y := by
 cases av with
 | bot => trivial
 | c t => exact h
 | ag cs => exact h
 | ow id => exact h
 | pt id off => exact h
 | po id sz i off => exact h
 | pe cs => exact h
 | fn f caps => exact h
 | er b => exact h
 | vw id els v => exact h
 | sf id z i => exact h
 | tn => exact absurd rfl hb2
 | tc x r => exact absurd rfl (hb x r)
def noTup : List AV → Bool
 | [] => true
 | .tc _ _ :: _ => false
 | .tn :: _ => false
 | _ :: asq => noTup asq
theorem ren_relA {ok : Nat → Prop} {σ : Nat → Loc} {w : World} {m : List (Nat × Nat)} : ∀ {args : List AV} {vs : List Value}, noTup args = true → RelA ok σ w (renL m args) vs → RelA ok (fun k => σ (renI m k)) w args vs
 | [], _, _, .nil => .nil
 | a :: asq, _, ht, .cons h hs => by
  have h1 : (∀ x r, a ≠ .tc x r) ∧ a ≠ .tn ∧ noTup asq = true := by
   cases a with
   | tc x r => cases ht
   | tn => cases ht
   | _ => exact ⟨(fun _ _ h => by cases h), (fun h => by cases h), ht⟩
  exact .cons (ren_rel h h1.1 h1.2.1) (ren_relA h1.2.2 hs)
theorem reE_pin (old e : Ent) (he : e.plain = true) : (reE old e).pin = old.pin := by
 cases old with
 | box cs => exact Ent.pin_of_plain he
 | arr T sz els => exact Ent.pin_of_plain he
 | mp b kvs => exact Ent.pin_of_plain he
 | qarr l0 T sz els => exact Ent.pin_of_plain he
 | pbox l cs => exact zHi he
 | parr l T sz els => exact zHi he
theorem updE_look (m : List (Nat × Nat)) (E : List (Nat × Ent)) : ∀ (E1 : List (Nat × Ent)), zDT ((zDU E1).map (renI m)) = true → (∀ k e, E1.lookup k = some e → ∃ f, E.lookup (renI m k) = some f) → ∀ j, (updE m E E1).lookup j = match E1.find? (fun p => renI m p.1 == j) with
      | some p => some (reE ((E.lookup j).getD p.2) p.2)
      | none => E.lookup j
  | [], _, _, j => rfl
  | (k, e) :: ps, hn, hx, j => by
    have hn2 : zDT ((zDU ps).map (renI m)) = true := by
      simp only [zDU, List.map_cons, zDT, Bool.and_eq_true] at hn
      exact hn.2
    have hn1 : renI m k ∉ (zDU ps).map (renI m) := by
      simp only [zDU, List.map_cons, zDT, Bool.and_eq_true, Bool.not_eq_true', List.contains_eq_mem, decide_eq_false_iff_not] at hn
      exact hn.1
    have ih := updE_look m E ps hn2 (fun k2 e2 h2 => by
      by_cases hk : k2 = k
      · subst hk
        exact absurd (List.mem_map.2 ⟨k2, zEg ps k2 e2 h2, rfl⟩) hn1
      · refine hx k2 e2 ?_
        have : (k2 == k) = false := by rw [beq_eq_false_iff_ne]; exact hk
        simp only [List.lookup, this]
        exact h2)
    have hself : (updE m E ps).lookup (renI m k) = E.lookup (renI m k) := by
      rw [ih]
      have hf : ps.find? (fun p => renI m p.1 == renI m k) = none := by
        rw [List.find?_eq_none]
        intro p hp hh
        have hh : renI m p.1 = renI m k := by simpa using hh
        have : p.1 ∈ zDU ps := by
          clear ih hn hx hn1 hn2
          induction ps with
          | nil => cases hp
          | cons q qs ihq =>
            obtain ⟨q1, q2⟩ := q
            rcases List.mem_cons.1 hp with h1 | h1
            · subst h1; exact List.mem_cons_self
            · exact List.mem_cons_of_mem _ (ihq h1)
        exact hn1 (List.mem_map.2 ⟨p.1, this, hh⟩)
      rw [hf]
    obtain ⟨f, hf⟩ := hx k e (by simp [List.lookup])
    have look := zEc (renI m k) (reE ((E.lookup (renI m k)).getD e) e) (updE m E ps) f (by rw [hself, hf])
    simp only [updE]
    rw [look j, List.find?_cons]
    by_cases hj : j = renI m k
    · subst hj
      simp
    · have : (renI m k == j) = false := by rw [beq_eq_false_iff_ne]; exact fun h => hj h.symm
      rw [if_neg hj, this, ih]
theorem find_look (m : List (Nat × Nat)) : ∀ (E1 : List (Nat × Ent)) (j : Nat) (p : Nat × Ent), zDT ((zDU E1).map (renI m)) = true → E1.find? (fun p => renI m p.1 == j) = some p → E1.lookup p.1 = some p.2 ∧ renI m p.1 = j
 | [], j, p, _, h => by simp at h
 | (k, e) :: ps, j, p, hn, h => by
  rw [List.find?_cons] at h
  cases hk : renI m k == j with
  | true =>
   simp only [hk] at h
   injection h with h
   subst h
   exact ⟨by simp [List.lookup], by simpa using hk⟩
  | false =>
   simp only [hk] at h
   have hn2 : zDT ((zDU ps).map (renI m)) = true := by
    simp only [zDU, List.map_cons, zDT, Bool.and_eq_true] at hn
    exact hn.2
   have hn1 : renI m k ∉ (zDU ps).map (renI m) := by
    simp only [zDU, List.map_cons, zDT, Bool.and_eq_true, Bool.not_eq_true', List.contains_eq_mem, decide_eq_false_iff_not] at hn
    exact hn.1
   obtain ⟨h1, h2⟩ := find_look m ps j p hn2 h
   have : (p.1 == k) = false := by
    rw [beq_eq_false_iff_ne]
    intro e1
    exact hn1 (List.mem_map.2 ⟨p.1, zEg ps _ _ h1, by rw [e1]⟩)
   exact ⟨by simp only [List.lookup, this]; exact h1, h2⟩
theorem reE_ok {ok : Nat → Prop} {w : World} {l : Loc} {old e : Ent} {ok0 : Nat → Prop} {w0 : World} (ho : zA2 ok0 w0 l old) (h : zA2 ok w l e) (he : e.plain = true) : zA2 ok w l (reE old e) := by
 cases old with
 | box cs => exact h
 | arr T sz els => exact h
 | mp b kvs => exact h
 | qarr l0 T sz els => exact h
 | pbox l0 cs =>
  obtain ⟨rfl, _⟩ := ho
  exact zIs h he
 | parr l0 T sz els =>
  obtain ⟨rfl, _⟩ := ho
  exact zIs h he
theorem R.ref {B : Fr} {w0 : World} {ok0 ok ok' : Nat → Prop} {σ σ' : Nat → Loc} {s : St} {a : Act} {w w' : World} (h : R B w0 ok0 ok σ s a w) {m : List (Nat × Nat)} {E0 E1 : List (Nat × Ent)} {av : AV} {ne : List (Nat × Ent)} {v : Value}
  (hm : zGK m s E0) (hk : zDU E1 = zDU E0) (hr : renOk m E0 = true) (hp : zGV E1 = true) (hn : NewX ⟨w.heap.size, exOf (fun k => σ (renI m k)) E0⟩ w w' ok ok' σ' av ne v) (hE : ∀ id e, E1.lookup id = some e → zA2 ok' w' (σ (renI m id)) e) :
  R B w0 ok0 ok' (fun id => σ id) ⟨s.T, updE m s.E E1⟩ a w' ∧ ∀ id e g, (St.mk s.T (updE m s.E E1)).ent id = some e → (σ id).blk = some g → g < w.heap.size := by
 have hsz := hn.below.size
 have key0 : ∀ k e, E1.lookup k = some e → ∃ f, E0.lookup k = some f := by
  intro k e hke
  have h1 := zEg E1 k e hke
  rw [hk] at h1
  exact zIw E0 k h1
 have hold : ∀ k e, E1.lookup k = some e → ∃ f, s.E.lookup (renI m k) = some f := by
  intro k e hke
  obtain ⟨f0, hf0⟩ := key0 k e hke
  obtain ⟨f, hf, _⟩ := zEm (zC5 m s E0 k f0 hm hf0)
  exact ⟨f, hf⟩
 have hr1 : zDT ((zDU E1).map (renI m)) = true := by rw [hk]; exact hr
 have look := updE_look m s.E E1 hr1 hold
 -- an entry behind the call
 have cases_ : ∀ j f, (St.mk s.T (updE m s.E E1)).ent j = some f → (∃ k e old, E1.lookup k = some e ∧ renI m k = j ∧ s.ent j = some old ∧ f = reE old e) ∨ ((∀ k e, E1.lookup k = some e → renI m k ≠ j) ∧ s.ent j = some f) := by
  intro j f hj
  have h1 : (updE m s.E E1).lookup j = some f := hj
  rw [look] at h1
  cases hfd : E1.find? (fun p => renI m p.1 == j) with
  | some p =>
   rw [hfd] at h1
   obtain ⟨h2, h3⟩ := find_look m E1 j p hr1 hfd
   obtain ⟨old, hold1⟩ := hold p.1 p.2 h2
   rw [h3] at hold1
   rw [hold1] at h1
   injection h1 with h1
   exact .inl ⟨p.1, p.2, old, h2, h3, hold1, h1.symm⟩
  | none =>
   rw [hfd] at h1
   refine .inr ⟨fun k e hke hkj => ?_, h1⟩
   rw [List.find?_eq_none] at hfd
   have hmem : ∀ (L : List (Nat × Ent)), L.lookup k = some e → (k, e) ∈ L := by
    intro L
    induction L with
    | nil => intro h; simp at h
    | cons q qs ih =>
     intro h
     obtain ⟨q1, q2⟩ := q
     simp only [List.lookup] at h
     cases hq : k == q1 with
     | true =>
      rw [hq] at h
      injection h with h
      have : k = q1 := by simpa using hq
      subst this; subst h
      exact List.mem_cons_self
     | false =>
      rw [hq] at h
      exact List.mem_cons_of_mem _ (ih h)
   exact hfd (k, e) (hmem E1 hke) (by simpa using hkj)
 have exE : ∀ g, exOf (fun k => σ (renI m k)) E0 g → ∃ k f0, E0.lookup k = some f0 ∧ (σ (renI m k)).blk = some g := fun g ⟨k, f0, h1, h2⟩ => ⟨k, f0, h1, h2⟩
 have exNot : ∀ g, ok g → ¬ exOf (fun k => σ (renI m k)) E0 g := by
  intro g hg hx
  obtain ⟨k, f0, h1, h2⟩ := exE g hx
  obtain ⟨f, hf, _⟩ := zEm (zC5 m s E0 k f0 hm h1)
  exact (h.core.blk _ f g hf h2).1 hg
 have hwok : ∀ g, ok g → w'.heap[g]? = w.heap[g]? := fun g hg => hn.below.block g (h.core.okL g hg) (exNot g hg)
 have entOld : ∀ j f, (St.mk s.T (updE m s.E E1)).ent j = some f → ∃ old, s.ent j = some old ∧ f.pin = old.pin := by
  intro j f hj
  rcases cases_ j f hj with ⟨k, e, old, h1, h2, h3, rfl⟩ | ⟨_, h2⟩
  ·exact ⟨old, h3, reE_pin old e (zFP E1 k e hp h1)⟩
  ·exact ⟨f, h2, rfl⟩
 refine ⟨?_, fun j f g hj hg => by obtain ⟨old, h1, _⟩ := entOld j f hj; exact (h.core.blk j old g h1 hg).2⟩
 refine ⟨⟨h.core.len, hn.okL, h.core.lib.mono hn.okM hwok, fun t => (h.core.tmp t).mono0 hn.okM hwok, fun j f hj => ?_, fun j f g hj hg => ?_, fun i j f1 f2 g hi hj h1 h2 => ?_⟩, h.defers, ?_, Nat.le_trans h.base hsz, fun g hg => hn.okM g (h.old g hg), fun g hg => ?_, fun j f g hj hg => ?_⟩
 ·rcases cases_ j f hj with ⟨k, e, old, h1, h2, h3, rfl⟩ | ⟨h1, h2⟩
  ·have h4 := hE k e h1
   rw [h2] at h4
   exact reE_ok (h.core.ent j old h3) h4 (zFP E1 k e hp h1)
  ·refine (h.core.ent j f h2).mono hn.okM hwok fun g hg => hn.below.block g (h.core.blk j f g h2 hg).2 fun hx => ?_
   obtain ⟨k, f0, h3, h4⟩ := exE g hx
   obtain ⟨f2, hf2, _⟩ := zEm (zC5 m s E0 k f0 hm h3)
   have h5 := h.core.inj _ _ _ _ _ h2 hf2 hg h4
   -- k is a key of E1 too
   have h6 := zEg E0 k f0 h3
   rw [← hk] at h6
   have h7 := zIw E1 k h6
   obtain ⟨e1, he1⟩ := h7
   exact h1 k e1 he1 h5.symm
 ·obtain ⟨old, h1, h2⟩ := entOld j f hj
  obtain ⟨h3, h4⟩ := h.core.blk j old g h1 hg
  refine ⟨fun h5 => ?_, Nat.lt_of_lt_of_le h4 hsz⟩
  rcases hn.okN g h5 with h6 | h6
  ·exact h3 h6
  ·omega
 ·obtain ⟨o1, a1, _⟩ := entOld i f1 hi
  obtain ⟨o2, a2, _⟩ := entOld j f2 hj
  exact h.core.inj i j o1 o2 g a1 a2 h1 h2
 ·refine h.below.trans ⟨hn.below.os, hn.below.tape, hn.below.output, hn.below.size, fun k hk1 hk2 => ?_⟩
  refine hn.below.block k (Nat.lt_of_lt_of_le hk1 h.base) fun hx => ?_
  obtain ⟨k2, f0, h3, h4⟩ := exE k hx
  obtain ⟨f2, hf2, _⟩ := zEm (zC5 m s E0 k2 f0 hm h3)
  have h5 := h.own _ f2 k hf2 h4
  split at h5
  ·exact hk2 h5
  ·omega
 ·rcases hn.okN g hg with h1 | h1
  ·exact h.fresh g h1
  ·exact .inr (Nat.le_trans h.base h1)
 ·obtain ⟨old, h1, h2⟩ := entOld j f hj
  rw [h2]
  exact h.own j old g h1 hg
theorem R.updN {B : Fr} {w0 : World} {ok0 ok : Nat → Prop} {σ σ' : Nat → Loc} {s : St} {a : Act} {w : World} (h : R B w0 ok0 ok σ s a w) {d N : Nat} {av : AV} {ne : List (Nat × Ent)} {v : Value}
  (hsm : ∀ id e g, s.ent id = some e → (σ id).blk = some g → g < N) (hBN : B.n ≤ N) (hrel : Rel ok σ' w av v) (hkeys : ∀ id e, ne.lookup id = some e → id < 8) (hids : ∀ e, e ≠ 0 → av.ment e = false) (hent : ∀ id e, ne.lookup id = some e → zA2 ok w (σ' id) e)
  (hblk : ∀ id e g, ne.lookup id = some e → (σ' id).blk = some g → N ≤ g ∧ ¬ ok g ∧ g < w.heap.size) (hinj : ∀ i j e f g, ne.lookup i = some e → ne.lookup j = some f → (σ' i).blk = some g → (σ' j).blk = some g → i = j) (hnp : ∀ id e, ne.lookup id = some e → e.pin = false) :
  R B w0 ok0 ok (fun id => if id / 8 = d then σ' (id % 8) else σ id) (s.upd d av ne) (a.put (some d) v) w := by
 have hσ : ∀ id, id / 8 ≠ d → (fun id => if id / 8 = d then σ' (id % 8) else σ id) id = σ id := fun id hid => by simp [hid]
 have look : ∀ id e, (s.upd d av ne).ent id = some e → (id / 8 = d ∧ ne.lookup (id % 8) = some e) ∨ (id / 8 ≠ d ∧ s.ent id = some e) := by
  intro id e he
  unfold St.ent St.upd at he
  rw [zDy] at he
  cases hs : (zDn d ne).lookup id with
  | some e2 =>
   rw [hs] at he
   injection he with he
   subst he
   obtain ⟨h1, h2⟩ := zEP d ne id _ hs
   have h3 := hkeys _ _ h2
   have h4 : id - d * 8 = id % 8 := by omega
   rw [h4] at h2
   exact .inl ⟨by omega, h2⟩
  | none =>
   rw [hs] at he
   simp only [zEJ] at he
   by_cases hd : id / 8 = d
   ·simp [hd] at he
   ·rw [if_neg hd] at he
    exact .inr ⟨hd, he⟩
 refine ⟨⟨?_, h.core.okL, h.core.lib, fun t => ?_, fun id e he => ?_, fun id e g he hg => ?_, fun i j e f g hi hj h1 h2 => ?_⟩, h.defers, h.below, h.base, h.old, h.fresh, fun id e g he hg => ?_⟩
 ·rw [zIB]
  simpa [St.upd, zDh] using h.core.len
 ·have hk : (s.upd d av ne).get t = if d = t ∧ d < s.T.length then av.shift d else (bif (s.get t).ment d then AV.bot else s.get t) := by
   have e := zCx (s.kill d) d t (av.shift d)
   unfold St.put St.kill St.get at e
   simp only [zDh, zFI] at e
   unfold St.upd St.get
   exact e
  rw [hk, zIV]
  by_cases hd : d = t ∧ d < s.T.length
  ·rw [if_pos hd, if_pos ⟨hd.1, Nat.lt_of_lt_of_le hd.2 h.core.len⟩]
   refine hrel.shift d fun k hk2 => ?_
   have hk0 : k / 8 = 0 := by
    rcases Nat.eq_zero_or_pos (k / 8) with h0 | h0
    ·exact h0
    ·rw [hids (k / 8) (by omega)] at hk2
     cases hk2
   have e1 : (d * 8 + k) / 8 = d := by omega
   have e2 : (d * 8 + k) % 8 = k := by omega
   simp [e1, e2]
  ·rw [if_neg hd]
   by_cases hd2 : d = t ∧ d < a.tmps.size
   ·rw [if_pos hd2]
    have hb : s.get t = .bot := by
     unfold St.get
     rw [List.getElem?_eq_none (by omega)]
     rfl
    rw [hb]
    trivial
   ·rw [if_neg hd2]
    cases hm : (s.get t).ment d with
    | true => trivial
    | false => exact (h.core.tmp t).mono d (fun _ h => h) (fun _ _ => rfl) hm hσ
 ·rcases look id e he with ⟨h1, h2⟩ | ⟨h1, h2⟩
  ·simpa [h1] using hent _ _ h2
  ·simp only [h1, if_false]
   exact h.core.ent id e h2
 ·rcases look id e he with ⟨h1, h2⟩ | ⟨h1, h2⟩
  ·simp only [h1, if_true] at hg
   exact (hblk _ _ _ h2 hg).2
  ·simp only [h1, if_false] at hg
   exact h.core.blk id e g h2 hg
 ·rcases look i e hi with ⟨a1, a2⟩ | ⟨a1, a2⟩ <;> rcases look j f hj with ⟨b1, b2⟩ | ⟨b1, b2⟩
  ·simp only [a1, b1, if_true] at h1 h2
   have := hinj _ _ _ _ _ a2 b2 h1 h2
   omega
  ·simp only [a1, b1, if_true, if_false] at h1 h2
   have x1 := (hblk _ _ _ a2 h1).1
   have x2 := hsm _ _ _ b2 h2
   omega
  ·simp only [a1, b1, if_true, if_false] at h1 h2
   have x1 := (hblk _ _ _ b2 h2).1
   have x2 := hsm _ _ _ a2 h1
   omega
  ·simp only [a1, b1, if_false] at h1 h2
   exact h.core.inj _ _ _ _ _ a2 b2 h1 h2
 ·rcases look id e he with ⟨h1, h2⟩ | ⟨h1, h2⟩
  ·simp only [h1, if_true] at hg
   rw [hnp _ _ h2, if_neg (by decide)]
   exact Nat.le_trans hBN (hblk _ _ _ h2 hg).1
  ·simp only [h1, if_false] at hg
   exact h.own id e g h2 hg
theorem X_callRs {o : Oper} {s : St} {f : FuncId} {xs : Array Operand} {ts : Array TypeId} {args : List AV} {E0 E1 : List (Nat × Ent)} {av : AV} {ne E' : List (Nat × Ent)} (m : List (Nat × Nat)) (d : Nat) (hS : ∀ ok σ (a : Act) w, Core ok σ s a w → zDt P f (fun k => σ (renI m k)) args E0 av ne E1) (hc : ∀ args w, (callFunc f args).run P w = .ok (.enter f args) w)
  (ho : o.op = .call { callee := .value (.func f), args := xs, argTypes := ts }) (hd : o.dst = some d) (ha : evL s xs.toList = renL m args) (ht : noTup args = true) (hm : zGK m s E0) (hk : zDU E1 = zDU E0) (hr : renOk m E0 = true) (hp : zGV E1 = true) (hp0 : zGV E0 = true) (he : updE m s.E E1 = E') :
  X P o s ((St.mk s.T E').upd d av ne) := by
 intro B w0 ok0 ok σ a w hR K Q hK
 subst he
 have hheld : Held ok (fun k => σ (renI m k)) w E0 := by
  refine ⟨fun id e he => ?_, fun id e g he hg => ?_, fun i j e f g hi hj h1 h2 => ?_⟩
  ·exact ⟨hR.core.entc _ _ (zC5 m s E0 id e hm he), zFP E0 id e hp0 he⟩
  ·obtain ⟨f, hf, _⟩ := zEm (zC5 m s E0 id e hm he)
   exact hR.core.blk _ f g hf hg
  ·obtain ⟨f1, hf1, _⟩ := zEm (zC5 m s E0 i e hm hi)
   obtain ⟨f2, hf2, _⟩ := zEm (zC5 m s E0 j f hm hj)
   exact nodup_inj (renI m) _ hr i (zEg E0 i e hi) j (zEg E0 j f hj) (hR.core.inj _ _ _ _ _ hf1 hf2 h1 h2)
 refine wp_call hc ho (Calls.mono (hS ok σ a w hR.core ok w _ hR.core.okL hR.core.lib (ren_relA ht (ha ▸ zJ8 hR.core xs.toList)) hheld) ?_)
 rintro e w' ⟨v, ok', σ', he, hn, hE⟩
 obtain ⟨hR2, hsm⟩ := hR.ref hm hk hr hp hn hE
 refine ⟨v, he, ?_⟩
 rw [hd]
 exact hK _ _ _ _ (hR2.updN hsm hR.base hn.rel hn.keys hn.ids hn.ent hn.blk hn.inj hn.np)
theorem qA {o : Oper} {s : St} {f : FuncId} {xs : Array Operand} {ts : Array TypeId} {args : List AV} {E0 E1 : List (Nat × Ent)} {av : AV} {ne E' : List (Nat × Ent)} (m : List (Nat × Nat)) (d : Nat) (hS : zEb P f args E0 av ne E1) (hc : ∀ args w, (callFunc f args).run P w = .ok (.enter f args) w)
  (ho : o.op = .call { callee := .value (.func f), args := xs, argTypes := ts }) (hd : o.dst = some d) (ha : evL s xs.toList = renL m args) (ht : noTup args = true) (hm : zGK m s E0) (hk : zDU E1 = zDU E0) (hr : renOk m E0 = true) (hp : zGV E1 = true) (hp0 : zGV E0 = true) (he : updE m s.E E1 = E') :
  X P o s ((St.mk s.T E').upd d av ne) :=
 X_callRs m d (fun _ σ _ _ _ => fun ok w vs h1 h2 h3 h4 => hS ok _ w vs h1 h2 h3 h4) hc ho hd ha ht hm hk hr hp hp0 he
end
def zGp (ms : List Nat) (mask : Nat) : Nat → List Nat
 | 0 => []
 | k + 1 => bif (!mask.testBit k) && ((ms.getD k 0 &&& mask) == ms.getD k 0) then k :: zGp ms mask k else zGp ms mask k
theorem zJs (ms : List Nat) (mask : Nat) : ∀ (n i : Nat), i < n → mask.testBit i = false → (∀ j, (ms.getD i 0).testBit j = true → mask.testBit j = true) → i ∈ zGp ms mask n
 | 0, i, h, _, _ => by omega
 | k + 1, i, h, h1, h2 => by
  simp only [zGp]
  by_cases hk : i = k
  ·subst hk
   have e : (ms.getD i 0 &&& mask) = ms.getD i 0 := by
    apply Nat.eq_of_testBit_eq
    intro j
    rw [Nat.testBit_and]
    cases hj : (ms.getD i 0).testBit j with
    | false => rfl
    | true => rw [h2 j hj]; rfl
   rw [h1, e]
   simp
  ·have ih := zJs ms mask k i (by omega) h1 h2
   cases (!mask.testBit k) && ((ms.getD k 0 &&& mask) == ms.getD k 0) with
   | true => exact List.mem_cons_of_mem _ ih
   | false => exact ih
section
variable (P : Program)
def zJI (l : List Oper) (tab : List (Nat × St)) (mask : Nat) (s : St) : List Nat → Prop
 | [] => True
 | i :: is => (∃ o s' s2, l[i]? = some o ∧ o.guard = none ∧ X P o s s' ∧ tab.lookup (mask ||| 2 ^ i) = some s2 ∧ s2.T = s'.T ∧ HasE s' s2.E) ∧ zJI l tab mask s is
def zFo (l : List Oper) (ms : List Nat) (tab : List (Nat × St)) (J : St → Prop) : List (Nat × St) → Prop
 | [] => True
 | (m, s) :: ps => zJI P l tab m s (zGp ms m l.length) ∧ (m = 2 ^ l.length - 1 → J s) ∧ zFo l ms tab J ps
variable {P}
theorem stepT_at {l : List Oper} {tab : List (Nat × St)} {mask : Nat} {s : St} : ∀ (is : List Nat), zJI P l tab mask s is → ∀ i, i ∈ is → ∃ o s' s2, l[i]? = some o ∧ o.guard = none ∧ X P o s s' ∧ tab.lookup (mask ||| 2 ^ i) = some s2 ∧ Le s2 s'
 | [], _, i, hi => by cases hi
 | j :: is, h, i, hi => by
  rcases List.mem_cons.1 hi with h1 | h1
  ·subst h1
   obtain ⟨o, s', s2, a1, a2, a3, a4, a5, a6⟩ := h.1
   exact ⟨o, s', s2, a1, a2, a3, a4, ⟨by rw [a5]; exact Nat.le_refl _, fun t => .inr (by unfold St.get; rw [a5]), fun id e he => zJH s' s2.E id e a6 he⟩⟩
  ·exact stepT_at is h.2 i h1
theorem zJd {l : List Oper} {ms : List Nat} {tab : List (Nat × St)} {J : St → Prop} : ∀ (ps : List (Nat × St)), zFo P l ms tab J ps → ∀ m s, ps.lookup m = some s → zJI P l tab m s (zGp ms m l.length) ∧ (m = 2 ^ l.length - 1 → J s)
 | [], _, m, s, h => by simp at h
 | (q, t) :: ps, h, m, s, hl => by
  simp only [List.lookup] at hl
  cases hq : m == q with
  | true =>
   have : m = q := by simpa using hq
   subst this
   rw [hq] at hl
   injection hl with hl
   subst hl
   exact ⟨h.1, h.2.1⟩
  | false =>
   rw [hq] at hl
   exact zJd ps h.2.2 m s hl
theorem dag_any {l : List Oper} {ms : List Nat} {tab : List (Nat × St)} {J : St → Prop} {Q : Exit → Act → World → Prop} {B : Fr} {w0 : World} {ok0 : Nat → Prop} (hc : chk1 ms l.length 0 l = true) (ht : zFo P l ms tab J tab)
  (hQ : ∀ s ok σ a w, J s → R B w0 ok0 ok σ s a w → Q .normal a w) :
  ∀ (fuel : Nat) (listed : Array Bool) (mask : Nat) (s : St) (ok : Nat → Prop) (σ : Nat → Loc) (a : Act) (w : World), listed.size = l.length → (∀ j, listed.getD j false = mask.testBit j) → (∀ j, listed.getD j false = true → ∀ m, (ms.getD j 0).testBit m = true → listed.getD m false = true) →
   left l.length (fun j => listed.getD j false) ≤ fuel → tab.lookup mask = some s → R B w0 ok0 ok σ s a w → wpAny P .any l.toArray Q fuel listed a w := by
 have full : ∀ (listed : Array Bool) (mask : Nat), listed.size = l.length → (∀ j, listed.getD j false = mask.testBit j) → (∀ j, j < l.length → listed.getD j false = true) → mask = 2 ^ l.length - 1 := by
  intro listed mask hs hm hall
  apply Nat.eq_of_testBit_eq
  intro j
  rw [Nat.testBit_two_pow_sub_one, ← hm]
  by_cases hj : j < l.length
  ·rw [hall j hj]; simp [hj]
  ·have : listed.getD j false = false := by
    rw [Array.getD_eq_getD_getElem?, Array.getElem?_eq_none (by omega)]
    rfl
   rw [this]
   simp [hj]
 intro fuel
 induction fuel with
 | zero =>
  intro listed mask s ok σ a w hs hm hcl hf hl hR
  have hall := left_zero (Nat.le_zero.1 hf)
  obtain ⟨_, h2⟩ := zJd tab ht mask s hl
  have hnil : Region.ready .any l.toArray listed = [] := by
   rw [List.eq_nil_iff_forall_not_mem]
   intro i hi
   obtain ⟨h1, o, h3, _⟩ := (zEd hs i).1 hi
   have hlt : i < l.length := by
    rcases Nat.lt_or_ge i l.length with h4 | h4
    ·exact h4
    ·rw [List.getElem?_eq_none h4] at h3; cases h3
   rw [hall i hlt] at h1
   cases h1
  exact ⟨hnil, hQ s ok σ a w (h2 (full listed mask hs hm hall)) hR⟩
 | succ fuel ih =>
  intro listed mask s ok σ a w hs hm hcl hf hl hR
  obtain ⟨hst, h2⟩ := zJd tab ht mask s hl
  refine ⟨fun hnil => ?_, fun i hi => ?_⟩
  ·refine hQ s ok σ a w (h2 (full listed mask hs hm fun j hj => ?_)) hR
   cases h3 : listed.getD j false with
   | true => rfl
   | false => exact absurd hnil (zHa hc hs j hj h3)
  ·have hbits := zGv hc hs hi hcl
   obtain ⟨h1, o, h3, _⟩ := (zEd hs i).1 hi
   have hlt : i < l.length := by
    rcases Nat.lt_or_ge i l.length with h4 | h4
    ·exact h4
    ·rw [List.getElem?_eq_none h4] at h3; cases h3
   obtain ⟨o2, s', s2, e1, e2, e3, e4, e5⟩ := stepT_at _ hst i (zJs ms mask _ i hlt (by rw [← hm]; exact h1) fun j hj => by rw [← hm]; exact hbits j hj)
   rw [h3] at e1
   injection e1 with e1
   subst e1
   have hset := zFK listed i (by omega)
   have hleft := left_set hs hlt h1
   unfold wpOp
   rw [show l.toArray[i]? = l[i]? by simp, h3]
   simp only
   rw [if_pos (zFz hR.core (.inl e2))]
   refine .inl (e3 B w0 ok0 ok σ a w hR _ Q fun a' w' ok' σ' hR' => ?_)
   refine ih (listed.setIfInBounds i true) (mask ||| 2 ^ i) s2 ok' σ' a' w' (by simpa using hs) (fun j => ?_) (fun j hj m hmm => ?_) (by omega) e4 (hR'.le e5)
   ·rw [hset, Nat.testBit_or, Nat.testBit_two_pow, ← hm]
    by_cases hj : j = i
    ·subst hj; simp
    ·rw [if_neg hj]
     have : decide (i = j) = false := by simp; exact fun e => hj e.symm
     rw [this, Bool.or_false]
   ·rw [hset] at hj ⊢
    split
    ·rfl
    ·by_cases hji : j = i
     ·subst hji
      exact hbits m hmm
     ·rw [if_neg hji] at hj
      exact hcl j hj m hmm
theorem V_dag {id : Nat} {l : List Oper} {s : St} {J : Exit → St → Prop} (ms : List Nat) (tab : List (Nat × St)) (hm : P.follows .mixedOrders = true) (hc : chk1 ms l.length 0 l = true) (h0 : tab.lookup 0 = some s)
  (h : zFo P l ms tab (J .normal) tab) : V P (.region id l.toArray true) s J := by
 intro B w0 ok0 ok σ a w hR
 refine wp_region_any hm ?_
 have hrep : ∀ j, (Array.replicate l.toArray.size false).getD j false = false := by
  intro j
  rw [Array.getD_eq_getD_getElem?, Array.getElem?_replicate]
  split <;> rfl
 refine dag_any (B := B) (w0 := w0) (ok0 := ok0) hc h (fun s' ok' σ' a' w' hJ hR' => ⟨s', ok', σ', hJ, hR'⟩) l.toArray.size _ 0 s ok σ a _ (by simp) (fun j => by rw [hrep j, Nat.zero_testBit]) (fun j hj => by rw [hrep j] at hj; cases hj) ?_ h0 hR.drew
 unfold left
 refine Nat.le_trans List.countP_le_length ?_
 simp
theorem V_dagK {id : Nat} {l : List Oper} {s s1 : St} {J : Exit → St → Prop} (m : List Bool) (ids : List Nat) (ms : List Nat) (tab : List (Nat × St)) (hm : P.follows .mixedOrders = true) (hc : chk1 ms l.length 0 l = true) (h0 : tab.lookup 0 = some s)
  (h : zFo P l ms tab (fun s' => s'.keep m ids = s1) tab) (hj : J .normal s1) : V P (.region id l.toArray true) s J := by
 intro B w0 ok0 ok σ a w hR
 refine wp_mono (V_dag (J := fun e s' => e = .normal ∧ s'.keep m ids = s1) ms tab hm hc h0 ?_ B w0 ok0 ok σ a w hR) ?_
 ·have : ∀ ps, zFo P l ms tab (fun s' => s'.keep m ids = s1) ps → zFo P l ms tab (fun s' => Exit.normal = .normal ∧ s'.keep m ids = s1) ps := by
   intro ps
   induction ps with
   | nil => intro _; trivial
   | cons p ps ih => intro hp; exact ⟨hp.1, fun e => ⟨rfl, hp.2.1 e⟩, ih hp.2.2⟩
  exact this tab h
 ·rintro e a' w' ⟨s', ok', σ', ⟨rfl, hs⟩, hR'⟩
  subst hs
  exact ⟨_, ok', σ', hj, hR'.le (zHM m ids s')⟩
theorem V_sdagK {id : Nat} {l : List Oper} {y : Code} {s s1 : St} {J : Exit → St → Prop} (m : List Bool) (ids : List Nat) (ms : List Nat) (tab : List (Nat × St)) (hm : P.follows .mixedOrders = true) (hc : chk1 ms l.length 0 l = true) (h0 : tab.lookup 0 = some s)
  (h : zFo P l ms tab (fun s' => s'.keep m ids = s1) tab) (hv : V P y s1 J) : V P (.seq (.region id l.toArray true) y) s J := zO (V_dagK m ids ms tab hm hc h0 h hv)
theorem tab_nil {l : List Oper} {ms : List Nat} {tab : List (Nat × St)} {J : St → Prop} : zFo P l ms tab J [] := trivial
theorem zDP {l : List Oper} {ms : List Nat} {tab : List (Nat × St)} {J : St → Prop} {m : Nat} {s : St} {ps : List (Nat × St)} (is : List Nat) (h1 : zGp ms m l.length = is) (h3 : Nat.beq m (2 ^ l.length - 1) = false) (h2 : zJI P l tab m s is) (h4 : zFo P l ms tab J ps) : zFo P l ms tab J ((m, s) :: ps) :=
 ⟨(by rw [h1]; exact h2), (fun e => by rw [← e, Nat.beq_refl] at h3; cases h3), h4⟩
theorem tab_last {l : List Oper} {ms : List Nat} {tab : List (Nat × St)} {J : St → Prop} {m : Nat} {s : St} {ps : List (Nat × St)} (h1 : zGp ms m l.length = []) (h3 : J s) (h4 : zFo P l ms tab J ps) : zFo P l ms tab J ((m, s) :: ps) :=
 ⟨(by rw [h1]; trivial), (fun _ => h3), h4⟩
theorem jR {l : List Oper} {tab : List (Nat × St)} {mask : Nat} {s : St} {i : Nat} {is : List Nat} {o : Oper} {s' s2 : St} (h1 : l[i]? = some o) (h2 : o.guard = none) (h3 : X P o s s') (h4 : tab.lookup (mask ||| 2 ^ i) = some s2) (h5 : s2.T = s'.T) (h6 : HasE s' s2.E) (h : zJI P l tab mask s is) : zJI P l tab mask s (i :: is) :=
 ⟨⟨o, s', s2, h1, h2, h3, h4, h5, h6⟩, h⟩
theorem zCR {l : List Oper} {tab : List (Nat × St)} {mask : Nat} {s : St} : zJI P l tab mask s [] := trivial
end
def zKZ (kd : IntKind) (w : World) (a : Option Addr) (len cap : Nat) (zs : List Int) : Prop :=
 (a = none ∧ len = 0 ∧ cap = 0 ∧ zs = []) ∨
 ∃ g : Addr, a = some g ∧ len ≤ cap ∧ cap ≤ maxLen ∧ zs.length = cap ∧ (∀ i, i < zs.length → w.cell? (g.add i) = some (.int kd (zs.getD i 0))) ∧ (∀ n ∈ zs, (Lit.int kd n).wf = true)
theorem row_rd {kd : IntKind} {w : World} {a : Option Addr} {len cap : Nat} {zs : List Int} (h : zKZ kd w a len cap zs) (c : Int → List Tr) (hc : ∀ x, c x = [.v (.int kd x)]) : Rd (fun g => g < w.heap.size) w (.sl ((zs.take len).map c)) (.slice a len cap) := by
 rcases h with ⟨rfl, rfl, rfl, rfl⟩ | ⟨g, rfl, hl, hm, hz, hcell, hwf⟩
 ·exact .nl _ _
 ·rcases Nat.eq_zero_or_pos len with h0 | h0
  ·subst h0
   simpa using Rd.nl _ _
  ·have h1 := hcell 0 (by omega)
   have h2 : g.add 0 = g := rfl
   rw [h2] at h1
   have hs : g.spot = none := World.cell?_spot h1
   obtain ⟨b, o, sp⟩ := g
   simp only at hs
   subst hs
   have hb : b < w.heap.size := by
    unfold World.cell? at h1
    simp only at h1
    rcases Nat.lt_or_ge b w.heap.size with h3 | h3
    ·exact h3
    ·rw [Array.getElem?_eq_none h3] at h1; cases h1
   have hat : ∀ i j c', at2 ((zs.take len).map c) i j = some c' → i < len ∧ j = 0 ∧ c' = .v (.int kd (zs.getD i 0)) := by
    intro i j c' hh
    unfold at2 at hh
    rw [List.getElem?_map] at hh
    have hi : i < len := by
     rcases Nat.lt_or_ge i len with h3 | h3
     ·exact h3
     ·rw [List.getElem?_eq_none (by simp; omega)] at hh; cases hh
    have hzi : (zs.take len)[i]? = some (zs.getD i 0) := by
     rw [List.getElem?_take, if_pos hi, List.getD_eq_getElem?_getD]
     have : i < zs.length := by omega
     rw [List.getElem?_eq_getElem this]
     rfl
    rw [hzi] at hh
    simp only [Option.map_some, Option.bind_some, hc] at hh
    cases j with
    | zero => simp at hh; exact ⟨hi, rfl, hh.symm⟩
    | succ j => simp at hh
   refine .sl b o len cap 1 _ (fun i j => .int kd (zs.getD i 0)) (by simp; omega) hl hb (fun el hel => ?_) (fun i j c' hh => ?_) (fun i j c' hh => ?_)
   ·obtain ⟨x, _, rfl⟩ := List.mem_map.1 hel
    rw [hc]; rfl
   ·obtain ⟨h3, h4, _⟩ := hat i j c' hh
    subst h4
    have h5 := hcell i (by omega)
    rw [zE5] at h5
    simpa using h5
   ·obtain ⟨h3, h4, h5⟩ := hat i j c' hh
    rw [h5]
    exact .v _ rfl
theorem relA_row {kd : IntKind} {w : World} {σ : Nat → Loc} {a : Option Addr} {len cap : Nat} {zs : List Int} {args : List AV} {vs : List Value} (h : zKZ kd w a len cap zs) (c : Int → List Tr) (hc : ∀ x, c x = [.v (.int kd x)]) (hs : RelA (fun g => g < w.heap.size) σ w args vs) :
  RelA (fun g => g < w.heap.size) σ w (.c (.sl ((zs.take len).map c)) :: args) (.slice a len cap :: vs) := .cons (row_rd h c hc) hs
theorem row_u8 {w : World} {a : Option Addr} {len cap : Nat} {zs : List Int} (h : zKZ .u8 w a len cap zs) : ∀ x ∈ zs.take len, 0 ≤ x ∧ x ≤ 255 := by
 intro x hx
 have hx := List.mem_of_mem_take hx
 rcases h with ⟨_, _, _, rfl⟩ | ⟨g, _, _, _, _, _, hwf⟩
 ·cases hx
 ·exact bounds_u8 (hwf x hx)
section
variable {P : Program}
def frzB1 (id : Nat) (cs : List Tr) : AV → AV
 | .ow k => bif k == id then .bot else .ow k
 | .pt k o => bif k == id then .pe (cs.drop o) else .pt k o
 | .po k z i o => bif k == id then .bot else .po k z i o
 | .tc _ _ => .bot
 | av => av
def St.frzB (s : St) (id : Nat) (cs : List Tr) : St := ⟨s.T.map (frzB1 id cs), rmE id s.E⟩
theorem frzB_get (s : St) (id : Nat) (cs : List Tr) (t : Nat) : (s.frzB id cs).get t = frzB1 id cs (s.get t) := by
 unfold St.frzB St.get
 simp only [List.getElem?_map]
 cases s.T[t]? <;> rfl
theorem zGy (s : St) (id : Nat) (cs : List Tr) (j : Nat) (e : Ent) (h : (s.frzB id cs).ent j = some e) : j ≠ id ∧ s.ent j = some e := by
 have h2 : (rmE id s.E).lookup j = some e := h
 rw [zEV] at h2
 split at h2
 ·cases h2
 ·rename_i hne
  exact ⟨hne, h2⟩
theorem R_frzB {B : Fr} {w0 : World} {ok0 ok : Nat → Prop} {σ : Nat → Loc} {s : St} {a : Act} {w : World} (hR : R B w0 ok0 ok σ s a w) (id : Nat) {cs : List Tr} (he : s.ent id = some (.box cs)) : R B w0 ok0 (fun g => ok g ∨ (σ id).blk = some g) σ (s.frzB id cs) a w := by
 have hup : ∀ g, ok g → ok g ∨ (σ id).blk = some g := fun g hg => .inl hg
 refine ⟨⟨by simpa [St.frzB] using hR.core.len, fun g hg => ?_, hR.core.lib.mono hup (fun _ _ => rfl), fun t => ?_, fun j e hj => ?_, fun j e g hj hg => ?_, fun i j e f g hi hj h1 h2 => ?_⟩, hR.defers, hR.below, hR.base, fun g hg => .inl (hR.old g hg), fun g hg => ?_, fun j e g hj hg => hR.own j e g (zGy s id cs j e hj).2 hg⟩
 ·rcases hg with hg | hg
  ·exact hR.core.okL g hg
  ·exact (hR.core.blk id _ g he hg).2
 ·rw [frzB_get]
  have h1 := hR.core.tmp t
  generalize s.get t = av at h1
  have same : Rel (fun g => ok g ∨ (σ id).blk = some g) σ w av (a.tmps.getD t undef) := h1.mono0 hup fun _ _ => rfl
  cases av with
  | ow k =>
   simp only [frzB1]
   cases k == id with
   | false => exact same
   | true => exact trivial
  | pt k o =>
   simp only [frzB1]
   cases hk : k == id with
   | false => exact same
   | true =>
    have e1 : k = id := by simpa using hk
    subst e1
    have hle : Le ⟨s.T, [(k, .box cs)]⟩ s := ⟨Nat.le_refl _, fun t => .inr rfl, fun j e hj => by
     unfold St.ent at hj
     simp only [List.lookup] at hj
     split at hj
     ·rename_i hjk
      have : j = k := by simpa using hjk
      subst this
      injection hj with hj
      subst hj
      exact he
     ·cases hj⟩
    have h2 := zIA (hR.le hle).core h1
    have e2 : zGa ⟨s.T, [(k, .box cs)]⟩ (.pt k o) = .pe (cs.drop o) := by
     simp [zGa, St.entc, St.ent, List.lookup, Ent.core]
    rw [e2] at h2
    refine h2.mono0 (fun g hg => ?_) fun _ _ => rfl
    rcases hg with hg | ⟨j, e, hj, hg⟩
    ·exact .inl hg
    ·refine .inr ?_
     unfold St.ent at hj
     simp only [List.lookup] at hj
     split at hj
     ·rename_i hjk
      have : j = k := by simpa using hjk
      subst this
      exact hg
     ·cases hj
  | po k z i o =>
   simp only [frzB1]
   cases k == id with
   | false => exact same
   | true => exact trivial
  | tc x r => exact trivial
  | tn => exact same
  | bot => exact same
  | c t => exact same
  | ag cs => exact same
  | pe cs => exact same
  | fn f caps => exact same
  | er b => exact same
  | vw id els m => exact same
  | sf id z i => exact same
 ·obtain ⟨_, h2⟩ := zGy s id cs j e hj
  exact (hR.core.ent j e h2).mono hup (fun _ _ => rfl) fun _ _ => rfl
 ·obtain ⟨h1, h2⟩ := zGy s id cs j e hj
  obtain ⟨h3, h4⟩ := hR.core.blk j e g h2 hg
  refine ⟨fun h5 => ?_, h4⟩
  rcases h5 with h5 | h5
  ·exact h3 h5
  ·exact h1 (hR.core.inj _ _ _ _ _ h2 he hg h5)
 ·exact hR.core.inj i j e f g (zGy s id cs i e hi).2 (zGy s id cs j f hj).2 h1 h2
 ·rcases hg with hg | hg
  ·exact hR.fresh g hg
  ·exact .inr (hR.own id _ g he hg)
theorem V_freezeB {c : Code} {s s1 : St} {J : Exit → St → Prop} (id : Nat) {cs : List Tr} (he : s.ent id = some (.box cs)) (hs : s.frzB id cs = s1) (h : V P c s1 J) : V P c s J := by
 subst hs
 exact fun _ _ _ _ _ _ _ hR => h _ _ _ _ _ _ _ (R_frzB hR id he)
def evPe (s : St) : List Operand → Option (List (List Tr))
 | [] => some []
 | x :: xs => match s.ev x, evPe s xs with
  | .pe cs, some r => some (cs :: r)
  | _, _ => none
theorem evPe_rel {ok : Nat → Prop} {σ : Nat → Loc} {s : St} {a : Act} {w : World} (h : Core ok σ s a w) : ∀ (xs : List Operand) (cs : List (List Tr)), evPe s xs = some cs → PeL ok w cs (xs.map a.eval)
 | [], cs, he => by
  injection he with he
  subst he
  exact .nil
 | x :: xs, cs, he => by
  unfold evPe at he
  cases h1 : s.ev x with
  | pe c =>
   rw [h1] at he
   cases h2 : evPe s xs with
   | none => rw [h2] at he; cases he
   | some r =>
    rw [h2] at he
    injection he with he
    subst he
    have h3 := h.ev x
    rw [h1] at h3
    exact .cons h3 (evPe_rel h xs r h2)
  | _ => rw [h1] at he; cases he
theorem Y0_makeFunc {o : Oper} {s : St} {f : FuncId} {xs : Array Operand} {cs : List (List Tr)} (ho : o.op = .makeFunc (.func f) #[] xs) (hx : evPe s xs.toList = some cs) : Y0 P o s (.fn f cs) :=
 zAE fun ok σ a w hC => by
  have h1 := evPe_rel hC xs.toList cs hx
  refine ⟨.func (.func f) #[] (xs.toList.map a.eval).toArray, ?_, ⟨_, rfl, h1⟩⟩
  unfold execOp
  rw [ho]
  have e1 : xs.map a.eval = (xs.toList.map a.eval).toArray := by
   apply Array.ext'
   rw [Array.toList_map]
  simp [Instr.makeFunc, e1]
theorem pes_rel {ok : Nat → Prop} {σ : Nat → Loc} {w : World} : ∀ {cs : List (List Tr)} {ys : List Value}, PeL ok w cs ys → RelA ok σ w (cs.map AV.pe) ys
 | [], _, .nil => .nil
 | c :: cs, _, .cons h hs => .cons h (pes_rel hs)
theorem RelA.app {ok : Nat → Prop} {σ : Nat → Loc} {w : World} {ts us : List AV} {xs ys : List Value} (h : RelA ok σ w ts xs) (h2 : RelA ok σ w us ys) : RelA ok σ w (ts ++ us) (xs ++ ys) := by
 induction h with
 | nil => exact h2
 | cons h hs ih => exact .cons h ih
theorem Y1_callF {o : Oper} {s : St} {f : FuncId} {x : Operand} {caps : List (List Tr)} {xs : Array Operand} {ts : Array TypeId} {args : List AV} {av : AV} {ne : List (Nat × Ent)} (hS : qE P f (args ++ caps.map AV.pe) av ne) (hc : ∀ args w, (callFunc f args).run P w = .ok (.enter f args) w)
  (ho : o.op = .call { callee := .value x, args := xs, argTypes := ts }) (hx : s.ev x = .fn f caps) (ha : evL s xs.toList = args) : Y1 P o s av ne := by
 intro ok σ a w hC K Q hK
 subst ha
 have h1 := hC.ev x
 rw [hx] at h1
 obtain ⟨vs, hv, hp⟩ := (h1 : Rel1 ok σ w (.fn f caps) (a.eval x))
 unfold Oper.wp execOp
 rw [ho]
 have e1 : xs.map a.eval = (xs.toList.map a.eval).toArray := by
  apply Array.ext'
  rw [Array.toList_map]
 have e2 : (xs.toList.map a.eval).toArray ++ vs.toArray = (xs.toList.map a.eval ++ vs).toArray := by simp
 simp only [resolve, hv, Deferred.ofValue, Sem.run_bind, Sem.run_pure, Result.andThen_ok, invoke, hc, e1, Array.empty_append, e2, Oper.upon]
 refine Calls.mono (hS ok σ w _ hC.okL hC.lib ((zJ8 hC xs.toList).app (pes_rel hp))) ?_
 rintro e w' ⟨v, ok', σ', he, hn⟩
 subst he
 exact hK v w' ok' σ' hn
end
end Go.Proofs.YtnheekadeflecaaGreat
namespace Go.Proofs.YtnheekadeflecaaGreat
section
variable {κ ν : Type} [DecidableEq κ]
def ixM (a : κ) : List κ → Option Nat
 | [] => none
 | k :: ks => if a = k then some 0 else (ixM a ks).map (· + 1)
end
end Go.Proofs.YtnheekadeflecaaGreat
namespace Go.Proofs.YtnheekadeflecaaGreat
open Go.RowKit
section
variable {P : Program}
end
section
variable {P : Program}
end
section
variable {P : Program}
def bt : Nat → List AV → List AV
 | 0, l => l
 | n + 1, l => .bot :: bt n l
def mb : Nat → Nat → List Bool
 | 0, _ => []
 | n + 1, x => Nat.beq (Nat.mod x 2) 1 :: mb n (Nat.div x 2)
theorem L0 {ops : Array Oper} {o : Oper} {rest : List Oper} {s : St} {av : AV} {d : Nat} {J : St → Prop} (hg : o.guard = none) (hd : o.dst = some d) (h : Y0 P o s av) (hk : XL P ops rest (s.put d av) J) : XL P ops (o :: rest) s J := zE hg (zD hd h) hk
theorem L1 {ops : Array Oper} {o : Oper} {rest : List Oper} {s : St} {av : AV} {ne : List (Nat × Ent)} {d : Nat} {J : St → Prop} (hg : o.guard = none) (hd : o.dst = some d) (h : Y1 P o s av ne) (hk : XL P ops rest (s.upd d av ne) J) : XL P ops (o :: rest) s J := zE hg (zAT hd h) hk
theorem V_cutS {α β : Type} {q : α ⊕ β} {x y : Code} {s : St} {S : α → St} {J : Exit → St → Prop} (m : List Bool) (ids : List Nat) (h1 : V P x s (thenA (fun s' => ∃ o, q = .inl o ∧ s'.keep m ids = S o) J)) (h2 : ∀ o, q = .inl o → V P y (S o) J) : V P (.seq x y) s J := by
 refine zO (zE6 (q := q) (S := S) m ids (V_mono h1 fun e s' h => ?_) h2)
 cases e <;> exact h
theorem E_idxA {o : Oper} {s : St} {t e : TypeId} {x ix : Operand} {k : IntKind} {N sz : Nat} {n : Int} (av : AV) (hu : P.underlying t = some (.array N e)) (hsz : (P.info? e).map (·.size) = some sz) (ho : o.op = .indexAddr t x ix) (hi : s.ev ix = .c (.v (.int k n)))
  (hn : (decide (0 ≤ n) && decide (n < N)) = true) (hx : (s.ev x).adv (n.toNat * sz) = av) (hb : av ≠ .bot) : Y0 P o s av :=
 zAE fun ok σ a w hC => by
  subst hx
  obtain ⟨g, off, h1, h2⟩ := adv_rel (n.toNat * sz) (hC.ev x) hb
  refine ⟨_, ?_, h2⟩
  simp only [Bool.and_eq_true, decide_eq_true_eq] at hn
  have h3 := hC.exact hi
  cases hii : P.info? e with
  | none => rw [hii] at hsz; simp at hsz
  | some i =>
   have h5 : i.size = sz := by rw [hii] at hsz; simpa using hsz
   unfold execOp
   rw [ho]
   simp [h1, h3, Instr.indexAt, asIntOf, run_underlying hu, Instr.sureAddr, sizeOf, typeInfo, hii, h5, hn.1, hn.2, zE5]
end
theorem kk {p : Prop} (h : p := by kernel_rfl) : p := h
section
variable (P : Program)
def nbA : AV → Option AV
 | .bot => none
 | av => some av
def xbin (op : BinOp) : AV → AV → Option AV
 | .c (.v (.int .i64 a)), .c (.v (.int .i64 b)) => match op with
  | .add => some (I (w64 (a + b)))
  | .sub => some (I (w64 (a - b)))
  | .mul => some (I (w64 (a * b)))
  | .lss => some (Bo (ltI a b))
  | .leq => some (Bo (leI a b))
  | .gtr => some (Bo (ltI b a))
  | .geq => some (Bo (leI b a))
  | .eql => some (Bo (eqI a b))
  | .neq => some (Bo (!eqI a b))
  | _ => none
 | _, _ => none
def xun (op : UnOp) : AV → Option AV
 | .c (.v (.int .i64 a)) => match op with
  | .neg => some (I (w64 (0 - a)))
  | _ => none
 | .c (.v (.bool b)) => match op with
  | .not => some (.c (.v (.bool (!b))))
  | _ => none
 | _ => none
def zH0 (t : TypeId) : Option Nat := (P.info? t).map (·.size)
def xv (s : St) : Op → Option AV
 | .move x => some (s.ev x)
 | .assign x => some (s.ev x)
 | .extract x n => match s.ev x with
  | .tc y r => nbA ((AV.tc y r).nth n)
  | _ => none
 | .fieldAddr t x f => match P.underlying t with
  | some (.struct fields) => match fields[f]? with
   | some fd => match zH0 P fd.type with
    | some (_ + 1) => nbA ((s.ev x).adv fd.offset)
    | _ => none
   | none => none
  | _ => none
 | .load t x => match P.underlying t with
  | some d => bif aggD d then (match zH0 P t, zAm s (s.ev x) with
    | some n, some cs => bif Nat.ble n cs.length then some (.ag (cs.take n)) else none
    | _, _ => none)
   else (match zAm s (s.ev x) with
    | some (c :: _) => some (.c c)
    | _ => none)
  | none => none
 | .indexAddr t x ix => match P.underlying t with
  | some (.array N e) => match zH0 P e, s.ev ix with
   | some sz, .c (.v (.int _ n)) => bif (decide (0 ≤ n) && decide (n < N)) then nbA ((s.ev x).adv (n.toNat * sz)) else none
   | _, _ => none
  | _ => none
 | .binOp op _ x y _ => xbin op (s.ev x) (s.ev y)
 | .unOp op _ x => xun op (s.ev x)
 | _ => none
def xn (s : St) : Op → Option (AV × List (Nat × Ent))
 | .alloc e => match (P.info? e).bind (·.zero) with
  | some z => bif zFX z.cells then some (.pt 0 0, [(0, .box (z.cells.toList.map Tr.v))]) else none
  | none => none
 | .box _ x => match zDA (s.ev x) with
  | some cs => some (.pt 0 0, [(0, .box cs)])
  | none => none
 | _ => none
def xs (s : St) : Op → Option St
 | .store t x y => match s.ev x, zDA (s.ev y) with
  | .pt id off, some vc => match s.ent id with
   | some (.box cs) => bif (zH0 P t == some vc.length) && Nat.ble (off + vc.length) cs.length then some ⟨s.T, setE id (.box (splice cs off vc)) s.E⟩ else none
   | some (.pbox l cs) => bif (zH0 P t == some vc.length) && Nat.ble (off + vc.length) cs.length then some ⟨s.T, setE id (.pbox l (splice cs off vc)) s.E⟩ else none
   | _ => none
  | _, _ => none
 | _ => none
def xo (o : Oper) (s : St) : Option St := match o.dst with
 | some d => match xv P s o.op with
  | some av => some (s.put d av)
  | none => match xn P s o.op with
   | some r => some (s.upd d r.1 r.2)
   | none => none
 | none => xs P s o.op
def xr : List Oper → St → Option St
 | [], s => some s
 | o :: os, s => match o.guard with
  | none => match xo P o s with
   | some s' => xr os s'
   | none => none
  | some _ => none
def rD (l : List Oper) (s : St) : St := (xr P l s).getD s
end
section
variable {P : Program}
theorem nbA_ok {a b : AV} (h : nbA a = some b) : a = b ∧ b ≠ .bot := by
 cases a <;> simp only [nbA] at h <;> first | (cases h; done) | (cases h; exact ⟨rfl, fun h => by cases h⟩)
theorem xbin_ok {o : Oper} {s : St} {op : BinOp} {t t2 : TypeId} {x y : Operand} {av : AV} (ho : o.op = .binOp op t x y t2) (h : xbin op (s.ev x) (s.ev y) = some av) : Y0 P o s av := by
 generalize hx : s.ev x = a at h
 generalize hy : s.ev y = b at h
 unfold xbin at h
 split at h
 ·cases op <;> simp only [Option.some.injEq, reduceCtorEq] at h <;> subst h
  ·exact Y0_add64 ho hx hy
  ·exact zHJ ho hx hy
  ·exact Y0_mul64 ho hx hy
  all_goals first | exact zJG ho hx hy | exact zKX ho hx hy | exact Y0_ltw ho hx hy | exact Y0_lew ho hx hy | exact Y0_gtw ho hx hy | exact Y0_gew ho hx hy
 ·cases h
theorem xun_ok {o : Oper} {s : St} {op : UnOp} {t : TypeId} {x : Operand} {av : AV} (ho : o.op = .unOp op t x) (h : xun op (s.ev x) = some av) : Y0 P o s av := by
 generalize hx : s.ev x = a at h
 unfold xun at h
 split at h
 ·cases op <;> simp only [Option.some.injEq, reduceCtorEq] at h
  subst h
  exact Y0_neg64 ho hx
 ·cases op <;> simp only [Option.some.injEq, reduceCtorEq] at h
  subst h
  exact zDs ho hx
 ·cases h
theorem xv_ok {o : Oper} {s : St} {av : AV} (h : xv P s o.op = some av) : Y0 P o s av := by
 unfold xv at h
 split at h
 ·cases h; rename_i ho; exact Y0_move ho
 ·cases h; rename_i ho; exact Y0_assign ho
 ·rename_i ho
  split at h
  ·rename_i hx
   obtain ⟨h1, h2⟩ := nbA_ok h
   exact E_ext _ _ _ ho hx h1 h2
  ·cases h
 ·rename_i ho
  split at h
  ·rename_i hu
   split at h
   ·rename_i hf
    split at h
    ·rename_i hs
     obtain ⟨h1, h2⟩ := nbA_ok h
     exact zCM _ hu hf hs ho h1 h2
    ·cases h
   ·cases h
  ·cases h
 ·rename_i ho
  split at h
  ·rename_i d hu
   cases ha : aggD d with
   | true =>
    rw [ha, cond_true] at h
    split at h
    ·rename_i n cs hn hm
     cases hb : Nat.ble n cs.length with
     | true =>
      rw [hb, cond_true] at h
      cases h
      exact zFH _ ⟨⟨d, hu, ha⟩, hn⟩ ho hm (Nat.le_of_ble_eq_true hb) rfl
     | false => rw [hb, cond_false] at h; cases h
    ·cases h
   | false =>
    rw [ha, cond_false] at h
    split at h
    ·rename_i c cs hm
     cases h
     exact zBM ⟨d, hu, ha⟩ ho hm
    ·cases h
  ·cases h
 ·rename_i ho
  split at h
  ·rename_i N e hu
   split at h
   ·rename_i sz k n hs hi
    cases hb : (decide (0 ≤ n) && decide (n < (N : Int))) with
    | true =>
     rw [hb, cond_true] at h
     obtain ⟨h1, h2⟩ := nbA_ok h
     exact E_idxA _ hu hs ho hi hb h1 h2
    | false => rw [hb, cond_false] at h; cases h
   ·cases h
  ·cases h
 ·rename_i ho; exact xbin_ok ho h
 ·rename_i ho; exact xun_ok ho h
 ·cases h
theorem xn_ok {o : Oper} {s : St} {r : AV × List (Nat × Ent)} (h : xn P s o.op = some r) : Y1 P o s r.1 r.2 := by
 unfold xn at h
 split at h
 ·rename_i e ho
  split at h
  ·rename_i z hz
   cases hc : zFX z.cells with
   | true => rw [hc, cond_true] at h; cases h; exact zEr ho hz hc
   | false => rw [hc, cond_false] at h; cases h
  ·cases h
 ·rename_i e x ho
  split at h
  ·rename_i cs hx
   cases h
   exact Y1_box ho hx
  ·cases h
 ·cases h
theorem xs_ok {o : Oper} {s s' : St} (hd : o.dst = none) (h : xs P s o.op = some s') : X P o s s' := by
 unfold xs at h
 split at h
 ·rename_i t x y ho
  split at h
  ·rename_i id off vc hx hy
   split at h
   ·rename_i cs he
    cases hb : (zH0 P t == some vc.length) && Nat.ble (off + vc.length) cs.length with
    | true =>
     rw [hb, cond_true] at h
     cases h
     rw [Bool.and_eq_true, beq_iff_eq] at hb
     exact E_store _ ho hd hx he hy hb.1 (Nat.le_of_ble_eq_true hb.2) rfl
    | false => rw [hb, cond_false] at h; cases h
   ·rename_i l cs he
    cases hb : (zH0 P t == some vc.length) && Nat.ble (off + vc.length) cs.length with
    | true =>
     rw [hb, cond_true] at h
     cases h
     rw [Bool.and_eq_true, beq_iff_eq] at hb
     exact E_storep _ ho hd hx he hy hb.1 (Nat.le_of_ble_eq_true hb.2) rfl
    | false => rw [hb, cond_false] at h; cases h
   ·cases h
  ·cases h
 ·cases h
theorem xo_ok {o : Oper} {s s' : St} (h : xo P o s = some s') : X P o s s' := by
 unfold xo at h
 split at h
 ·rename_i d hd
  split at h
  ·rename_i av hv
   cases h
   exact zD hd (xv_ok hv)
  ·split at h
   ·rename_i r hn
    cases h
    exact zAT hd (xn_ok hn)
   ·cases h
 ·rename_i hd; exact xs_ok hd h
theorem xr_ok {ops : Array Oper} {J : St → Prop} (rest : List Oper) : ∀ (l : List Oper) (s s' : St), xr P l s = some s' → XL P ops rest s' J → XL P ops (l ++ rest) s J
 | [], s, s', h, hk => by cases h; exact hk
 | o :: os, s, s', h, hk => by
  unfold xr at h
  split at h
  ·rename_i hg
   split at h
   ·rename_i s1 h1
    exact zE hg (xo_ok h1) (xr_ok rest os s1 s' h hk)
   ·cases h
  ·cases h
theorem XR (n : Nat) {ops : Array Oper} {rest : List Oper} {s : St} {J : St → Prop} (hk : XL P ops (rest.drop n) (rD P (rest.take n) s) J) (h : (xr P (rest.take n) s).isSome = true := by kernel_rfl) : XL P ops rest s J := by
 cases hx : xr P (rest.take n) s with
 | none => rw [hx] at h; cases h
 | some s' =>
  have e : rD P (rest.take n) s = s' := by unfold rD; rw [hx]; rfl
  rw [e] at hk
  have := xr_ok (ops := ops) (J := J) (rest.drop n) (rest.take n) s s' hx hk
  rwa [List.take_append_drop] at this
theorem XE {ops : Array Oper} {rest : List Oper} {s s1 : St} {m : List Bool} {ids : List Nat} (h : (xr P rest s).map (fun s' => s'.keep m ids) = some s1 := by kernel_rfl) : XL P ops rest s (fun s' => s'.keep m ids = s1) := by
 cases hx : xr P rest s with
 | none => rw [hx] at h; cases h
 | some s' =>
  rw [hx] at h
  have h2 : s'.keep m ids = s1 := by injection h
  have := xr_ok (ops := ops) (J := fun s' => s'.keep m ids = s1) [] rest s s' hx (zH h2)
  rwa [List.append_nil] at this
theorem V_e {id : Nat} {ops : Array Oper} {y : Code} {s s1 : St} {J : Exit → St → Prop} (m : List Bool) (ids : List Nat) (hv : V P y s1 J) (h : (xr P ops.toList s).map (fun s' => s'.keep m ids) = some s1 := by kernel_rfl) : V P (.seq (.region id ops false) y) s J := zG m ids (XE h) hv
theorem XC {ops : Array Oper} {o : Oper} {rest : List Oper} {s : St} {J : St → Prop} {d : Nat} {f : FuncId} {xs : Array Operand} {ts : Array TypeId} {args : List AV} {av : AV} {ne : List (Nat × Ent)} (hS : qE P f args av ne) (hc : ∀ args w, (callFunc f args).run P w = .ok (.enter f args) w) (hg : o.guard = none) (hd : o.dst = some d)
  (ho : o.op = .call { callee := .value (.func f), args := xs, argTypes := ts }) (hk : XL P ops rest (s.upd d av ne) J) (ha : evL s xs.toList = args := by kernel_rfl) : XL P ops (o :: rest) s J := L1 hg hd (zHR hS hc ho ha) hk
def cdr : Nat → Nat → List Cd
 | 0, _ => []
 | k + 1, n => (match Nat.mod n 4 with | 0 => Cd.z | 1 => Cd.a | _ => Cd.b) :: cdr k (Nat.div n 4)
def cdm (k : Nat) : List Nat → List (List Cd)
 | [] => []
 | n :: ns => cdr k n :: cdm k ns
section
variable (P)
def dr2 (l : List Oper) (ms : List Nat) (n1 : Nat) (css : List (List Cd)) (rs : List Res) (S : St) : Op → Option (List Res)
 | .store t x y => match S.ev x, zDA (S.ev y) with
  | .pt id off, some vc => match S.ent id with
   | some (.box cs) => bif (zH0 P t == some vc.length) && Nat.ble (off + vc.length) cs.length && (zI2 rs.length id css && (mkOk ms rs.length id 0 (l.take n1) && zFj id rs)) then some (rs ++ [.r2 id (.box (splice cs off vc))]) else none
   | _ => none
  | _, _ => none
 | _ => none
def dr1 (l : List Oper) (ms : List Nat) (n1 : Nat) (css : List (List Cd)) (s0 : St) (rs : List Res) : Option (List Res) := match l[rs.length]?, css[rs.length]? with
 | some o, some c => bif Nat.blt rs.length n1 then (match o.guard, o.dst with
  | none, some _ => match xv P (appC c (l.take n1) rs s0) o.op with
   | some av => bif zFQ ms rs.length av 0 (l.take n1) then some (rs ++ [.r0 av]) else none
   | none => match xn P (appC c (l.take n1) rs s0) o.op with
    | some r => bif zEz r.2 && (makes o && r.1.small) then some (rs ++ [.r1 r.1 r.2]) else none
    | none => none
  | none, none => dr2 P l ms n1 css rs (appC c (l.take n1) rs s0) o.op
  | _, _ => none) else none
 | _, _ => none
def drN (l : List Oper) (ms : List Nat) (n1 : Nat) (css : List (List Cd)) (s0 : St) : Nat → List Res → Option (List Res)
 | 0, rs => some rs
 | k + 1, rs => match dr1 P l ms n1 css s0 rs with
  | some rs' => drN l ms n1 css s0 k rs'
  | none => none
end
theorem dr1_ok {l : List Oper} {ms : List Nat} {n1 : Nat} {css : List (List Cd)} {s0 : St} {rs rs' : List Res} {K : St → Prop} (h : dr1 P l ms n1 css s0 rs = some rs') (hk : DL P l ms n1 css s0 rs' K) : DL P l ms n1 css s0 rs K := by
 unfold dr1 at h
 split at h
 ·rename_i o c ho hc
  cases hb : Nat.blt rs.length n1 with
  | false => rw [hb, cond_false] at h; cases h
  | true =>
   rw [hb, cond_true] at h
   split at h
   ·rename_i d hg hd
    split at h
    ·rename_i av hv
     cases hm : zFQ ms rs.length av 0 (l.take n1) with
     | false => rw [hm, cond_false] at h; cases h
     | true =>
      rw [hm, cond_true] at h
      cases h
      exact DE_0 rs.length av rfl hb ho hc (zAi hg) hm (xv_ok hv) d hd hk
    ·split at h
     ·rename_i r hr
      cases hm : zEz r.2 && (makes o && r.1.small) with
      | false => rw [hm, cond_false] at h; cases h
      | true =>
       rw [hm, cond_true] at h
       cases h
       rw [Bool.and_eq_true, Bool.and_eq_true] at hm
       exact DE_1 rs.length rfl hb ho hc (zAi hg) (xn_ok hr) hm.1 hm.2.1 hm.2.2 d hd hk
     ·cases h
   ·rename_i hg hd
    unfold dr2 at h
    split at h
    ·rename_i t x y hop
     split at h
     ·rename_i id off vc hx hy
      split at h
      ·rename_i cs he
       cases hm : (zH0 P t == some vc.length) && Nat.ble (off + vc.length) cs.length && (zI2 rs.length id css && (mkOk ms rs.length id 0 (l.take n1) && zFj id rs)) with
       | false => rw [hm, cond_false] at h; cases h
       | true =>
        rw [hm, cond_true] at h
        cases h
        rw [Bool.and_eq_true, Bool.and_eq_true, Bool.and_eq_true, Bool.and_eq_true, beq_iff_eq] at hm
        exact DE_2 rs.length id _ rfl hb ho hc (zAi hg) hop hd hx he hy hm.1.1 (Nat.le_of_ble_eq_true hm.1.2) rfl hm.2.1 hm.2.2.1 hm.2.2.2 hk
      ·cases h
     ·cases h
    ·cases h
   ·cases h
 ·cases h
theorem drN_ok {l : List Oper} {ms : List Nat} {n1 : Nat} {css : List (List Cd)} {s0 : St} {K : St → Prop} : ∀ (k : Nat) (rs rs' : List Res), drN P l ms n1 css s0 k rs = some rs' → DL P l ms n1 css s0 rs' K → DL P l ms n1 css s0 rs K
 | 0, rs, rs', h, hk => by cases h; exact hk
 | k + 1, rs, rs', h, hk => by
  unfold drN at h
  split at h
  ·rename_i r1 h1
   exact dr1_ok h1 (drN_ok k r1 rs' h hk)
  ·cases h
theorem DR (k : Nat) {l : List Oper} {ms : List Nat} {n1 : Nat} {css : List (List Cd)} {s0 : St} {rs : List Res} {K : St → Prop} (hk : DL P l ms n1 css s0 ((drN P l ms n1 css s0 k rs).getD rs) K) (h : (drN P l ms n1 css s0 k rs).isSome = true := by kernel_rfl) : DL P l ms n1 css s0 rs K := by
 cases hx : drN P l ms n1 css s0 k rs with
 | none => rw [hx] at h; cases h
 | some r => rw [hx] at hk; exact drN_ok k rs r hx hk
theorem DA {l : List Oper} {ms : List Nat} {n1 : Nat} {css : List (List Cd)} {s0 : St} {rs : List Res} {K : St → Prop} (k : Nat) (hk : K (fin (l.take n1) ((drN P l ms n1 css s0 k rs).getD rs) s0)) (h : (drN P l ms n1 css s0 k rs).map List.length = some n1 := by kernel_rfl) : DL P l ms n1 css s0 rs K := by
 cases hx : drN P l ms n1 css s0 k rs with
 | none => rw [hx] at h; cases h
 | some r =>
  rw [hx] at hk h
  exact drN_ok k rs r hx (DL_nil (by injection h) hk)
theorem DC {l : List Oper} {ms : List Nat} {n1 : Nat} {css : List (List Cd)} {s0 : St} {rs : List Res} {K : St → Prop} {o : Oper} {c : List Cd} {f : FuncId} {xs : Array Operand} {ts : Array TypeId} {args : List AV} {av : AV} {ne : List (Nat × Ent)} (j : Nat) (hS : qE P f args av ne) (hcf : ∀ args w, (callFunc f args).run P w = .ok (.enter f args) w) (ho : l[j]? = some o) (hc : css[j]? = some c) (hg : o.guard = none)
  (hop : o.op = .call { callee := .value (.func f), args := xs, argTypes := ts }) (d : Nat) (hd : o.dst = some d) (h : DL P l ms n1 css s0 (rs ++ [.r1 av ne]) K) (hj : rs.length = j := by kernel_rfl) (hlt : Nat.blt j n1 = true := by kernel_rfl) (ha : evL (appC c (l.take n1) rs s0) xs.toList = args := by kernel_rfl) (h1 : zEz ne = true := by kernel_rfl) (h2 : makes o = true := by kernel_rfl) (h3 : av.small = true := by kernel_rfl) : DL P l ms n1 css s0 rs K :=
 DE_1 j hj hlt ho hc (zAi hg) (zHR hS hcf hop ha) h1 h2 h3 d hd h
theorem zGS (n : Nat) {ops : Array Oper} {rest : List Oper} {s s1 : St} {J : St → Prop} (h : XL P ops (rest.drop n) s1 J → XL P ops rest s J) (hT : XL P ops (rest.drop n) s1 J) : XL P ops rest s J := h hT
theorem zFd (m : List Bool) (ids : List Nat) {ops : Array Oper} {rest : List Oper} {s s1 : St} {J : St → Prop} (h : s.keep m ids = s1) (hT : XL P ops rest s1 J) : XL P ops rest s J := by
 subst h
 intro B w0 ok0 ok σ a w hR Q hQ
 exact hT _ _ _ _ _ _ _ (hR.le (zHM m ids s)) Q hQ
end
section
variable (P : Program)
def ybin (op : BinOp) : AV → AV → Option AV
 | .c (.v (.int k a)), .c (.v (.int k2 b)) => match decEq k k2 with
  | isTrue _ => (match op with
   | .lss => some (Bo (ltI a b))
   | .leq => some (Bo (leI a b))
   | .gtr => some (Bo (ltI b a))
   | .geq => some (Bo (leI b a))
   | .eql => some (Bo (eqI a b))
   | .neq => some (Bo (!eqI a b))
   | _ => none)
  | isFalse _ => none
 | .c (.v (.string a)), .c (.v (.string b)) => match op with
  | .eql => some (Bo (a.toList == b.toList))
  | .neq => some (Bo (!(a.toList == b.toList)))
  | _ => none
 | _, _ => none
def yv (s : St) : Op → Option AV
 | .binOp op t x y _ => match ybin op (s.ev x) (s.ev y) with
  | some av => some av
  | none => (match s.ev x, s.ev y with
   | .c (.v (.bool a)), .c (.v (.bool b)) => (match P.underlying t with
    | some .bool => (match op with
     | .eql => some (Bo (a == b))
     | .neq => some (Bo (a != b))
     | _ => none)
    | _ => none)
   | _, _ => none)
 | .pick c x y => match s.ev c with
  | .c (.v (.bool b)) => nbA (bif b then s.ev x else s.ev y)
  | _ => none
 | .call c => match c with
  | ⟨.builtin .len, ⟨[x]⟩, ⟨[t]⟩⟩ => match P.underlying t, s.ev x with
   | some .string, .c (.v (.string b)) => some (I (b.size : Int))
   | _, _ => none
  | _ => none
 | _ => none
def yo (o : Oper) (s : St) : Option St := match xo P o s with
 | some s' => some s'
 | none => match o.dst with
  | some d => (match yv P s o.op with
   | some av => some (s.put d av)
   | none => none)
  | none => none
def gdt (ops : Array Oper) (j : Nat) : Option Nat := (ops[j]?).bind (·.dst)
def yg (ops : Array Oper) (o : Oper) (s : St) : Option Bool := match o.guard with
 | none => some true
 | some (j, b) => match gdt ops j with
  | some t => match s.get t with
   | .c (.v (.bool c)) => some (bif c then b else !b)
   | .tn => some false
   | _ => none
  | none => none
def yr (ops : Array Oper) : List Oper → St → Option St
 | [], s => some s
 | o :: os, s => match yg ops o s with
  | some true => (match yo P o s with
   | some s' => yr ops os s'
   | none => none)
  | some false => (match o.dst with
   | some d => yr ops os (s.put d .tn)
   | none => none)
  | none => none
def yD (ops : Array Oper) (l : List Oper) (s : St) : St := (yr P ops l s).getD s
def yc (ops : Array Oper) (f : FuncId) (l : List Oper) (s : St) : Option (List AV) := match l with
 | o :: _ => match yg ops o s, o.dst with
  | some true, some _ => (match o.op with
   | .call ⟨.value (.func g), xs, _⟩ => bif Nat.beq g f then some (evL s xs.toList) else none
   | _ => none)
  | _, _ => none
 | [] => none
def ycn (ops : Array Oper) (f : FuncId) (n : Nat) (l : List Oper) (s : St) : Option (List AV) := match yr P ops (l.take n) s with
 | some s' => yc ops f (l.drop n) s'
 | none => none
end
def dstH : List Oper → Nat
 | o :: _ => o.dst.getD 0
 | [] => 0
section
variable {P : Program}
theorem ybin_ok {o : Oper} {s : St} {op : BinOp} {t t2 : TypeId} {x y : Operand} {av : AV} (ho : o.op = .binOp op t x y t2) (h : ybin op (s.ev x) (s.ev y) = some av) : Y0 P o s av := by
 generalize hx : s.ev x = a at h
 generalize hy : s.ev y = b at h
 unfold ybin at h
 split at h
 ·split at h
  ·rename_i hk _
   subst hk
   cases op <;> simp only [Option.some.injEq, reduceCtorEq] at h <;> subst h <;>
    first | exact zJG ho hx hy | exact zKX ho hx hy | exact Y0_ltw ho hx hy | exact Y0_lew ho hx hy | exact Y0_gtw ho hx hy | exact Y0_gew ho hx hy
  ·cases h
 ·cases op <;> simp only [Option.some.injEq, reduceCtorEq] at h <;> subst h <;>
   first | exact Y0_eqs ho hx hy | exact Y0_nes ho hx hy
 ·cases h
theorem yv_ok {o : Oper} {s : St} {av : AV} (h : yv P s o.op = some av) : Y0 P o s av := by
 unfold yv at h
 split at h
 ·rename_i ho
  split at h
  ·rename_i hb; cases h; exact ybin_ok ho hb
  ·split at h
   ·rename_i hx hy
    split at h
    ·rename_i hu
     split at h
     ·cases h; exact Y0_eqb hu ho hx hy
     ·cases h; exact Y0_neb hu ho hx hy
     ·cases h
    ·cases h
   ·cases h
 ·rename_i ho
  split at h
  ·rename_i b hc
   obtain ⟨h1, h2⟩ := nbA_ok h
   rw [← h1]
   exact zIg ho hc
  ·cases h
 ·rename_i ho
  split at h
  ·rename_i x t
   split at h
   ·rename_i b hu hx
    cases h
    exact Y0_lens hu ho hx
   ·cases h
  ·cases h
 ·cases h
theorem yo_ok {o : Oper} {s s' : St} (h : yo P o s = some s') : X P o s s' := by
 unfold yo at h
 split at h
 ·rename_i h1; cases h; exact xo_ok h1
 ·split at h
  ·rename_i d hd
   split at h
   ·rename_i hv; cases h; exact zD hd (yv_ok hv)
   ·cases h
  ·cases h
theorem yg_take {ops : Array Oper} {o : Oper} {rest : List Oper} {s s' : St} {J : St → Prop} (hg : yg ops o s = some true) (h : X P o s s') (hk : XL P ops rest s' J) : XL P ops (o :: rest) s J := by
 unfold yg at hg
 split at hg
 ·rename_i h1; exact zE h1 h hk
 ·rename_i j b h1
  split at hg
  ·rename_i t ht
   split at hg
   ·rename_i c hc
    have e : c = b := by cases c <;> cases b <;> simp_all
    subst e
    exact XL_take h1 ht hc h hk
   ·cases hg
   ·cases hg
  ·cases hg
theorem YT {ops : Array Oper} {o : Oper} {rest : List Oper} {s s' : St} {J : St → Prop} (h : X P o s s') (hk : XL P ops rest s' J) (hg : yg ops o s = some true := by kernel_rfl) : XL P ops (o :: rest) s J := yg_take hg h hk
theorem yg_skip {ops : Array Oper} {o : Oper} {rest : List Oper} {s : St} {d : Nat} {J : St → Prop} (hg : yg ops o s = some false) (hd : o.dst = some d) (hk : XL P ops rest (s.put d .tn) J) : XL P ops (o :: rest) s J := by
 unfold yg at hg
 split at hg
 ·cases hg
 ·rename_i j b h1
  split at hg
  ·rename_i t ht
   split at hg
   ·rename_i c hc
    exact XL_skip h1 ht hc (by cases c <;> cases b <;> simp_all) hd hk
   ·rename_i hc
    exact zC8 h1 ht hc hd hk
   ·cases hg
  ·cases hg
theorem yr_ok {ops : Array Oper} {J : St → Prop} (rest : List Oper) : ∀ (l : List Oper) (s s' : St), yr P ops l s = some s' → XL P ops rest s' J → XL P ops (l ++ rest) s J
 | [], s, s', h, hk => by cases h; exact hk
 | o :: os, s, s', h, hk => by
  unfold yr at h
  split at h
  ·rename_i hg
   split at h
   ·rename_i s1 h1
    exact yg_take hg (yo_ok h1) (yr_ok rest os s1 s' h hk)
   ·cases h
  ·rename_i hg
   split at h
   ·rename_i d hd
    exact yg_skip hg hd (yr_ok rest os _ s' h hk)
   ·cases h
  ·cases h
theorem YR (n : Nat) {ops : Array Oper} {rest : List Oper} {s : St} {J : St → Prop} (hk : XL P ops (rest.drop n) (yD P ops (rest.take n) s) J) (h : (yr P ops (rest.take n) s).isSome = true := by kernel_rfl) : XL P ops rest s J := by
 cases hx : yr P ops (rest.take n) s with
 | none => rw [hx] at h; cases h
 | some s' =>
  have e : yD P ops (rest.take n) s = s' := by unfold yD; rw [hx]; rfl
  rw [e] at hk
  have := yr_ok (ops := ops) (J := J) (rest.drop n) (rest.take n) s s' hx hk
  rwa [List.take_append_drop] at this
theorem YF {ops : Array Oper} {rest : List Oper} {s : St} {K : St → Prop} (hk : K (yD P ops rest s)) (h : (yr P ops rest s).isSome = true := by kernel_rfl) : XL P ops rest s K := by
 cases hx : yr P ops rest s with
 | none => rw [hx] at h; cases h
 | some s' =>
  have e : yD P ops rest s = s' := by unfold yD; rw [hx]; rfl
  rw [e] at hk
  have := yr_ok (ops := ops) (J := K) [] rest s s' hx (zH hk)
  rwa [List.append_nil] at this
theorem YE {ops : Array Oper} {rest : List Oper} {s s1 : St} {m : List Bool} {ids : List Nat} (h : (yr P ops rest s).map (fun s' => s'.keep m ids) = some s1 := by kernel_rfl) : XL P ops rest s (fun s' => s'.keep m ids = s1) := by
 cases hx : yr P ops rest s with
 | none => rw [hx] at h; cases h
 | some s' =>
  rw [hx] at h
  have h2 : s'.keep m ids = s1 := by injection h
  have := yr_ok (ops := ops) (J := fun s' => s'.keep m ids = s1) [] rest s s' hx (zH h2)
  rwa [List.append_nil] at this
theorem YK (n : Nat) {ops : Array Oper} {rest : List Oper} {s : St} {J : St → Prop} {f : FuncId} {args : List AV} {av : AV} {ne : List (Nat × Ent)} (hS : qE P f args av ne) (hc : ∀ args w, (callFunc f args).run P w = .ok (.enter f args) w)
  (hk : XL P ops (rest.drop (n + 1)) ((yD P ops (rest.take n) s).upd (dstH (rest.drop n)) av ne) J) (h : ycn P ops f n rest s = some args := by kernel_rfl) : XL P ops rest s J := by
 unfold ycn at h
 split at h
 ·rename_i s' hx
  have e : yD P ops (rest.take n) s = s' := by unfold yD; rw [hx]; rfl
  rw [e] at hk
  unfold yc at h
  split at h
  ·rename_i o os hl
   split at h
   ·rename_i d hg hd
    split at h
    ·rename_i g xs ts ho
     cases hb : Nat.beq g f with
     | false => rw [hb, cond_false] at h; cases h
     | true =>
      rw [hb, cond_true] at h
      have hgf := Nat.eq_of_beq_eq_true hb
      subst hgf
      have e3 : rest.drop (n + 1) = os := by rw [← List.drop_drop, hl]; rfl
      rw [hl, e3, dstH, hd] at hk
      have := yr_ok (ops := ops) (J := J) (rest.drop n) (rest.take n) s s' hx (by rw [hl]; exact yg_take hg (zAT hd (zHR hS hc ho (by injection h))) hk)
      rwa [List.take_append_drop] at this
    ·cases h
   ·cases h
  ·cases h
 ·cases h
def gtH (ops : Array Oper) : List Oper → Nat
 | o :: _ => match o.guard with
  | some (j, _) => (gdt ops j).getD 0
  | none => match o.op with
   | .pick (.tmp t) _ _ => t
   | _ => 0
 | [] => 0
theorem put_get (s : St) (t : Nat) : s.put t (s.get t) = s := by
 cases s with
 | mk T E =>
  simp only [St.put, St.get]
  congr 1
  apply List.ext_getElem?
  intro i
  rw [List.getElem?_set]
  by_cases h : t = i
  ·subst h
   by_cases h2 : t < T.length
   ·simp [h2]
   ·simp [h2]
  ·simp [h]
theorem YQ {c v : Bool} (hc : c = v) {ops : Array Oper} {rest : List Oper} {s : St} {J : St → Prop} (hk : XL P ops rest (s.put (gtH ops rest) (Bo v)) J) (h : s.get (gtH ops rest) = Bo c := by kernel_rfl) : XL P ops rest s J := by
 subst hc
 rw [← h, put_get] at hk
 exact hk
abbrev CfW (P : Program) (f : FuncId) : Prop := ∀ args w, (callFunc f args).run P w = .ok (.enter f args) w
theorem cfW {f : FuncId} {fn : Func} (hf : P.funcs[f]? = some fn) (hn : (fn.name == "runtime.NumGoroutine") = false := by kernel_rfl) (hb : fn.body.isNone = false := by kernel_rfl) : CfW P f := run_callFunc hf hn hb
theorem fitsT : ∀ ks : List Nat, FitsL P (ks.map RS.t) (ks.map ResultVar.tmp)
 | [] => FitsL.nil
 | k :: ks => .cons rfl (fitsT ks)
theorem CtW (ks : List Nat) {f : FuncId} {fn : Func} {c : Code} {args : List AV} {av : AV} {ne : List (Nat × Ent)} (hf : P.funcs[f]? = some fn) (hb : fn.body = some c) (hvs : fn.results = (ks.map ResultVar.tmp).toArray) (n : Nat)
  (h : V P c ⟨args ++ List.replicate (n - args.length) .bot, []⟩ (Post (ks.map RS.t) av ne)) (hn : fn.ntmps = n := by kernel_rfl) (hl : Nat.ble (ks.map RS.t).length 8 = true := by kernel_rfl) : qE P f args av ne := qI hf hb hvs (fitsT ks) (Nat.le_of_ble_eq_true hl) n hn h
theorem VS {id : Nat} {ops : Array Oper} {y : Code} {s : St} {J : Exit → St → Prop} (h : XL P ops ops.toList s (fun s' => V P y s' J)) : V P (.seq (.region id ops false) y) s J := zO (jS h)
theorem VE {id : Nat} {ops : Array Oper} {y : Code} {s : St} {J : Exit → St → Prop} (hv : V P y (yD P ops ops.toList s) J) (h : (yr P ops ops.toList s).isSome = true := by kernel_rfl) : V P (.seq (.region id ops false) y) s J := VS (YF hv h)
theorem VC {c : Operand} {x y : Code} {s : St} {J : Exit → St → Prop} {b : Bool} {α : Type} {A B : Option α} {r : α} (h : (bif b then A else B) = some r) (ht : A = some r → V P x s J) (hf : B = some r → V P y s J) (hc : s.ev c = .c (.v (.bool b)) := by kernel_rfl) : V P (.cond c x y) s J :=
 qX hc (fun e => ht (zT h e)) (fun e => hf (zJ h e))
theorem VT {rs : List RS} {av : AV} {ne : List (Nat × Ent)} {s : St} (h1 : zDT (zFr s rs) = true := by kernel_rfl) (h2 : okSL s rs = true := by kernel_rfl) (h3 : outAllS s rs = (av, ne) := by kernel_rfl) : Post rs av ne .ret s := ⟨.inr rfl, h1, h2, h3⟩
theorem VTR {rs : List RS} {av : AV} {ne : List (Nat × Ent)} {s : St} {id : Nat} {e : Ent} (h1 : zDT (zFr s rs) = true := by kernel_rfl) (h2 : okSL s rs = true := by kernel_rfl) (h3 : outAllS s rs = (av, ne) := by kernel_rfl) (h4 : s.ent id = some e := by kernel_rfl) : zDX rs av ne [(id, e)] .ret s := ⟨⟨.inr rfl, h1, h2, h3⟩, ⟨h4, trivial⟩⟩
theorem VDS {id : Nat} {l : List Oper} {y : Code} {s : St} {J : Exit → St → Prop} (ms : List Nat) (n1 : Nat) (css : List (List Cd))
  (h : DL P l ms n1 css (prep (l.take n1) s) [] (fun s' => XL P l.toArray (l.drop n1) s' (fun s'' => V P y s'' J))) (hm : P.follows .mixedOrders = true := by kernel_rfl) (hchk : zFk l ms n1 css = true := by kernel_rfl) : V P (.seq (.region id l.toArray true) y) s J := zO (V_draw ms n1 css hm hchk h)
theorem VDR {id : Nat} {l : List Oper} {s : St} {J : Exit → St → Prop} (ms : List Nat) (n1 : Nat) (css : List (List Cd))
  (h : DL P l ms n1 css (prep (l.take n1) s) [] (fun s' => XL P l.toArray (l.drop n1) s' (J .normal))) (hm : P.follows .mixedOrders = true := by kernel_rfl) (hchk : zFk l ms n1 css = true := by kernel_rfl) : V P (.region id l.toArray true) s J := V_draw ms n1 css hm hchk h
def zv (P : Program) (s : St) (op : Op) : Option AV := match xv P s op with
 | some av => some av
 | none => yv P s op
theorem zv_ok {o : Oper} {s : St} {av : AV} (h : zv P s o.op = some av) : Y0 P o s av := by
 unfold zv at h
 split at h
 ·rename_i hx; cases h; exact xv_ok hx
 ·exact yv_ok h
theorem zHP {l : List Oper} {o : Oper} {S : St} (h : yg l.toArray o S = some true) : gsat l.toArray o S := by
 unfold yg at h
 split at h
 ·rename_i h1; exact zAi h1
 ·rename_i j b h1
  split at h
  ·rename_i t ht
   split at h
   ·rename_i c hc
    have e : c = b := by cases c <;> cases b <;> simp_all
    subst e
    exact gsat_some h1 ht hc
   ·cases h
   ·cases h
  ·cases h
theorem gun_yg {l : List Oper} {o : Oper} {S : St} (h : yg l.toArray o S = some false) : gun l.toArray o S := by
 unfold yg at h
 split at h
 ·cases h
 ·rename_i j b h1
  split at h
  ·rename_i t ht
   split at h
   ·rename_i c hc
    exact gun_some h1 ht hc (by cases c <;> cases b <;> simp_all)
   ·rename_i hc
    exact gun_tn h1 ht hc
   ·cases h
  ·cases h
section
variable (P)
def er1 (l : List Oper) (ms : List Nat) (n1 : Nat) (css : List (List Cd)) (s0 : St) (rs : List Res) : Option (List Res) := match l[rs.length]?, css[rs.length]? with
 | some o, some c => bif Nat.blt rs.length n1 then (match yg l.toArray o (appC c (l.take n1) rs s0), o.dst with
  | some true, some _ => (match zv P (appC c (l.take n1) rs s0) o.op with
   | some av => bif zFQ ms rs.length av 0 (l.take n1) then some (rs ++ [.r0 av]) else none
   | none => match xn P (appC c (l.take n1) rs s0) o.op with
    | some r => bif zEz r.2 && (makes o && r.1.small) then some (rs ++ [.r1 r.1 r.2]) else none
    | none => none)
  | some false, some _ => some (rs ++ [.r0 .tn])
  | some true, none => dr2 P l ms n1 css rs (appC c (l.take n1) rs s0) o.op
  | _, _ => none) else none
 | _, _ => none
def erN (l : List Oper) (ms : List Nat) (n1 : Nat) (css : List (List Cd)) (s0 : St) : Nat → List Res → Option (List Res)
 | 0, rs => some rs
 | k + 1, rs => match er1 P l ms n1 css s0 rs with
  | some rs' => erN l ms n1 css s0 k rs'
  | none => none
def ego (l : List Oper) (ms : List Nat) (n1 : Nat) (css : List (List Cd)) (s0 : St) (k : Nat) (rs : List Res) : List Res := (erN P l ms n1 css s0 k rs).getD rs
def efi (l : List Oper) (ms : List Nat) (n1 : Nat) (css : List (List Cd)) (s0 : St) (k : Nat) (rs : List Res) : St := fin (l.take n1) (ego P l ms n1 css s0 k rs) s0
def dfi (l : List Oper) (ms : List Nat) (n1 : Nat) (css : List (List Cd)) (s0 : St) (k : Nat) (rs : List Res) : St := yD P l.toArray (l.drop n1) (efi P l ms n1 css s0 k rs)
def dfo (l : List Oper) (ms : List Nat) (n1 : Nat) (css : List (List Cd)) (s0 : St) (k : Nat) (rs : List Res) : Bool := (yr P l.toArray (l.drop n1) (efi P l ms n1 css s0 k rs)).isSome
def dka (l : List Oper) (n1 : Nat) (css : List (List Cd)) (s0 : St) (f : FuncId) (rs : List Res) : Option (List AV) := match l[rs.length]?, css[rs.length]? with
 | some o, some c => match yg l.toArray o (appC c (l.take n1) rs s0), o.dst with
  | some true, some _ => (match o.op with
   | .call ⟨.value (.func g), xs, _⟩ => bif Nat.beq g f && (Nat.blt rs.length n1 && makes o) then some (evL (appC c (l.take n1) rs s0) xs.toList) else none
   | _ => none)
  | _, _ => none
 | _, _ => none
end
theorem er1_ok {l : List Oper} {ms : List Nat} {n1 : Nat} {css : List (List Cd)} {s0 : St} {rs rs' : List Res} {K : St → Prop} (h : er1 P l ms n1 css s0 rs = some rs') (hk : DL P l ms n1 css s0 rs' K) : DL P l ms n1 css s0 rs K := by
 unfold er1 at h
 split at h
 ·rename_i o c ho hc
  cases hb : Nat.blt rs.length n1 with
  | false => rw [hb, cond_false] at h; cases h
  | true =>
   rw [hb, cond_true] at h
   split at h
   ·rename_i d hg hd
    split at h
    ·rename_i av hv
     cases hm : zFQ ms rs.length av 0 (l.take n1) with
     | false => rw [hm, cond_false] at h; cases h
     | true =>
      rw [hm, cond_true] at h
      cases h
      exact DE_0 rs.length av rfl hb ho hc (zHP hg) hm (zv_ok hv) d hd hk
    ·split at h
     ·rename_i r hr
      cases hm : zEz r.2 && (makes o && r.1.small) with
      | false => rw [hm, cond_false] at h; cases h
      | true =>
       rw [hm, cond_true] at h
       cases h
       rw [Bool.and_eq_true, Bool.and_eq_true] at hm
       exact DE_1 rs.length rfl hb ho hc (zHP hg) (xn_ok hr) hm.1 hm.2.1 hm.2.2 d hd hk
     ·cases h
   ·rename_i d hg hd
    cases h
    exact DL_t (Nat.le_of_ble_eq_true hb) ho hc (gun_yg hg) ⟨d, hd⟩ hk
   ·rename_i hg hd
    unfold dr2 at h
    split at h
    ·rename_i t x y hop
     split at h
     ·rename_i id off vc hx hy
      split at h
      ·rename_i cs he
       cases hm : (zH0 P t == some vc.length) && Nat.ble (off + vc.length) cs.length && (zI2 rs.length id css && (mkOk ms rs.length id 0 (l.take n1) && zFj id rs)) with
       | false => rw [hm, cond_false] at h; cases h
       | true =>
        rw [hm, cond_true] at h
        cases h
        rw [Bool.and_eq_true, Bool.and_eq_true, Bool.and_eq_true, Bool.and_eq_true, beq_iff_eq] at hm
        exact DE_2 rs.length id _ rfl hb ho hc (zHP hg) hop hd hx he hy hm.1.1 (Nat.le_of_ble_eq_true hm.1.2) rfl hm.2.1 hm.2.2.1 hm.2.2.2 hk
      ·cases h
     ·cases h
    ·cases h
   ·cases h
 ·cases h
theorem erN_ok {l : List Oper} {ms : List Nat} {n1 : Nat} {css : List (List Cd)} {s0 : St} {K : St → Prop} : ∀ (k : Nat) (rs rs' : List Res), erN P l ms n1 css s0 k rs = some rs' → DL P l ms n1 css s0 rs' K → DL P l ms n1 css s0 rs K
 | 0, rs, rs', h, hk => by cases h; exact hk
 | k + 1, rs, rs', h, hk => by
  unfold erN at h
  split at h
  ·rename_i r1 h1
   exact er1_ok h1 (erN_ok k r1 rs' h hk)
  ·cases h
theorem ER (k : Nat) {l : List Oper} {ms : List Nat} {n1 : Nat} {css : List (List Cd)} {s0 : St} {rs : List Res} {K : St → Prop} (hk : DL P l ms n1 css s0 (ego P l ms n1 css s0 k rs) K) (h : (erN P l ms n1 css s0 k rs).isSome = true := by kernel_rfl) : DL P l ms n1 css s0 rs K := by
 cases hx : erN P l ms n1 css s0 k rs with
 | none => rw [hx] at h; cases h
 | some r => rw [ego, hx] at hk; exact erN_ok k rs r hx hk
theorem EA (k : Nat) {l : List Oper} {ms : List Nat} {n1 : Nat} {css : List (List Cd)} {s0 : St} {rs : List Res} {K : St → Prop} (hk : K (efi P l ms n1 css s0 k rs)) (h : (erN P l ms n1 css s0 k rs).map List.length = some n1 := by kernel_rfl) : DL P l ms n1 css s0 rs K := by
 cases hx : erN P l ms n1 css s0 k rs with
 | none => rw [hx] at h; cases h
 | some r =>
  rw [efi, ego, hx] at hk
  rw [hx] at h
  exact erN_ok k rs r hx (DL_nil (by injection h) hk)
theorem dka_ok {l : List Oper} {ms : List Nat} {n1 : Nat} {css : List (List Cd)} {s0 : St} {rs : List Res} {K : St → Prop} {f : FuncId} {args : List AV} {av : AV} {ne : List (Nat × Ent)} (hS : qE P f args av ne) (hcf : ∀ args w, (callFunc f args).run P w = .ok (.enter f args) w)
  (h : DL P l ms n1 css s0 (rs ++ [.r1 av ne]) K) (ha : dka l n1 css s0 f rs = some args) (h1 : zEz ne = true) (h3 : av.small = true) : DL P l ms n1 css s0 rs K := by
 unfold dka at ha
 split at ha
 ·rename_i o c ho hc
  split at ha
  ·rename_i d hg hd
   split at ha
   ·rename_i g xs ts hop
    cases hb : Nat.beq g f && (Nat.blt rs.length n1 && makes o) with
    | false => rw [hb, cond_false] at ha; cases ha
    | true =>
     rw [hb, cond_true] at ha
     rw [Bool.and_eq_true, Bool.and_eq_true] at hb
     have hgf := Nat.eq_of_beq_eq_true hb.1
     subst hgf
     exact DE_1 rs.length rfl hb.2.1 ho hc (zHP hg) (zHR hS hcf hop (by injection ha)) h1 hb.2.2 h3 d hd h
   ·cases ha
  ·cases ha
 ·cases ha
theorem EK (k : Nat) {l : List Oper} {ms : List Nat} {n1 : Nat} {css : List (List Cd)} {s0 : St} {rs : List Res} {K : St → Prop} {f : FuncId} {args : List AV} {av : AV} {ne : List (Nat × Ent)} (hS : qE P f args av ne) (hcf : ∀ args w, (callFunc f args).run P w = .ok (.enter f args) w)
  (h : DL P l ms n1 css s0 (ego P l ms n1 css s0 k rs ++ [.r1 av ne]) K) (hs : (erN P l ms n1 css s0 k rs).bind (dka l n1 css s0 f) = some args := by kernel_rfl) (h1 : zEz ne = true := by kernel_rfl) (h3 : av.small = true := by kernel_rfl) : DL P l ms n1 css s0 rs K := by
 cases hx : erN P l ms n1 css s0 k rs with
 | none => rw [hx] at hs; cases hs
 | some r =>
  rw [ego, hx] at h
  rw [hx] at hs
  exact erN_ok k rs r hx (dka_ok hS hcf h hs h1 h3)
theorem EF (k : Nat) {l : List Oper} {ms : List Nat} {n1 : Nat} {css : List (List Cd)} {s0 : St} {rs : List Res} {K : St → Prop} (hk : K (dfi P l ms n1 css s0 k rs)) (h : (erN P l ms n1 css s0 k rs).map List.length = some n1 := by kernel_rfl)
  (h2 : dfo P l ms n1 css s0 k rs = true := by kernel_rfl) : DL P l ms n1 css s0 rs (fun s' => XL P l.toArray (l.drop n1) s' K) := EA k (YF hk h2) h
theorem E0 (j : Nat) {l : List Oper} {ms : List Nat} {n1 : Nat} {css : List (List Cd)} {s0 : St} {rs : List Res} {K : St → Prop} {o : Oper} {c : List Cd} {av : AV} (ho : l[j]? = some o) (hc : css[j]? = some c) (hY : Y0 P o (appC c (l.take n1) rs s0) av) (h : DL P l ms n1 css s0 (rs ++ [.r0 av]) K)
  (hj : rs.length = j := by kernel_rfl) (hlt : Nat.blt j n1 = true := by kernel_rfl) (hg : yg l.toArray o (appC c (l.take n1) rs s0) = some true := by kernel_rfl) (hm : zFQ ms j av 0 (l.take n1) = true := by kernel_rfl) (hd : o.dst.isSome = true := by kernel_rfl) : DL P l ms n1 css s0 rs K := by
 obtain ⟨d, hd⟩ := Option.isSome_iff_exists.mp hd
 exact DE_0 j av hj hlt ho hc (zHP hg) hm hY d hd h
theorem E1 (j : Nat) {l : List Oper} {ms : List Nat} {n1 : Nat} {css : List (List Cd)} {s0 : St} {rs : List Res} {K : St → Prop} {o : Oper} {c : List Cd} {av : AV} {ne : List (Nat × Ent)} (ho : l[j]? = some o) (hc : css[j]? = some c) (hY : Y1 P o (appC c (l.take n1) rs s0) av ne) (h : DL P l ms n1 css s0 (rs ++ [.r1 av ne]) K)
  (hj : rs.length = j := by kernel_rfl) (hlt : Nat.blt j n1 = true := by kernel_rfl) (hg : yg l.toArray o (appC c (l.take n1) rs s0) = some true := by kernel_rfl) (h1 : zEz ne = true := by kernel_rfl) (h2 : makes o = true := by kernel_rfl) (h3 : av.small = true := by kernel_rfl) (hd : o.dst.isSome = true := by kernel_rfl) : DL P l ms n1 css s0 rs K := by
 obtain ⟨d, hd⟩ := Option.isSome_iff_exists.mp hd
 exact DE_1 j hj hlt ho hc (zHP hg) hY h1 h2 h3 d hd h
end
section
variable {κ ν : Type} [DecidableEq κ]
end
section
variable {P : Program}
structure KeyT (P : Program) {κ : Type} [DecidableEq κ] (kt : TypeId) (ek : κ → Value) : Prop where
  chk : ∀ b a w, (Instr.checkKey b 10000 kt (ek a)).run P w = .ok () w
  find : ∀ a (es : List MapEntry) (ks : List κ) w, es.map (·.key) = ks.map ek → (Instr.findKey kt (ek a) es).run P w = .ok ((ixM a ks).bind fun j => (es[j]?).map fun e => (j, e.val)) w
  bits : ∀ a, Instr.sameBits 10000 (ek a) (ek a) = true
end
section
variable {P : Program}
theorem setE_setE (id : Nat) (e f : Ent) : ∀ E : List (Nat × Ent), setE id e (setE id f E) = setE id e E
 | [] => rfl
 | (k, x) :: E => by
  simp only [setE]
  cases h : (k == id) <;> simp [h, setE, setE_setE id e f E]
theorem splice_full {α : Type} {l m : List α} (h : m.length = l.length) : splice l 0 m = m := by
 unfold splice
 simp [h]
theorem R_putEl {B : Fr} {w0 : World} {ok0 ok : Nat → Prop} {σ : Nat → Loc} {s : St} {a : Act} {w : World} (hR : R B w0 ok0 ok σ s a w) {l : Loc} {T0 id sz i : Nat} {els : List (List Tr)} {el el2 : List Tr} {Y : List Value} {g : Nat} {cur : Array Value} (he : s.ent id = some (.parr l T0 sz els)) (hg : l.blk = some g) (hc : w.heap[g]? = some (.cells cur T0 (0, 0)))
  (hel : els[i]? = some el) (h2 : el2.length = sz) (hrd : RdL ok w el2 Y) : R B w0 ok0 ok σ ⟨s.T, setE id (.parr l T0 sz (els.set i el2)) s.E⟩ a (w.setRow g (splice cur.toList (i * sz) Y).toArray) := by
 obtain ⟨hl0, h0, hn, hs, vs, h1, h2'⟩ := hR.core.ent id _ he
 have h5 : (σ id).blk = some g := by rw [hl0]; exact hg
 have hil : i < els.length := by
  rcases Nat.lt_or_ge i els.length with h | h
  ·exact h
  ·rw [List.getElem?_eq_none h] at hel; cases hel
 have hsz : el.length = sz := hs el (List.mem_of_getElem? hel)
 have hYl : Y.length = sz := by rw [← hrd.len]; exact h2
 rcases h1.2 with ⟨hv, hv0⟩ | ⟨g2, cap, cur2, hv, hb, hg2, hnc, hcm, hcs, htake⟩
 ·omega
 ·have e2 : g2 = g := by
   unfold zC at hv
   rw [h5] at hv
   injection hv with h8
   simp at h8
   exact h8.symm
  subst e2
  rw [hc] at hg2
  have e3 : cur = cur2 := by
   have := Option.some.inj hg2
   injection this
  subst e3
  have hfit : i * sz + sz ≤ els.length * sz := by
   have := Nat.mul_le_mul_right sz (show i + 1 ≤ els.length from hil)
   rwa [Nat.add_mul, Nat.one_mul] at this
  have hfit2 : els.length * sz ≤ cur.size := by rw [hcs]; exact Nat.mul_le_mul_right _ hnc
  refine hR.write he h5 _ ⟨cur, T0, hc⟩ _ (zEc id _ s.E _ he) (fun hw => ?_) rfl
  have hmono : ∀ q, ok q → (w.setRow g2 (splice cur.toList (i * sz) Y).toArray).heap[q]? = w.heap[q]? := fun q hq => hw q fun e => (hR.core.blk id _ g2 he h5).1 (e ▸ hq)
  refine ⟨hl0, h0, by simpa using hn, fun e hm => ?_, splice vs (i * sz) Y, ⟨?_, .inr ⟨g2, cap, _, by rw [List.length_set]; exact hv, hb, setRow_heap w g2 cur _ T0 _ hc, by simpa using hnc, hcm, ?_, ?_⟩⟩, ?_⟩
  ·rcases List.mem_or_eq_of_mem_set hm with h9 | h9
   ·exact hs e h9
   ·rw [h9]; exact h2
  ·rw [zH8 _ _ _ (by rw [h1.1]; omega), h1.1, List.length_set]
  ·simp only [List.size_toArray]
   have hq : cur.toList.length = cur.size := Array.length_toList
   rw [zH8 _ _ _ (by rw [hq]; omega), hq, hcs]
  ·simp only [List.length_set]
   show (splice cur.toList (i * sz) Y).take (els.length * sz) = _
   rw [splice_take _ _ _ _ (by omega) (by simpa using hfit2), htake]
  ·have h9 := zGz els sz i 0 el el2 hs hel (by omega)
   rw [splice_full (by omega), Nat.add_zero] at h9
   rw [h9]
   exact (h2'.splice _ hrd).mono (fun _ h => h) hmono
theorem zGT {w : World} {g o : Nat} {cur : Array Value} {T : TypeId} {ie : TypeInfo} {vs : List Value} {sz : Nat} (hii : P.info? T = some ie) (hie : ie.size = sz) (hg : w.heap[g]? = some (.cells cur T (0, 0))) (hl : vs.length = sz) (hc : o + sz ≤ cur.size) (h1 : ∀ v ∈ vs, v.oneCell' = true) : w.setCells g o vs = w.setRow g (splice cur.toList o vs).toArray := by
 have a1 := zGF (P := P) (t := T) (w := w) (g := g) (off := o) (y := .agg vs.toArray) (n := sz) (by rw [hii]; simp [hie]) (by simp [Value.cells, hl]) hg (by omega) (by simpa [Value.cells] using h1)
 have a2 := Go.Lib.rl_storeVar_cells (P := P) T ie hii g o vs (by rw [hl, hie]) h1 w (fun k hk => by
  have : o + k < cur.size := by omega
  simp [World.cell?, hg, this]) (fun k _ => Lib.frozen_of_heap hg _)
 rw [a1] at a2
 injection a2 with _ a3
 simpa [Value.cells] using a3.symm
theorem el_vals {ok : Nat → Prop} {w : World} {els : List (List Tr)} {vs : List Value} {sz i : Nat} {el : List Tr} (hs : ∀ e, e ∈ els → e.length = sz) (h : RdL ok w els.flatten vs) (hel : els[i]? = some el) : ∃ X, RdL ok w el X ∧ ∀ k v, X[k]? = some v → vs[i * sz + k]? = some v := by
 refine ⟨(vs.drop (i * sz)).take sz, ?_, fun k v hk => ?_⟩
 ·have h2 := (h.drop (i * sz)).take sz
  have e : (els.flatten.drop (i * sz)).take sz = el := by
   clear h h2
   induction els generalizing i with
   | nil => simp at hel
   | cons x xs ih =>
    have hx : x.length = sz := hs x (by simp)
    cases i with
    | zero =>
     simp at hel
     subst hel
     rw [Nat.zero_mul, List.drop_zero, List.flatten_cons, List.take_left' hx]
    | succ i =>
     rw [List.flatten_cons, show (i + 1) * sz = x.length + i * sz by rw [Nat.add_mul, hx]; omega, ← List.drop_drop, List.drop_left]
     exact ih (fun e he => hs e (by simp [he])) (by simpa using hel)
  rw [e] at h2
  exact h2
 ·rw [List.getElem?_take] at hk
  split at hk
  ·rwa [List.getElem?_drop] at hk
  ·cases hk
theorem X_swap {o : Oper} {s : St} {f : FuncId} {x ix jx : Operand} {ts : Array TypeId} {l : Loc} {T0 id sz d i j : Nat} {els : List (List Tr)} {el el2 : List Tr} {I1 J1 : Int} {g : Bool} (hext : ∀ args w, (callFunc f args).run P w = ((Extern.ReflectliteSwapper.swap g args).run P w).andThen fun v w' => .ok (.value v) w')
  (hagg : ∀ w, (isAgg T0).run P w = .ok true w) (hi : (P.info? T0).map (·.size) = some sz) (ho : o.op = .call { callee := .value x, args := #[ix, jx], argTypes := ts }) (hx : s.ev x = .c (.v (.func (.func f) #[] #[zC l, typeHandle P T0]))) (hd : o.dst = some d)
  (h1 : s.ev ix = I I1) (h2 : s.ev jx = I J1) (e1 : I1 = (i : Int)) (e2 : J1 = (j : Int)) (he : s.ent id = some (.parr l T0 sz els)) (hel : els[i]? = some el) (hel2 : els[j]? = some el2) :
  X P o s ((St.mk s.T (setE id (.parr l T0 sz ((els.set i el2).set j el)) s.E)).put d .bot) := by
 intro B w0 ok0 ok σ a w hR K Q hK
 subst e1 e2
 obtain ⟨hl0, h0, hn, hs, vs, hown, hrd⟩ := hR.core.ent id _ he
 have hv : a.eval x = .func (.func f) #[] #[zC l, typeHandle P T0] := hR.core.exact hx
 have v1 : a.eval ix = .int .i64 (i : Int) := hR.core.exact h1
 have v2 : a.eval jx = .int .i64 (j : Int) := hR.core.exact h2
 have hil : i < els.length := by
  rcases Nat.lt_or_ge i els.length with h | h
  ·exact h
  ·rw [List.getElem?_eq_none h] at hel; cases hel
 have hjl : j < els.length := by
  rcases Nat.lt_or_ge j els.length with h | h
  ·exact h
  ·rw [List.getElem?_eq_none h] at hel2; cases hel2
 rcases hown.2 with ⟨hv0, hv1⟩ | ⟨g2, cap, cur, hv0, hb, hg2, hnc, hcm, hcs, htake⟩
 ·omega
 ·have e3 : (σ id).blk = some g2 ∧ (σ id).n = els.length := ⟨by
   unfold zC at hv0
   injection hv0 with h8
   cases hb2 : (σ id).blk with
   | none => rw [hb2] at h8; cases h8
   | some q => rw [hb2] at h8; simp at h8; rw [h8], hn⟩
  have hlg : l.blk = some g2 := by rw [← hl0]; exact e3.1
  have hfit : ∀ k, k < els.length → k * sz + sz ≤ els.length * sz := fun k hk => by
   have := Nat.mul_le_mul_right sz (show k + 1 ≤ els.length from hk)
   rwa [Nat.add_mul, Nat.one_mul] at this
  have hfit2 : els.length * sz ≤ cur.size := by rw [hcs]; exact Nat.mul_le_mul_right _ hnc
  obtain ⟨X, hX, hXc⟩ := el_vals hs hrd hel
  obtain ⟨Y, hY, hYc⟩ := el_vals hs hrd hel2
  have hXl : X.length = sz := by rw [← hX.len]; exact hs _ (List.mem_of_getElem? hel)
  have hYl : Y.length = sz := by rw [← hY.len]; exact hs _ (List.mem_of_getElem? hel2)
  have cellv : ∀ k u, vs[k]? = some u → w.cell? ⟨g2, k, none⟩ = some u := fun k u hk => by
   have := hown.cells (g := g2) (by rw [hv0]; rfl) k u hk
   rwa [zE5, Nat.zero_add] at this
  have hfz : ∀ k, w.frozen? ⟨g2, k, none⟩ = false := fun k => Lib.frozen_of_heap hg2 k
  cases hii : P.info? T0 with
  | none => rw [hii] at hi; cases hi
  | some ie =>
   have hie : ie.size = sz := by rw [hii] at hi; simpa using hi
   have hrun := Go.Lib.run_swap_cells (P := P) g T0 ie hii hagg g2 0 els.length cap i j hil hjl X Y (by rw [hXl, hie]) (by rw [hYl, hie]) hX.one hY.one w
    (fun k v hk => by rw [hie, Nat.zero_add]; exact cellv _ _ (hXc k v hk)) (fun k v hk => by rw [hie, Nat.zero_add]; exact cellv _ _ (hYc k v hk)) (fun k _ => hfz _) (fun k _ => hfz _)
   rw [hie, Nat.zero_add, Nat.zero_add] at hrun
   have s1 := zGT (P := P) (T := T0) hii hie hg2 (o := i * sz) (vs := Y) hYl (by have := hfit i hil; omega) hY.one
   have hR1 := R_putEl hR he hlg hg2 hel (hs _ (List.mem_of_getElem? hel2)) hY
   have hg3 := setRow_heap w g2 cur (splice cur.toList (i * sz) Y).toArray T0 _ hg2
   have hq : cur.toList.length = cur.size := Array.length_toList
   have hsp : (splice cur.toList (i * sz) Y).toArray.size = cur.size := by
    simp only [List.size_toArray]
    rw [zH8 _ _ _ (by have := hfit i hil; rw [hq]; omega), hq]
   have s2 := zGT (P := P) (T := T0) hii hie hg3 (o := j * sz) (vs := X) hXl (by rw [hsp]; have := hfit j hjl; omega) hX.one
   have he1 : (St.mk s.T (setE id (.parr l T0 sz (els.set i el2)) s.E)).ent id = some (.parr l T0 sz (els.set i el2)) := by
    show (setE id _ s.E).lookup id = _
    rw [zEc id _ s.E _ he, if_pos rfl]
   obtain ⟨el3, hel3⟩ : ∃ el3, (els.set i el2)[j]? = some el3 := ⟨_, List.getElem?_eq_getElem (by rw [List.length_set]; exact hjl)⟩
   have hX1 : RdL ok (w.setRow g2 (splice cur.toList (i * sz) Y).toArray) el X := hX.mono (fun _ h => h) fun q hq => setRow_other w g2 q _ fun e => (hR.core.blk id _ g2 he e3.1).1 (e ▸ hq)
   have hR2 := R_putEl hR1 he1 hlg hg3 hel3 (hs _ (List.mem_of_getElem? hel)) hX1
   have hE2 : setE id (.parr l T0 sz ((els.set i el2).set j el)) (setE id (.parr l T0 sz (els.set i el2)) s.E) = setE id (.parr l T0 sz ((els.set i el2).set j el)) s.E := setE_setE id _ _ s.E
   simp only [hE2] at hR2
   have hR3 := hR2.put (d := d) (av := .bot) (v := .tuple #[]) trivial
   have hown2 : zC l = .slice (some ⟨g2, 0, none⟩) els.length cap := by rw [← hl0]; exact hv0
   rw [hown2] at hv
   unfold Oper.wp execOp
   rw [ho]
   simp only [resolve, hv, v1, v2, Deferred.ofValue, Sem.run_bind, Sem.run_pure, Result.andThen_ok, invoke, hext, List.map_toArray, List.map_cons, List.map_nil, Array.empty_append, Oper.upon, hd]
   have hrun2 : (Extern.ReflectliteSwapper.swap g (#[.int .i64 (i : Int), .int .i64 (j : Int)] ++ #[.slice (some ⟨g2, 0, none⟩) els.length cap, typeHandle P T0])).run P w = _ := hrun
   simp only [hrun2, Result.andThen_ok]
   rw [s1, s2]
   exact hK _ _ _ _ hR3
theorem zEG {α : Type} {c : α → List Tr} {xs : List α} {u v : α} {o : Oper} {s : St} {f : FuncId} {x ix jx : Operand} {ts : Array TypeId} {l : Loc} {T0 id sz d : Nat} {I1 J1 : Int} {g : Bool} (hext : ∀ args w, (callFunc f args).run P w = ((Extern.ReflectliteSwapper.swap g args).run P w).andThen fun v w' => .ok (.value v) w')
  (hagg : ∀ w, (isAgg T0).run P w = .ok true w) (hi : (P.info? T0).map (·.size) = some sz) (ho : o.op = .call { callee := .value x, args := #[ix, jx], argTypes := ts }) (hx : s.ev x = .c (.v (.func (.func f) #[] #[zC l, typeHandle P T0]))) (hd : o.dst = some d)
  (h1 : s.ev ix = I I1) (h2 : s.ev jx = I J1) (he : s.ent id = some (.parr l T0 sz (xs.map c))) (hu : getI xs I1 = some u) (hv : getI xs J1 = some v) :
  X P o s ((St.mk s.T (setE id (.parr l T0 sz (((xs.set I1.toNat v).set J1.toNat u).map c)) s.E)).put d .bot) := by
 obtain ⟨a1, a2⟩ := zFs hu
 obtain ⟨b1, b2⟩ := zFs hv
 rw [List.map_set, List.map_set]
 exact X_swap hext hagg hi ho hx hd h1 h2 (Int.toNat_of_nonneg a1).symm (Int.toNat_of_nonneg b1).symm he (by rw [List.getElem?_map, a2]; rfl) (by rw [List.getElem?_map, b2]; rfl)
theorem zAZ {o : Oper} {s : St} {f : FuncId} {xs : Array Operand} {ts : Array TypeId} {args : List AV} {E0 E1 : List (Nat × Ent)} {av : AV} {ne E' : List (Nat × Ent)} {l lb : Loc} {T0 sz : Nat} {els : List (List Tr)} {cs : List Tr} (m : List (Nat × Nat)) (d : Nat) (hS : ∀ σ, σ 90000 = l → σ 90008 = lb → zDt P f σ args E0 av ne E1) (hc : ∀ args w, (callFunc f args).run P w = .ok (.enter f args) w)
  (h1 : s.ent 90000 = some (.parr l T0 sz els)) (h2 : s.ent 90008 = some (.pbox lb cs)) (hm1 : renI m 90000 = 90000) (hm2 : renI m 90008 = 90008)
  (ho : o.op = .call { callee := .value (.func f), args := xs, argTypes := ts }) (hd : o.dst = some d) (ha : evL s xs.toList = renL m args) (ht : noTup args = true) (hm : zGK m s E0) (hk : zDU E1 = zDU E0) (hr : renOk m E0 = true) (hp : zGV E1 = true) (hp0 : zGV E0 = true) (he : updE m s.E E1 = E') :
  X P o s ((St.mk s.T E').upd d av ne) :=
 X_callRs m d (fun ok σ a w hC => hS _ (by rw [hm1]; exact (hC.ent _ _ h1).1) (by rw [hm2]; exact (hC.ent _ _ h2).1)) hc ho hd ha ht hm hk hr hp hp0 he
theorem zDj {o : Oper} {s : St} {f : FuncId} {x ix jx : Operand} {ts : Array TypeId} {l lb : Loc} {T0 id bid sz b : Nat} {els : List (List Tr)} {i j : Int} {r : Bool} (hS : qE P f [I i, I j, .pe [.sl els]] (Bo r) []) (hc : ∀ args w, (callFunc f args).run P w = .ok (.enter f args) w)
  (ho : o.op = .call { callee := .value x, args := #[ix, jx], argTypes := ts }) (hx : s.ev x = .c (.v (.func (.func f) #[] #[.pointer (some ⟨b, 0, none⟩)]))) (h1 : s.ev ix = I i) (h2 : s.ev jx = I j) (hb : s.ent bid = some (.pbox lb [.v (zC l)])) (hlb : lb.blk = some b) (he : s.ent id = some (.parr l T0 sz els)) : Y1 P o s (Bo r) [] := by
 intro ok σ a w hC K Q hK
 have hv : a.eval x = .func (.func f) #[] #[.pointer (some ⟨b, 0, none⟩)] := hC.exact hx
 have v1 : a.eval ix = .int .i64 i := hC.exact h1
 have v2 : a.eval jx = .int .i64 j := hC.exact h2
 obtain ⟨hlbe, g, arr, T, hg1, hg2, hg3⟩ := hC.ent bid _ hb
 have hg : g = b := by rw [hlbe, hlb] at hg1; exact (Option.some.inj hg1).symm
 subst hg
 have hl0 := (hC.ent id _ he).1
 have hlt : ∀ g, zH4 ok σ s g → g < w.heap.size := by
  rintro g (hg | ⟨id, e, he, hg⟩)
  ·exact hC.okL g hg
  ·exact (hC.blk id e g he hg).2
 have hrow : Rd (zH4 ok σ s) w (.sl els) (zC l) := by
  have h3 : Rel ok σ w (.ow id) (zC (σ id)) := rfl
  have h4 := zIA hC h3
  rw [hl0] at h4
  have h6 : s.entc id = some (.arr T0 sz els) := by
   unfold St.entc
   rw [he]
   rfl
  have h5 : zGa s (.ow id) = .c (.sl els) := by
   simp only [zGa, h6]
  rw [h5] at h4
  exact h4
 have harg : RelA (zH4 ok σ s) σ w [I i, I j, .pe [.sl els]] [.int .i64 i, .int .i64 j, .pointer (some ⟨g, 0, none⟩)] := by
  refine .cons (Rd.v _ rfl) (.cons (Rd.v _ rfl) (.cons ?_ .nil))
  refine ⟨g, 0, .inr ⟨bid, _, hb, hg1⟩, rfl, fun k c hk => ?_⟩
  have hk0 : k = 0 ∧ c = .sl els := by
   cases k with
   | zero => exact ⟨rfl, by simpa using hk.symm⟩
   | succ k => simp at hk
  obtain ⟨rfl, rfl⟩ := hk0
  have ha : arr.toList = [zC l] := by
   cases hq : arr.toList with
   | nil => rw [hq] at hg3; cases hg3
   | cons y ys =>
    rw [hq] at hg3
    cases hg3 with
    | cons p1 q1 =>
     cases p1
     cases q1
     rfl
  have ha2 : arr = #[zC l] := by
   apply Array.ext'
   rw [ha]
  refine ⟨zC l, ?_, hrow⟩
  simp [World.cell?, hg2, ha2]
 unfold Oper.wp execOp
 rw [ho]
 simp only [resolve, hv, v1, v2, Deferred.ofValue, Sem.run_bind, Sem.run_pure, Result.andThen_ok, invoke, hc, List.map_toArray, List.map_cons, List.map_nil, Array.empty_append, Oper.upon]
 refine Calls.mono (hS (zH4 ok σ s) σ w _ hlt (hC.lib.mono (fun _ h => .inl h) fun _ _ => rfl) harg) ?_
 rintro e w' ⟨v, ok', σ', he2, hn⟩
 subst he2
 exact hK v w' ok σ' ⟨hn.below, fun _ h => h, fun _ h => .inl h, fun g hg => Nat.lt_of_lt_of_le (hC.okL g hg) hn.below.size, hn.rel.flat rfl, hn.keys, hn.ids, fun id e hl => by simp at hl, fun id e g hl hg => by simp at hl, hn.inj, hn.np⟩
end
end Go.Proofs.YtnheekadeflecaaGreat
namespace Go.Proofs
open Go.Shelf
def Tryz.sl6_ren : Go.Shelf.Ren := ⟨fun | 6 => 115 | 10 => 164 | 11 => 165 | 12 => 166 | 13 => 167 | 14 => 168 | 24 => 198 | 25 => 199 | 26 => 200 | 27 => 201 | 28 => 202 | 29 => 203 | 30 => 204 | 31 => 205 | 32 => 206 | 33 => 207 | 34 => 219 | 35 => 220 | 36 => 221 | 37 => 222 | 38 => 223 | 39 => 231 | n => n, fun | 20 => 20 | 26 => 63 | 35 => 137 | 0 => 0 | 37 => 139 | 3 => 3 | 41 => 142 | 44 => 145 | 49 => 154 | 51 => 83 | 4 => 4 | 54 => 158 | 53 => 157 | 58 => 47 | 5 => 5 | 9 => 9 | 60 => 173 | 64 => 177 | 66 => 183 | 67 => 42 | 17 => 17 | 32 => 134 | 33 => 135 | 82 => 202 | 12 => 12 | 75 => 195 | 76 => 196 | 77 => 197 | 78 => 198 | 79 => 199 | 80 => 200 | n => n, fun | n => n⟩
theorem Tryz.sl6 : Go.Proofs.LaysGg.n6 Tryz.prog Tryz.sl6_ren where
 mixed := by kernel_rfl
 f6 := Tryz.func115.trans (congrArg some (by kernel_rfl))
 f10 := Tryz.func164.trans (congrArg some (by kernel_rfl))
 f11 := Tryz.func165.trans (congrArg some (by kernel_rfl))
 f12 := Tryz.func166.trans (congrArg some (by kernel_rfl))
 f13 := Tryz.func167.trans (congrArg some (by kernel_rfl))
 f14 := Tryz.func168.trans (congrArg some (by kernel_rfl))
 f24 := Tryz.func198.trans (congrArg some (by kernel_rfl))
 f25 := Tryz.func199.trans (congrArg some (by kernel_rfl))
 f26 := Tryz.func200.trans (congrArg some (by kernel_rfl))
 f27 := Tryz.func201.trans (congrArg some (by kernel_rfl))
 f28 := Tryz.func202.trans (congrArg some (by kernel_rfl))
 f29 := Tryz.func203.trans (congrArg some (by kernel_rfl))
 f30 := Tryz.func204.trans (congrArg some (by kernel_rfl))
 f31 := Tryz.func205.trans (congrArg some (by kernel_rfl))
 f32 := Tryz.func206.trans (congrArg some (by kernel_rfl))
 f33 := Tryz.func207.trans (congrArg some (by kernel_rfl))
 f34 := Tryz.func219.trans (congrArg some (by kernel_rfl))
 f35 := Tryz.func220.trans (congrArg some (by kernel_rfl))
 f36 := Tryz.func221.trans (congrArg some (by kernel_rfl))
 f37 := Tryz.func222.trans (congrArg some (by kernel_rfl))
 f38 := Tryz.func223.trans (congrArg some (by kernel_rfl))
 f39 := Tryz.func231.trans (congrArg some (by kernel_rfl))
 t0 := Tryz.underlying0
 a0 := Tryz.isAgg0
 z0 := Tryz.sizeOf0
 v0 := Tryz.zeroValue0
 i0 := by kernel_rfl
 t3 := Tryz.underlying3
 a3 := Tryz.isAgg3
 z3 := Tryz.sizeOf3
 v3 := Tryz.zeroValue3
 i3 := by kernel_rfl
 t4 := Tryz.underlying4
 a4 := Tryz.isAgg4
 z4 := Tryz.sizeOf4
 v4 := Tryz.zeroValue4
 i4 := by kernel_rfl
 t5 := Tryz.underlying5
 a5 := Tryz.isAgg5
 z5 := Tryz.sizeOf5
 v5 := Tryz.zeroValue5
 i5 := by kernel_rfl
 t9 := Tryz.underlying9
 a9 := Tryz.isAgg9
 z9 := Tryz.sizeOf9
 v9 := Tryz.zeroValue9
 i9 := by kernel_rfl
 t12 := Tryz.underlying12
 a12 := Tryz.isAgg12
 z12 := Tryz.sizeOf12
 v12 := Tryz.zeroValue12
 i12 := by kernel_rfl
 t17 := Tryz.underlying17
 a17 := Tryz.isAgg17
 z17 := Tryz.sizeOf17
 v17 := Tryz.zeroValue17
 i17 := by kernel_rfl
 t20 := Tryz.underlying20
 a20 := Tryz.isAgg20
 z20 := Tryz.sizeOf20
 v20 := Tryz.zeroValue20
 i20 := by kernel_rfl
 t26 := Tryz.underlying63
 a26 := Tryz.isAgg63
 z26 := Tryz.sizeOf63
 v26 := Tryz.zeroValue63
 i26 := by kernel_rfl
 t32 := Tryz.underlying134
 a32 := Tryz.isAgg134
 z32 := Tryz.sizeOf134
 v32 := Tryz.zeroValue134
 i32 := by kernel_rfl
 t33 := Tryz.underlying135
 a33 := Tryz.isAgg135
 z33 := Tryz.sizeOf135
 v33 := Tryz.zeroValue135
 i33 := by kernel_rfl
 t35 := Tryz.underlying137
 a35 := Tryz.isAgg137
 z35 := Tryz.sizeOf137
 v35 := Tryz.zeroValue137
 i35 := by kernel_rfl
 t37 := Tryz.underlying139
 a37 := Tryz.isAgg139
 z37 := Tryz.sizeOf139
 v37 := Tryz.zeroValue139
 i37 := by kernel_rfl
 t41 := Tryz.underlying142
 a41 := Tryz.isAgg142
 z41 := Tryz.sizeOf142
 v41 := Tryz.zeroValue142
 i41 := by kernel_rfl
 t44 := Tryz.underlying145
 a44 := Tryz.isAgg145
 z44 := Tryz.sizeOf145
 v44 := Tryz.zeroValue145
 i44 := by kernel_rfl
 t49 := Tryz.underlying154
 a49 := Tryz.isAgg154
 z49 := Tryz.sizeOf154
 v49 := Tryz.zeroValue154
 i49 := by kernel_rfl
 t51 := Tryz.underlying83
 a51 := Tryz.isAgg83
 z51 := Tryz.sizeOf83
 v51 := Tryz.zeroValue83
 i51 := by kernel_rfl
 t53 := Tryz.underlying157
 a53 := Tryz.isAgg157
 z53 := Tryz.sizeOf157
 v53 := Tryz.zeroValue157
 i53 := by kernel_rfl
 t54 := Tryz.underlying158
 a54 := Tryz.isAgg158
 z54 := Tryz.sizeOf158
 v54 := Tryz.zeroValue158
 i54 := by kernel_rfl
 t58 := Tryz.underlying47
 a58 := Tryz.isAgg47
 z58 := Tryz.sizeOf47
 v58 := Tryz.zeroValue47
 i58 := by kernel_rfl
 t60 := Tryz.underlying173
 a60 := Tryz.isAgg173
 z60 := Tryz.sizeOf173
 v60 := Tryz.zeroValue173
 i60 := by kernel_rfl
 t64 := Tryz.underlying177
 a64 := Tryz.isAgg177
 z64 := Tryz.sizeOf177
 v64 := Tryz.zeroValue177
 i64 := by kernel_rfl
 t66 := Tryz.underlying183
 a66 := Tryz.isAgg183
 z66 := Tryz.sizeOf183
 v66 := Tryz.zeroValue183
 i66 := by kernel_rfl
 t67 := Tryz.underlying42
 a67 := Tryz.isAgg42
 z67 := Tryz.sizeOf42
 v67 := Tryz.zeroValue42
 i67 := by kernel_rfl
 t75 := Tryz.underlying195
 a75 := Tryz.isAgg195
 z75 := Tryz.sizeOf195
 v75 := Tryz.zeroValue195
 i75 := by kernel_rfl
 t76 := Tryz.underlying196
 a76 := Tryz.isAgg196
 z76 := Tryz.sizeOf196
 v76 := Tryz.zeroValue196
 i76 := by kernel_rfl
 t77 := Tryz.underlying197
 a77 := Tryz.isAgg197
 z77 := Tryz.sizeOf197
 v77 := Tryz.zeroValue197
 i77 := by kernel_rfl
 t78 := Tryz.underlying198
 a78 := Tryz.isAgg198
 z78 := Tryz.sizeOf198
 v78 := Tryz.zeroValue198
 i78 := by kernel_rfl
 t79 := Tryz.underlying199
 a79 := Tryz.isAgg199
 z79 := Tryz.sizeOf199
 v79 := Tryz.zeroValue199
 i79 := by kernel_rfl
 t80 := Tryz.underlying200
 a80 := Tryz.isAgg200
 z80 := Tryz.sizeOf200
 v80 := Tryz.zeroValue200
 i80 := by kernel_rfl
 t82 := Tryz.underlying202
 a82 := Tryz.isAgg202
 z82 := Tryz.sizeOf202
 v82 := Tryz.zeroValue202
 i82 := by kernel_rfl
end Go.Proofs

namespace Go.Proofs.YtnheekadeflecaaGreat
def zCs (code1 : List Int) (more2 : List Int) : Option Bool :=
 (some (bif (ltI 1048576 ((code1.length : Int))) then true else (ltI (w64 (1048576 - ((code1.length : Int)))) ((more2.length : Int))))).bind fun t4 =>
 some t4
def zBk (c1 : ((List Int) × Int × Int)) : Option (Int × (((List Int) × Int × Int))) :=
 (
  bif (ltI c1.2.1 ((c1.1.length : Int))) then
   (
    (getI c1.1 c1.2.1).bind fun e4 =>
    sI (IntKind.i64.wrap e4) fun b5 =>
    some b5
   )
  else
   (
    some 0
   )
 ).bind fun j2 =>
 sI (w64 (c1.2.1 + 1)) fun f6 =>
 sI (IntKind.u64.wrap ((IntKind.u64.wrap ((IntKind.u64.wrap (c1.2.2 * 6364136223846793005)) + (IntKind.u64.wrap j2))) + 1442695040888963407)) fun f7 =>
 bif (leI f6 ((c1.1.length : Int))) then
  (
   some ((j2, (c1.1, f6, f7)))
  )
 else
  (
   sI (IntKind.i64.wrap (andI .u64 (shrI .u64 f7 40) 255)) fun t9 =>
   some ((t9, (c1.1, f6, f7)))
  )
def zN (c1 : ((List Int) × Int × Int)) (vn2 : Int) : Option (Int × (((List Int) × Int × Int))) :=
 bif (leI vn2 1) then
  (
   some ((0, c1))
  )
 else
  (
   (zBk c1).bind fun y4 =>
   bif (ltI 200 vn2) then
    (
     (zBk y4.2).bind fun y6 =>
     sI (w64 ((w64 (y4.1 * 256)) + y6.1)) fun x7 =>
     (nz vn2).bind fun z8 =>
     sI (Int.tmod x7 vn2) fun t9 =>
     some ((t9, y6.2))
    )
   else
    (
     (nz vn2).bind fun z10 =>
     sI (Int.tmod y4.1 vn2) fun t11 =>
     some ((t11, y4.2))
    )
  )
def zAs (c1 : ((List Int) × Int × Int)) (vn2 : Int) : Option (Bool × (((List Int) × Int × Int))) :=
 (zN c1 vn2).bind fun y3 =>
 some ((eqI y3.1 0, y3.2))
def jF (c1 : ((List Int) × Int × Int)) (list2 : List Int) : Option (Int × (((List Int) × Int × Int))) :=
 (zN c1 ((list2.length : Int))).bind fun y3 =>
 (getI list2 y3.1).bind fun e4 =>
 some ((e4, y3.2))
def zBE (a1 : Int) (vm2 : Int) : Option Int :=
 (nz vm2).bind fun z3 =>
 sI (Int.tmod a1 vm2) fun vr4 =>
 bif (ltI vr4 0) then
  (
   sI (w64 (vr4 + vm2)) fun vr6 =>
   some vr6
  )
 else
  (
   some vr4
  )
def zAk (a1 : Int) (b2 : Int) : Option Int :=
 bif (ltI b2 a1) then
  (
   some a1
  )
 else
  (
   some b2
  )
def zBl (c1 : ((List Int) × Int × Int)) : Option (Int × (((List Int) × Int × Int))) :=
 (zN c1 16).bind fun y2 =>
 bif (eqI y2.1 0) then
  (
   (jF y2.2 ([-3, -4, -2000, -1999, -1996, -1995, -163, -2001, -2003, -2004, 0, 1, 5, -1, -2, -5, -9223372036854775808])).bind fun y4 =>
   some ((y4.1, y4.2))
  )
 else
  (
   (
    bif (eqI y2.1 1) then
     (
      some (eqI y2.1 1)
     )
    else
     (
      some (eqI y2.1 2)
     )
   ).bind fun j5 =>
   bif j5 then
    (
     (zN y2.2 1998).bind fun y8 =>
     sI (w64 ((-3) - y8.1)) fun d9 =>
     (zBE d9 4).bind fun y10 =>
     bif (ltI 1 y10) then
      (
       (zAk (-2000) (w64 (d9 - 2))).bind fun y12 =>
       some ((y12, y8.2))
      )
     else
      (
       some ((d9, y8.2))
      )
    )
   else
    (
     (
      bif (eqI y2.1 3) then
       (
        some (eqI y2.1 3)
       )
      else
       (
        bif (eqI y2.1 4) then
         (
          some (eqI y2.1 4)
         )
        else
         (
          some (eqI y2.1 5)
         )
       )
     ).bind fun j13 =>
     bif j13 then
      (
       (jF y2.2 ([-84, -420, -231, -260, -455, -520, -660, -1155, -1320, -1380, -1428, -1540, -399, -1092, -1560, -1785])).bind fun y17 =>
       some ((y17.1, y17.2))
      )
     else
      (
       (
        bif (eqI y2.1 6) then
         (
          some (eqI y2.1 6)
         )
        else
         (
          some (eqI y2.1 7)
         )
       ).bind fun j18 =>
       bif j18 then
        (
         (zN y2.2 60).bind fun y21 =>
         sI (w64 ((-4) * (w64 (1 + y21.1)))) fun t22 =>
         some ((t22, y21.2))
        )
       else
        (
         (zN y2.2 50).bind fun y23 =>
         sI (w64 ((-3) - (w64 (4 * y23.1)))) fun t24 =>
         some ((t24, y23.2))
        )
      )
    )
  )
def zCW (vn1 : Int) (lo2 : Int) (hi3 : Int) : Option Bool :=
 some (bif (leI lo2 vn1) then (leI vn1 hi3) else false)
def zAj (d1 : Int) : Option Bool :=
 (zCW d1 (-2000) (-3)).bind fun y2 =>
 (bif y2 then ((zBE d1 4).bind fun y4 => some (ltI y4 2)) else some false).bind fun b5 =>
 some b5
def zAS (y10 : (Int × (((List Int) × Int × Int)))) (y6 : (Int × (((List Int) × Int × Int)))) : Nat → Int → Option Int
 | 0, _ => none
 | n + 1, d12 =>
  (zAj d12).bind fun y15 =>
  bif (!y15) then
   (
    sI (w64 (d12 + 1)) fun d17 =>
    zAS y10 y6 n d17
   )
  else
   (
    some d12
   )
def zBu (c1 : ((List Int) × Int × Int)) : Option (Int × Int × (((List Int) × Int × Int))) :=
 (zAs c1 10).bind fun y2 =>
 bif y2.1 then
  (
   (zBl y2.2).bind fun y4 =>
   (jF y4.2 ([2, 3, 5, 1, 0, 4, 1009, 23])).bind fun y5 =>
   some ((y4.1, y5.1, y5.2))
  )
 else
  (
   (jF y2.2 ([2, 2, 3, 3, 5, 7, 11, 13, 19])).bind fun y6 =>
   (nz (w64 (y6.1 * y6.1))).bind fun z7 =>
   sI (w64 (Int.tdiv 2000 (w64 (y6.1 * y6.1)))) fun most8 =>
   (zAk 1 (w64 (most8 - 3))).bind fun y9 =>
   (zN y6.2 y9).bind fun y10 =>
   sI (w64 ((-3) - y10.1)) fun d11 =>
   (zAS y10 y6 FU d11).bind fun o14 =>
   (zAs y10.2 4).bind fun y18 =>
   bif y18.1 then
    (
     (jF y18.2 ([-3, -4])).bind fun y20 =>
     some ((y20.1, y6.1, y20.2))
    )
   else
    (
     some ((o14, y6.1, y18.2))
    )
  )
def zAa (c1 : ((List Int) × Int × Int)) : Option (Int × (((List Int) × Int × Int))) :=
 (zN c1 12).bind fun y2 =>
 bif (eqI y2.1 0) then
  (
   (jF y2.2 ([0, 1, -1, 1000000, -1000000, 1000001, -1000001, -9223372036854775808, 9223372036854775807, 999983, 999999, 1000])).bind fun y4 =>
   some ((y4.1, y4.2))
  )
 else
  (
   (
    bif (eqI y2.1 1) then
     (
      some (eqI y2.1 1)
     )
    else
     (
      some (eqI y2.1 2)
     )
   ).bind fun j5 =>
   bif j5 then
    (
     (zN y2.2 50000).bind fun y8 =>
     (zN y8.2 20).bind fun y9 =>
     (zN y9.2 2).bind fun y10 =>
     sI (w64 ((w64 (y8.1 * (w64 (1 + y9.1)))) * (w64 (1 - (w64 (2 * y10.1)))))) fun t11 =>
     some ((t11, y10.2))
    )
   else
    (
     (
      bif (eqI y2.1 3) then
       (
        some (eqI y2.1 3)
       )
      else
       (
        some (eqI y2.1 4)
       )
     ).bind fun j12 =>
     bif j12 then
      (
       (zN y2.2 2000).bind fun y15 =>
       some ((y15.1, y15.2))
      )
     else
      (
       (zN y2.2 121).bind fun y16 =>
       sI (w64 (y16.1 - 40)) fun t17 =>
       some ((t17, y16.2))
      )
    )
  )
def zCX (c1 : ((List Int) × Int × Int)) : Option (((Int × Int × Int)) × (((List Int) × Int × Int))) :=
 (zN c1 14).bind fun y2 =>
 bif (eqI y2.1 0) then
  (
   (zAa y2.2).bind fun y4 =>
   (zAa y4.2).bind fun y5 =>
   (zAa y5.2).bind fun y6 =>
   some (((y4.1, y5.1, y6.1), y6.2))
  )
 else
  (
   bif (eqI y2.1 1) then
    (
     (jF y2.2 ([2, 3, -1, 0, 1000])).bind fun y8 =>
     (zN y8.2 20).bind fun y9 =>
     (zN y9.2 21).bind fun y10 =>
     (zN y10.2 20).bind fun y11 =>
     sI (w64 (y8.1 * y9.1)) fun f12 =>
     sI (w64 (y8.1 * (w64 (y10.1 - 10)))) fun f13 =>
     sI (w64 (y8.1 * y11.1)) fun f14 =>
     some (((f12, f13, f14), y11.2))
    )
   else
    (
     bif (eqI y2.1 2) then
      (
       (zN y2.2 2000).bind fun y16 =>
       (zN y16.2 3000).bind fun y17 =>
       (zN y17.2 2000).bind fun y18 =>
       sI (w64 (y17.1 - 1500)) fun f19 =>
       some (((y16.1, f19, y18.1), y18.2))
      )
     else
      (
       bif (eqI y2.1 3) then
        (
         (zN y2.2 21).bind fun y21 =>
         (zN y21.2 21).bind fun y22 =>
         (zN y22.2 21).bind fun y23 =>
         sI (w64 (y21.1 - 10)) fun f24 =>
         sI (w64 (y22.1 - 10)) fun f25 =>
         sI (w64 (y23.1 - 10)) fun f26 =>
         some (((f24, f25, f26), y23.2))
        )
       else
        (
         (zN y2.2 25).bind fun y27 =>
         (zN y27.2 40).bind fun y28 =>
         sI (w64 (1 + y27.1)) fun a29 =>
         (zN y28.2 (w64 (2 * a29))).bind fun y30 =>
         sI (w64 ((w64 (y30.1 - a29)) + 1)) fun b31 =>
         (nz (w64 (4 * a29))).bind fun z32 =>
         sI (w64 ((w64 (Int.tdiv (w64 ((w64 (b31 * b31)) + (w64 (4 * a29)))) (w64 (4 * a29)))) + y28.1)) fun f33 =>
         some (((a29, b31, f33), y30.2))
        )
      )
    )
  )
def zAL (c1 : ((List Int) × Int × Int)) : Option (Int × (((List Int) × Int × Int))) :=
 (zBl c1).bind fun y2 =>
 (zAj y2.1).bind fun y3 =>
 bif (!y3) then
  (
   some ((-23, y2.2))
  )
 else
  (
   some ((y2.1, y2.2))
  )
def jD (f1 : (Int × Int × Int)) : Option Int :=
 sI (w64 ((w64 (f1.2.1 * f1.2.1)) - (w64 ((w64 (4 * f1.1)) * f1.2.2)))) fun t2 =>
 some t2
def zCn (f1 : (Int × Int × Int)) : Option Bool :=
 (some (bif (bif (ltI (w64 (0 - f1.1)) f1.2.1) then (leI f1.2.1 f1.1) else false) then (bif (ltI f1.1 f1.2.2) then true else (bif (eqI f1.1 f1.2.2) then (leI 0 f1.2.1) else false)) else false)).bind fun t6 =>
 some t6
def zAr (a2 : Int) (d1 : Int) : Nat → Int → List ((Int × Int × Int)) → Option (List ((Int × Int × Int)))
 | 0, _, _ => none
 | n + 1, b8, l9 =>
  bif (leI b8 a2) then
   (
    (nz (w64 (4 * a2))).bind fun z13 =>
    sI (w64 (Int.tdiv (w64 ((w64 (b8 * b8)) - d1)) (w64 (4 * a2)))) fun f14 =>
    (jD ((a2, b8, f14))).bind fun y15 =>
    (bif (eqI y15 d1) then ((zCn ((a2, b8, f14))).bind fun y17 => some y17) else some false).bind fun b18 =>
    bif b18 then
     (
      (room (l9.length + ([(a2, b8, f14)]).length)).bind fun u20 =>
      sI (w64 (b8 + 1)) fun b21 =>
      zAr a2 d1 n b21 (l9 ++ ([(a2, b8, f14)]))
     )
    else
     (
      sI (w64 (b8 + 1)) fun b22 =>
      zAr a2 d1 n b22 l9
     )
   )
  else
   (
    some l9
   )
def zBQ (d1 : Int) : Nat → Int → List ((Int × Int × Int)) → Option (List ((Int × Int × Int)))
 | 0, _, _ => none
 | n + 1, a2, l3 =>
  bif (leI (w64 ((w64 (3 * a2)) * a2)) (w64 (0 - d1))) then
   (
    sI (w64 (1 - a2)) fun b7 =>
    (zAr a2 d1 FU b7 l3).bind fun o11 =>
    sI (w64 (a2 + 1)) fun a23 =>
    zBQ d1 n a23 o11
   )
  else
   (
    some l3
   )
def zDf (d1 : Int) : Option (List ((Int × Int × Int))) :=
 (zBQ d1 FU 1 (([] : List ((Int × Int × Int))))).bind fun o5 =>
 some o5
def zCq (vn1 : Int) : Option Int :=
 (zAk vn1 (w64 (0 - vn1))).bind fun y2 =>
 some y2
def zA0 : Nat → Int → Int → Option Int
 | 0, _, _ => none
 | n + 1, a5, b6 =>
  bif (!eqI b6 0) then
   (
    (nz b6).bind fun z10 =>
    sI (Int.tmod a5 b6) fun b11 =>
    zA0 n b6 b11
   )
  else
   (
    some a5
   )
def zBF (a1 : Int) (b2 : Int) : Option Int :=
 (zCq a1).bind fun y3 =>
 (zCq b2).bind fun y4 =>
 (zA0 FU y3 y4).bind fun o8 =>
 some o8
def zAH (f1 : (Int × Int × Int)) : Option Int :=
 (zBF f1.1 f1.2.1).bind fun y2 =>
 (zBF y2 f1.2.2).bind fun y3 =>
 some y3
def zAG (y2 : List ((Int × Int × Int))) : Nat → Int → List ((Int × Int × Int)) → Option (List ((Int × Int × Int)))
 | 0, _, _ => none
 | n + 1, t3, l4 =>
  bif (ltI t3 ((y2.length : Int))) then
   (
    (getI y2 t3).bind fun e8 =>
    (getI y2 t3).bind fun e9 =>
    (zAH e9).bind fun y10 =>
    bif (eqI y10 1) then
     (
      (room (l4.length + ([e9]).length)).bind fun u12 =>
      sI (w64 (t3 + 1)) fun t13 =>
      zAG y2 n t13 (l4 ++ ([e9]))
     )
    else
     (
      sI (w64 (t3 + 1)) fun t14 =>
      zAG y2 n t14 l4
     )
   )
  else
   (
    some l4
   )
def zAA (d1 : Int) : Option (List ((Int × Int × Int))) :=
 (zDf d1).bind fun y2 =>
 (zAG y2 FU 0 (([] : List ((Int × Int × Int))))).bind fun o6 =>
 some o6
def zAB (c1 : ((List Int) × Int × Int)) (d2 : Int) : Option (((Int × Int × Int)) × (((List Int) × Int × Int))) :=
 (zAA d2).bind fun y3 =>
 (zN c1 ((y3.length : Int))).bind fun y4 =>
 (getI y3 y4.1).bind fun e5 =>
 (getI y3 y4.1).bind fun e6 =>
 some ((e6, y4.2))
def jB (vm1 : (Int × Int × Int × Int)) (vn2 : (Int × Int × Int × Int)) : Option (Int × Int × Int × Int) :=
 sI (w64 ((w64 (vm1.1 * vn2.1)) + (w64 (vm1.2.1 * vn2.2.2.1)))) fun f3 =>
 sI (w64 ((w64 (vm1.1 * vn2.2.1)) + (w64 (vm1.2.1 * vn2.2.2.2)))) fun f4 =>
 sI (w64 ((w64 (vm1.2.2.1 * vn2.1)) + (w64 (vm1.2.2.2 * vn2.2.2.1)))) fun f5 =>
 sI (w64 ((w64 (vm1.2.2.1 * vn2.2.1)) + (w64 (vm1.2.2.2 * vn2.2.2.2)))) fun f6 =>
 some ((f3, f4, f5, f6))
def qY : Nat → Int → Int → Int → Int → Int → List Int → Int → Int → Option (Int × Int × Int × Int × (List Int) × Int × Int)
 | 0, _, _, _, _, _, _, _, _ => none
 | n + 1, k3, f4, f5, f6, f7, f8, f9, f10 =>
  bif (ltI 0 k3) then
   (
    (zN ((f8, f9, f10)) 9).bind fun y14 =>
    sI (w64 (y14.1 - 4)) fun t15 =>
    (zN y14.2 3).bind fun y16 =>
    bif (eqI y16.1 0) then
     (
      (jB ((f4, f5, f6, f7)) ((1, t15, 0, 1))).bind fun y18 =>
      sI (w64 (k3 - 1)) fun k19 =>
      qY n k19 y18.1 y18.2.1 y18.2.2.1 y18.2.2.2 y16.2.1 y16.2.2.1 y16.2.2.2
     )
    else
     (
      bif (eqI y16.1 1) then
       (
        (jB ((f4, f5, f6, f7)) ((1, 0, t15, 1))).bind fun y21 =>
        sI (w64 (k3 - 1)) fun k22 =>
        qY n k22 y21.1 y21.2.1 y21.2.2.1 y21.2.2.2 y16.2.1 y16.2.2.1 y16.2.2.2
       )
      else
       (
        (jB ((f4, f5, f6, f7)) ((0, -1, 1, 0))).bind fun y23 =>
        sI (w64 (k3 - 1)) fun k24 =>
        qY n k24 y23.1 y23.2.1 y23.2.2.1 y23.2.2.2 y16.2.1 y16.2.2.1 y16.2.2.2
       )
     )
   )
  else
   (
    some (f4, f5, f6, f7, f8, f9, f10)
   )
def zBt (c1 : ((List Int) × Int × Int)) : Option (((Int × Int × Int × Int)) × (((List Int) × Int × Int))) :=
 (zN c1 6).bind fun y2 =>
 (qY FU y2.1 1 0 0 1 y2.2.1 y2.2.2.1 y2.2.2.2).bind fun o12 =>
 some (((o12.1, o12.2.1, o12.2.2.1, o12.2.2.2.1), o12.2.2.2.2))
def zBH (f1 : (Int × Int × Int)) (x2 : Int) (y3 : Int) : Option Int :=
 sI (w64 ((w64 ((w64 ((w64 (f1.1 * x2)) * x2)) + (w64 ((w64 (f1.2.1 * x2)) * y3)))) + (w64 ((w64 (f1.2.2 * y3)) * y3)))) fun t4 =>
 some t4
def zCh (f1 : (Int × Int × Int)) (x2 : Int) (y3 : Int) (u4 : Int) (v5 : Int) : Option Int :=
 sI (w64 ((w64 ((w64 ((w64 ((w64 (2 * f1.1)) * x2)) * u4)) + (w64 (f1.2.1 * (w64 ((w64 (x2 * v5)) + (w64 (y3 * u4)))))))) + (w64 ((w64 ((w64 (2 * f1.2.2)) * y3)) * v5)))) fun t6 =>
 some t6
def zCZ (f1 : (Int × Int × Int)) (vm2 : (Int × Int × Int × Int)) : Option (Int × Int × Int) :=
 (zBH f1 vm2.1 vm2.2.2.1).bind fun y3 =>
 (zCh f1 vm2.1 vm2.2.2.1 vm2.2.1 vm2.2.2.2).bind fun y4 =>
 (zBH f1 vm2.2.1 vm2.2.2.2).bind fun y5 =>
 some ((y3, y4, y5))
def zC9 (vn1 : Int) : Option Bool :=
 (zCW vn1 (-1000000) 1000000).bind fun y2 =>
 some y2
def zDI (f1 : (Int × Int × Int)) : Option Bool :=
 (zC9 f1.1).bind fun y2 =>
 (bif y2 then ((zC9 f1.2.1).bind fun y4 => some y4) else some false).bind fun b5 =>
 (bif b5 then ((zC9 f1.2.2).bind fun y7 => some y7) else some false).bind fun b8 =>
 some b8
def zAU (c1 : ((List Int) × Int × Int)) (f2 : (Int × Int × Int)) : Option (((Int × Int × Int)) × (((List Int) × Int × Int))) :=
 (zBt c1).bind fun y3 =>
 (zCZ f2 y3.1).bind fun y4 =>
 (zDI y4).bind fun y5 =>
 bif (!y5) then
  (
   some ((f2, y3.2))
  )
 else
  (
   some ((y4, y3.2))
  )
def zBX (c1 : ((List Int) × Int × Int)) : Option (((Int × Int × Int)) × (((List Int) × Int × Int))) :=
 (zN c1 12).bind fun y2 =>
 bif (eqI y2.1 0) then
  (
   (zCX y2.2).bind fun y4 =>
   some ((y4.1, y4.2))
  )
 else
  (
   bif (eqI y2.1 1) then
    (
     (zAL y2.2).bind fun y6 =>
     (zAB y6.2 y6.1).bind fun y7 =>
     (zN y7.2 5).bind fun y8 =>
     sI (w64 (1 + y8.1)) fun k9 =>
     (zAU y8.2 ((w64 (k9 * y7.1.1), w64 (k9 * y7.1.2.1), w64 (k9 * y7.1.2.2)))).bind fun y10 =>
     some ((y10.1, y10.2))
    )
   else
    (
     bif (eqI y2.1 2) then
      (
       (zN y2.2 1000000).bind fun y12 =>
       (zN y12.2 1000001).bind fun y13 =>
       (zN y13.2 750001).bind fun y14 =>
       sI (w64 (1 + y12.1)) fun f15 =>
       sI (w64 (250000 + y14.1)) fun f16 =>
       some (((f15, y13.1, f16), y14.2))
      )
     else
      (
       (zAL y2.2).bind fun y17 =>
       (zAB y17.2 y17.1).bind fun y18 =>
       (zAU y18.2 y18.1).bind fun y19 =>
       some ((y19.1, y19.2))
      )
    )
  )
def zBG (c1 : ((List Int) × Int × Int)) : Option (((Int × Int × Int)) × (((List Int) × Int × Int))) :=
 (zAs c1 12).bind fun y2 =>
 bif y2.1 then
  (
   (zBX y2.2).bind fun y4 =>
   some ((y4.1, y4.2))
  )
 else
  (
   (zAL y2.2).bind fun y5 =>
   (zAB y5.2 y5.1).bind fun y6 =>
   (zAs y6.2 2).bind fun y7 =>
   bif y7.1 then
    (
     (zAU y7.2 y6.1).bind fun y9 =>
     some ((y9.1, y9.2))
    )
   else
    (
     some ((y6.1, y7.2))
    )
  )
def zBc (code1 : List Int) : Option (((Int × Int × Int)) × Int) :=
 (zBu ((code1, 0, 0))).bind fun y2 =>
 (zAj y2.1).bind fun y3 =>
 bif (!y3) then
  (
   (zBG y2.2.2).bind fun y5 =>
   some ((y5.1, y2.2.1))
  )
 else
  (
   (zAB y2.2.2 y2.1).bind fun y6 =>
   (zAU y6.2 y6.1).bind fun y7 =>
   some ((y7.1, y2.2.1))
  )
def zAv (list1 : List Int) : Nat → Int → Option (Unit ⊕ Bool)
 | 0, _ => none
 | n + 1, t2 =>
  bif (ltI t2 ((list1.length : Int))) then
   (
    (getI list1 t2).bind fun e6 =>
    bif (bif (ltI e6 (-1000000)) then true else (ltI 1000000 e6)) then
     (
      some (.inr false)
     )
    else
     (
      sI (w64 (t2 + 1)) fun t9 =>
      zAv list1 n t9
     )
   )
  else
   (
    some (.inl ())
   )
def zBK (list1 : List Int) : Option Bool :=
 (zAv list1 FU 0).bind fun qo4 =>
 match qo4 with
 | .inr r => some r
 | .inl o4 =>
  some true
def zCb (f1 : (Int × Int × Int)) : Option Bool :=
 (zBK ([f1.1, f1.2.1, f1.2.2])).bind fun y2 =>
 some y2
def zY (f1 : (Int × Int × Int)) : Option Int :=
 sI (w64 ((w64 (f1.2.1 * f1.2.1)) - (w64 ((w64 (4 * f1.1)) * f1.2.2)))) fun t2 =>
 some t2
def qZ (f1 : (Int × Int × Int)) : Option Bool :=
 (zCb f1).bind fun y2 =>
 (bif y2 then ((zY f1).bind fun y4 => some (ltI y4 0)) else some false).bind fun b5 =>
 some (bif b5 then (ltI 0 f1.1) else false)
def jM (f1 : (Int × Int × Int)) : Option Bool :=
 (qZ f1).bind fun y2 =>
 (bif y2 then ((zY f1).bind fun y4 => some (leI (-2000) y4)) else some false).bind fun b5 =>
 some b5
def zCa (vn1 : Int) : Option Int :=
 sI (mxI vn1 (w64 (0 - (mxI vn1 (-9223372036854775807))))) fun t2 =>
 some t2
def zA1 : Nat → Int → Int → Option Int
 | 0, _, _ => none
 | n + 1, a3, b4 =>
  bif (!eqI b4 0) then
   (
    (nz b4).bind fun z8 =>
    sI (Int.tmod a3 b4) fun b9 =>
    zA1 n b4 b9
   )
  else
   (
    some a3
   )
def zD5 (a1 : Int) (b2 : Int) : Option Int :=
 (zA1 FU a1 b2).bind fun o6 =>
 (zCa o6).bind fun y10 =>
 some y10
def jX (f1 : (Int × Int × Int)) : Option Int :=
 (zD5 f1.2.1 f1.2.2).bind fun y2 =>
 (zD5 f1.1 y2).bind fun y3 =>
 some y3
def qC (f1 : (Int × Int × Int)) : Option Bool :=
 (jM f1).bind fun y2 =>
 (bif y2 then ((jX f1).bind fun y4 => some (eqI y4 1)) else some false).bind fun b5 =>
 some b5
def zAd (vn1 : Int) : Nat → Int → Option (Unit ⊕ Bool)
 | 0, _ => none
 | n + 1, p3 =>
  bif (leI (w64 (p3 * p3)) vn1) then
   (
    (nz p3).bind fun z7 =>
    bif (eqI (Int.tmod vn1 p3) 0) then
     (
      some (.inr false)
     )
    else
     (
      sI (w64 (p3 + 1)) fun p9 =>
      zAd vn1 n p9
     )
   )
  else
   (
    some (.inl ())
   )
def j7 (vn1 : Int) : Option Bool :=
 bif (ltI vn1 2) then
  (
   some false
  )
 else
  (
   (zAd vn1 FU 2).bind fun qo5 =>
   match qo5 with
   | .inr r => some r
   | .inl o5 =>
    some true
  )
def zCH (vn1 : Int) : Option Bool :=
 (zBK ([vn1])).bind fun y2 =>
 (bif y2 then ((j7 vn1).bind fun y4 => some y4) else some false).bind fun b5 =>
 some b5
def zB2 (a1 : Int) (vm2 : Int) : Option Int :=
 (nz vm2).bind fun z3 =>
 sI (Int.tmod a1 vm2) fun vr4 =>
 bif (ltI vr4 0) then
  (
   sI (w64 (vr4 + vm2)) fun vr6 =>
   some vr6
  )
 else
  (
   some vr4
  )
def qF (d1 : Int) : Option Bool :=
 (bif (bif (leI (-2000) d1) then (leI d1 (-3)) else false) then ((zB2 d1 4).bind fun y4 => some (leI y4 1)) else some false).bind fun b5 =>
 some b5
def j9 (d1 : Int) (p2 : Int) : Option Bool :=
 (zCH p2).bind fun y3 =>
 (bif (bif y3 then (leI p2 2000) else false) then ((qF (w64 ((w64 (d1 * p2)) * p2))).bind fun y6 => some y6) else some false).bind fun b7 =>
 some b7
def zCv : Option (Int × Int × Int × Int) :=
 some ((1, 0, 0, 1))
def qL (f1 : (Int × Int × Int)) : Option Bool :=
 (some (bif (ltI (w64 (0 - f1.1)) f1.2.1) then (leI f1.2.1 f1.1) else false)).bind fun t3 =>
 some t3
def jA (f1 : (Int × Int × Int)) : Option Bool :=
 (qL f1).bind fun y2 =>
 (some (bif y2 then (bif (ltI f1.1 f1.2.2) then true else (bif (eqI f1.1 f1.2.2) then (leI 0 f1.2.1) else false)) else false)).bind fun t6 =>
 some t6
def zAn (a1 : Int) (vm2 : Int) : Option Int :=
 (zB2 a1 vm2).bind fun y3 =>
 (nz vm2).bind fun z4 =>
 sI (w64 (Int.tdiv (w64 (a1 - y3)) vm2)) fun t5 =>
 some t5
def qW (f1 : (Int × Int × Int)) : Option (Int × Int × Int × Int) :=
 (jA f1).bind fun y2 =>
 bif y2 then
  (
   (zCv).bind fun y4 =>
   some y4
  )
 else
  (
   (qL f1).bind fun y5 =>
   bif (!y5) then
    (
     (zAn (w64 (f1.1 - f1.2.1)) (w64 (2 * f1.1))).bind fun y7 =>
     some ((1, y7, 0, 1))
    )
   else
    (
     some ((0, -1, 1, 0))
    )
  )
def zAl (f1 : (Int × Int × Int)) (x2 : Int) (y3 : Int) : Option Int :=
 sI (w64 ((w64 ((w64 ((w64 (f1.1 * x2)) * x2)) + (w64 ((w64 (f1.2.1 * x2)) * y3)))) + (w64 ((w64 (f1.2.2 * y3)) * y3)))) fun t4 =>
 some t4
def zAe (f1 : (Int × Int × Int)) (x2 : Int) (y3 : Int) (u4 : Int) (v5 : Int) : Option Int :=
 sI (w64 ((w64 ((w64 ((w64 ((w64 (2 * f1.1)) * x2)) * u4)) + (w64 (f1.2.1 * (w64 ((w64 (x2 * v5)) + (w64 (y3 * u4)))))))) + (w64 ((w64 ((w64 (2 * f1.2.2)) * y3)) * v5)))) fun t6 =>
 some t6
def zQ (f1 : (Int × Int × Int)) (vm2 : (Int × Int × Int × Int)) : Option (Int × Int × Int) :=
 (zAl f1 vm2.1 vm2.2.2.1).bind fun y3 =>
 (zAe f1 vm2.1 vm2.2.2.1 vm2.2.1 vm2.2.2.2).bind fun y4 =>
 (zAl f1 vm2.2.1 vm2.2.2.2).bind fun y5 =>
 some ((y3, y4, y5))
def qB (vm1 : (Int × Int × Int × Int)) (vn2 : (Int × Int × Int × Int)) : Option (Int × Int × Int × Int) :=
 sI (w64 ((w64 (vm1.1 * vn2.1)) + (w64 (vm1.2.1 * vn2.2.2.1)))) fun f3 =>
 sI (w64 ((w64 (vm1.1 * vn2.2.1)) + (w64 (vm1.2.1 * vn2.2.2.2)))) fun f4 =>
 sI (w64 ((w64 (vm1.2.2.1 * vn2.1)) + (w64 (vm1.2.2.2 * vn2.2.2.1)))) fun f5 =>
 sI (w64 ((w64 (vm1.2.2.1 * vn2.2.1)) + (w64 (vm1.2.2.2 * vn2.2.2.2)))) fun f6 =>
 some ((f3, f4, f5, f6))
def zAQ : Nat → Int → Int → Int → Int → Int → Int → Int → Option (Int × Int × Int × Int × Int × Int × Int)
 | 0, _, _, _, _, _, _, _ => none
 | n + 1, f3, f4, f5, f6, f7, f8, f9 =>
  (jA ((f7, f8, f9))).bind fun y12 =>
  bif (!y12) then
   (
    (qW ((f7, f8, f9))).bind fun y14 =>
    (zQ ((f7, f8, f9)) y14).bind fun y15 =>
    (qB ((f3, f4, f5, f6)) y14).bind fun y16 =>
    zAQ n y16.1 y16.2.1 y16.2.2.1 y16.2.2.2 y15.1 y15.2.1 y15.2.2
   )
  else
   (
    some (f3, f4, f5, f6, f7, f8, f9)
   )
def jI (f1 : (Int × Int × Int)) : Option (((Int × Int × Int)) × ((Int × Int × Int × Int))) :=
 (zCv).bind fun y2 =>
 (zAQ FU y2.1 y2.2.1 y2.2.2.1 y2.2.2.2 f1.1 f1.2.1 f1.2.2).bind fun o11 =>
 some ((o11.2.2.2.2, (o11.1, o11.2.1, o11.2.2.1, o11.2.2.2.1)))
def qK (f1 : (Int × Int × Int)) : Option (Int × Int × Int) :=
 (jI f1).bind fun y2 =>
 some y2.1
def jG (a2 : Int) (d1 : Int) : Nat → Int → List ((Int × Int × Int)) → Option (List ((Int × Int × Int)))
 | 0, _, _ => none
 | n + 1, b8, l9 =>
  bif (leI b8 a2) then
   (
    (nz (w64 (4 * a2))).bind fun z13 =>
    (some (!eqI (Int.tmod (w64 ((w64 (b8 * b8)) - d1)) (w64 (4 * a2))) 0)).bind fun t14 =>
    bif t14 then
     (
      sI (w64 (b8 + 1)) fun b16 =>
      jG a2 d1 n b16 l9
     )
    else
     (
      (nz (w64 (4 * a2))).bind fun z17 =>
      sI (w64 (Int.tdiv (w64 ((w64 (b8 * b8)) - d1)) (w64 (4 * a2)))) fun f18 =>
      (jA ((a2, b8, f18))).bind fun y19 =>
      bif y19 then
       (
        (room (l9.length + ([(a2, b8, f18)]).length)).bind fun u21 =>
        sI (w64 (b8 + 1)) fun b22 =>
        jG a2 d1 n b22 (l9 ++ ([(a2, b8, f18)]))
       )
      else
       (
        sI (w64 (b8 + 1)) fun b23 =>
        jG a2 d1 n b23 l9
       )
     )
   )
  else
   (
    some l9
   )
def zAX (d1 : Int) : Nat → Int → List ((Int × Int × Int)) → Option (List ((Int × Int × Int)))
 | 0, _, _ => none
 | n + 1, a2, l3 =>
  bif (leI (w64 ((w64 (3 * a2)) * a2)) (w64 (0 - d1))) then
   (
    sI (w64 (1 - a2)) fun b7 =>
    (jG a2 d1 FU b7 l3).bind fun o11 =>
    sI (w64 (a2 + 1)) fun a24 =>
    zAX d1 n a24 o11
   )
  else
   (
    some l3
   )
def zDS (d1 : Int) : Option (List ((Int × Int × Int))) :=
 (zAX d1 FU 1 (([] : List ((Int × Int × Int))))).bind fun o5 =>
 some o5
def zAM (forms1 : List ((Int × Int × Int))) : Nat → Int → List ((Int × Int × Int)) → Option (List ((Int × Int × Int)))
 | 0, _, _ => none
 | n + 1, t2, l3 =>
  bif (ltI t2 ((forms1.length : Int))) then
   (
    (getI forms1 t2).bind fun e7 =>
    (jX e7).bind fun y8 =>
    bif (eqI y8 1) then
     (
      (room (l3.length + ([e7]).length)).bind fun u10 =>
      sI (w64 (t2 + 1)) fun t11 =>
      zAM forms1 n t11 (l3 ++ ([e7]))
     )
    else
     (
      sI (w64 (t2 + 1)) fun t12 =>
      zAM forms1 n t12 l3
     )
   )
  else
   (
    some l3
   )
def zCu (forms1 : List ((Int × Int × Int))) : Option (List ((Int × Int × Int))) :=
 (zAM forms1 FU 0 (([] : List ((Int × Int × Int))))).bind fun o5 =>
 some o5
def zBP (d1 : Int) : Option (List ((Int × Int × Int))) :=
 (zDS d1).bind fun y2 =>
 (zCu y2).bind fun y3 =>
 some y3
def zAb (so2 : (((Int × Int × Int)) → Option Bool)) (y3 : List ((Int × Int × Int))) : Nat → Int → List ((Int × Int × Int)) → Option (List ((Int × Int × Int)))
 | 0, _, _ => none
 | n + 1, t4, l5 =>
  bif (ltI t4 ((y3.length : Int))) then
   (
    (getI y3 t4).bind fun e9 =>
    (getI y3 t4).bind fun e10 =>
    (so2 e10).bind fun y11 =>
    bif y11 then
     (
      (room (l5.length + ([e10]).length)).bind fun u13 =>
      sI (w64 (t4 + 1)) fun t14 =>
      zAb so2 y3 n t14 (l5 ++ ([e10]))
     )
    else
     (
      sI (w64 (t4 + 1)) fun t15 =>
      zAb so2 y3 n t15 l5
     )
   )
  else
   (
    some l5
   )
def zDg (d1 : Int) (so2 : (((Int × Int × Int)) → Option Bool)) : Option (List ((Int × Int × Int))) :=
 (zBP d1).bind fun y3 =>
 (zAb so2 y3 FU 0 (([] : List ((Int × Int × Int))))).bind fun o7 =>
 some o7
def zAh (a2 : Int) (g1 : (Int × Int × Int)) (size3 : Int) (x6 : Int) : Nat → Int → Option (Unit ⊕ (Int × Int))
 | 0, _ => none
 | n + 1, y10 =>
  bif (leI y10 size3) then
   (
    (bif (eqI (mxI x6 y10) size3) then ((zD5 x6 y10).bind fun y15 => some (eqI y15 1)) else some false).bind fun b16 =>
    (bif b16 then ((zAl g1 x6 y10).bind fun y18 => (zD5 y18 a2).bind fun y19 => some (eqI y19 1)) else some false).bind fun b20 =>
    bif b20 then
     (
      some (.inr (((x6, y10))))
     )
    else
     (
      sI (w64 (y10 + 1)) fun y22 =>
      zAh a2 g1 size3 x6 n y22
     )
   )
  else
   (
    some (.inl ())
   )
def zAu (a2 : Int) (g1 : (Int × Int × Int)) (size3 : Int) : Nat → Int → Option (Unit ⊕ (Int × Int))
 | 0, _ => none
 | n + 1, x6 =>
  bif (leI x6 size3) then
   (
    (zAh a2 g1 size3 x6 FU 0).bind fun qo12 =>
    match qo12 with
    | .inr r => some (.inr r)
    | .inl o12 =>
     sI (w64 (x6 + 1)) fun x23 =>
     zAu a2 g1 size3 n x23
   )
  else
   (
    some (.inl ())
   )
def zAC (a2 : Int) (g1 : (Int × Int × Int)) : Nat → Int → Option (Unit ⊕ (Int × Int))
 | 0, _ => none
 | n + 1, size3 =>
  (zAu a2 g1 size3 FU 0).bind fun qo8 =>
  match qo8 with
  | .inr r => some (.inr r)
  | .inl o8 =>
   sI (w64 (size3 + 1)) fun size24 =>
   zAC a2 g1 n size24
def zC1 (g1 : (Int × Int × Int)) (a2 : Int) : Option (Int × Int) :=
 (zAC a2 g1 FU 0).bind fun qo5 =>
 match qo5 with
 | .inr r => some r
 | .inl _ => none
def zDR (vm2 : Int) : Nat → Int → Int → Int → Int → Option Int
 | 0, _, _, _, _ => none
 | n + 1, x4, y5, vr6, vs7 =>
  bif (!eqI vs7 0) then
   (
    (nz vs7).bind fun z11 =>
    sI (w64 (Int.tdiv vr6 vs7)) fun q12 =>
    sI (w64 (vr6 - (w64 (q12 * vs7)))) fun vs13 =>
    sI (w64 (x4 - (w64 (q12 * y5)))) fun y14 =>
    zDR vm2 n y5 y14 vs7 vs13
   )
  else
   (
    some x4
   )
def zD3 (a1 : Int) (vm2 : Int) : Option Int :=
 (zB2 a1 vm2).bind fun y3 =>
 (zDR vm2 FU 1 0 y3 vm2).bind fun o9 =>
 (zB2 o9 vm2).bind fun y15 =>
 some y15
def zAw (f1 : (Int × Int × Int)) (x2 : Int) (y3 : Int) : Option (((Int × Int × Int)) × ((Int × Int × Int × Int))) :=
 (
  bif (eqI y3 0) then
   (
    some (0, x2)
   )
  else
   (
    (zCa y3).bind fun y6 =>
    (zD3 x2 y6).bind fun y7 =>
    (nz y3).bind fun z8 =>
    sI (w64 (Int.tdiv (w64 ((w64 (x2 * y7)) - 1)) y3)) fun f9 =>
    some (f9, y7)
   )
 ).bind fun j4 =>
 (zQ f1 ((x2, j4.1, y3, j4.2))).bind fun y10 =>
 (zAn y10.2.1 (w64 (2 * y10.1))).bind fun y11 =>
 sI (w64 (0 - y11)) fun t12 =>
 sI (w64 (j4.1 + (w64 (t12 * x2)))) fun f13 =>
 sI (w64 (j4.2 + (w64 (t12 * y3)))) fun f14 =>
 (zQ f1 ((x2, f13, y3, f14))).bind fun y15 =>
 some ((y15, (x2, f13, y3, f14)))
def zC4 (vm1 : (Int × Int × Int × Int)) : Option Int :=
 sI (w64 ((w64 (vm1.1 * vm1.2.2.2)) - (w64 (vm1.2.1 * vm1.2.2.1)))) fun t2 =>
 some t2
def q9 (vm1 : (Int × Int × Int × Int)) : Option (Int × Int × Int × Int) :=
 (zC4 vm1).bind fun y2 =>
 sI (w64 (y2 * vm1.2.2.2)) fun f3 =>
 sI (w64 ((w64 (0 - y2)) * vm1.2.1)) fun f4 =>
 sI (w64 ((w64 (0 - y2)) * vm1.2.2.1)) fun f5 =>
 sI (w64 (y2 * vm1.1)) fun f6 =>
 some ((f3, f4, f5, f6))
def zAp (p2 : Int) (y3 : (((Int × Int × Int)) × ((Int × Int × Int × Int)))) (y5 : (((Int × Int × Int)) × ((Int × Int × Int × Int)))) (y6 : (Int × Int × Int × Int)) : Nat → Int → Int → Int → Int → Option (Int × Int × Int × Int)
 | 0, _, _, _, _ => none
 | n + 1, f7, f8, f9, f10 =>
  (nz p2).bind fun z13 =>
  (bif (!eqI (Int.tmod f9 p2) 0) then some true else ((nz (w64 (p2 * p2))).bind fun z15 => some (!eqI (Int.tmod f10 (w64 (p2 * p2))) 0))).bind fun b16 =>
  bif b16 then
   (
    sI (w64 (f7 + 1)) fun f18 =>
    (zQ y5.1 ((y6.1, f18, y6.2.2.1, y6.2.2.2))).bind fun y19 =>
    zAp p2 y3 y5 y6 n f18 y19.1 y19.2.1 y19.2.2
   )
  else
   (
    some (f7, f8, f9, f10)
   )
def zBe (f1 : (Int × Int × Int)) (p2 : Int) : Option (((Int × Int × Int)) × ((Int × Int × Int × Int))) :=
 (jI f1).bind fun y3 =>
 (zC1 y3.1 p2).bind fun y4 =>
 (zAw y3.1 y4.1 y4.2).bind fun y5 =>
 (zCv).bind fun y6 =>
 (zAp p2 y3 y5 y6 FU y6.2.1 y5.1.1 y5.1.2.1 y5.1.2.2).bind fun o12 =>
 (nz p2).bind fun z20 =>
 (nz (w64 (p2 * p2))).bind fun z21 =>
 (jI ((o12.2.1, w64 (Int.tdiv o12.2.2.1 p2), w64 (Int.tdiv o12.2.2.2 (w64 (p2 * p2)))))).bind fun y22 =>
 (qB y3.2 y5.2).bind fun y23 =>
 (qB y23 ((y6.1, o12.1, y6.2.2.1, y6.2.2.2))).bind fun y24 =>
 (q9 y22.2).bind fun y25 =>
 (qB y25 ((1, 0, 0, p2))).bind fun y26 =>
 (q9 y24).bind fun y27 =>
 (qB y26 y27).bind fun y28 =>
 some ((y22.1, y28))
def zD6 (g1 : (Int × Int × Int)) (cap2 : Int) (cap3 : (Int × Int × Int)) : Option Bool :=
 (zBe g1 cap2).bind fun y4 =>
 (some (((y4.1.1 == cap3.1) && ((y4.1.2.1 == cap3.2.1) && (y4.1.2.2 == cap3.2.2))))).bind fun t5 =>
 some t5
def zCw (f1 : (Int × Int × Int)) (p2 : Int) : Option (List ((Int × Int × Int))) :=
 (zY f1).bind fun y3 =>
 (zDg (w64 ((w64 (y3 * p2)) * p2)) (fun x0 => zD6 x0 p2 f1)).bind fun y4 =>
 some y4
def zA9 (f1 : (Int × Int × Int)) (p2 : Int) : Option ((List ((Int × Int × Int))) × Bool) :=
 (qC f1).bind fun y3 =>
 (bif (!y3) then some true else ((zY f1).bind fun y5 => (j9 y5 p2).bind fun y6 => some (!y6))).bind fun b7 =>
 bif b7 then
  (
   some ((([] : List ((Int × Int × Int))), false))
  )
 else
  (
   (qK f1).bind fun y9 =>
   (zCw y9 p2).bind fun y10 =>
   some ((y10, true))
  )
def zCY (f1 : (Int × Int × Int)) : Option Bool :=
 (zDI f1).bind fun y2 =>
 (bif y2 then ((jD f1).bind fun y4 => some (ltI y4 0)) else some false).bind fun b5 =>
 some (bif b5 then (ltI 0 f1.1) else false)
def zDx (f1 : (Int × Int × Int)) : Option Bool :=
 (zCY f1).bind fun y2 =>
 (bif y2 then ((jD f1).bind fun y4 => some (leI (-2000) y4)) else some false).bind fun b5 =>
 some b5
def zBB (f1 : (Int × Int × Int)) : Option Bool :=
 (zDx f1).bind fun y2 =>
 (bif y2 then ((zAH f1).bind fun y4 => some (eqI y4 1)) else some false).bind fun b5 =>
 some b5
def zBj (vn1 : Int) : Nat → Int → Option (Unit ⊕ Bool)
 | 0, _ => none
 | n + 1, d3 =>
  bif (leI (w64 (d3 * d3)) vn1) then
   (
    (nz d3).bind fun z7 =>
    bif (eqI (Int.tmod vn1 d3) 0) then
     (
      some (.inr false)
     )
    else
     (
      sI (w64 (d3 + 1)) fun d9 =>
      zBj vn1 n d9
     )
   )
  else
   (
    some (.inl ())
   )
def zD1 (vn1 : Int) : Option Bool :=
 bif (ltI vn1 2) then
  (
   some false
  )
 else
  (
   (zBj vn1 FU 2).bind fun qo5 =>
   match qo5 with
   | .inr r => some r
   | .inl o5 =>
    some true
  )
def zEW (p1 : Int) : Option Bool :=
 (zCW p1 2 1000).bind fun y2 =>
 (bif y2 then ((zD1 p1).bind fun y4 => some y4) else some false).bind fun b5 =>
 some b5
def zCA (d1 : Int) (p2 : Int) : Option Bool :=
 (zAj d1).bind fun y3 =>
 (bif y3 then ((zEW p2).bind fun y5 => some y5) else some false).bind fun b6 =>
 (bif b6 then ((zAj (w64 ((w64 (d1 * p2)) * p2))).bind fun y8 => some y8) else some false).bind fun b9 =>
 some b9
def zEC (f1 : (Int × Int × Int)) : Option Int :=
 (zBE (w64 (f1.1 - f1.2.1)) (w64 (2 * f1.1))).bind fun y2 =>
 (nz (w64 (2 * f1.1))).bind fun z3 =>
 sI (w64 (Int.tdiv (w64 ((w64 (f1.1 - f1.2.1)) - y2)) (w64 (2 * f1.1)))) fun t4 =>
 some t4
def zDH (f1 : (Int × Int × Int)) : Option (Int × Int × Int × Int) :=
 (zEC f1).bind fun y2 =>
 bif (!eqI y2 0) then
  (
   some ((1, y2, 0, 1))
  )
 else
  (
   (zCn f1).bind fun y4 =>
   bif y4 then
    (
     some ((1, 0, 0, 1))
    )
   else
    (
     some ((0, -1, 1, 0))
    )
  )
def zB0 : Nat → Int → Int → Int → Int → Int → Int → Int → Option (Int × Int × Int × Int × Int × Int × Int)
 | 0, _, _, _, _, _, _, _ => none
 | n + 1, f2, f3, f4, f5, f6, f7, f8 =>
  (zCn ((f6, f7, f8))).bind fun y11 =>
  bif (!y11) then
   (
    (zDH ((f6, f7, f8))).bind fun y13 =>
    (zCZ ((f6, f7, f8)) y13).bind fun y14 =>
    (jB ((f2, f3, f4, f5)) y13).bind fun y15 =>
    zB0 n y15.1 y15.2.1 y15.2.2.1 y15.2.2.2 y14.1 y14.2.1 y14.2.2
   )
  else
   (
    some (f2, f3, f4, f5, f6, f7, f8)
   )
def jY (f1 : (Int × Int × Int)) : Option (((Int × Int × Int)) × ((Int × Int × Int × Int))) :=
 (zB0 FU 1 0 0 1 f1.1 f1.2.1 f1.2.2).bind fun o10 =>
 some ((o10.2.2.2.2, (o10.1, o10.2.1, o10.2.2.1, o10.2.2.2.1)))
def zCF (f1 : (Int × Int × Int)) : Option (Int × Int × Int) :=
 (jY f1).bind fun y2 =>
 some y2.1
def zB1 (a2 : Int) (g1 : (Int × Int × Int)) (k3 : Int) (x7 : Int) : Nat → Int → Option (Unit ⊕ (Int × Int))
 | 0, _ => none
 | n + 1, y11 =>
  bif (leI y11 k3) then
   (
    (zAk x7 y11).bind fun y15 =>
    (bif (eqI y15 k3) then ((zBF x7 y11).bind fun y17 => some (eqI y17 1)) else some false).bind fun b18 =>
    (bif b18 then ((zBH g1 x7 y11).bind fun y20 => (zBF y20 a2).bind fun y21 => some (eqI y21 1)) else some false).bind fun b22 =>
    bif b22 then
     (
      some (.inr (((x7, y11))))
     )
    else
     (
      sI (w64 (y11 + 1)) fun y24 =>
      zB1 a2 g1 k3 x7 n y24
     )
   )
  else
   (
    some (.inl ())
   )
def zBm (a2 : Int) (g1 : (Int × Int × Int)) (k3 : Int) : Nat → Int → Option (Unit ⊕ (Int × Int))
 | 0, _ => none
 | n + 1, x7 =>
  bif (leI x7 k3) then
   (
    (zB1 a2 g1 k3 x7 FU 0).bind fun qo13 =>
    match qo13 with
    | .inr r => some (.inr r)
    | .inl o13 =>
     sI (w64 (x7 + 1)) fun x25 =>
     zBm a2 g1 k3 n x25
   )
  else
   (
    some (.inl ())
   )
def zBn (a2 : Int) (g1 : (Int × Int × Int)) : Nat → Int → Option (Unit ⊕ (Int × Int))
 | 0, _ => none
 | n + 1, k3 =>
  bif (leI k3 100) then
   (
    (zBm a2 g1 k3 FU 0).bind fun qo9 =>
    match qo9 with
    | .inr r => some (.inr r)
    | .inl o9 =>
     sI (w64 (k3 + 1)) fun k26 =>
     zBn a2 g1 n k26
   )
  else
   (
    some (.inl ())
   )
def zD2 (g1 : (Int × Int × Int)) (a2 : Int) : Option (Int × Int) :=
 (zBn a2 g1 FU 1).bind fun qo5 =>
 match qo5 with
 | .inr r => some r
 | .inl o5 =>
  some ((1, 0))
def zFh (vn1 : Int) : Option Int :=
 bif (ltI 0 vn1) then
  (
   some 1
  )
 else
  (
   bif (ltI vn1 0) then
    (
     some (-1)
    )
   else
    (
     some 0
    )
  )
def zCd (vm2 : Int) : Nat → Int → Int → Int → Int → Option (Int × Int)
 | 0, _, _, _, _ => none
 | n + 1, vr4, next5, x6, y7 =>
  bif (!eqI next5 0) then
   (
    (nz next5).bind fun z11 =>
    sI (w64 (Int.tdiv vr4 next5)) fun q12 =>
    sI (w64 (vr4 - (w64 (q12 * next5)))) fun next13 =>
    sI (w64 (x6 - (w64 (q12 * y7)))) fun y14 =>
    zCd vm2 n next5 next13 y7 y14
   )
  else
   (
    some (vr4, x6)
   )
def zEe (a1 : Int) (vm2 : Int) : Option Int :=
 (zBE a1 vm2).bind fun y3 =>
 (zCd vm2 FU vm2 y3 0 1).bind fun o9 =>
 bif (!eqI o9.1 1) then
  (
   some (-1)
  )
 else
  (
   (zBE o9.2 vm2).bind fun y16 =>
   some y16
  )
def zDC (a1 : Int) (b2 : Int) : Option (Int × Int × Int) :=
 (zBF a1 b2).bind fun y3 =>
 bif (eqI b2 0) then
  (
   (zFh a1).bind fun y5 =>
   some ((y3, y5, 0))
  )
 else
  (
   (nz y3).bind fun z6 =>
   (zCq b2).bind fun y7 =>
   (nz y3).bind fun z8 =>
   (zEe (w64 (Int.tdiv a1 y3)) (w64 (Int.tdiv y7 y3))).bind fun y9 =>
   (nz b2).bind fun z10 =>
   sI (w64 (Int.tdiv (w64 (y3 - (w64 (a1 * y9)))) b2)) fun t11 =>
   some ((y3, y9, t11))
  )
def zBi (f1 : (Int × Int × Int)) (x2 : Int) (y3 : Int) : Option (((Int × Int × Int)) × ((Int × Int × Int × Int))) :=
 (zDC x2 y3).bind fun y4 =>
 (zBH f1 x2 y3).bind fun y5 =>
 sI (w64 (0 - y4.2.2)) fun q6 =>
 (zCh f1 x2 y3 q6 y4.2.1).bind fun y7 =>
 (zBE y7 (w64 (2 * y5))).bind fun y8 =>
 (nz (w64 (2 * y5))).bind fun z9 =>
 sI (w64 (Int.tdiv (w64 (y8 - y7)) (w64 (2 * y5)))) fun t10 =>
 sI (w64 (q6 + (w64 (x2 * t10)))) fun f11 =>
 sI (w64 (y4.2.1 + (w64 (y3 * t10)))) fun f12 =>
 sI (w64 (y7 + (w64 ((w64 (2 * y5)) * t10)))) fun b13 =>
 (jD f1).bind fun y14 =>
 (nz (w64 (4 * y5))).bind fun z15 =>
 sI (w64 (Int.tdiv (w64 ((w64 (b13 * b13)) - y14)) (w64 (4 * y5)))) fun f16 =>
 some (((y5, b13, f16), (x2, f11, y3, f12)))
def zBb (t1 : Int) : Option (Int × Int × Int × Int) :=
 some ((1, t1, 0, 1))
def zGI (vm1 : (Int × Int × Int × Int)) : Option Int :=
 sI (w64 ((w64 (vm1.1 * vm1.2.2.2)) - (w64 (vm1.2.1 * vm1.2.2.1)))) fun t2 =>
 some t2
def zA3 (vm1 : (Int × Int × Int × Int)) : Option (Int × Int × Int × Int) :=
 (zGI vm1).bind fun y2 =>
 sI (w64 (y2 * vm1.2.2.2)) fun f3 =>
 sI (w64 ((w64 (0 - y2)) * vm1.2.1)) fun f4 =>
 sI (w64 ((w64 (0 - y2)) * vm1.2.2.1)) fun f5 =>
 sI (w64 (y2 * vm1.1)) fun f6 =>
 some ((f3, f4, f5, f6))
def zAJ (p2 : Int) (y5 : (((Int × Int × Int)) × ((Int × Int × Int × Int)))) (y6 : (Int × Int × Int × Int)) : Nat → Int → Option (Unit ⊕ (((Int × Int × Int)) × ((Int × Int × Int × Int))))
 | 0, _ => none
 | n + 1, t7 =>
  bif (ltI t7 p2) then
   (
    (zBb t7).bind fun y11 =>
    (zCZ y5.1 y11).bind fun y12 =>
    (nz p2).bind fun z13 =>
    (bif (!eqI (Int.tmod y12.2.1 p2) 0) then some true else ((nz (w64 (p2 * p2))).bind fun z15 => some (!eqI (Int.tmod y12.2.2 (w64 (p2 * p2))) 0))).bind fun b16 =>
    bif b16 then
     (
      sI (w64 (t7 + 1)) fun t18 =>
      zAJ p2 y5 y6 n t18
     )
    else
     (
      (nz p2).bind fun z19 =>
      (nz (w64 (p2 * p2))).bind fun z20 =>
      (jY ((y12.1, w64 (Int.tdiv y12.2.1 p2), w64 (Int.tdiv y12.2.2 (w64 (p2 * p2)))))).bind fun y21 =>
      (zBb t7).bind fun y22 =>
      (jB y6 y22).bind fun y23 =>
      (zA3 y21.2).bind fun y24 =>
      (jB y24 ((1, 0, 0, p2))).bind fun y25 =>
      (zA3 y23).bind fun y26 =>
      (jB y25 y26).bind fun y27 =>
      some (.inr (((y21.1, y27))))
     )
   )
  else
   (
    some (.inl ())
   )
def zCC (f1 : (Int × Int × Int)) (p2 : Int) : Option (((Int × Int × Int)) × ((Int × Int × Int × Int))) :=
 (jY f1).bind fun y3 =>
 (zD2 y3.1 p2).bind fun y4 =>
 (zBi y3.1 y4.1 y4.2).bind fun y5 =>
 (jB y3.2 y5.2).bind fun y6 =>
 (zAJ p2 y5 y6 FU 0).bind fun qo9 =>
 match qo9 with
 | .inr r => some r
 | .inl o9 =>
  some (((0, 0, 0), (0, 0, 0, 0)))
def zBD (g1 : (Int × Int × Int)) (p2 : Int) (y4 : List ((Int × Int × Int))) : Nat → Int → List ((Int × Int × Int)) → Option (List ((Int × Int × Int)))
 | 0, _, _ => none
 | n + 1, t5, l6 =>
  bif (ltI t5 ((y4.length : Int))) then
   (
    (getI y4 t5).bind fun e10 =>
    (getI y4 t5).bind fun e11 =>
    (zCC e11 p2).bind fun y12 =>
    (some (((y12.1.1 == g1.1) && ((y12.1.2.1 == g1.2.1) && (y12.1.2.2 == g1.2.2))))).bind fun t13 =>
    bif t13 then
     (
      (room (l6.length + ([e11]).length)).bind fun u15 =>
      sI (w64 (t5 + 1)) fun t16 =>
      zBD g1 p2 y4 n t16 (l6 ++ ([e11]))
     )
    else
     (
      sI (w64 (t5 + 1)) fun t17 =>
      zBD g1 p2 y4 n t17 l6
     )
   )
  else
   (
    some l6
   )
def zD0 (g1 : (Int × Int × Int)) (p2 : Int) : Option (List ((Int × Int × Int))) :=
 (jD g1).bind fun y3 =>
 (zAA (w64 ((w64 (y3 * p2)) * p2))).bind fun y4 =>
 (zBD g1 p2 y4 FU 0 (([] : List ((Int × Int × Int))))).bind fun o8 =>
 some o8
def zA4 (f1 : (Int × Int × Int)) (p2 : Int) : Option ((List ((Int × Int × Int))) × Bool) :=
 (zBB f1).bind fun y3 =>
 (bif (!y3) then some true else ((jD f1).bind fun y5 => (zCA y5 p2).bind fun y6 => some (!y6))).bind fun b7 =>
 bif b7 then
  (
   some ((([] : List ((Int × Int × Int))), false))
  )
 else
  (
   (zCF f1).bind fun y9 =>
   (zD0 y9 p2).bind fun y10 =>
   some ((y10, true))
  )
def zB3 (vn1 : Int) : Nat → Int → List Int → List Int → Option ((List Int) × (List Int))
 | 0, _, _, _ => none
 | n + 1, k2, l3, l4 =>
  bif (leI (w64 (k2 * k2)) vn1) then
   (
    (nz k2).bind fun z8 =>
    bif (!eqI (Int.tmod vn1 k2) 0) then
     (
      sI (w64 (k2 + 1)) fun k10 =>
      zB3 vn1 n k10 l3 l4
     )
    else
     (
      (room (l4.length + ([k2]).length)).bind fun u11 =>
      bif (!eqI (w64 (k2 * k2)) vn1) then
       (
        (nz k2).bind fun z13 =>
        (room (l3.length + ([w64 (Int.tdiv vn1 k2)]).length)).bind fun u14 =>
        sI (w64 (k2 + 1)) fun k15 =>
        zB3 vn1 n k15 (l3 ++ ([w64 (Int.tdiv vn1 k2)])) (l4 ++ ([k2]))
       )
      else
       (
        sI (w64 (k2 + 1)) fun k16 =>
        zB3 vn1 n k16 l3 (l4 ++ ([k2]))
       )
     )
   )
  else
   (
    some (l3, l4)
   )
def zCe (o6 : ((List Int) × (List Int))) : Nat → Int → List Int → Option (List Int)
 | 0, _, _ => none
 | n + 1, i18, l19 =>
  bif (leI 0 i18) then
   (
    (getI o6.1 i18).bind fun e23 =>
    (getI o6.1 i18).bind fun e24 =>
    (room (l19.length + ([e24]).length)).bind fun u25 =>
    sI (w64 (i18 - 1)) fun i26 =>
    zCe o6 n i26 (l19 ++ ([e24]))
   )
  else
   (
    some l19
   )
def zEu (vn1 : Int) : Option (List Int) :=
 (zB3 vn1 FU 1 (([] : List Int)) (([] : List Int))).bind fun o6 =>
 sI (w64 (((o6.1.length : Int)) - 1)) fun i17 =>
 (zCe o6 FU i17 o6.2).bind fun o21 =>
 some o21
def zBa (e11 : Int) (t5 : Int) (vn1 : Int) (y4 : List Int) : Nat → Int → List ((Int × Int × Int)) → Option (List ((Int × Int × Int)))
 | 0, _, _ => none
 | n + 1, b12, l13 =>
  bif (ltI b12 e11) then
   (
    (nz e11).bind fun z17 =>
    (room (l13.length + ([(e11, b12, w64 (Int.tdiv vn1 e11))]).length)).bind fun u18 =>
    sI (w64 (b12 + 1)) fun b19 =>
    zBa e11 t5 vn1 y4 n b19 (l13 ++ ([(e11, b12, w64 (Int.tdiv vn1 e11))]))
   )
  else
   (
    some l13
   )
def zBq (vn1 : Int) (y4 : List Int) : Nat → Int → List ((Int × Int × Int)) → Option (List ((Int × Int × Int)))
 | 0, _, _ => none
 | n + 1, t5, l6 =>
  bif (ltI t5 ((y4.length : Int))) then
   (
    (getI y4 t5).bind fun e10 =>
    (getI y4 t5).bind fun e11 =>
    (zBa e11 t5 vn1 y4 FU 0 l6).bind fun o15 =>
    sI (w64 (t5 + 1)) fun t20 =>
    zBq vn1 y4 n t20 o15
   )
  else
   (
    some l6
   )
def zBf (vn1 : Int) : Option ((List ((Int × Int × Int))) × Bool) :=
 bif (bif (ltI vn1 1) then true else (ltI 100 vn1)) then
  (
   some ((([] : List ((Int × Int × Int))), false))
  )
 else
  (
   (zEu vn1).bind fun y4 =>
   (zBq vn1 y4 FU 0 (([] : List ((Int × Int × Int))))).bind fun o8 =>
   some ((o8, true))
  )
def zBp (f2 : (Int × Int × Int)) (list1 : List ((Int × Int × Int))) : Nat → Int → Option (Unit ⊕ Bool)
 | 0, _ => none
 | n + 1, t3 =>
  bif (ltI t3 ((list1.length : Int))) then
   (
    (getI list1 t3).bind fun e7 =>
    (some (((f2.1 == e7.1) && ((f2.2.1 == e7.2.1) && (f2.2.2 == e7.2.2))))).bind fun t8 =>
    bif t8 then
     (
      some (.inr true)
     )
    else
     (
      sI (w64 (t3 + 1)) fun t10 =>
      zBp f2 list1 n t10
     )
   )
  else
   (
    some (.inl ())
   )
def zD4 (list1 : List ((Int × Int × Int))) (f2 : (Int × Int × Int)) : Option Bool :=
 (zBp f2 list1 FU 0).bind fun qo5 =>
 match qo5 with
 | .inr r => some r
 | .inl o5 =>
  some false
def qH (i1 : Int) (k2 : Int) (cap3 : List ((Int × Int × Int))) : Option Bool :=
 (getI cap3 i1).bind fun e4 =>
 (getI cap3 k2).bind fun e5 =>
 bif (!eqI e4.1 e5.1) then
  (
   some (ltI e4.1 e5.1)
  )
 else
  (
   bif (!eqI e4.2.1 e5.2.1) then
    (
     some (ltI e4.2.1 e5.2.1)
    )
   else
    (
     some (ltI e4.2.2 e5.2.2)
    )
  )
def jH (a1 : Int) (b2 : Int) (i5 : Int) : Nat → Int → List ((Int × Int × Int)) → Option (List ((Int × Int × Int)))
 | 0, _, _ => none
 | n + 1, j10, l11 =>
  (bif (ltI a1 j10) then ((qH j10 (w64 (j10 - 1)) l11).bind fun y15 => some y15) else some false).bind fun b16 =>
  bif b16 then
   (
    (getI l11 j10).bind fun e18 =>
    (getI l11 (w64 (j10 - 1))).bind fun e19 =>
    (some ((l11.set (Int.toNat (j10)) e19).set (Int.toNat (w64 (j10 - 1))) e18)).bind fun l20 =>
    sI (w64 (j10 - 1)) fun j21 =>
    jH a1 b2 i5 n j21 l20
   )
  else
   (
    some l11
   )
def qR (a1 : Int) (b2 : Int) : Nat → Int → List ((Int × Int × Int)) → Option (List ((Int × Int × Int)))
 | 0, _, _ => none
 | n + 1, i5, l6 =>
  bif (ltI i5 b2) then
   (
    (jH a1 b2 i5 FU i5 l6).bind fun o13 =>
    sI (w64 (i5 + 1)) fun i22 =>
    qR a1 b2 n i22 o13
   )
  else
   (
    some l6
   )
def zAD (xs0 : List ((Int × Int × Int))) (a1 : Int) (b2 : Int) : Option (List ((Int × Int × Int))) :=
 sI (w64 (a1 + 1)) fun i4 =>
 (qR a1 b2 FU i4 xs0).bind fun o8 =>
 some o8
def zCG (xs0 : List ((Int × Int × Int))) (a1 : Int) (b2 : Int) (swaps3 : Int) : Option (Int × Int × (List ((Int × Int × Int))) × Int) :=
 (qH b2 a1 xs0).bind fun y5 =>
 bif y5 then
  (
   sI (w64 (swaps3 + 1)) fun f7 =>
   some ((b2, a1, xs0, f7))
  )
 else
  (
   some ((a1, b2, xs0, swaps3))
  )
def zCr (xs0 : List ((Int × Int × Int))) (a1 : Int) (b2 : Int) (c3 : Int) (swaps4 : Int) : Option (Int × (List ((Int × Int × Int))) × Int) :=
 (zCG xs0 a1 b2 swaps4).bind fun y6 =>
 (zCG y6.2.2.1 y6.2.1 c3 y6.2.2.2).bind fun y7 =>
 (zCG y7.2.2.1 y6.1 y7.1 y7.2.2.2).bind fun y8 =>
 some ((y8.2.1, y8.2.2.1, y8.2.2.2))
def zAV (xs0 : List ((Int × Int × Int))) (a1 : Int) (swaps2 : Int) : Option (Int × (List ((Int × Int × Int))) × Int) :=
 (zCr xs0 (w64 (a1 - 1)) a1 (w64 (a1 + 1)) swaps2).bind fun y4 =>
 some ((y4.1, y4.2.1, y4.2.2))
def zBo (xs0 : List ((Int × Int × Int))) (a1 : Int) (b2 : Int) : Option (Int × Int × (List ((Int × Int × Int)))) :=
 sI (w64 (b2 - a1)) fun l4 =>
 sI (w64 (a1 + (w64 ((w64 (Int.tdiv l4 4)) * 1)))) fun i5 =>
 sI (w64 (a1 + (w64 ((w64 (Int.tdiv l4 4)) * 2)))) fun j6 =>
 sI (w64 (a1 + (w64 ((w64 (Int.tdiv l4 4)) * 3)))) fun k7 =>
 (
  bif (leI 8 l4) then
   (
    (
     bif (leI 50 l4) then
      (
       (zAV xs0 i5 0).bind fun y12 =>
       (zAV y12.2.1 j6 y12.2.2).bind fun y13 =>
       (zAV y13.2.1 k7 y13.2.2).bind fun y14 =>
       some (y12.1, y13.1, y14.1, y14.2.2, y14.2.1)
      )
     else
      (
       some (i5, j6, k7, 0, xs0)
      )
    ).bind fun j10 =>
    (zCr j10.2.2.2.2 j10.1 j10.2.1 j10.2.2.1 j10.2.2.2.1).bind fun y15 =>
    some (y15.1, y15.2.2, y15.2.1)
   )
  else
   (
    some (j6, 0, xs0)
   )
 ).bind fun j8 =>
 bif (eqI j8.2.1 0) then
  (
   some ((j8.1, 1, j8.2.2))
  )
 else
  (
   bif (eqI j8.2.1 12) then
    (
     some ((j8.1, 2, j8.2.2))
    )
   else
    (
     some ((j8.1, 0, j8.2.2))
    )
  )
def zAy : Nat → Int → Int → List ((Int × Int × Int)) → Option (List ((Int × Int × Int)))
 | 0, _, _, _ => none
 | n + 1, i5, j6, l7 =>
  bif (ltI i5 j6) then
   (
    (getI l7 i5).bind fun e11 =>
    (getI l7 j6).bind fun e12 =>
    sI (w64 (i5 + 1)) fun i13 =>
    sI (w64 (j6 - 1)) fun j14 =>
    zAy n i13 j14 ((l7.set (Int.toNat (i5)) e12).set (Int.toNat (j6)) e11)
   )
  else
   (
    some l7
   )
def zB7 (xs0 : List ((Int × Int × Int))) (a1 : Int) (b2 : Int) : Option (List ((Int × Int × Int))) :=
 sI (w64 (b2 - 1)) fun j4 =>
 (zAy FU a1 j4 xs0).bind fun o9 =>
 some o9
def jW (a1 : Int) (b2 : Int) (j6 : Int) (l7 : List ((Int × Int × Int))) : Nat → Int → Option Int
 | 0, _ => none
 | n + 1, i11 =>
  (bif (ltI i11 b2) then ((qH i11 (w64 (i11 - 1)) l7).bind fun y15 => some (!y15)) else some false).bind fun b16 =>
  bif b16 then
   (
    sI (w64 (i11 + 1)) fun i18 =>
    jW a1 b2 j6 l7 n i18
   )
  else
   (
    some i11
   )
def jV (a1 : Int) (b2 : Int) (j6 : Int) (o13 : Int) : Nat → Int → List ((Int × Int × Int)) → Option (List ((Int × Int × Int)))
 | 0, _, _ => none
 | n + 1, j27, l28 =>
  bif (leI 1 j27) then
   (
    (qH j27 (w64 (j27 - 1)) l28).bind fun y32 =>
    bif (!y32) then
     (
      some l28
     )
    else
     (
      (getI l28 j27).bind fun e34 =>
      (getI l28 (w64 (j27 - 1))).bind fun e35 =>
      (some ((l28.set (Int.toNat (j27)) e35).set (Int.toNat (w64 (j27 - 1))) e34)).bind fun l36 =>
      sI (w64 (j27 - 1)) fun j37 =>
      jV a1 b2 j6 o13 n j37 l36
     )
   )
  else
   (
    some l28
   )
def jU (a1 : Int) (b2 : Int) (j6 : Int) (o13 : Int) : Nat → Int → List ((Int × Int × Int)) → Option (List ((Int × Int × Int)))
 | 0, _, _ => none
 | n + 1, j40, l41 =>
  bif (ltI j40 b2) then
   (
    (qH j40 (w64 (j40 - 1)) l41).bind fun y45 =>
    bif (!y45) then
     (
      some l41
     )
    else
     (
      (getI l41 j40).bind fun e47 =>
      (getI l41 (w64 (j40 - 1))).bind fun e48 =>
      (some ((l41.set (Int.toNat (j40)) e48).set (Int.toNat (w64 (j40 - 1))) e47)).bind fun l49 =>
      sI (w64 (j40 + 1)) fun j50 =>
      jU a1 b2 j6 o13 n j50 l49
     )
   )
  else
   (
    some l41
   )
def jE (a1 : Int) (b2 : Int) : Nat → Int → Int → List ((Int × Int × Int)) → Option (List ((Int × Int × Int)) ⊕ (Bool × (List ((Int × Int × Int)))))
 | 0, _, _, _ => none
 | n + 1, i5, j6, l7 =>
  bif (ltI j6 5) then
   (
    (jW a1 b2 j6 l7 FU i5).bind fun o13 =>
    bif (eqI o13 b2) then
     (
      some (.inr (((true, l7))))
     )
    else
     (
      bif (ltI (w64 (b2 - a1)) 50) then
       (
        some (.inr (((false, l7))))
       )
      else
       (
        (getI l7 o13).bind fun e21 =>
        (getI l7 (w64 (o13 - 1))).bind fun e22 =>
        (some ((l7.set (Int.toNat (o13)) e22).set (Int.toNat (w64 (o13 - 1))) e21)).bind fun l23 =>
        (
         bif (leI 2 (w64 (o13 - a1))) then
          (
           sI (w64 (o13 - 1)) fun j26 =>
           (jV a1 b2 j6 o13 FU j26 l23).bind fun o30 =>
           some o30
          )
         else
          (
           some l23
          )
        ).bind fun j24 =>
        bif (leI 2 (w64 (b2 - o13))) then
         (
          sI (w64 (o13 + 1)) fun j39 =>
          (jU a1 b2 j6 o13 FU j39 j24).bind fun o43 =>
          sI (w64 (j6 + 1)) fun j51 =>
          jE a1 b2 n o13 j51 o43
         )
        else
         (
          sI (w64 (j6 + 1)) fun j52 =>
          jE a1 b2 n o13 j52 j24
         )
       )
     )
   )
  else
   (
    some (.inl l7)
   )
def zAO (xs0 : List ((Int × Int × Int))) (a1 : Int) (b2 : Int) : Option (Bool × (List ((Int × Int × Int)))) :=
 sI (w64 (a1 + 1)) fun i4 =>
 (jE a1 b2 FU i4 0 xs0).bind fun qo9 =>
 match qo9 with
 | .inr r => some r
 | .inl o9 =>
  some ((false, o9))
def zA6 (a1 : Int) (j10 : Int) (l11 : List ((Int × Int × Int))) : Nat → Int → Option Int
 | 0, _ => none
 | n + 1, i14 =>
  (bif (leI i14 j10) then ((qH a1 i14 l11).bind fun y18 => some (!y18)) else some false).bind fun b19 =>
  bif b19 then
   (
    sI (w64 (i14 + 1)) fun i21 =>
    zA6 a1 j10 l11 n i21
   )
  else
   (
    some i14
   )
def zA5 (a1 : Int) (l11 : List ((Int × Int × Int))) (o16 : Int) : Nat → Int → Option Int
 | 0, _ => none
 | n + 1, j22 =>
  (bif (leI o16 j22) then ((qH a1 j22 l11).bind fun y26 => some y26) else some false).bind fun b27 =>
  bif b27 then
   (
    sI (w64 (j22 - 1)) fun j29 =>
    zA5 a1 l11 o16 n j29
   )
  else
   (
    some j22
   )
def zA7 (a1 : Int) : Nat → Int → Int → List ((Int × Int × Int)) → Option (Int × (List ((Int × Int × Int))))
 | 0, _, _, _ => none
 | n + 1, i9, j10, l11 =>
  (zA6 a1 j10 l11 FU i9).bind fun o16 =>
  (zA5 a1 l11 o16 FU j10).bind fun o24 =>
  bif (ltI o24 o16) then
   (
    some (o16, l11)
   )
  else
   (
    (getI l11 o16).bind fun e31 =>
    (getI l11 o24).bind fun e32 =>
    sI (w64 (o16 + 1)) fun i33 =>
    sI (w64 (o24 - 1)) fun j34 =>
    zA7 a1 n i33 j34 ((l11.set (Int.toNat (o16)) e32).set (Int.toNat (o24)) e31)
   )
def zBI (xs0 : List ((Int × Int × Int))) (a1 : Int) (b2 : Int) (pivot3 : Int) : Option (Int × (List ((Int × Int × Int)))) :=
 (getI xs0 a1).bind fun e5 =>
 (getI xs0 pivot3).bind fun e6 =>
 sI (w64 (a1 + 1)) fun i7 =>
 sI (w64 (b2 - 1)) fun j8 =>
 (zA7 a1 FU i7 j8 ((xs0.set (Int.toNat (a1)) e6).set (Int.toNat (pivot3)) e5)).bind fun o13 =>
 some ((o13.1, o13.2))
def zBW (a1 : Int) (e5 : (Int × Int × Int)) (e6 : (Int × Int × Int)) (j8 : Int) (pivot3 : Int) (xs0 : List ((Int × Int × Int))) : Nat → Int → Option Int
 | 0, _ => none
 | n + 1, i9 =>
  (bif (leI i9 j8) then ((qH i9 a1 ((xs0.set (Int.toNat (a1)) e6).set (Int.toNat (pivot3)) e5)).bind fun y13 => some y13) else some false).bind fun b14 =>
  bif b14 then
   (
    sI (w64 (i9 + 1)) fun i16 =>
    zBW a1 e5 e6 j8 pivot3 xs0 n i16
   )
  else
   (
    some i9
   )
def zBV (a1 : Int) (e5 : (Int × Int × Int)) (e6 : (Int × Int × Int)) (o11 : Int) (pivot3 : Int) (xs0 : List ((Int × Int × Int))) : Nat → Int → Option Int
 | 0, _ => none
 | n + 1, j17 =>
  (bif (leI o11 j17) then ((qH j17 a1 ((xs0.set (Int.toNat (a1)) e6).set (Int.toNat (pivot3)) e5)).bind fun y21 => some (!y21)) else some false).bind fun b22 =>
  bif b22 then
   (
    sI (w64 (j17 - 1)) fun j24 =>
    zBV a1 e5 e6 o11 pivot3 xs0 n j24
   )
  else
   (
    some j17
   )
def zBT (a1 : Int) (j35 : Int) (l36 : List ((Int × Int × Int))) : Nat → Int → Option Int
 | 0, _ => none
 | n + 1, i39 =>
  (bif (leI i39 j35) then ((qH i39 a1 l36).bind fun y43 => some y43) else some false).bind fun b44 =>
  bif b44 then
   (
    sI (w64 (i39 + 1)) fun i46 =>
    zBT a1 j35 l36 n i46
   )
  else
   (
    some i39
   )
def zBS (a1 : Int) (l36 : List ((Int × Int × Int))) (o41 : Int) : Nat → Int → Option Int
 | 0, _ => none
 | n + 1, j47 =>
  (bif (leI o41 j47) then ((qH j47 a1 l36).bind fun y51 => some (!y51)) else some false).bind fun b52 =>
  bif b52 then
   (
    sI (w64 (j47 - 1)) fun j54 =>
    zBS a1 l36 o41 n j54
   )
  else
   (
    some j47
   )
def zBU (a1 : Int) : Nat → Int → Int → List ((Int × Int × Int)) → Option (Int × (List ((Int × Int × Int))))
 | 0, _, _, _ => none
 | n + 1, i34, j35, l36 =>
  (zBT a1 j35 l36 FU i34).bind fun o41 =>
  (zBS a1 l36 o41 FU j35).bind fun o49 =>
  bif (ltI o49 o41) then
   (
    some (o49, l36)
   )
  else
   (
    (getI l36 o41).bind fun e56 =>
    (getI l36 o49).bind fun e57 =>
    sI (w64 (o41 + 1)) fun i58 =>
    sI (w64 (o49 - 1)) fun j59 =>
    zBU a1 n i58 j59 ((l36.set (Int.toNat (o41)) e57).set (Int.toNat (o49)) e56)
   )
def zCK (xs0 : List ((Int × Int × Int))) (a1 : Int) (b2 : Int) (pivot3 : Int) : Option (Int × Bool × (List ((Int × Int × Int)))) :=
 (getI xs0 a1).bind fun e5 =>
 (getI xs0 pivot3).bind fun e6 =>
 sI (w64 (a1 + 1)) fun i7 =>
 sI (w64 (b2 - 1)) fun j8 =>
 (zBW a1 e5 e6 j8 pivot3 xs0 FU i7).bind fun o11 =>
 (zBV a1 e5 e6 o11 pivot3 xs0 FU j8).bind fun o19 =>
 bif (ltI o19 o11) then
  (
   (getI ((xs0.set (Int.toNat (a1)) e6).set (Int.toNat (pivot3)) e5) o19).bind fun e26 =>
   (getI ((xs0.set (Int.toNat (a1)) e6).set (Int.toNat (pivot3)) e5) a1).bind fun e27 =>
   (some ((((xs0.set (Int.toNat (a1)) e6).set (Int.toNat (pivot3)) e5).set (Int.toNat (o19)) e27).set (Int.toNat (a1)) e26)).bind fun l28 =>
   some ((o19, true, l28))
  )
 else
  (
   (getI ((xs0.set (Int.toNat (a1)) e6).set (Int.toNat (pivot3)) e5) o11).bind fun e29 =>
   (getI ((xs0.set (Int.toNat (a1)) e6).set (Int.toNat (pivot3)) e5) o19).bind fun e30 =>
   (some ((((xs0.set (Int.toNat (a1)) e6).set (Int.toNat (pivot3)) e5).set (Int.toNat (o11)) e30).set (Int.toNat (o19)) e29)).bind fun l31 =>
   sI (w64 (o11 + 1)) fun i32 =>
   sI (w64 (o19 - 1)) fun j33 =>
   (zBU a1 FU i32 j33 l31).bind fun o38 =>
   (getI o38.2 o38.1).bind fun e60 =>
   (getI o38.2 a1).bind fun e61 =>
   some ((o38.1, false, (o38.2.set (Int.toNat (o38.1)) e61).set (Int.toNat (a1)) e60))
  )
def zB9 (b2 : Int) (limit3 : Int) : Nat → Int → List ((Int × Int × Int)) → Option (Unit ⊕ List ((Int × Int × Int)))
 | 0, _, _ => none
 | n + 1, a5, l6 =>
  sI (w64 (b2 - a5)) fun length9 =>
  bif (leI length9 12) then
   (
    (zAD l6 a5 b2).bind fun y11 =>
    some (.inr y11)
   )
  else
   (
    bif (eqI limit3 0) then
     (
      none
     )
    else
     (
      (zBo l6 a5 b2).bind fun y14 =>
      (
       bif (eqI y14.2.1 2) then
        (
         (zB7 y14.2.2 a5 b2).bind fun y17 =>
         sI (w64 ((w64 (b2 - 1)) - (w64 (y14.1 - a5)))) fun pivot18 =>
         some (pivot18, 1, y17)
        )
       else
        (
         some (y14.1, y14.2.1, y14.2.2)
        )
      ).bind fun j15 =>
      ((
       bif (eqI j15.2.1 1) then
        (
         (zAO j15.2.2 a5 b2).bind fun y21 =>
         bif y21.1 then
          (
           some (.inr y21.2)
          )
         else
          (
           some (.inl y21.2)
          )
        )
       else
        (
         some (.inl j15.2.2)
        )
      ) : Option (List ((Int × Int × Int)) ⊕ List ((Int × Int × Int)))).bind fun qo19 =>
      match qo19 with
      | .inr r => some (.inr r)
      | .inl o19 =>
       (bif (ltI 0 a5) then ((qH (w64 (a5 - 1)) j15.1 o19).bind fun y24 => some (!y24)) else some false).bind fun b25 =>
       bif b25 then
        (
         (zBI o19 a5 b2 j15.1).bind fun y27 =>
         zB9 b2 limit3 n y27.1 y27.2
        )
       else
        (
         (zCK o19 a5 b2 j15.1).bind fun y28 =>
         sI (w64 (y28.1 - a5)) fun leftLen29 =>
         sI (w64 (b2 - y28.1)) fun rightLen30 =>
         sI (w64 (Int.tdiv length9 8)) fun balanceThreshold31 =>
         bif (ltI leftLen29 rightLen30) then
          (
           none
          )
         else
          (
           none
          )
        )
     )
   )
def zCJ (xs0 : List ((Int × Int × Int))) (a1 : Int) (b2 : Int) (limit3 : Int) : Option (List ((Int × Int × Int))) :=
 (zB9 b2 limit3 FU a1 xs0).bind fun qo8 =>
 match qo8 with
 | .inr r => some r
 | .inl _ => none
def jZ (limit3 : Int) : Nat → Int → List ((Int × Int × Int)) → Bool → Bool → Int → Option (Unit ⊕ List ((Int × Int × Int)))
 | 0, _, _, _, _, _ => none
 | n + 1, a5, l6, wasBalanced7, wasPartitioned8, b9 =>
  sI (w64 (b9 - a5)) fun length12 =>
  bif (leI length12 12) then
   (
    (zAD l6 a5 b9).bind fun y14 =>
    some (.inr y14)
   )
  else
   (
    bif (eqI limit3 0) then
     (
      none
     )
    else
     (
      bif (!wasBalanced7) then
       (
        none
       )
      else
       (
        (zBo l6 a5 b9).bind fun y17 =>
        (
         bif (eqI y17.2.1 2) then
          (
           (zB7 y17.2.2 a5 b9).bind fun y20 =>
           sI (w64 ((w64 (b9 - 1)) - (w64 (y17.1 - a5)))) fun pivot21 =>
           some (pivot21, 1, y20)
          )
         else
          (
           some (y17.1, y17.2.1, y17.2.2)
          )
        ).bind fun j18 =>
        ((
         (some (bif (bif wasBalanced7 then wasPartitioned8 else false) then (eqI j18.2.1 1) else false)).bind fun t25 =>
         bif t25 then
          (
           (zAO j18.2.2 a5 b9).bind fun y27 =>
           bif y27.1 then
            (
             some (.inr y27.2)
            )
           else
            (
             some (.inl y27.2)
            )
          )
         else
          (
           some (.inl j18.2.2)
          )
        ) : Option (List ((Int × Int × Int)) ⊕ List ((Int × Int × Int)))).bind fun qo22 =>
        match qo22 with
        | .inr r => some (.inr r)
        | .inl o22 =>
         (bif (ltI 0 a5) then ((qH (w64 (a5 - 1)) j18.1 o22).bind fun y30 => some (!y30)) else some false).bind fun b31 =>
         bif b31 then
          (
           (zBI o22 a5 b9 j18.1).bind fun y33 =>
           jZ limit3 n y33.1 y33.2 wasBalanced7 wasPartitioned8 b9
          )
         else
          (
           (zCK o22 a5 b9 j18.1).bind fun y34 =>
           sI (w64 (y34.1 - a5)) fun leftLen35 =>
           sI (w64 (b9 - y34.1)) fun rightLen36 =>
           sI (w64 (Int.tdiv length12 8)) fun balanceThreshold37 =>
           bif (ltI leftLen35 rightLen36) then
            (
             (zCJ y34.2.2 a5 y34.1 limit3).bind fun y39 =>
             sI (w64 (y34.1 + 1)) fun a40 =>
             jZ limit3 n a40 y39 (leI balanceThreshold37 leftLen35) y34.2.1 b9
            )
           else
            (
             (zCJ y34.2.2 (w64 (y34.1 + 1)) b9 limit3).bind fun y41 =>
             jZ limit3 n a5 y41 (leI balanceThreshold37 rightLen36) y34.2.1 y34.1
            )
          )
       )
     )
   )
def zBv (xs0 : List ((Int × Int × Int))) (a1 : Int) (b2 : Int) (limit3 : Int) : Option (List ((Int × Int × Int))) :=
 (jZ limit3 FU a1 xs0 true true b2).bind fun qo11 =>
 match qo11 with
 | .inr r => some r
 | .inl _ => none
def zA8 (a1 : Int) (b2 : Int) (i4 : Int) (xs0 : List ((Int × Int × Int))) : Nat → Option Unit
 | 0 => none
 | n + 1 =>
  bif (ltI i4 b2) then
   (
    none
   )
  else
   (
    some ()
   )
def zAP (xs0 : List ((Int × Int × Int))) (a1 : Int) (b2 : Int) : Option (List ((Int × Int × Int))) :=
 sI (w64 (a1 + 1)) fun i4 =>
 (zA8 a1 b2 i4 xs0 FU).bind fun o6 =>
 some xs0
def zB8 (a1 : Int) (b2 : Int) (limit3 : Int) (xs0 : List ((Int × Int × Int))) : Nat → Option (Unit ⊕ List ((Int × Int × Int)))
 | 0 => none
 | n + 1 =>
  sI (w64 (b2 - a1)) fun length7 =>
  bif (leI length7 12) then
   (
    (zAP xs0 a1 b2).bind fun y9 =>
    some (.inr y9)
   )
  else
   (
    bif (eqI limit3 0) then
     (
      none
     )
    else
     (
      none
     )
   )
def zBY (xs0 : List ((Int × Int × Int))) (a1 : Int) (b2 : Int) (limit3 : Int) : Option (List ((Int × Int × Int))) :=
 (zB8 a1 b2 limit3 xs0 FU).bind fun qo6 =>
 match qo6 with
 | .inr r => some r
 | .inl _ => none
def zAt (xs : List (Int × Int × Int)) : Option (List (Int × Int × Int)) :=
 bif Nat.ble 1048576 xs.length then none else bif Nat.ble xs.length 1 then zBY xs 0 xs.length (Lib.bitLen xs.length) else zBv xs 0 xs.length (Lib.bitLen xs.length)
def jT (f1 : (Int × Int × Int)) (y9 : ((List ((Int × Int × Int))) × Bool)) : Nat → Int → List ((Int × Int × Int)) → Option (List ((Int × Int × Int)))
 | 0, _, _ => none
 | n + 1, t10, l11 =>
  bif (ltI t10 ((y9.1.length : Int))) then
   (
    (getI y9.1 t10).bind fun e15 =>
    (getI y9.1 t10).bind fun e16 =>
    (qK f1).bind fun y17 =>
    (zQ y17 ((e16.1, e16.2.1, 0, e16.2.2))).bind fun y18 =>
    (qK y18).bind fun y19 =>
    (jX y18).bind fun y20 =>
    (bif (eqI y20 1) then ((zD4 l11 y19).bind fun y22 => some (!y22)) else some false).bind fun b23 =>
    bif b23 then
     (
      (room (l11.length + ([y19]).length)).bind fun u25 =>
      sI (w64 (t10 + 1)) fun t26 =>
      jT f1 y9 n t26 (l11 ++ ([y19]))
     )
    else
     (
      sI (w64 (t10 + 1)) fun t27 =>
      jT f1 y9 n t27 l11
     )
   )
  else
   (
    some l11
   )
def zAR (f1 : (Int × Int × Int)) (p2 : Int) : Option ((List ((Int × Int × Int))) × Bool) :=
 (qC f1).bind fun y3 =>
 (bif (!y3) then some true else ((zY f1).bind fun y5 => (j9 y5 p2).bind fun y6 => some (!y6))).bind fun b7 =>
 bif b7 then
  (
   some ((([] : List ((Int × Int × Int))), false))
  )
 else
  (
   (zBf p2).bind fun y9 =>
   (jT f1 y9 FU 0 (([] : List ((Int × Int × Int))))).bind fun o13 =>
   (zAt o13).bind fun y28 =>
   some ((y28, true))
  )
def zAW (a1 : List ((Int × Int × Int))) (b2 : List ((Int × Int × Int))) : Nat → Int → Option (Unit ⊕ Bool)
 | 0, _ => none
 | n + 1, t4 =>
  bif (ltI t4 ((a1.length : Int))) then
   (
    (getI a1 t4).bind fun e8 =>
    (getI b2 t4).bind fun e9 =>
    (some (!((e8.1 == e9.1) && ((e8.2.1 == e9.2.1) && (e8.2.2 == e9.2.2))))).bind fun t10 =>
    bif t10 then
     (
      some (.inr false)
     )
    else
     (
      sI (w64 (t4 + 1)) fun t12 =>
      zAW a1 b2 n t12
     )
   )
  else
   (
    some (.inl ())
   )
def zBJ (a1 : List ((Int × Int × Int))) (b2 : List ((Int × Int × Int))) : Option Bool :=
 bif (!eqI ((a1.length : Int)) ((b2.length : Int))) then
  (
   some false
  )
 else
  (
   (zAW a1 b2 FU 0).bind fun qo6 =>
   match qo6 with
   | .inr r => some r
   | .inl o6 =>
    some true
  )
def zBx (f1 : (Int × Int × Int)) : Option (Int × Bool) :=
 (zCb f1).bind fun y2 =>
 bif (!y2) then
  (
   some ((0, false))
  )
 else
  (
   (zY f1).bind fun y4 =>
   some ((y4, true))
  )
def zCt (vn1 : Int) : Option Int :=
 (zB2 vn1 8).bind fun y2 =>
 bif (bif (eqI y2 1) then true else (eqI y2 7)) then
  (
   some 1
  )
 else
  (
   some (-1)
  )
def zDQ (vn5 : Int) : Nat → Int → Int → Option (Int × Int)
 | 0, _, _ => none
 | n + 1, a10, vs11 =>
  bif (eqI (Int.tmod a10 2) 0) then
   (
    sI (w64 (Int.tdiv a10 2)) fun a15 =>
    (zCt vn5).bind fun y16 =>
    sI (w64 (vs11 * y16)) fun vs17 =>
    zDQ vn5 n a15 vs17
   )
  else
   (
    some (a10, vs11)
   )
def zCi : Nat → Int → Int → Int → Option (Int × Int)
 | 0, _, _, _ => none
 | n + 1, a4, vn5, vs6 =>
  bif (!eqI a4 0) then
   (
    (zDQ vn5 FU a4 vs6).bind fun o13 =>
    (some (bif (eqI (Int.tmod o13.1 4) 3) then (eqI (Int.tmod vn5 4) 3) else false)).bind fun t19 =>
    bif t19 then
     (
      sI (w64 (0 - o13.2)) fun vs21 =>
      (nz o13.1).bind fun z22 =>
      sI (Int.tmod vn5 o13.1) fun a23 =>
      zCi n a23 o13.1 vs21
     )
    else
     (
      (nz o13.1).bind fun z24 =>
      sI (Int.tmod vn5 o13.1) fun a25 =>
      zCi n a25 o13.1 o13.2
     )
   )
  else
   (
    some (vn5, vs6)
   )
def zFi (a1 : Int) (vn2 : Int) : Option Int :=
 (zB2 a1 vn2).bind fun y3 =>
 (zCi FU y3 vn2 1).bind fun o8 =>
 bif (!eqI o8.1 1) then
  (
   some 0
  )
 else
  (
   some o8.2
  )
def zC0 (a1 : Int) : Nat → Int → Int → Option ((Int × Int) ⊕ Int)
 | 0, _, _ => none
 | n + 1, vn10, vs11 =>
  bif (eqI (Int.tmod vn10 2) 0) then
   (
    bif (eqI (Int.tmod a1 2) 0) then
     (
      some (.inr 0)
     )
    else
     (
      sI (w64 (Int.tdiv vn10 2)) fun vn16 =>
      (zCt a1).bind fun y17 =>
      sI (w64 (vs11 * y17)) fun vs18 =>
      zC0 a1 n vn16 vs18
     )
   )
  else
   (
    some (.inl (vn10, vs11))
   )
def zEf (a1 : Int) (vn2 : Int) : Option Int :=
 bif (eqI vn2 0) then
  (
   (zCa a1).bind fun y4 =>
   bif (eqI y4 1) then
    (
     some 1
    )
   else
    (
     some 0
    )
  )
 else
  (
   (
    bif (bif (ltI vn2 0) then (ltI a1 0) else false) then
     (
      some (-1)
     )
    else
     (
      some 1
     )
   ).bind fun j6 =>
   (zCa vn2).bind fun y9 =>
   (zC0 a1 FU y9 j6).bind fun qo13 =>
   match qo13 with
   | .inr r => some r
   | .inl o13 =>
    (zFi a1 o13.1).bind fun y19 =>
    sI (w64 (o13.2 * y19)) fun t20 =>
    some t20
  )
def zDN (d1 : Int) : Option (Int × Bool) :=
 (qF d1).bind fun y2 =>
 bif (!y2) then
  (
   some ((0, false))
  )
 else
  (
   bif (eqI d1 (-3)) then
    (
     some ((6, true))
    )
   else
    (
     bif (eqI d1 (-4)) then
      (
       some ((4, true))
      )
     else
      (
       some ((2, true))
      )
    )
  )
def zDM (d1 : Int) : Option Int :=
 (zDN d1).bind fun y2 =>
 some y2.1
def zCj (d1 : Int) (p2 : Int) : Option (Int × Bool) :=
 (qF d1).bind fun y3 =>
 (bif (!y3) then some true else ((j9 d1 p2).bind fun y5 => some (!y5))).bind fun b6 =>
 bif b6 then
  (
   some ((0, false))
  )
 else
  (
   (zEf d1 p2).bind fun y8 =>
   (zDM d1).bind fun y9 =>
   (nz y9).bind fun z10 =>
   sI (w64 (Int.tdiv (w64 ((w64 (p2 - y8)) * 2)) y9)) fun t11 =>
   some ((t11, true))
  )
def zBw (d1 : Int) : Option ((List ((Int × Int × Int))) × Bool) :=
 (qF d1).bind fun y2 =>
 bif (!y2) then
  (
   some ((([] : List ((Int × Int × Int))), false))
  )
 else
  (
   (zBP d1).bind fun y4 =>
   some ((y4, true))
  )
def zAY (d1 : Int) : Option (Int × Bool) :=
 (zBw d1).bind fun y2 =>
 some (((y2.1.length : Int), y2.2))
def zBd (d1 : Int) : Option (Int × Int × Int) :=
 (zB2 d1 2).bind fun y2 =>
 sI (w64 (Int.tdiv (w64 (y2 - d1)) 4)) fun f3 =>
 some ((1, y2, f3))
def zBg (d1 : Int) (p2 : Int) : Option ((List ((Int × Int × Int))) × Bool) :=
 (qF d1).bind fun y3 =>
 (bif (!y3) then some true else ((j9 d1 p2).bind fun y5 => some (!y5))).bind fun b6 =>
 bif b6 then
  (
   some ((([] : List ((Int × Int × Int))), false))
  )
 else
  (
   (zBd d1).bind fun y8 =>
   (qK y8).bind fun y9 =>
   (zCw y9 p2).bind fun y10 =>
   some ((y10, true))
  )
def zDE (vm1 : (Int × Int × Int × Int)) : Option Bool :=
 (zBK ([vm1.1, vm1.2.1, vm1.2.2.1, vm1.2.2.2])).bind fun y2 =>
 some y2
def zC3 (f1 : (Int × Int × Int)) : Option (((Int × Int × Int)) × ((Int × Int × Int × Int)) × Bool) :=
 (qZ f1).bind fun y2 =>
 bif (!y2) then
  (
   some (((0, 0, 0), (0, 0, 0, 0), false))
  )
 else
  (
   (jI f1).bind fun y4 =>
   (zDE y4.2).bind fun y5 =>
   bif (!y5) then
    (
     some (((0, 0, 0), (0, 0, 0, 0), false))
    )
   else
    (
     some ((y4.1, y4.2, true))
    )
  )
def zC2 (f1 : (Int × Int × Int)) (p2 : Int) : Option Bool :=
 (qC f1).bind fun y3 =>
 (bif (!y3) then some true else ((zCH p2).bind fun y5 => some (!y5))).bind fun b6 =>
 bif (bif b6 then true else (ltI 2000 p2)) then
  (
   some false
  )
 else
  (
   (zY f1).bind fun y9 =>
   (nz (w64 (p2 * p2))).bind fun z10 =>
   (bif (eqI (Int.tmod y9 (w64 (p2 * p2))) 0) then ((zY f1).bind fun y12 => (nz (w64 (p2 * p2))).bind fun z13 => (qF (w64 (Int.tdiv y12 (w64 (p2 * p2))))).bind fun y14 => some y14) else some false).bind fun b15 =>
   some b15
  )
def zB4 (f1 : (Int × Int × Int)) (p2 : Int) : Option (((Int × Int × Int)) × Bool) :=
 (zC2 f1 p2).bind fun y3 =>
 bif (!y3) then
  (
   some (((0, 0, 0), false))
  )
 else
  (
   (zBe f1 p2).bind fun y5 =>
   some ((y5.1, true))
  )
def zBO (y32 : (((Int × Int × Int)) × ((Int × Int × Int × Int)) × Bool)) (y5 : (((Int × Int × Int)) × Int)) (y6 : ((List ((Int × Int × Int))) × Bool)) : Nat → Int → Option (Unit ⊕ Bool)
 | 0, _ => none
 | n + 1, t33 =>
  bif (ltI t33 ((y6.1.length : Int))) then
   (
    (getI y6.1 t33).bind fun e37 =>
    (getI y6.1 t33).bind fun e38 =>
    (zB4 e38 y5.2).bind fun y39 =>
    (some (bif (!y39.2) then true else (!((y39.1.1 == y32.1.1) && ((y39.1.2.1 == y32.1.2.1) && (y39.1.2.2 == y32.1.2.2)))))).bind fun t41 =>
    bif t41 then
     (
      some (.inr false)
     )
    else
     (
      sI (w64 (t33 + 1)) fun t43 =>
      zBO y32 y5 y6 n t43
     )
   )
  else
   (
    some (.inl ())
   )
def zDD (code1 : List Int) (more2 : List Int) : Option Bool :=
 (zCs code1 more2).bind fun y3 =>
 bif y3 then
  (
   some true
  )
 else
  (
   (zBc code1).bind fun y5 =>
   (zA9 y5.1 y5.2).bind fun y6 =>
   (zA4 y5.1 y5.2).bind fun y7 =>
   (zAR y5.1 y5.2).bind fun y8 =>
   (bif (y6.2 != y7.2) then some true else ((zBJ y6.1 y7.1).bind fun y10 => some (!y10))).bind fun b11 =>
   (bif (bif b11 then true else (y8.2 != y6.2)) then some true else ((zBJ y8.1 y6.1).bind fun y14 => some (!y14))).bind fun b15 =>
   bif b15 then
    (
     some false
    )
   else
    (
     bif (!y6.2) then
      (
       some true
      )
     else
      (
       (zBx y5.1).bind fun y18 =>
       (zCj y18.1 y5.2).bind fun y19 =>
       (zAY y18.1).bind fun y20 =>
       (zAY (w64 ((w64 (y18.1 * y5.2)) * y5.2))).bind fun y21 =>
       (zBg y18.1 y5.2).bind fun y22 =>
       (some (bif (bif (bif (bif (bif (bif (bif (!y18.2) then true else (!y19.2)) then true else (!y20.2)) then true else (!y21.2)) then true else (!y22.2)) then true else (!eqI ((y6.1.length : Int)) y19.1)) then true else (!eqI y21.1 (w64 (y20.1 * y19.1)))) then true else (!eqI ((y22.1.length : Int)) y19.1))).bind fun t30 =>
       bif t30 then
        (
         some false
        )
       else
        (
         (zC3 y5.1).bind fun y32 =>
         (zBO y32 y5 y6 FU 0).bind fun qo35 =>
         match qo35 with
         | .inr r => some r
         | .inl o35 =>
          some y32.2.2
        )
      )
    )
  )
end Go.Proofs.YtnheekadeflecaaGreat
