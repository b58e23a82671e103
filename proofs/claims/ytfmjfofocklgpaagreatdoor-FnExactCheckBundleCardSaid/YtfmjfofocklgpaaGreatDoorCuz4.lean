/-
  Rules of walks, plain functions and their laws, part 4.
  Conditions: none.
-/
import Derived.Shelf.Strings.Builder1
import Derived.Shelf.Strings.OnBuilder
import Derived.Shelf.LaysM
import Derived.Shelf.Strconv.Itoa3
import Derived.Shelf.LaysC
import Derived.Shelf.Strconv.AtoiAll
import Derived.Shelf.Strings.Cut
import Derived.Shelf.Strings.Prefix
import Derived.Shelf.Strings.Split
import Derived.Shelf.Strings.FieldsFuncAny
import Derived.Test.YtfmjfofocklgpaaGreatDoorProg
import Derived.Test.YtfmjfofocklgpaaGreatDoorRows
import Derived.MapKept
import Derived.Test.YtfmjfofocklgpaaGreatDoorCuz3
namespace Go.Proofs.YtfmjfofocklgpaaGreatDoor
open Go.Lib
set_option linter.unusedVariables false
set_option linter.unusedSimpArgs false
def kA1 : ByteArray := ⟨#[101, 113, 117, 105, 118, 97, 108, 101, 110, 116]⟩
def kA2 : ByteArray := ⟨#[100, 105, 102, 102, 101, 114, 101, 110, 116]⟩
def kA3 : ByteArray := ⟨#[118, 97, 108, 117, 101]⟩
def kA4 : ByteArray := ⟨#[111, 98, 115, 116, 114, 117, 99, 116, 105, 111, 110]⟩
def kA5 : ByteArray := ⟨#[99, 111, 109, 112, 111, 115, 105, 116, 101]⟩
def kA6 : ByteArray := ⟨#[111, 114, 100, 101, 114]⟩
def kA7 : ByteArray := ⟨#[114, 111, 111, 116]⟩
def kA8 : ByteArray := ⟨#[97, 117, 116, 111, 109, 111, 114, 112, 104]⟩
def kA9 : ByteArray := ⟨#[115, 111, 108, 117, 116, 105, 111, 110]⟩
theorem gi0 {α : Type} (a : α) (l : List α) : getI (a :: l) 0 = some a := rfl
theorem gi1 {α : Type} (a b : α) (l : List α) : getI (a :: b :: l) 1 = some b := rfl
theorem gi2 {α : Type} (a b c : α) (l : List α) : getI (a :: b :: c :: l) 2 = some c := rfl
theorem gi3 {α : Type} (a b c d : α) (l : List α) : getI (a :: b :: c :: d :: l) 3 = some d := rfl
theorem k1 (f0 f1 : F3) (m0 : Int × Int × Int × Int) : ∃ b, zQ (kA1, [f0, f1], [m0], []) = some b ∧ r_spec_prTrue kA1 ([f0, f1], [m0], []) = some b := by
  obtain ⟨b, hb⟩ := makes_some f0 m0 f1
  refine ⟨b, ?_, ?_⟩
  · simp only [zQ, eqS, show decide (kA1 = (⟨#[101, 113, 117, 105, 118, 97, 108, 101, 110, 116]⟩ : ByteArray)) = true by decide, Option.bind_some, cond_true, cond_false, gi0, gi1, hb]
  · simp only [r_spec_prTrue, eqS, show decide (kA1 = (⟨#[101, 113, 117, 105, 118, 97, 108, 101, 110, 116]⟩ : ByteArray)) = true by decide, Option.bind_some, cond_true, cond_false, gi0, gi1, makes_eq, hb]
theorem k2 (f0 f1 f2 f3 : F3) (m0 m1 : Int × Int × Int × Int) : ∃ b, zQ (kA2, [f0, f1, f2, f3], [m0, m1], []) = some b ∧ r_spec_prTrue kA2 ([f0, f1, f2, f3], [m0, m1], []) = some b := by
  obtain ⟨d0, h0⟩ := def_some f0
  obtain ⟨d2, h2⟩ := def_some f2
  obtain ⟨a0, h3⟩ := makes_some f0 m0 f1
  obtain ⟨a1, h4⟩ := makes_some f2 m1 f3
  obtain ⟨r1, h5⟩ := red_some f1
  obtain ⟨r3, h6⟩ := red_some f3
  have e1 : zQ (kA2, [f0, f1, f2, f3], [m0, m1], []) = some (bif d0 then (bif d2 then (bif a0 then (bif a1 then (bif r1 then (bif r3 then (!((f1.1 == f3.1) && ((f1.2.1 == f3.2.1) && (f1.2.2 == f3.2.2)))) else false) else false) else false) else false) else false) else false) := by
    simp only [zQ, eqS, show decide (kA2 = (⟨#[101, 113, 117, 105, 118, 97, 108, 101, 110, 116]⟩ : ByteArray)) = false by decide, show decide (kA2 = (⟨#[100, 105, 102, 102, 101, 114, 101, 110, 116]⟩ : ByteArray)) = true by decide, Option.bind_some, cond_true, cond_false, gi0, gi1, gi2, gi3, h0, h2, h3, h4, h5, h6]
    cases d0 <;> cases d2 <;> cases a0 <;> cases a1 <;> cases r1 <;> cases r3 <;> rfl
  have e2 : r_spec_prTrue kA2 ([f0, f1, f2, f3], [m0, m1], []) = some (bif d0 then (bif d2 then (bif a0 then (bif a1 then (bif r1 then (bif r3 then (!((f1.1 == f3.1) && ((f1.2.1 == f3.2.1) && (f1.2.2 == f3.2.2)))) else false) else false) else false) else false) else false) else false) := by
    simp only [r_spec_prTrue, eqS, show decide (kA2 = (⟨#[101, 113, 117, 105, 118, 97, 108, 101, 110, 116]⟩ : ByteArray)) = false by decide, show decide (kA2 = (⟨#[100, 105, 102, 102, 101, 114, 101, 110, 116]⟩ : ByteArray)) = true by decide, Option.bind_some, cond_true, cond_false, gi0, gi1, gi2, gi3, makes_eq, dsc_is, def_val, h0, h2, h3, h4, h5, h6]
    cases d0 <;> cases d2 <;> cases a0 <;> cases a1 <;> cases r1 <;> cases r3 <;> rfl
  exact ⟨_, e1, e2⟩
theorem k3 (f0 : F3) (n0 n1 n2 : Int) (b1 : NB n1) (b2 : NB n2) : ∃ b, zQ (kA3, [f0], [], [n0, n1, n2]) = some b ∧ r_spec_prTrue kA3 ([f0], [], [n0, n1, n2]) = some b := by
  have g1 := gcd_val (a := n1) (b := n2) (Nat.le_trans (nbN b1) (by omega)) (Nat.le_trans (nbN b2) (by omega))
  have g2 := sgcd_val (a := n1) (b := n2) (Nat.le_trans (nbN b1) (by omega)) (Nat.le_trans (nbN b2) (by omega))
  obtain ⟨a, b, c⟩ := f0
  have v1 := at_w a b c n1 n2
  have e1 : zQ (kA3, [(a, b, c)], [], [n0, n1, n2]) = some (bif eqI (w64 (a * n1 * n1 + b * n1 * n2 + c * n2 * n2)) n0 then eqI (Int.gcd n1 n2 : Int) 1 else false) := by
    simp only [zQ, eqS, show decide (kA3 = (⟨#[101, 113, 117, 105, 118, 97, 108, 101, 110, 116]⟩ : ByteArray)) = false by decide, show decide (kA3 = (⟨#[100, 105, 102, 102, 101, 114, 101, 110, 116]⟩ : ByteArray)) = false by decide, show decide (kA3 = (⟨#[118, 97, 108, 117, 101]⟩ : ByteArray)) = true by decide, Option.bind_some, cond_true, cond_false, gi0, gi1, gi2, v1, g1]
    cases eqI (w64 (a * n1 * n1 + b * n1 * n2 + c * n2 * n2)) n0 <;> rfl
  have e2 : r_spec_prTrue kA3 ([(a, b, c)], [], [n0, n1, n2]) = some (bif eqI (w64 (a * n1 * n1 + b * n1 * n2 + c * n2 * n2)) n0 then eqI (Int.gcd n1 n2 : Int) 1 else false) := by
    simp only [r_spec_prTrue, eqS, show decide (kA3 = (⟨#[101, 113, 117, 105, 118, 97, 108, 101, 110, 116]⟩ : ByteArray)) = false by decide, show decide (kA3 = (⟨#[100, 105, 102, 102, 101, 114, 101, 110, 116]⟩ : ByteArray)) = false by decide, show decide (kA3 = (⟨#[118, 97, 108, 117, 101]⟩ : ByteArray)) = true by decide, Option.bind_some, cond_true, cond_false, gi0, gi1, gi2, dsc_value, v1, g2]
    cases eqI (w64 (a * n1 * n1 + b * n1 * n2 + c * n2 * n2)) n0 <;> rfl
  exact ⟨_, e1, e2⟩
theorem k4 (n0 n1 n2 : Int) (b0 : NB n0) (b1 : NB n1) (b2 : NB n2) : ∃ b, zQ (kA4, [], [], [n0, n1, n2]) = some b ∧ r_spec_prTrue kA4 ([], [], [n0, n1, n2]) = some b := by
  obtain ⟨b, h1, h2⟩ := obs_both b0 b1 b2
  refine ⟨b, ?_, ?_⟩
  · simp only [zQ, eqS, show decide (kA4 = (⟨#[101, 113, 117, 105, 118, 97, 108, 101, 110, 116]⟩ : ByteArray)) = false by decide, show decide (kA4 = (⟨#[100, 105, 102, 102, 101, 114, 101, 110, 116]⟩ : ByteArray)) = false by decide, show decide (kA4 = (⟨#[118, 97, 108, 117, 101]⟩ : ByteArray)) = false by decide, show decide (kA4 = (⟨#[111, 98, 115, 116, 114, 117, 99, 116, 105, 111, 110]⟩ : ByteArray)) = true by decide, Option.bind_some, cond_true, cond_false, gi0, gi1, gi2, h1]
  · simp only [r_spec_prTrue, eqS, show decide (kA4 = (⟨#[101, 113, 117, 105, 118, 97, 108, 101, 110, 116]⟩ : ByteArray)) = false by decide, show decide (kA4 = (⟨#[100, 105, 102, 102, 101, 114, 101, 110, 116]⟩ : ByteArray)) = false by decide, show decide (kA4 = (⟨#[118, 97, 108, 117, 101]⟩ : ByteArray)) = false by decide, show decide (kA4 = (⟨#[111, 98, 115, 116, 114, 117, 99, 116, 105, 111, 110]⟩ : ByteArray)) = true by decide, Option.bind_some, cond_true, cond_false, gi0, gi1, gi2]
    exact h2
theorem k5 (f0 f1 f2 : F3) (N : List Int) (hl : N.length = 8) (hN : ∀ x ∈ N, NB x) : ∃ b, zQ (kA5, [f0, f1, f2], [], N) = some b ∧ r_spec_prTrue kA5 ([f0, f1, f2], [], N) = some b := by
  obtain ⟨r, h1, h2⟩ := comp_both f0 f1 f2 N hl hN
  refine ⟨bif r.1 then r.2 else false, ?_, ?_⟩
  · simp only [zQ, eqS, show decide (kA5 = (⟨#[101, 113, 117, 105, 118, 97, 108, 101, 110, 116]⟩ : ByteArray)) = false by decide, show decide (kA5 = (⟨#[100, 105, 102, 102, 101, 114, 101, 110, 116]⟩ : ByteArray)) = false by decide, show decide (kA5 = (⟨#[118, 97, 108, 117, 101]⟩ : ByteArray)) = false by decide, show decide (kA5 = (⟨#[111, 98, 115, 116, 114, 117, 99, 116, 105, 111, 110]⟩ : ByteArray)) = false by decide, show decide (kA5 = (⟨#[99, 111, 109, 112, 111, 115, 105, 116, 101]⟩ : ByteArray)) = true by decide, Option.bind_some, cond_true, cond_false, gi0, gi1, gi2, h1]
  · simp only [r_spec_prTrue, eqS, show decide (kA5 = (⟨#[101, 113, 117, 105, 118, 97, 108, 101, 110, 116]⟩ : ByteArray)) = false by decide, show decide (kA5 = (⟨#[100, 105, 102, 102, 101, 114, 101, 110, 116]⟩ : ByteArray)) = false by decide, show decide (kA5 = (⟨#[118, 97, 108, 117, 101]⟩ : ByteArray)) = false by decide, show decide (kA5 = (⟨#[111, 98, 115, 116, 114, 117, 99, 116, 105, 111, 110]⟩ : ByteArray)) = false by decide, show decide (kA5 = (⟨#[99, 111, 109, 112, 111, 115, 105, 116, 101]⟩ : ByteArray)) = true by decide, Option.bind_some, cond_true, cond_false, gi0, gi1, gi2, h2]
theorem k6 (f0 : F3) (n0 : Int) (b0 : NB n0) : ∃ b, zQ (kA6, [f0], [], [n0]) = some b ∧ r_spec_prTrue kA6 ([f0], [], [n0]) = some b := by
  obtain ⟨r, h1, h2⟩ := order_claim f0 b0
  refine ⟨r, ?_, ?_⟩
  · simp only [zQ, eqS, show decide (kA6 = (⟨#[101, 113, 117, 105, 118, 97, 108, 101, 110, 116]⟩ : ByteArray)) = false by decide, show decide (kA6 = (⟨#[100, 105, 102, 102, 101, 114, 101, 110, 116]⟩ : ByteArray)) = false by decide, show decide (kA6 = (⟨#[118, 97, 108, 117, 101]⟩ : ByteArray)) = false by decide, show decide (kA6 = (⟨#[111, 98, 115, 116, 114, 117, 99, 116, 105, 111, 110]⟩ : ByteArray)) = false by decide, show decide (kA6 = (⟨#[99, 111, 109, 112, 111, 115, 105, 116, 101]⟩ : ByteArray)) = false by decide, show decide (kA6 = (⟨#[111, 114, 100, 101, 114]⟩ : ByteArray)) = true by decide, Option.bind_some, cond_true, cond_false, gi0, h1]
  · simp only [r_spec_prTrue, eqS, show decide (kA6 = (⟨#[101, 113, 117, 105, 118, 97, 108, 101, 110, 116]⟩ : ByteArray)) = false by decide, show decide (kA6 = (⟨#[100, 105, 102, 102, 101, 114, 101, 110, 116]⟩ : ByteArray)) = false by decide, show decide (kA6 = (⟨#[118, 97, 108, 117, 101]⟩ : ByteArray)) = false by decide, show decide (kA6 = (⟨#[111, 98, 115, 116, 114, 117, 99, 116, 105, 111, 110]⟩ : ByteArray)) = false by decide, show decide (kA6 = (⟨#[99, 111, 109, 112, 111, 115, 105, 116, 101]⟩ : ByteArray)) = false by decide, show decide (kA6 = (⟨#[111, 114, 100, 101, 114]⟩ : ByteArray)) = true by decide, Option.bind_some, cond_true, cond_false, gi0, h2]
theorem k7 (n0 n1 n2 : Int) (b1 : NB n1) : ∃ b, zQ (kA7, [], [], [n0, n1, n2]) = some b ∧ r_spec_prTrue kA7 ([], [], [n0, n1, n2]) = some b := by
  by_cases h : 1 ≤ n1
  · have e : leI 1 n1 = true := by rw [leI_eq, decide_eq_true h]
    have hz : nz (w64 (4 * n1)) = some () := nz_ne (by have := b1.2; rw [zL (by omega)]; omega)
    refine ⟨eqI (Int.tmod (w64 ((w64 (n2 * n2)) - n0)) (w64 (4 * n1))) 0, ?_, ?_⟩
    · simp only [zQ, eqS, show decide (kA7 = (⟨#[101, 113, 117, 105, 118, 97, 108, 101, 110, 116]⟩ : ByteArray)) = false by decide, show decide (kA7 = (⟨#[100, 105, 102, 102, 101, 114, 101, 110, 116]⟩ : ByteArray)) = false by decide, show decide (kA7 = (⟨#[118, 97, 108, 117, 101]⟩ : ByteArray)) = false by decide, show decide (kA7 = (⟨#[111, 98, 115, 116, 114, 117, 99, 116, 105, 111, 110]⟩ : ByteArray)) = false by decide, show decide (kA7 = (⟨#[99, 111, 109, 112, 111, 115, 105, 116, 101]⟩ : ByteArray)) = false by decide, show decide (kA7 = (⟨#[111, 114, 100, 101, 114]⟩ : ByteArray)) = false by decide, show decide (kA7 = (⟨#[114, 111, 111, 116]⟩ : ByteArray)) = true by decide, Option.bind_some, cond_true, cond_false, gi0, gi1, gi2, e, hz]
    · simp only [r_spec_prTrue, eqS, show decide (kA7 = (⟨#[101, 113, 117, 105, 118, 97, 108, 101, 110, 116]⟩ : ByteArray)) = false by decide, show decide (kA7 = (⟨#[100, 105, 102, 102, 101, 114, 101, 110, 116]⟩ : ByteArray)) = false by decide, show decide (kA7 = (⟨#[118, 97, 108, 117, 101]⟩ : ByteArray)) = false by decide, show decide (kA7 = (⟨#[111, 98, 115, 116, 114, 117, 99, 116, 105, 111, 110]⟩ : ByteArray)) = false by decide, show decide (kA7 = (⟨#[99, 111, 109, 112, 111, 115, 105, 116, 101]⟩ : ByteArray)) = false by decide, show decide (kA7 = (⟨#[111, 114, 100, 101, 114]⟩ : ByteArray)) = false by decide, show decide (kA7 = (⟨#[114, 111, 111, 116]⟩ : ByteArray)) = true by decide, Option.bind_some, cond_true, cond_false, gi0, gi1, gi2, e, hz]
  · have e : leI 1 n1 = false := by rw [leI_eq, decide_eq_false h]
    refine ⟨false, ?_, ?_⟩
    · simp only [zQ, eqS, show decide (kA7 = (⟨#[101, 113, 117, 105, 118, 97, 108, 101, 110, 116]⟩ : ByteArray)) = false by decide, show decide (kA7 = (⟨#[100, 105, 102, 102, 101, 114, 101, 110, 116]⟩ : ByteArray)) = false by decide, show decide (kA7 = (⟨#[118, 97, 108, 117, 101]⟩ : ByteArray)) = false by decide, show decide (kA7 = (⟨#[111, 98, 115, 116, 114, 117, 99, 116, 105, 111, 110]⟩ : ByteArray)) = false by decide, show decide (kA7 = (⟨#[99, 111, 109, 112, 111, 115, 105, 116, 101]⟩ : ByteArray)) = false by decide, show decide (kA7 = (⟨#[111, 114, 100, 101, 114]⟩ : ByteArray)) = false by decide, show decide (kA7 = (⟨#[114, 111, 111, 116]⟩ : ByteArray)) = true by decide, Option.bind_some, cond_true, cond_false, gi0, gi1, gi2, e]
    · simp only [r_spec_prTrue, eqS, show decide (kA7 = (⟨#[101, 113, 117, 105, 118, 97, 108, 101, 110, 116]⟩ : ByteArray)) = false by decide, show decide (kA7 = (⟨#[100, 105, 102, 102, 101, 114, 101, 110, 116]⟩ : ByteArray)) = false by decide, show decide (kA7 = (⟨#[118, 97, 108, 117, 101]⟩ : ByteArray)) = false by decide, show decide (kA7 = (⟨#[111, 98, 115, 116, 114, 117, 99, 116, 105, 111, 110]⟩ : ByteArray)) = false by decide, show decide (kA7 = (⟨#[99, 111, 109, 112, 111, 115, 105, 116, 101]⟩ : ByteArray)) = false by decide, show decide (kA7 = (⟨#[111, 114, 100, 101, 114]⟩ : ByteArray)) = false by decide, show decide (kA7 = (⟨#[114, 111, 111, 116]⟩ : ByteArray)) = true by decide, Option.bind_some, cond_true, cond_false, gi0, gi1, gi2, e]
theorem k8 (f0 : F3) (m0 : Int × Int × Int × Int) : ∃ b, zQ (kA8, [f0], [m0], []) = some b ∧ r_spec_prTrue kA8 ([f0], [m0], []) = some b := by
  obtain ⟨b, hb⟩ := makes_some f0 m0 f0
  refine ⟨b, ?_, ?_⟩
  · simp only [zQ, eqS, show decide (kA8 = (⟨#[101, 113, 117, 105, 118, 97, 108, 101, 110, 116]⟩ : ByteArray)) = false by decide, show decide (kA8 = (⟨#[100, 105, 102, 102, 101, 114, 101, 110, 116]⟩ : ByteArray)) = false by decide, show decide (kA8 = (⟨#[118, 97, 108, 117, 101]⟩ : ByteArray)) = false by decide, show decide (kA8 = (⟨#[111, 98, 115, 116, 114, 117, 99, 116, 105, 111, 110]⟩ : ByteArray)) = false by decide, show decide (kA8 = (⟨#[99, 111, 109, 112, 111, 115, 105, 116, 101]⟩ : ByteArray)) = false by decide, show decide (kA8 = (⟨#[111, 114, 100, 101, 114]⟩ : ByteArray)) = false by decide, show decide (kA8 = (⟨#[114, 111, 111, 116]⟩ : ByteArray)) = false by decide, show decide (kA8 = (⟨#[97, 117, 116, 111, 109, 111, 114, 112, 104]⟩ : ByteArray)) = true by decide, Option.bind_some, cond_true, cond_false, gi0, hb]
  · simp only [r_spec_prTrue, eqS, show decide (kA8 = (⟨#[101, 113, 117, 105, 118, 97, 108, 101, 110, 116]⟩ : ByteArray)) = false by decide, show decide (kA8 = (⟨#[100, 105, 102, 102, 101, 114, 101, 110, 116]⟩ : ByteArray)) = false by decide, show decide (kA8 = (⟨#[118, 97, 108, 117, 101]⟩ : ByteArray)) = false by decide, show decide (kA8 = (⟨#[111, 98, 115, 116, 114, 117, 99, 116, 105, 111, 110]⟩ : ByteArray)) = false by decide, show decide (kA8 = (⟨#[99, 111, 109, 112, 111, 115, 105, 116, 101]⟩ : ByteArray)) = false by decide, show decide (kA8 = (⟨#[111, 114, 100, 101, 114]⟩ : ByteArray)) = false by decide, show decide (kA8 = (⟨#[114, 111, 111, 116]⟩ : ByteArray)) = false by decide, show decide (kA8 = (⟨#[97, 117, 116, 111, 109, 111, 114, 112, 104]⟩ : ByteArray)) = true by decide, Option.bind_some, cond_true, cond_false, gi0, makes_eq, hb]
theorem k9 (n0 n1 n2 : Int) (b0 : NB n0) (b1 : NB n1) (b2 : NB n2) : ∃ b, zQ (kA9, [], [], [n0, n1, n2]) = some b ∧ r_spec_prTrue kA9 ([], [], [n0, n1, n2]) = some b := by
  have a1 := abs_mul (nbN b1) (nbN b1)
  have a2 := abs_mul (nbN b0) (nbN b2)
  have a3 := abs_mul a2 (nbN b2)
  have hx : (w64 ((w64 (n1 * n1)) - (w64 ((w64 (n0 * n2)) * n2)))).natAbs ≤ 9223372036854775806 := by
    rw [zL (n := n1 * n1) (by omega), zL (n := n0 * n2) (by omega), zL (n := n0 * n2 * n2) (by omega), zL (by omega)]
    omega
  refine ⟨eqI ((w64 ((w64 (n1 * n1)) - (w64 ((w64 (n0 * n2)) * n2)))).natAbs : Int) 4, ?_, ?_⟩
  · simp only [zQ, eqS, show decide (kA9 = (⟨#[101, 113, 117, 105, 118, 97, 108, 101, 110, 116]⟩ : ByteArray)) = false by decide, show decide (kA9 = (⟨#[100, 105, 102, 102, 101, 114, 101, 110, 116]⟩ : ByteArray)) = false by decide, show decide (kA9 = (⟨#[118, 97, 108, 117, 101]⟩ : ByteArray)) = false by decide, show decide (kA9 = (⟨#[111, 98, 115, 116, 114, 117, 99, 116, 105, 111, 110]⟩ : ByteArray)) = false by decide, show decide (kA9 = (⟨#[99, 111, 109, 112, 111, 115, 105, 116, 101]⟩ : ByteArray)) = false by decide, show decide (kA9 = (⟨#[111, 114, 100, 101, 114]⟩ : ByteArray)) = false by decide, show decide (kA9 = (⟨#[114, 111, 111, 116]⟩ : ByteArray)) = false by decide, show decide (kA9 = (⟨#[97, 117, 116, 111, 109, 111, 114, 112, 104]⟩ : ByteArray)) = false by decide, Option.bind_some, cond_true, cond_false, gi0, gi1, gi2, abs_val hx]
  · simp only [r_spec_prTrue, eqS, show decide (kA9 = (⟨#[101, 113, 117, 105, 118, 97, 108, 101, 110, 116]⟩ : ByteArray)) = false by decide, show decide (kA9 = (⟨#[100, 105, 102, 102, 101, 114, 101, 110, 116]⟩ : ByteArray)) = false by decide, show decide (kA9 = (⟨#[118, 97, 108, 117, 101]⟩ : ByteArray)) = false by decide, show decide (kA9 = (⟨#[111, 98, 115, 116, 114, 117, 99, 116, 105, 111, 110]⟩ : ByteArray)) = false by decide, show decide (kA9 = (⟨#[99, 111, 109, 112, 111, 115, 105, 116, 101]⟩ : ByteArray)) = false by decide, show decide (kA9 = (⟨#[111, 114, 100, 101, 114]⟩ : ByteArray)) = false by decide, show decide (kA9 = (⟨#[114, 111, 111, 116]⟩ : ByteArray)) = false by decide, show decide (kA9 = (⟨#[97, 117, 116, 111, 109, 111, 114, 112, 104]⟩ : ByteArray)) = false by decide, Option.bind_some, cond_true, cond_false, gi0, gi1, gi2, sabs_val hx]
theorem len1 {α : Type} {l : List α} (h : l.length = 1) : ∃ a, l = [a] := by
  match l, h with
  | [a], _ => exact ⟨a, rfl⟩
theorem len0 {α : Type} {l : List α} (h : l.length = 0) : l = [] := List.length_eq_zero_iff.1 h
theorem len2 {α : Type} {l : List α} (h : l.length = 2) : ∃ a b, l = [a, b] := by
  match l, h with
  | [a, b], _ => exact ⟨a, b, rfl⟩
theorem len3 {α : Type} {l : List α} (h : l.length = 3) : ∃ a b c, l = [a, b, c] := by
  match l, h with
  | [a, b, c], _ => exact ⟨a, b, c, rfl⟩
theorem len4 {α : Type} {l : List α} (h : l.length = 4) : ∃ a b c d, l = [a, b, c, d] := by
  match l, h with
  | [a, b, c, d], _ => exact ⟨a, b, c, d, rfl⟩
theorem claim_both {k t : ByteArray} {F : List F3} {M : List (Int × Int × Int × Int)} {N : List Int} (h : r_spec_prWords k = some t) (ht : t ≠ ⟨#[]⟩) (hF : F.length = t.data.toList.countP (fun b => decide (b = 102))) (hM : M.length = t.data.toList.countP (fun b => decide (b = 109))) (hN : N.length = t.data.toList.countP (fun b => !decide (b = 102) && !decide (b = 109)))
    (bF : ∀ f ∈ F, FB f) (bM : ∀ f ∈ M, MB f) (bN : ∀ f ∈ N, NB f) : ∃ b, zQ (k, F, M, N) = some b ∧ r_spec_prTrue k (F, M, N) = some b := by
  rcases kinds h ht with ⟨rfl, rfl⟩ | ⟨rfl, rfl⟩ | ⟨rfl, rfl⟩ | ⟨rfl, rfl⟩ | ⟨rfl, rfl⟩ | ⟨rfl, rfl⟩ | ⟨rfl, rfl⟩ | ⟨rfl, rfl⟩ | ⟨rfl, rfl⟩
  · have hF : F.length = 2 := hF
    have hM : M.length = 1 := hM
    have hN : N.length = 0 := hN
    obtain ⟨f0, f1, rfl⟩ := len2 hF
    obtain ⟨m0, rfl⟩ := len1 hM
    rw [len0 hN]
    exact k1 f0 f1 m0
  · have hF : F.length = 4 := hF
    have hM : M.length = 2 := hM
    have hN : N.length = 0 := hN
    obtain ⟨f0, f1, f2, f3, rfl⟩ := len4 hF
    obtain ⟨m0, m1, rfl⟩ := len2 hM
    rw [len0 hN]
    exact k2 f0 f1 f2 f3 m0 m1
  · have hF : F.length = 1 := hF
    have hM : M.length = 0 := hM
    have hN : N.length = 3 := hN
    obtain ⟨f0, rfl⟩ := len1 hF
    obtain ⟨n0, n1, n2, rfl⟩ := len3 hN
    rw [len0 hM]
    exact k3 f0 n0 n1 n2 (bN _ (by simp)) (bN _ (by simp))
  · have hF : F.length = 0 := hF
    have hM : M.length = 0 := hM
    have hN : N.length = 3 := hN
    obtain ⟨n0, n1, n2, rfl⟩ := len3 hN
    rw [len0 hM, len0 hF]
    exact k4 n0 n1 n2 (bN _ (by simp)) (bN _ (by simp)) (bN _ (by simp))
  · have hF : F.length = 3 := hF
    have hM : M.length = 0 := hM
    have hN : N.length = 8 := hN
    obtain ⟨f0, f1, f2, rfl⟩ := len3 hF
    rw [len0 hM]
    exact k5 f0 f1 f2 N hN bN
  · have hF : F.length = 1 := hF
    have hM : M.length = 0 := hM
    have hN : N.length = 1 := hN
    obtain ⟨f0, rfl⟩ := len1 hF
    obtain ⟨n0, rfl⟩ := len1 hN
    rw [len0 hM]
    exact k6 f0 n0 (bN _ (by simp))
  · have hF : F.length = 0 := hF
    have hM : M.length = 0 := hM
    have hN : N.length = 3 := hN
    obtain ⟨n0, n1, n2, rfl⟩ := len3 hN
    rw [len0 hM, len0 hF]
    exact k7 n0 n1 n2 (bN _ (by simp))
  · have hF : F.length = 1 := hF
    have hM : M.length = 1 := hM
    have hN : N.length = 0 := hN
    obtain ⟨f0, rfl⟩ := len1 hF
    obtain ⟨m0, rfl⟩ := len1 hM
    rw [len0 hN]
    exact k8 f0 m0
  · have hF : F.length = 0 := hF
    have hM : M.length = 0 := hM
    have hN : N.length = 3 := hN
    obtain ⟨n0, n1, n2, rfl⟩ := len3 hN
    rw [len0 hM, len0 hF]
    exact k9 n0 n1 n2 (bN _ (by simp)) (bN _ (by simp)) (bN _ (by simp))
/-- One certificate. -/
theorem check_both (s : ByteArray) (hs : s.size ≤ 1048576) : ∃ n, r_impl_CheckCertificate s = some n ∧ r_spec_prCheck s = some n ∧ 0 ≤ n ∧ n ≤ 2 := by
  unfold r_impl_CheckCertificate r_spec_prCheck
  rcases parts_more s hs with ⟨k, F, M, N, t, h1, h2, h3, h4, h5, h6, h7, h8, h9, h10⟩ | ⟨h1, k, x, h2⟩
  · obtain ⟨b, c1, c2⟩ := claim_both h3 h4 h5 h6 h7 h8 h9 h10
    simp only [h1, h2, Option.bind_some, Bool.not_true, cond_false, c1, c2]
    cases b
    · exact ⟨1, rfl, rfl, by omega, by omega⟩
    · exact ⟨2, rfl, rfl, by omega, by omega⟩
  · simp only [h1, h2, Option.bind_some, Bool.not_false, cond_true]
    exact ⟨0, rfl, rfl, by omega, by omega⟩
end Go.Proofs.YtfmjfofocklgpaaGreatDoor
namespace Go.Proofs.YtfmjfofocklgpaaGreatDoor
open Go.Lib
set_option linter.unusedVariables false
set_option linter.unusedSimpArgs false
theorem eqInt_run (l : List Int) (hl : l.length ≤ 100000) : ∀ (n k : Nat), k ≤ l.length → l.length - k < n → r_laws_eqIntS_L5 l l n (k : Int) = some (.inl ())
  | 0, k, h0, h1 => by omega
  | n + 1, k, h0, h1 => by
    unfold r_laws_eqIntS_L5
    rw [ltI_eq]
    by_cases hk : k < l.length
    · rw [decide_eq_true (by omega), cond_true, getNat hk]
      simp only [Option.bind_some, eqI_true, Bool.not_true, cond_false, sI_eq, wsucc (show k < 1000000000 by omega)]
      exact eqInt_run l hl n (k + 1) (by omega) (by omega)
    · rw [decide_eq_false (by omega), cond_false]
theorem eqInt_self (l : List Int) (hl : l.length ≤ 100000) : r_laws_eqIntS l l = some true := by
  have hF := FUge
  have := eqInt_run l hl FU 0 (by omega) (by omega)
  have this : r_laws_eqIntS_L5 l l FU 0 = some (.inl ()) := this
  simp only [r_laws_eqIntS, eqI_true, Bool.not_true, cond_false]
  rw [this]
  rfl
theorem markI_run : ∀ (n k : Nat) (l : List Int), l.length ≤ 100000 → k ≤ l.length → l.length - k < n → (∀ i, i < k → l[i]? = some ((i + 1 : Nat) : Int)) → ∃ r, r_laws_markIntS_L6 n ((k + 1 : Nat) : Int) (k : Int) l = some (((l.length + 1 : Nat) : Int), r) ∧ r.length = l.length ∧ ∀ i, i < l.length → r[i]? = some ((i + 1 : Nat) : Int)
  | 0, k, l, hl, h0, h1, h2 => by omega
  | n + 1, k, l, hl, h0, h1, h2 => by
    unfold r_laws_markIntS_L6
    rw [ltI_eq]
    by_cases hk : k < l.length
    · have en : Int.toNat (k : Int) = k := rfl
      rw [decide_eq_true (by omega), cond_true, getNat hk]
      simp only [Option.bind_some, sI_eq, wsucc (show k < 1000000000 by omega), wsucc (show k + 1 < 1000000000 by omega), en]
      obtain ⟨r, g1, g2, g3⟩ := markI_run n (k + 1) (l.set k ((k + 1 : Nat) : Int)) (by rw [List.length_set]; exact hl) (by rw [List.length_set]; omega) (by rw [List.length_set]; omega) (by
        intro i hi
        by_cases hik : i = k
        · subst hik
          rw [List.getElem?_set_self hk]
        · rw [List.getElem?_set_ne (by omega)]
          exact h2 i (by omega))
      rw [List.length_set] at g1 g2 g3
      exact ⟨r, g1, g2, g3⟩
    · have hkl : k = l.length := by omega
      rw [decide_eq_false (by omega), cond_false]
      refine ⟨l, by rw [hkl], rfl, fun i hi => h2 i (by omega)⟩
theorem heldI_run (l : List Int) (hl : l.length ≤ 100000) (h : ∀ i, i < l.length → l[i]? = some ((i + 1 : Nat) : Int)) : ∀ (n k : Nat), k ≤ l.length → l.length - k < n → r_laws_heldIntS_L5 l n ((k + 1 : Nat) : Int) (k : Int) = some (.inl ((l.length + 1 : Nat) : Int))
  | 0, k, h0, h1 => by omega
  | n + 1, k, h0, h1 => by
    unfold r_laws_heldIntS_L5
    rw [ltI_eq]
    by_cases hk : k < l.length
    · have hv : l[k] = ((k + 1 : Nat) : Int) := by
        have := h k hk
        rw [List.getElem?_eq_getElem hk] at this
        injection this
      rw [decide_eq_true (by omega), cond_true, getNat hk, hv]
      simp only [Option.bind_some, eqI_true, Bool.not_true, cond_false, sI_eq, wsucc (show k < 1000000000 by omega), wsucc (show k + 1 < 1000000000 by omega)]
      exact heldI_run l hl h n (k + 1) (by omega) (by omega)
    · have hkl : k = l.length := by omega
      rw [decide_eq_false (by omega), cond_false, hkl]
theorem markI_held (l : List Int) (hl : l.length ≤ 100000) : ∃ m r, r_laws_markIntS l 1 = some (m, r) ∧ r_laws_heldIntS r 1 = some m ∧ 1 ≤ m := by
  have hF : 1000001 < FU := by decide
  obtain ⟨r, g1, g2, g3⟩ := markI_run FU 0 l hl (by omega) (by omega) (fun i hi => by omega)
  have g1 : r_laws_markIntS_L6 FU 1 0 l = _ := g1
  have g4 := heldI_run r (by omega) (by rw [g2]; exact g3) FU 0 (by omega) (by omega)
  have g4 : r_laws_heldIntS_L5 r FU 1 0 = _ := g4
  refine ⟨((l.length + 1 : Nat) : Int), r, by simp only [r_laws_markIntS, g1, Option.bind_some], ?_, by omega⟩
  simp only [r_laws_heldIntS, g4, Option.bind_some, g2]
theorem spl_snoc (c : UInt8) : ∀ l, spl c (l ++ [c]) = spl c l ++ [[]]
  | [] => by
    rw [List.nil_append, spl_eq]
    rfl
  | b :: l => by
    have ih := spl_snoc c l
    by_cases h : b = c
    · subst h
      rw [List.cons_append, spl_eq, spl_eq, ih]
      rfl
    · cases e : spl c l with
      | nil => exact absurd e (spl_ne c l)
      | cons w ws =>
        rw [e] at ih
        rw [List.cons_append, spl_cons h ih, spl_cons h e]
        rfl
/-- One bundle's lines. -/
theorem lines_run (L : List ByteArray) (hl : L.length ≤ 40) (hz : ∀ w ∈ L, w.size ≤ 1048576) : ∀ (n k : Nat) (acc : List Int) (a b : Bool), k ≤ L.length → L.length - k < n → acc.length ≤ k → ∃ r, r_impl_CheckBundle_L9 (L, a) n (k : Int) acc = some r ∧ r_spec_CheckBundle_L6 (L, b) n (k : Int) acc = some r ∧ r.length ≤ 40
  | 0, k, acc, a, b, h1, h2, h3 => by omega
  | n + 1, k, acc, a, b, h1, h2, h3 => by
    unfold r_impl_CheckBundle_L9 r_spec_CheckBundle_L6
    rw [ltI_eq]
    by_cases hk : k < L.length
    · obtain ⟨v, v1, v2, _⟩ := check_both L[k] (hz _ (List.getElem_mem hk))
      rw [decide_eq_true (show (k : Int) < (L.length : Int) by omega), cond_true, cond_true]
      simp only [getNat hk, Option.bind_some, v1, v2, sI_eq, roomOk (show acc.length + ([v] : List Int).length ≤ 1000000000 by simp; omega), wsucc (show k < 1000000000 by omega)]
      exact lines_run L hl hz n (k + 1) (acc ++ [v]) a b (by omega) (by omega) (by simp; omega)
    · rw [decide_eq_false (show ¬ (k : Int) < (L.length : Int) by omega), cond_false, cond_false]
      exact ⟨acc, rfl, rfl, by omega⟩
theorem bundle_fin (L : List ByteArray) (hl : L.length ≤ 40) (hz : ∀ w ∈ L, w.size ≤ 1048576) (a b : Bool) : ∃ r, r_impl_CheckBundle_L9 (L, a) FU 0 [] = some r ∧ r_spec_CheckBundle_L6 (L, b) FU 0 [] = some r ∧ r.length ≤ 40 := by
  have hF : 1000001 < FU := by decide
  exact lines_run L hl hz FU 0 [] a b (by omega) (by omega) (by simp)
theorem eight_byte (b : UInt8) : eqI ((b.toNat : Nat) : Int) 10 = decide (b = 10) := letter_is b 10
theorem has_suffix (p : List UInt8) (b : UInt8) (h : p.length ≤ 2000000) : r_internal_stringslite_HasSuffix (bl (p ++ [b])) ⟨#[10]⟩ = some (decide (b = 10)) ∧ w64 (((bl (p ++ [b])).size : Int) - ((⟨#[10]⟩ : ByteArray).size : Int)) = (p.length : Int) := by
  have e1 : ((⟨#[10]⟩ : ByteArray).size : Int) = 1 := rfl
  have e2 : ((bl (p ++ [b])).size : Int) = (p.length : Int) + 1 := by rw [bl_size]; simp
  have e3 : w64 (((bl (p ++ [b])).size : Int) - ((⟨#[10]⟩ : ByteArray).size : Int)) = (p.length : Int) := by rw [e1, e2, zL (by omega)]; omega
  refine ⟨?_, e3⟩
  unfold r_internal_stringslite_HasSuffix
  rw [e3, e1, e2, leI_eq, decide_eq_true (by omega), cond_true]
  have hs : slc (bl (p ++ [b])).size (p.length : Int) ((p.length : Int) + 1) = some () := by
    have : ((p.length : Int) + 1) = ((p.length + 1 : Nat) : Int) := by omega
    rw [this]
    exact slcOk (by omega) (by rw [bl_size]; simp)
  have hx : (bl (p ++ [b])).extract (Int.toNat (p.length : Int)) (Int.toNat ((p.length : Int) + 1)) = bl [b] := by
    rw [ext_bl, bl_data]
    have : Int.toNat ((p.length : Int) + 1) = p.length + 1 := by omega
    rw [this, Int.toNat_natCast]
    congr 1
    simp
  rw [hs, hx]
  simp only [Option.bind_some, eqS]
  congr 1
  rw [decide_eq_decide]
  constructor
  · intro h
    have : [b] = [10] := bl_inj h
    injection this
  · rintro rfl; rfl
theorem bundle_both (s : ByteArray) (hs : s.size ≤ 1048576) : ∃ r, r_impl_CheckBundle s = some r ∧ r_spec_CheckBundle s = some r ∧ r.1.length ≤ 40 := by
  unfold r_impl_CheckBundle r_spec_CheckBundle r_spec_prLines r_impl_linesOf
  simp only [eqS]
  by_cases h0 : s = ⟨#[]⟩
  · subst h0
    have e : r_spec_l1Split ⟨#[]⟩ 10 = some ((spl 10 (⟨#[]⟩ : ByteArray).data.toList).map bl) := l1Split_val ⟨#[]⟩ 10 (by decide)
    obtain ⟨r, r1, r2, r3⟩ := bundle_fin [] (by simp) (by simp) true true
    refine ⟨(r, true), ?_, ?_, r3⟩
    · rw [decide_eq_true rfl, cond_true]
      simp only [Option.bind_some]
      have e2 : (bif (bif (!true) then true else (ltI 4000 (((⟨#[]⟩ : ByteArray).size : Nat) : Int))) then true else (ltI 40 ((([] : List ByteArray).length : Nat) : Int))) = false := rfl
      rw [e2, cond_false, r1]
      rfl
    · have e1 : ltI 4000 (((⟨#[]⟩ : ByteArray).size : Nat) : Int) = false := rfl
      rw [e1, cond_false, decide_eq_true rfl, Bool.not_true, cond_false]
      simp only [Option.bind_some, cond_false, e]
      have e3 : slc ((spl 10 (⟨#[]⟩ : ByteArray).data.toList).map bl).length 0 (w64 ((((spl 10 (⟨#[]⟩ : ByteArray).data.toList).map bl).length : Int) - 1)) = some () := rfl
      have e4 : subl ((spl 10 (⟨#[]⟩ : ByteArray).data.toList).map bl) 0 (w64 ((((spl 10 (⟨#[]⟩ : ByteArray).data.toList).map bl).length : Int) - 1)) = [] := rfl
      rw [e3, e4]
      have e5 : leI (([] : List ByteArray).length : Int) 40 = true := rfl
      simp only [Option.bind_some, e5, Bool.not_true, cond_false, r2]
  · have hne : s.data.toList ≠ [] := by
      intro h
      apply h0
      rw [bl_of s, h]
      rfl
    obtain ⟨p, b, hp⟩ : ∃ p b, s.data.toList = p ++ [b] := ⟨_, _, (List.dropLast_concat_getLast hne).symm⟩
    have hsb : s = bl (p ++ [b]) := by rw [bl_of s, hp]
    have hsz : s.size = p.length + 1 := by rw [hsb, bl_size]; simp
    obtain ⟨hh, hw⟩ := has_suffix p b (by omega)
    rw [← hsb] at hh hw
    have hgb : getB s (w64 ((s.size : Int) - 1)) = some ((b.toNat : Nat) : Int) := by
      have e1 : w64 ((s.size : Int) - 1) = (p.length : Int) := hw
      rw [e1, getB_nat (show p.length < s.size by omega)]
      congr 2
      simp [hp]
    rw [decide_eq_false h0, cond_false]
    simp only [Bool.not_false, cond_true, hgb, Option.bind_some, eight_byte, r_strings_TrimSuffix, r_strings_HasSuffix, r_internal_stringslite_TrimSuffix, hh]
    by_cases hb : b = 10
    · subst hb
      have hx : s.extract (Int.toNat 0) (Int.toNat (w64 ((s.size : Int) - ((⟨#[10]⟩ : ByteArray).size : Int)))) = bl p := by
        rw [hw, ext_bl, hp]
        congr 1
        simp
      have hsl : slc s.size 0 (w64 ((s.size : Int) - ((⟨#[10]⟩ : ByteArray).size : Int))) = some () := by
        rw [hw]
        exact slcOk (l := 0) (by omega) (by omega)
      have hsp : r_strings_Split (bl p) ⟨#[10]⟩ = some ((spl 10 p).map bl) := by
        have := split_val (bl p) 10 (by rw [bl_size]; omega)
        rwa [bl_data] at this
      have hsl2 : r_spec_l1Split s 10 = some ((spl 10 p ++ [[]]).map bl) := by
        have := l1Split_val s 10 (by omega)
        rw [hp, spl_snoc] at this
        exact this
      have hlen := spl_len 10 p
      have hlm : ((spl 10 p ++ [[]]).map bl).length = (spl 10 p).length + 1 := by simp
      have hw2 : w64 ((((spl 10 p ++ [[]]).map bl).length : Int) - 1) = (((spl 10 p).length : Nat) : Int) := by
        rw [hlm, zL (by omega)]; omega
      have hsub : subl ((spl 10 p ++ [[]]).map bl) 0 (((spl 10 p).length : Nat) : Int) = (spl 10 p).map bl := by
        unfold subl
        rw [Int.toNat_natCast, List.map_append]
        simp
      have hs3 : slc ((spl 10 p ++ [[]]).map bl).length 0 (((spl 10 p).length : Nat) : Int) = some () := slcOk (l := 0) (by omega) (by omega)
      rw [decide_eq_true rfl]
      simp only [cond_true, hsl, hx, Option.bind_some, hsp, Bool.not_true, cond_false, ltI_eq]
      by_cases h4 : (4000 : Int) < (s.size : Int)
      · rw [decide_eq_true h4]
        exact ⟨([], false), rfl, rfl, by simp⟩
      · rw [decide_eq_false h4]
        simp only [cond_false, hsl2, Option.bind_some, hw2, hs3, hsub, leI_eq]
        by_cases h5 : (40 : Int) < (((spl 10 p).map bl).length : Int)
        · rw [decide_eq_true h5, decide_eq_false (by omega)]
          exact ⟨([], false), rfl, rfl, by simp⟩
        · rw [decide_eq_false h5, decide_eq_true (by omega)]
          obtain ⟨r, r1, r2, r3⟩ := bundle_fin ((spl 10 p).map bl) (by omega) (by
            intro w hw
            obtain ⟨x, hx, rfl⟩ := List.mem_map.1 hw
            have := spl_word_len2 10 _ x hx
            rw [bl_size]
            omega) true true
          refine ⟨(r, true), ?_, ?_, r3⟩
          · simp only [cond_false, r1, Option.bind_some]
          · simp only [Bool.not_true, cond_false, r2, Option.bind_some]
    · have hsp : r_strings_Split s ⟨#[10]⟩ = some ((spl 10 s.data.toList).map bl) := split_val s 10 (by omega)
      rw [decide_eq_false hb]
      simp only [cond_false, hsp, Option.bind_some, Bool.not_false, cond_true]
      cases ltI 4000 (s.size : Int) <;> exact ⟨([], false), rfl, rfl, by simp⟩
theorem raw_CheckBundle (s : ByteArray) : r_laws_FnExactCheckBundle s = some true := by
  unfold r_laws_FnExactCheckBundle
  rw [ltI_eq]
  by_cases h : 1048576 < s.size
  · rw [decide_eq_true (by omega)]
    rfl
  · rw [decide_eq_false (by omega), cond_false]
    obtain ⟨r, h1, h2, h3⟩ := bundle_both s (by omega)
    obtain ⟨m, q, g1, g2, g3⟩ := markI_held r.1 (by omega)
    have hb : (r.2 != r.2) = false := by cases r.2 <;> rfl
    have hm : ltI m 0 = false := by rw [ltI_eq, decide_eq_false (by omega)]
    simp only [h1, h2, Option.bind_some, eqInt_self r.1 (by omega), Bool.not_true, cond_false, hb, g1, g2, hm, eqI_true]
end Go.Proofs.YtfmjfofocklgpaaGreatDoor
namespace Go.Proofs
def Tryz.laysM171_ren : Go.Shelf.Ren := ⟨fun | 171 => 117 | 243 => 195 | 246 => 250 | 283 => 283 | 284 => 284 | 285 => 285 | 286 => 286 | 129 => 303 | 317 => 302 | 318 => 304 | 319 => 305 | 320 => 306 | 337 => 312 | 338 => 313 | n => n, fun | 3 => 3 | 9 => 9 | 2 => 2 | 4 => 4 | 171 => 248 | 0 => 0 | 53 => 82 | 37 => 48 | 5 => 5 | 173 => 251 | 212 => 269 | 51 => 264 | 20 => 20 | 213 => 270 | 46 => 202 | 232 => 281 | 233 => 282 | n => n, fun | 17 => 3 | 18 => 6 | 19 => 7 | n => n⟩
theorem Tryz.laysM171 : Go.Proofs.LaysM.n171 Tryz.prog Tryz.laysM171_ren := {
  mixed := by kernel_rfl
  f129 := Tryz.func303.trans (congrArg some (by kernel_rfl))
  f171 := Tryz.func117.trans (congrArg some (by kernel_rfl))
  f243 := Tryz.func195.trans (congrArg some (by kernel_rfl))
  f246 := Tryz.func250.trans (congrArg some (by kernel_rfl))
  f283 := Tryz.func283.trans (congrArg some (by kernel_rfl))
  f284 := Tryz.func284.trans (congrArg some (by kernel_rfl))
  f285 := Tryz.func285.trans (congrArg some (by kernel_rfl))
  f286 := Tryz.func286.trans (congrArg some (by kernel_rfl))
  f317 := Tryz.func302.trans (congrArg some (by kernel_rfl))
  f318 := Tryz.func304.trans (congrArg some (by kernel_rfl))
  f319 := Tryz.func305.trans (congrArg some (by kernel_rfl))
  f320 := Tryz.func306.trans (congrArg some (by kernel_rfl))
  f337 := Tryz.func312.trans (congrArg some (by kernel_rfl))
  f338 := Tryz.func313.trans (congrArg some (by kernel_rfl))
  t0 := Tryz.underlying0
  a0 := Tryz.isAgg0
  z0 := Tryz.sizeOf0
  v0 := Tryz.zeroValue0
  t2 := Tryz.underlying2
  a2 := Tryz.isAgg2
  z2 := Tryz.sizeOf2
  v2 := Tryz.zeroValue2
  t3 := Tryz.underlying3
  a3 := Tryz.isAgg3
  z3 := Tryz.sizeOf3
  v3 := Tryz.zeroValue3
  t4 := Tryz.underlying4
  a4 := Tryz.isAgg4
  z4 := Tryz.sizeOf4
  v4 := Tryz.zeroValue4
  t5 := Tryz.underlying5
  a5 := Tryz.isAgg5
  z5 := Tryz.sizeOf5
  v5 := Tryz.zeroValue5
  t9 := Tryz.underlying9
  a9 := Tryz.isAgg9
  z9 := Tryz.sizeOf9
  v9 := Tryz.zeroValue9
  t20 := Tryz.underlying20
  a20 := Tryz.isAgg20
  z20 := Tryz.sizeOf20
  v20 := Tryz.zeroValue20
  t37 := Tryz.underlying48
  a37 := Tryz.isAgg48
  z37 := Tryz.sizeOf48
  v37 := Tryz.zeroValue48
  t46 := Tryz.underlying202
  a46 := Tryz.isAgg202
  z46 := Tryz.sizeOf202
  v46 := Tryz.zeroValue202
  t51 := Tryz.underlying264
  a51 := Tryz.isAgg264
  z51 := Tryz.sizeOf264
  v51 := Tryz.zeroValue264
  t53 := Tryz.underlying82
  a53 := Tryz.isAgg82
  z53 := Tryz.sizeOf82
  v53 := Tryz.zeroValue82
  t171 := Tryz.underlying248
  a171 := Tryz.isAgg248
  z171 := Tryz.sizeOf248
  v171 := Tryz.zeroValue248
  t173 := Tryz.underlying251
  a173 := Tryz.isAgg251
  z173 := Tryz.sizeOf251
  v173 := Tryz.zeroValue251
  t212 := Tryz.underlying269
  a212 := Tryz.isAgg269
  z212 := Tryz.sizeOf269
  v212 := Tryz.zeroValue269
  t213 := Tryz.underlying270
  a213 := Tryz.isAgg270
  z213 := Tryz.sizeOf270
  t232 := Tryz.underlying281
  a232 := Tryz.isAgg281
  z232 := Tryz.sizeOf281
  v232 := Tryz.zeroValue281
  t233 := Tryz.underlying282
  a233 := Tryz.isAgg282
  z233 := Tryz.sizeOf282
  v233 := Tryz.zeroValue282
  g17 := by kernel_rfl
  g18 := by kernel_rfl
  g19 := by kernel_rfl
  i0 := by kernel_rfl
  i2 := by kernel_rfl
  i3 := by kernel_rfl
  i4 := by kernel_rfl
  i5 := by kernel_rfl
  i9 := by kernel_rfl
  i20 := by kernel_rfl
  i37 := by kernel_rfl
  i46 := by kernel_rfl
  i51 := by kernel_rfl
  i53 := by kernel_rfl
  i171 := by kernel_rfl
  i173 := by kernel_rfl
  i212 := by kernel_rfl
  i232 := by kernel_rfl
  i233 := by kernel_rfl
  m17 := by kernel_rfl
  m18 := by kernel_rfl
  m19 := by kernel_rfl }
open Go.RowKit Go.Sort Go.Lib in
theorem Tryz.strconv_Itoa (n : Int) (h0 : -9223372036854775808 ≤ n) (h1 : n ≤ 9223372036854775807) (w : World) (htab : Lib.TabIs Tryz.prog w "internal/strconv.uint64pow10" .u64 Lib.pow10Tab) :
    Calls Tryz.prog 117 #[.int .i64 n] w fun e w' => e = .returned (.string ⟨(Lib.itoa n).toArray⟩) ∧ ∃ k os, w' = grow (w.drewN k) os := Any.strconv_Itoa Tryz.laysM171 n h0 h1 w htab
def Tryz.laysC172_ren : Go.Shelf.Ren := ⟨fun | 172 => 165 | 244 => 231 | 245 => 232 | 247 => 268 | 279 => 269 | 280 => 270 | 281 => 271 | 282 => 272 | 287 => 296 | 316 => 297 | 171 => 117 | 205 => 298 | 321 => 310 | 322 => 311 | 243 => 195 | 246 => 250 | 283 => 283 | 284 => 284 | 285 => 285 | 286 => 286 | 129 => 303 | 317 => 302 | 318 => 304 | 319 => 305 | 320 => 306 | 337 => 312 | 338 => 313 | n => n, fun | 9 => 9 | 3 => 3 | 75 => 91 | 76 => 92 | 4 => 4 | 5 => 5 | 167 => 240 | 37 => 48 | 0 => 0 | 85 => 241 | 2 => 2 | 168 => 243 | 53 => 82 | 175 => 259 | 46 => 202 | 210 => 262 | 127 => 143 | 145 => 279 | 143 => 277 | 21 => 21 | 171 => 248 | 173 => 251 | 212 => 269 | 51 => 264 | 20 => 20 | 213 => 270 | 232 => 281 | 233 => 282 | 80 => 94 | n => n, fun | 15 => 1 | 16 => 2 | 17 => 3 | 18 => 6 | 19 => 7 | n => n⟩
theorem Tryz.laysC172 : Go.Proofs.LaysC.n172 Tryz.prog Tryz.laysC172_ren := {
  mixed := by kernel_rfl
  f129 := Tryz.func303.trans (congrArg some (by kernel_rfl))
  f171 := Tryz.func117.trans (congrArg some (by kernel_rfl))
  f172 := Tryz.func165.trans (congrArg some (by kernel_rfl))
  f205 := Tryz.func298.trans (congrArg some (by kernel_rfl))
  f243 := Tryz.func195.trans (congrArg some (by kernel_rfl))
  f244 := Tryz.func231.trans (congrArg some (by kernel_rfl))
  f245 := Tryz.func232.trans (congrArg some (by kernel_rfl))
  f246 := Tryz.func250.trans (congrArg some (by kernel_rfl))
  f247 := Tryz.func268.trans (congrArg some (by kernel_rfl))
  f279 := Tryz.func269.trans (congrArg some (by kernel_rfl))
  f280 := Tryz.func270.trans (congrArg some (by kernel_rfl))
  f281 := Tryz.func271.trans (congrArg some (by kernel_rfl))
  f282 := Tryz.func272.trans (congrArg some (by kernel_rfl))
  f283 := Tryz.func283.trans (congrArg some (by kernel_rfl))
  f284 := Tryz.func284.trans (congrArg some (by kernel_rfl))
  f285 := Tryz.func285.trans (congrArg some (by kernel_rfl))
  f286 := Tryz.func286.trans (congrArg some (by kernel_rfl))
  f287 := Tryz.func296.trans (congrArg some (by kernel_rfl))
  f316 := Tryz.func297.trans (congrArg some (by kernel_rfl))
  f317 := Tryz.func302.trans (congrArg some (by kernel_rfl))
  f318 := Tryz.func304.trans (congrArg some (by kernel_rfl))
  f319 := Tryz.func305.trans (congrArg some (by kernel_rfl))
  f320 := Tryz.func306.trans (congrArg some (by kernel_rfl))
  f321 := Tryz.func310.trans (congrArg some (by kernel_rfl))
  f322 := Tryz.func311.trans (congrArg some (by kernel_rfl))
  f337 := Tryz.func312.trans (congrArg some (by kernel_rfl))
  f338 := Tryz.func313.trans (congrArg some (by kernel_rfl))
  t0 := Tryz.underlying0
  a0 := Tryz.isAgg0
  z0 := Tryz.sizeOf0
  v0 := Tryz.zeroValue0
  t2 := Tryz.underlying2
  a2 := Tryz.isAgg2
  z2 := Tryz.sizeOf2
  v2 := Tryz.zeroValue2
  t3 := Tryz.underlying3
  a3 := Tryz.isAgg3
  z3 := Tryz.sizeOf3
  v3 := Tryz.zeroValue3
  t4 := Tryz.underlying4
  a4 := Tryz.isAgg4
  z4 := Tryz.sizeOf4
  v4 := Tryz.zeroValue4
  t5 := Tryz.underlying5
  a5 := Tryz.isAgg5
  z5 := Tryz.sizeOf5
  v5 := Tryz.zeroValue5
  t9 := Tryz.underlying9
  a9 := Tryz.isAgg9
  z9 := Tryz.sizeOf9
  v9 := Tryz.zeroValue9
  t20 := Tryz.underlying20
  a20 := Tryz.isAgg20
  z20 := Tryz.sizeOf20
  v20 := Tryz.zeroValue20
  t21 := Tryz.underlying21
  a21 := Tryz.isAgg21
  z21 := Tryz.sizeOf21
  v21 := Tryz.zeroValue21
  t37 := Tryz.underlying48
  a37 := Tryz.isAgg48
  z37 := Tryz.sizeOf48
  v37 := Tryz.zeroValue48
  t46 := Tryz.underlying202
  a46 := Tryz.isAgg202
  z46 := Tryz.sizeOf202
  v46 := Tryz.zeroValue202
  t51 := Tryz.underlying264
  a51 := Tryz.isAgg264
  z51 := Tryz.sizeOf264
  v51 := Tryz.zeroValue264
  t53 := Tryz.underlying82
  a53 := Tryz.isAgg82
  z53 := Tryz.sizeOf82
  v53 := Tryz.zeroValue82
  t75 := Tryz.underlying91
  a75 := Tryz.isAgg91
  z75 := Tryz.sizeOf91
  v75 := Tryz.zeroValue91
  t76 := Tryz.underlying92
  a76 := Tryz.isAgg92
  z76 := Tryz.sizeOf92
  v76 := Tryz.zeroValue92
  t85 := Tryz.underlying241
  a85 := Tryz.isAgg241
  z85 := Tryz.sizeOf241
  v85 := Tryz.zeroValue241
  t127 := Tryz.underlying143
  a127 := Tryz.isAgg143
  z127 := Tryz.sizeOf143
  v127 := Tryz.zeroValue143
  t143 := Tryz.underlying277
  a143 := Tryz.isAgg277
  z143 := Tryz.sizeOf277
  v143 := Tryz.zeroValue277
  t145 := Tryz.underlying279
  a145 := Tryz.isAgg279
  z145 := Tryz.sizeOf279
  v145 := Tryz.zeroValue279
  t167 := Tryz.underlying240
  a167 := Tryz.isAgg240
  z167 := Tryz.sizeOf240
  v167 := Tryz.zeroValue240
  t168 := Tryz.underlying243
  a168 := Tryz.isAgg243
  z168 := Tryz.sizeOf243
  v168 := Tryz.zeroValue243
  t171 := Tryz.underlying248
  a171 := Tryz.isAgg248
  z171 := Tryz.sizeOf248
  v171 := Tryz.zeroValue248
  t173 := Tryz.underlying251
  a173 := Tryz.isAgg251
  z173 := Tryz.sizeOf251
  v173 := Tryz.zeroValue251
  t175 := Tryz.underlying259
  a175 := Tryz.isAgg259
  z175 := Tryz.sizeOf259
  v175 := Tryz.zeroValue259
  t210 := Tryz.underlying262
  a210 := Tryz.isAgg262
  z210 := Tryz.sizeOf262
  v210 := Tryz.zeroValue262
  t212 := Tryz.underlying269
  a212 := Tryz.isAgg269
  z212 := Tryz.sizeOf269
  v212 := Tryz.zeroValue269
  t213 := Tryz.underlying270
  a213 := Tryz.isAgg270
  z213 := Tryz.sizeOf270
  t232 := Tryz.underlying281
  a232 := Tryz.isAgg281
  z232 := Tryz.sizeOf281
  v232 := Tryz.zeroValue281
  t233 := Tryz.underlying282
  a233 := Tryz.isAgg282
  z233 := Tryz.sizeOf282
  v233 := Tryz.zeroValue282
  g15 := by kernel_rfl
  g16 := by kernel_rfl
  g17 := by kernel_rfl
  g18 := by kernel_rfl
  g19 := by kernel_rfl
  t80 := Tryz.underlying94
  a80 := Tryz.isAgg94
  z80 := Tryz.sizeOf94
  v80 := Tryz.zeroValue94
  i0 := by kernel_rfl
  i2 := by kernel_rfl
  i3 := by kernel_rfl
  i4 := by kernel_rfl
  i5 := by kernel_rfl
  i9 := by kernel_rfl
  i20 := by kernel_rfl
  i21 := by kernel_rfl
  i37 := by kernel_rfl
  i46 := by kernel_rfl
  i51 := by kernel_rfl
  i53 := by kernel_rfl
  i75 := by kernel_rfl
  i76 := by kernel_rfl
  i80 := by kernel_rfl
  i85 := by kernel_rfl
  i127 := by kernel_rfl
  i143 := by kernel_rfl
  i145 := by kernel_rfl
  i167 := by kernel_rfl
  i168 := by kernel_rfl
  i171 := by kernel_rfl
  i173 := by kernel_rfl
  i175 := by kernel_rfl
  i210 := by kernel_rfl
  i212 := by kernel_rfl
  i232 := by kernel_rfl
  i233 := by kernel_rfl
  m15 := by kernel_rfl
  m16 := by kernel_rfl
  m17 := by kernel_rfl
  m18 := by kernel_rfl
  m19 := by kernel_rfl
  c0 := by kernel_rfl
  c2 := by kernel_rfl
  c3 := by kernel_rfl
  c4 := by kernel_rfl
  c5 := by kernel_rfl
  c9 := by kernel_rfl
  c20 := by kernel_rfl
  c21 := by kernel_rfl
  c37 := by kernel_rfl
  c46 := by kernel_rfl
  c51 := by kernel_rfl
  c53 := by kernel_rfl
  c75 := by kernel_rfl
  c76 := by kernel_rfl
  c80 := by kernel_rfl
  c85 := by kernel_rfl
  c127 := by kernel_rfl
  c143 := by kernel_rfl
  c145 := by kernel_rfl
  c167 := by kernel_rfl
  c168 := by kernel_rfl
  c171 := by kernel_rfl
  c173 := by kernel_rfl
  c175 := by kernel_rfl
  c210 := by kernel_rfl
  c212 := by kernel_rfl
  c213 := by kernel_rfl
  c232 := by kernel_rfl
  c233 := by kernel_rfl }
open Go.RowKit in
theorem Tryz.strconv_Atoi_ok (s : ByteArray) (hmax : s.size ≤ 9223372036854775806) (v : Int) (h : Lib.atoiAll s.data.toList = .ok v) (w : World) :
    Calls Tryz.prog 165 #[.string s] w fun e w' => e = .returned (.tuple #[.int .i64 v, .nilIface]) ∧ (w' = w ∨ ∃ t, w' = Lib.bytesWorld w 5 t) := Any.strconv_Atoi_ok Tryz.laysC172 s hmax v h w
open Go.RowKit in
theorem Tryz.strconv_Atoi_syntax (s : ByteArray) (hlim : s.size ≤ 281474976710656) (h : Lib.atoiAll s.data.toList = .«syntax») (ev : Value) (w : World) (hv : w.cell? ⟨1, 0, none⟩ = some ev) (hev : ev = .nilIface ∨ ∃ te pe, ev = .iface te pe) :
    Calls Tryz.prog 165 #[.string s] w fun e w' => ∃ N, e = .returned (.tuple #[.int .i64 (0), .iface 243 (.pointer (some ⟨N, 0, none⟩))]) ∧ w.heap.size ≤ N ∧ w'.heap[N]? = some (.cells #[.string ⟨#[65, 116, 111, 105]⟩, .string s, ev] 262 (0, 0)) ∧ Below w.heap.size w w' := Any.strconv_Atoi_syntax Tryz.laysC172 s hlim h ev w hv hev
open Go.RowKit in
theorem Tryz.strconv_Atoi_range (s : ByteArray) (hlim : s.size ≤ 281474976710656) (h : Lib.atoiAll s.data.toList = .range) (ev : Value) (w : World) (hv : w.cell? ⟨2, 0, none⟩ = some ev) (hev : ev = .nilIface ∨ ∃ te pe, ev = .iface te pe) :
    Calls Tryz.prog 165 #[.string s] w fun e w' => ∃ N, e = .returned (.tuple #[.int .i64 (Lib.atoiSat s.data.toList), .iface 243 (.pointer (some ⟨N, 0, none⟩))]) ∧ w.heap.size ≤ N ∧ w'.heap[N]? = some (.cells #[.string ⟨#[65, 116, 111, 105]⟩, .string s, ev] 262 (0, 0)) ∧ Below w.heap.size w w' := Any.strconv_Atoi_range Tryz.laysC172 s hlim h ev w hv hev
def Tryz.lays146_ren : Go.Shelf.Ren := ⟨fun | 146 => 71 | 221 => 159 | 268 => 226 | 138 => 227 | 143 => 228 | 195 => 265 | 197 => 266 | 218 => 267 | 219 => 243 | 260 => 295 | 217 => 189 | 225 => 277 | 224 => 278 | 267 => 279 | 266 => 242 | 314 => 300 | n => n, fun | 9 => 9 | 31 => 66 | 3 => 3 | 4 => 4 | 0 => 0 | 105 => 235 | 21 => 21 | 5 => 5 | 46 => 202 | 119 => 272 | 139 => 275 | 138 => 274 | 146 => 265 | 51 => 264 | n => n, fun | 1 => 0 | 3 => 4 | 4 => 5 | n => n⟩
theorem Tryz.lays146 : Go.Proofs.Lays.n146 Tryz.prog Tryz.lays146_ren := {
  mixed := by kernel_rfl
  f138 := Tryz.func227.trans (congrArg some (by kernel_rfl))
  f143 := Tryz.func228.trans (congrArg some (by kernel_rfl))
  f146 := Tryz.func71.trans (congrArg some (by kernel_rfl))
  f195 := Tryz.func265.trans (congrArg some (by kernel_rfl))
  f197 := Tryz.func266.trans (congrArg some (by kernel_rfl))
  f217 := Tryz.func189.trans (congrArg some (by kernel_rfl))
  f218 := Tryz.func267.trans (congrArg some (by kernel_rfl))
  f219 := Tryz.func243.trans (congrArg some (by kernel_rfl))
  f221 := Tryz.func159.trans (congrArg some (by kernel_rfl))
  f224 := Tryz.func278.trans (congrArg some (by kernel_rfl))
  f225 := Tryz.func277.trans (congrArg some (by kernel_rfl))
  f260 := Tryz.func295.trans (congrArg some (by kernel_rfl))
  f266 := Tryz.func242.trans (congrArg some (by kernel_rfl))
  f267 := Tryz.func279.trans (congrArg some (by kernel_rfl))
  f268 := Tryz.func226.trans (congrArg some (by kernel_rfl))
  f314 := Tryz.func300.trans (congrArg some (by kernel_rfl))
  t0 := Tryz.underlying0
  a0 := Tryz.isAgg0
  z0 := Tryz.sizeOf0
  v0 := Tryz.zeroValue0
  t3 := Tryz.underlying3
  a3 := Tryz.isAgg3
  z3 := Tryz.sizeOf3
  v3 := Tryz.zeroValue3
  t4 := Tryz.underlying4
  a4 := Tryz.isAgg4
  z4 := Tryz.sizeOf4
  v4 := Tryz.zeroValue4
  t5 := Tryz.underlying5
  a5 := Tryz.isAgg5
  z5 := Tryz.sizeOf5
  v5 := Tryz.zeroValue5
  t9 := Tryz.underlying9
  a9 := Tryz.isAgg9
  z9 := Tryz.sizeOf9
  v9 := Tryz.zeroValue9
  t21 := Tryz.underlying21
  a21 := Tryz.isAgg21
  z21 := Tryz.sizeOf21
  v21 := Tryz.zeroValue21
  t31 := Tryz.underlying66
  a31 := Tryz.isAgg66
  z31 := Tryz.sizeOf66
  v31 := Tryz.zeroValue66
  t46 := Tryz.underlying202
  a46 := Tryz.isAgg202
  z46 := Tryz.sizeOf202
  v46 := Tryz.zeroValue202
  t51 := Tryz.underlying264
  a51 := Tryz.isAgg264
  z51 := Tryz.sizeOf264
  v51 := Tryz.zeroValue264
  t105 := Tryz.underlying235
  a105 := Tryz.isAgg235
  z105 := Tryz.sizeOf235
  v105 := Tryz.zeroValue235
  t119 := Tryz.underlying272
  a119 := Tryz.isAgg272
  z119 := Tryz.sizeOf272
  t138 := Tryz.underlying274
  a138 := Tryz.isAgg274
  z138 := Tryz.sizeOf274
  v138 := Tryz.zeroValue274
  t139 := Tryz.underlying275
  a139 := Tryz.isAgg275
  z139 := Tryz.sizeOf275
  v139 := Tryz.zeroValue275
  t146 := Tryz.underlying265
  a146 := Tryz.isAgg265
  z146 := Tryz.sizeOf265
  v146 := Tryz.zeroValue265
  g1 := by kernel_rfl
  g3 := by kernel_rfl
  g4 := by kernel_rfl }
open Go.RowKit Go.Lib in
theorem Tryz.strings_Split (s sep : ByteArray) (m : Int) (w : World) (hs : s.size < 4294967281) (hm : w.cell? ⟨0, 0, none⟩ = some (.int .i64 m)) (h1 : 1 ≤ sep.size) :
    Calls Tryz.prog 71 #[.string s, .string sep] w fun e w' =>
      e = .returned (.slice (some ⟨w.heap.size, 0, none⟩) (Lib.countB s sep + 1) (Lib.countB s sep + 1)) ∧ w' = w.alloc (.cells ((Lib.splitB sep 0 (Lib.countB s sep) s).map Value.string).toArray 9) := Any.strings_Split Tryz.lays146 (by kernel_rfl) s sep m w hs hm h1
def Tryz.lays229_ren : Go.Shelf.Ren := ⟨fun | 229 => 229 | n => n, fun | 9 => 9 | 40 => 211 | 31 => 66 | 152 => 237 | 3 => 3 | 0 => 0 | 4 => 4 | 21 => 21 | 154 => 239 | n => n, fun | n => n⟩
theorem Tryz.lays229 : Go.Proofs.Lays.n229 Tryz.prog Tryz.lays229_ren := {
  mixed := by kernel_rfl
  f229 := Tryz.func229.trans (congrArg some (by kernel_rfl))
  t0 := Tryz.underlying0
  a0 := Tryz.isAgg0
  z0 := Tryz.sizeOf0
  v0 := Tryz.zeroValue0
  t3 := Tryz.underlying3
  a3 := Tryz.isAgg3
  z3 := Tryz.sizeOf3
  v3 := Tryz.zeroValue3
  t4 := Tryz.underlying4
  a4 := Tryz.isAgg4
  z4 := Tryz.sizeOf4
  v4 := Tryz.zeroValue4
  t9 := Tryz.underlying9
  a9 := Tryz.isAgg9
  z9 := Tryz.sizeOf9
  v9 := Tryz.zeroValue9
  t21 := Tryz.underlying21
  a21 := Tryz.isAgg21
  z21 := Tryz.sizeOf21
  v21 := Tryz.zeroValue21
  t31 := Tryz.underlying66
  a31 := Tryz.isAgg66
  z31 := Tryz.sizeOf66
  v31 := Tryz.zeroValue66
  t40 := Tryz.underlying211
  a40 := Tryz.isAgg211
  z40 := Tryz.sizeOf211
  v40 := Tryz.zeroValue211
  t152 := Tryz.underlying237
  a152 := Tryz.isAgg237
  z152 := Tryz.sizeOf237
  v152 := Tryz.zeroValue237
  t154 := Tryz.underlying239
  a154 := Tryz.isAgg239
  z154 := Tryz.sizeOf239
  v154 := Tryz.zeroValue239 }
open Go.RowKit Go.Lib in
theorem Tryz.strings_FieldsFunc (g : Nat) (lb : Array Value) (eg : ∀ args w, (callFunc g args).run Tryz.prog w = .ok (.enter g args) w) (p : Nat → Bool) (s : ByteArray) (w : World) (hs : s.size ≤ 4294967296) (hp : PredAt Tryz.prog g lb encR p w) :
    Calls Tryz.prog 229 #[.string s, .func (.func g) #[] lb] w fun e w' => ∃ A, e = .returned (.slice (some ⟨A, 0, none⟩) (Lib.goFieldsP p s).length (Lib.goFieldsP p s).length) ∧ w.heap.size ≤ A ∧
      w'.ownsRow w.heap.size 9 1 (.slice (some ⟨A, 0, none⟩) (Lib.goFieldsP p s).length (Lib.goFieldsP p s).length) (Lib.goFieldsP p s).length ((Lib.goFieldsP p s).map Value.string) ∧ Below w.heap.size w w' := Any.strings_FieldsFunc Tryz.lays229 g lb eg p s w hs hp (by kernel_rfl) (by kernel_rfl)
end Go.Proofs
namespace Go.Proofs.YtfmjfofocklgpaaGreatDoor
open Go.RowKit
/-- A string's cells. -/
def cStr (x : ByteArray) : List Tr := [.v (.string x)]
theorem tab_of_lb {ok : Nat → Prop} {w : World} (h : Lb ok w) : Go.Lib.TabIs Tryz.prog w "internal/strconv.uint64pow10" .u64 Go.Lib.pow10Tab := by
  have hg : Tryz.prog.globalNamed "internal/strconv.uint64pow10" = some 3 := by kernel_rfl
  obtain ⟨_, cs, T, fz, h2, h3⟩ := h (3, fun cs => cs = (Go.Lib.pow10Tab.map fun z => Value.int .u64 z).toArray) (by simp [TB])
  have h3 : cs = (Go.Lib.pow10Tab.map fun z => Value.int .u64 z).toArray := h3
  subst h3
  unfold Go.Lib.TabIs World.var?
  rw [hg]
  simp only [Option.bind_some, h2]
theorem lt_of_heap {w : World} {g : Nat} {o : Obj} (h : w.heap[g]? = some o) : g < w.heap.size := by
  by_cases hlt : g < w.heap.size
  · exact hlt
  · rw [Array.getElem?_eq_none (by omega)] at h
    cases h
theorem cells_of_tab {w : World} (h : Go.Lib.TabIs Tryz.prog w "internal/strconv.uint64pow10" .u64 Go.Lib.pow10Tab) : ∃ cs T fz, w.heap[3]? = some (.cells cs T fz) ∧ cs = (Go.Lib.pow10Tab.map fun z => Value.int .u64 z).toArray := by
  have hg : Tryz.prog.globalNamed "internal/strconv.uint64pow10" = some 3 := by kernel_rfl
  unfold Go.Lib.TabIs World.var? at h
  rw [hg] at h
  simp only [Option.bind_some] at h
  have key : ∀ (o : Option Obj) (cs : Array Value), (match o with | some (.cells cs _ _) => some cs | _ => none) = some cs → ∃ T fz, o = some (.cells cs T fz) := by
    intro o cs ho
    split at ho
    · rename_i cs2 T fz
      injection ho with ho
      subst ho
      exact ⟨T, fz, rfl⟩
    · cases ho
  obtain ⟨T, fz, he⟩ := key _ _ h
  exact ⟨_, T, fz, he, rfl⟩
theorem cell_heap {w : World} {g : Nat} {v : Value} (h : w.cell? ⟨g, 0, none⟩ = some v) : ∃ cs T fz, w.heap[g]? = some (.cells cs T fz) ∧ cs[0]? = some v := by
  unfold World.cell? at h
  split at h
  · rename_i c T fz hc
    exact ⟨c, T, fz, hc, by simpa using h⟩
  · cases h
theorem heap_cell {w : World} {g : Nat} {v : Value} {cs : Array Value} {T : TypeId} {fz : Nat × Nat} (h : w.heap[g]? = some (.cells cs T fz)) (hv : cs[0]? = some v) : w.cell? ⟨g, 0, none⟩ = some v := by
  simp [World.cell?, h, hv]
theorem lb_of_tab {ok : Nat → Prop} {w : World} (hok : ∀ g, g < w.heap.size → ok g) (h : Go.Lib.TabIs Tryz.prog w "internal/strconv.uint64pow10" .u64 Go.Lib.pow10Tab) (hm : ∃ m, w.cell? ⟨0, 0, none⟩ = some (.int .i64 m)) (he1 : ∃ te pe, w.cell? ⟨1, 0, none⟩ = some (.iface te pe)) (he2 : ∃ te pe, w.cell? ⟨2, 0, none⟩ = some (.iface te pe)) : Lb ok w := by
  intro p hp
  simp only [TB, List.mem_cons, List.not_mem_nil, or_false] at hp
  rcases hp with rfl | rfl | rfl | rfl
  · obtain ⟨cs, T, fz, h1, h2⟩ := cells_of_tab h
    exact ⟨hok _ (lt_of_heap h1), cs, T, fz, h1, h2⟩
  · obtain ⟨m, hm⟩ := hm
    obtain ⟨cs, T, fz, h1, h2⟩ := cell_heap hm
    exact ⟨hok _ (lt_of_heap h1), cs, T, fz, h1, m, h2⟩
  · obtain ⟨te, pe, he⟩ := he1
    obtain ⟨cs, T, fz, h1, h2⟩ := cell_heap he
    exact ⟨hok _ (lt_of_heap h1), cs, T, fz, h1, te, pe, h2⟩
  · obtain ⟨te, pe, he⟩ := he2
    obtain ⟨cs, T, fz, h1, h2⟩ := cell_heap he
    exact ⟨hok _ (lt_of_heap h1), cs, T, fz, h1, te, pe, h2⟩
theorem cf_strconv_Itoa : ∀ args w, (callFunc 117 args).run Tryz.prog w = .ok (.enter 117 args) w := run_callFunc Tryz.func117 (by kernel_rfl) (by kernel_rfl)
theorem s_strconv_Itoa {n : Int} {r : ByteArray} (h : r_strconv_Itoa n = some r) : zP Tryz.prog 117 [I n] (.c (.v (.string r))) [] :=
  CallS_itoa (fun ok w n hl h0 h1 => (Go.Proofs.Tryz.strconv_Itoa n h0 h1 w (tab_of_lb hl)).mono (by
    rintro e w' ⟨he, k, os, hw⟩
    subst hw
    refine ⟨he, rfl, rfl, rfl, ?_, fun q hq => ?_⟩
    · show w.heap.size ≤ (w.heap ++ os).size
      simp
    · show (w.heap ++ os)[q]? = w.heap[q]?
      exact Array.getElem?_append_left hq)) h
theorem max_of_lb {ok : Nat → Prop} {w : World} (h : Lb ok w) : ∃ m, w.cell? ⟨0, 0, none⟩ = some (.int .i64 m) := by
  obtain ⟨_, cs, T, fz, h2, m, h3⟩ := h (0, fun cs => ∃ m, cs[0]? = some (.int .i64 m)) (by simp [TB])
  exact ⟨m, heap_cell h2 h3⟩
theorem err1_of_lb {ok : Nat → Prop} {w : World} (h : Lb ok w) : ∃ te pe, w.cell? ⟨1, 0, none⟩ = some (.iface te pe) := by
  obtain ⟨_, cs, T, fz, h2, te, pe, h3⟩ := h (1, fun cs => ∃ te pe, cs[0]? = some (.iface te pe)) (by simp [TB])
  exact ⟨te, pe, heap_cell h2 h3⟩
theorem err2_of_lb {ok : Nat → Prop} {w : World} (h : Lb ok w) : ∃ te pe, w.cell? ⟨2, 0, none⟩ = some (.iface te pe) := by
  obtain ⟨_, cs, T, fz, h2, te, pe, h3⟩ := h (2, fun cs => ∃ te pe, cs[0]? = some (.iface te pe)) (by simp [TB])
  exact ⟨te, pe, heap_cell h2 h3⟩
theorem cf_strings_Split : ∀ args w, (callFunc 71 args).run Tryz.prog w = .ok (.enter 71 args) w := run_callFunc Tryz.func71 (by kernel_rfl) (by kernel_rfl)
theorem s_strings_Split {s sep : ByteArray} {r : List ByteArray} (h : r_strings_Split s sep = some r) : zP Tryz.prog 71 [.c (.v (.string s)), .c (.v (.string sep))] (.ow 0) [(0, .arr 9 1 (r.map cStr))] :=
  CallS_split (fun _ => rfl) (fun ok w s sep hl h1 h2 => by obtain ⟨m, hm⟩ := max_of_lb hl; exact Go.Proofs.Tryz.strings_Split s sep m w h1 hm h2) h
theorem cf_strconv_Atoi : ∀ args w, (callFunc 165 args).run Tryz.prog w = .ok (.enter 165 args) w := run_callFunc Tryz.func165 (by kernel_rfl) (by kernel_rfl)
theorem s_strconv_Atoi {s : ByteArray} {r : Int × Bool} (h : r_strconv_Atoi s = some r) : zP Tryz.prog 165 [.c (.v (.string s))] (.tc (I r.1) (.tc (.er r.2) .tn)) [] :=
  CallS_atoi (fun ok w s hl hs r hr => by
    obtain ⟨te1, pe1, h1⟩ := err1_of_lb hl
    obtain ⟨te2, pe2, h2⟩ := err2_of_lb hl
    unfold r_strconv_Atoi at hr
    rw [if_pos hs] at hr
    cases ha : Go.Lib.atoiAll s.data.toList with
    | ok v =>
      rw [ha] at hr
      injection hr with hr
      subst hr
      refine (Go.Proofs.Tryz.strconv_Atoi_ok s (by omega) v ha w).mono ?_
      rintro e w' ⟨he, hw⟩
      refine ⟨⟨_, he, .inl ⟨rfl, rfl⟩⟩, ?_⟩
      rcases hw with rfl | ⟨t, rfl⟩
      · exact Below.refl _ _
      · exact Go.Lib.bytesWorld_below _ _ _
    | «syntax» =>
      rw [ha] at hr
      injection hr with hr
      subst hr
      refine (Go.Proofs.Tryz.strconv_Atoi_syntax s hs ha _ w h1 (.inr ⟨te1, pe1, rfl⟩)).mono ?_
      rintro e w' ⟨N, he, _, _, hb⟩
      exact ⟨⟨_, he, .inr ⟨rfl, _, _, rfl⟩⟩, hb⟩
    | range =>
      rw [ha] at hr
      injection hr with hr
      subst hr
      refine (Go.Proofs.Tryz.strconv_Atoi_range s hs ha _ w h2 (.inr ⟨te2, pe2, rfl⟩)).mono ?_
      rintro e w' ⟨N, he, _, _, hb⟩
      exact ⟨⟨_, he, .inr ⟨rfl, _, _, rfl⟩⟩, hb⟩) h
theorem cf_strings_FieldsFunc : ∀ args w, (callFunc 229 args).run Tryz.prog w = .ok (.enter 229 args) w := run_callFunc Tryz.func229 (by kernel_rfl) (by kernel_rfl)
theorem s_FieldsFunc {s : ByteArray} {r : List ByteArray} {p : Nat → Bool} {g : Nat} (eg : ∀ args w, (callFunc g args).run Tryz.prog w = .ok (.enter g args) w) (hp : ∀ w, Go.Proofs.PredAt Tryz.prog g #[] (fun x : Nat => Value.int .i32 (x : Int)) p w) (h : r_strings_FieldsFunc p s = some r) : zP Tryz.prog 229 [.c (.v (.string s)), .c (.v (.func (.func g) #[] #[]))] (.ow 0) [(0, .arr 9 1 (r.map cStr))] := by
  unfold r_strings_FieldsFunc at h
  split at h
  · rename_i hn
    injection h with h
    subst h
    refine CallS_row (fun _ => rfl) fun ok σ w vs hok hlib hargs => ?_
    cases hargs with
    | cons h1 h2 =>
      cases h2 with
      | cons h3 h4 =>
        cases h4
        have := rel_str_inv h1
        subst this
        have h5 : Rd ok w (.v (.func (.func g) #[] #[])) _ := h3
        cases h5
        refine (Go.Proofs.Tryz.strings_FieldsFunc g #[] eg p s w hn (hp w)).mono ?_
        rintro e w' ⟨B, he, h6, h7, h8⟩
        exact ⟨B, _, he, h6, h7, h8⟩
  · cases h
end Go.Proofs.YtfmjfofocklgpaaGreatDoor
namespace Go.Proofs.YtfmjfofocklgpaaGreatDoor
open Go.RowKit
set_option linter.unusedSimpArgs false
set_option linter.unusedVariables false
section
variable (P : Program)
def ybin (op : BinOp) : AV → AV → Option AV
  | .c (.v (.int k a)), .c (.v (.int k2 b)) => match decEq k k2 with
    | isTrue _ => (match op with
      | .lss => some (Bo (ltI a b))
      | .leq => some (Bo (leI a b))
      | .gtr => some (Bo (ltI b a))
      | .geq => some (Bo (leI b a))
      | .eql => some (Bo (eqI a b))
      | .neq => some (Bo (!eqI a b))
      | _ => none)
    | isFalse _ => none
  | .c (.v (.string a)), .c (.v (.string b)) => match op with
    | .eql => some (Bo (a.toList == b.toList))
    | .neq => some (Bo (!(a.toList == b.toList)))
    | _ => none
  | _, _ => none
/-- The value of an operation that reads alone: more of them. -/
def yv (s : St) : Op → Option AV
  | .binOp op t x y _ => match ybin op (s.ev x) (s.ev y) with
    | some av => some av
    | none => (match s.ev x, s.ev y with
      | .c (.v (.bool a)), .c (.v (.bool b)) => (match P.underlying t with
        | some .bool => (match op with
          | .eql => some (Bo (a == b))
          | .neq => some (Bo (a != b))
          | _ => none)
        | _ => none)
      | _, _ => none)
  | .pick c x y => match s.ev c with
    | .c (.v (.bool b)) => nbA (bif b then s.ev x else s.ev y)
    | _ => none
  | .call c => match c with
    | ⟨.builtin .len, ⟨[x]⟩, ⟨[t]⟩⟩ => match P.underlying t, s.ev x with
      | some .string, .c (.v (.string b)) => some (I (b.size : Int))
      | _, _ => none
    | _ => none
  | _ => none
def yo (o : Oper) (s : St) : Option St := match xo P o s with
  | some s' => some s'
  | none => match o.dst with
    | some d => (match yv P s o.op with
      | some av => some (s.put d av)
      | none => none)
    | none => none
/-- The mark of an operation's guard. -/
def gdt (ops : Array Oper) (j : Nat) : Option Nat := (ops[j]?).bind (·.dst)
/-- Is an operation taken? -/
def yg (ops : Array Oper) (o : Oper) (s : St) : Option Bool := match o.guard with
  | none => some true
  | some (j, b) => match gdt ops j with
    | some t => match s.get t with
      | .c (.v (.bool c)) => some (bif c then b else !b)
      | .tn => some false
      | _ => none
    | none => none
def yr (ops : Array Oper) : List Oper → St → Option St
  | [], s => some s
  | o :: os, s => match yg ops o s with
    | some true => (match yo P o s with
      | some s' => yr ops os s'
      | none => none)
    | some false => (match o.dst with
      | some d => yr ops os (s.put d .tn)
      | none => none)
    | none => none
def yD (ops : Array Oper) (l : List Oper) (s : St) : St := (yr P ops l s).getD s
/-- The arguments of the call that comes first, if it is taken. -/
def yc (ops : Array Oper) (f : FuncId) (l : List Oper) (s : St) : Option (List AV) := match l with
  | o :: _ => match yg ops o s, o.dst with
    | some true, some _ => (match o.op with
      | .call ⟨.value (.func g), xs, _⟩ => bif Nat.beq g f then some (evL s xs.toList) else none
      | _ => none)
    | _, _ => none
  | [] => none
def ycn (ops : Array Oper) (f : FuncId) (n : Nat) (l : List Oper) (s : St) : Option (List AV) := match yr P ops (l.take n) s with
  | some s' => yc ops f (l.drop n) s'
  | none => none
end
def dstH : List Oper → Nat
  | o :: _ => o.dst.getD 0
  | [] => 0
section
variable {P : Program}
theorem ybin_ok {o : Oper} {s : St} {op : BinOp} {t t2 : TypeId} {x y : Operand} {av : AV} (ho : o.op = .binOp op t x y t2) (h : ybin op (s.ev x) (s.ev y) = some av) : Y0 P o s av := by
  generalize hx : s.ev x = a at h
  generalize hy : s.ev y = b at h
  unfold ybin at h
  split at h
  · split at h
    · rename_i hk _
      subst hk
      cases op <;> simp only [Option.some.injEq, reduceCtorEq] at h <;> subst h <;>
        first | exact Y0_eqw ho hx hy | exact Y0_new ho hx hy | exact Y0_ltw ho hx hy | exact Y0_lew ho hx hy | exact Y0_gtw ho hx hy | exact Y0_gew ho hx hy
    · cases h
  · cases op <;> simp only [Option.some.injEq, reduceCtorEq] at h <;> subst h <;>
      first | exact Y0_eqs ho hx hy | exact Y0_nes ho hx hy
  · cases h
theorem yv_ok {o : Oper} {s : St} {av : AV} (h : yv P s o.op = some av) : Y0 P o s av := by
  unfold yv at h
  split at h
  · rename_i ho
    split at h
    · rename_i hb; cases h; exact ybin_ok ho hb
    · split at h
      · rename_i hx hy
        split at h
        · rename_i hu
          split at h
          · cases h; exact Y0_eqb hu ho hx hy
          · cases h; exact Y0_neb hu ho hx hy
          · cases h
        · cases h
      · cases h
  · rename_i ho
    split at h
    · rename_i b hc
      obtain ⟨h1, h2⟩ := nbA_ok h
      rw [← h1]
      exact Y0_pick ho hc
    · cases h
  · rename_i ho
    split at h
    · rename_i x t
      split at h
      · rename_i b hu hx
        cases h
        exact Y0_lens hu ho hx
      · cases h
    · cases h
  · cases h
theorem yo_ok {o : Oper} {s s' : St} (h : yo P o s = some s') : X P o s s' := by
  unfold yo at h
  split at h
  · rename_i h1; cases h; exact xo_ok h1
  · split at h
    · rename_i d hd
      split at h
      · rename_i hv; cases h; exact X_of_Y0 hd (yv_ok hv)
      · cases h
    · cases h
theorem yg_take {ops : Array Oper} {o : Oper} {rest : List Oper} {s s' : St} {J : St → Prop} (hg : yg ops o s = some true) (h : X P o s s') (hk : XL P ops rest s' J) : XL P ops (o :: rest) s J := by
  unfold yg at hg
  split at hg
  · rename_i h1; exact XL_cons h1 h hk
  · rename_i j b h1
    split at hg
    · rename_i t ht
      split at hg
      · rename_i c hc
        have e : c = b := by cases c <;> cases b <;> simp_all
        subst e
        exact XL_take h1 ht hc h hk
      · cases hg
      · cases hg
    · cases hg
/-- An operation that is taken. -/
theorem YT {ops : Array Oper} {o : Oper} {rest : List Oper} {s s' : St} {J : St → Prop} (h : X P o s s') (hk : XL P ops rest s' J) (hg : yg ops o s = some true := by kernel_rfl) : XL P ops (o :: rest) s J := yg_take hg h hk
theorem yg_skip {ops : Array Oper} {o : Oper} {rest : List Oper} {s : St} {d : Nat} {J : St → Prop} (hg : yg ops o s = some false) (hd : o.dst = some d) (hk : XL P ops rest (s.put d .tn) J) : XL P ops (o :: rest) s J := by
  unfold yg at hg
  split at hg
  · cases hg
  · rename_i j b h1
    split at hg
    · rename_i t ht
      split at hg
      · rename_i c hc
        exact XL_skip h1 ht hc (by cases c <;> cases b <;> simp_all) hd hk
      · rename_i hc
        exact XL_skip2 h1 ht hc hd hk
      · cases hg
    · cases hg
theorem yr_ok {ops : Array Oper} {J : St → Prop} (rest : List Oper) : ∀ (l : List Oper) (s s' : St), yr P ops l s = some s' → XL P ops rest s' J → XL P ops (l ++ rest) s J
  | [], s, s', h, hk => by cases h; exact hk
  | o :: os, s, s', h, hk => by
    unfold yr at h
    split at h
    · rename_i hg
      split at h
      · rename_i s1 h1
        exact yg_take hg (yo_ok h1) (yr_ok rest os s1 s' h hk)
      · cases h
    · rename_i hg
      split at h
      · rename_i d hd
        exact yg_skip hg hd (yr_ok rest os _ s' h hk)
      · cases h
    · cases h
/-- A row of operations. -/
theorem YR (n : Nat) {ops : Array Oper} {rest : List Oper} {s : St} {J : St → Prop} (hk : XL P ops (rest.drop n) (yD P ops (rest.take n) s) J) (h : (yr P ops (rest.take n) s).isSome = true := by kernel_rfl) : XL P ops rest s J := by
  cases hx : yr P ops (rest.take n) s with
  | none => rw [hx] at h; cases h
  | some s' =>
    have e : yD P ops (rest.take n) s = s' := by unfold yD; rw [hx]; rfl
    rw [e] at hk
    have := yr_ok (ops := ops) (J := J) (rest.drop n) (rest.take n) s s' hx hk
    rwa [List.take_append_drop] at this
/-- The rest of a region: its state is not named. -/
theorem YF {ops : Array Oper} {rest : List Oper} {s : St} {K : St → Prop} (hk : K (yD P ops rest s)) (h : (yr P ops rest s).isSome = true := by kernel_rfl) : XL P ops rest s K := by
  cases hx : yr P ops rest s with
  | none => rw [hx] at h; cases h
  | some s' =>
    have e : yD P ops rest s = s' := by unfold yD; rw [hx]; rfl
    rw [e] at hk
    have := yr_ok (ops := ops) (J := K) [] rest s s' hx (zD hk)
    rwa [List.append_nil] at this
/-- The rest of a region, and its state. -/
theorem YE {ops : Array Oper} {rest : List Oper} {s s1 : St} {m : List Bool} {ids : List Nat} (h : (yr P ops rest s).map (fun s' => s'.keep m ids) = some s1 := by kernel_rfl) : XL P ops rest s (fun s' => s'.keep m ids = s1) := by
  cases hx : yr P ops rest s with
  | none => rw [hx] at h; cases h
  | some s' =>
    rw [hx] at h
    have h2 : s'.keep m ids = s1 := by injection h
    have := yr_ok (ops := ops) (J := fun s' => s'.keep m ids = s1) [] rest s s' hx (zD h2)
    rwa [List.append_nil] at this
/-- Some operations, and a call. -/
theorem YK (n : Nat) {ops : Array Oper} {rest : List Oper} {s : St} {J : St → Prop} {f : FuncId} {args : List AV} {av : AV} {ne : List (Nat × Ent)} (hS : zP P f args av ne) (hc : ∀ args w, (callFunc f args).run P w = .ok (.enter f args) w)
    (hk : XL P ops (rest.drop (n + 1)) ((yD P ops (rest.take n) s).upd (dstH (rest.drop n)) av ne) J) (h : ycn P ops f n rest s = some args := by kernel_rfl) : XL P ops rest s J := by
  unfold ycn at h
  split at h
  · rename_i s' hx
    have e : yD P ops (rest.take n) s = s' := by unfold yD; rw [hx]; rfl
    rw [e] at hk
    unfold yc at h
    split at h
    · rename_i o os hl
      split at h
      · rename_i d hg hd
        split at h
        · rename_i g xs ts ho
          cases hb : Nat.beq g f with
          | false => rw [hb, cond_false] at h; cases h
          | true =>
            rw [hb, cond_true] at h
            have hgf := Nat.eq_of_beq_eq_true hb
            subst hgf
            have e3 : rest.drop (n + 1) = os := by rw [← List.drop_drop, hl]; rfl
            rw [hl, e3, dstH, hd] at hk
            have := yr_ok (ops := ops) (J := J) (rest.drop n) (rest.take n) s s' hx (by rw [hl]; exact yg_take hg (X_of_Y1 hd (Y1_call hS hc ho (by injection h))) hk)
            rwa [List.take_append_drop] at this
        · cases h
      · cases h
    · cases h
  · cases h
/-- The mark on which the next operation hangs. -/
def gtH (ops : Array Oper) : List Oper → Nat
  | o :: _ => match o.guard with
    | some (j, _) => (gdt ops j).getD 0
    | none => match o.op with
      | .pick (.tmp t) _ _ => t
      | _ => 0
  | [] => 0
theorem put_get (s : St) (t : Nat) : s.put t (s.get t) = s := by
  cases s with
  | mk T E =>
    simp only [St.put, St.get]
    congr 1
    apply List.ext_getElem?
    intro i
    rw [List.getElem?_set]
    by_cases h : t = i
    · subst h
      by_cases h2 : t < T.length
      · simp [h2]
      · simp [h2]
    · simp [h]
/-- A mark whose truth is known. -/
theorem YQ {c v : Bool} (hc : c = v) {ops : Array Oper} {rest : List Oper} {s : St} {J : St → Prop} (hk : XL P ops rest (s.put (gtH ops rest) (Bo v)) J) (h : s.get (gtH ops rest) = Bo c := by kernel_rfl) : XL P ops rest s J := by
  subst hc
  rw [← h, put_get] at hk
  exact hk
/-- The way into a function. -/
abbrev CfW (P : Program) (f : FuncId) : Prop := ∀ args w, (callFunc f args).run P w = .ok (.enter f args) w
theorem cfW {f : FuncId} {fn : Func} (hf : P.funcs[f]? = some fn) (hn : (fn.name == "runtime.NumGoroutine") = false := by kernel_rfl) (hb : fn.body.isNone = false := by kernel_rfl) : CfW P f := run_callFunc hf hn hb
theorem fitsT : ∀ ks : List Nat, FitsL P (ks.map RS.t) (ks.map ResultVar.tmp)
  | [] => FitsL.nil
  | k :: ks => .cons rfl (fitsT ks)
theorem CtW (ks : List Nat) {f : FuncId} {fn : Func} {c : Code} {args : List AV} {av : AV} {ne : List (Nat × Ent)} (hf : P.funcs[f]? = some fn) (hb : fn.body = some c) (hvs : fn.results = (ks.map ResultVar.tmp).toArray) (n : Nat)
    (h : V P c ⟨args ++ List.replicate (n - args.length) .bot, []⟩ (Post (ks.map RS.t) av ne)) (hn : fn.ntmps = n := by kernel_rfl) (hl : Nat.ble (ks.map RS.t).length 8 = true := by kernel_rfl) : zP P f args av ne := zT hf hb hvs (fitsT ks) (Nat.le_of_ble_eq_true hl) n hn h
theorem VS {id : Nat} {ops : Array Oper} {y : Code} {s : St} {J : Exit → St → Prop} (h : XL P ops ops.toList s (fun s' => V P y s' J)) : V P (.seq (.region id ops false) y) s J := zF (zW h)
/-- A whole region of such operations. -/
theorem VE {id : Nat} {ops : Array Oper} {y : Code} {s : St} {J : Exit → St → Prop} (hv : V P y (yD P ops ops.toList s) J) (h : (yr P ops ops.toList s).isSome = true := by kernel_rfl) : V P (.seq (.region id ops false) y) s J := VS (YF hv h)
/-- Two roads. -/
theorem VC {c : Operand} {x y : Code} {s : St} {J : Exit → St → Prop} {b : Bool} {α : Type} {A B : Option α} {r : α} (h : (bif b then A else B) = some r) (ht : A = some r → V P x s J) (hf : B = some r → V P y s J) (hc : s.ev c = .c (.v (.bool b)) := by kernel_rfl) : V P (.cond c x y) s J :=
  V_cond hc (fun e => ht (zN h e)) (fun e => hf (zC h e))
/-- The end of a function. -/
theorem VT {rs : List RS} {av : AV} {ne : List (Nat × Ent)} {s : St} (h1 : nodup (ownsS s rs) = true := by kernel_rfl) (h2 : okSL s rs = true := by kernel_rfl) (h3 : outAllS s rs = (av, ne) := by kernel_rfl) : Post rs av ne .ret s := ⟨.inr rfl, h1, h2, h3⟩
theorem VDS {id : Nat} {l : List Oper} {y : Code} {s : St} {J : Exit → St → Prop} (ms : List Nat) (n1 : Nat) (css : List (List Cd))
    (h : DL P l ms n1 css (prep (l.take n1) s) [] (fun s' => XL P l.toArray (l.drop n1) s' (fun s'' => V P y s'' J))) (hm : P.follows .mixedOrders = true := by kernel_rfl) (hchk : drawOk l ms n1 css = true := by kernel_rfl) : V P (.seq (.region id l.toArray true) y) s J := zF (V_draw ms n1 css hm hchk h)
theorem VDR {id : Nat} {l : List Oper} {s : St} {J : Exit → St → Prop} (ms : List Nat) (n1 : Nat) (css : List (List Cd))
    (h : DL P l ms n1 css (prep (l.take n1) s) [] (fun s' => XL P l.toArray (l.drop n1) s' (J .normal))) (hm : P.follows .mixedOrders = true := by kernel_rfl) (hchk : drawOk l ms n1 css = true := by kernel_rfl) : V P (.region id l.toArray true) s J := V_draw ms n1 css hm hchk h
def zv (P : Program) (s : St) (op : Op) : Option AV := match xv P s op with
  | some av => some av
  | none => yv P s op
theorem zv_ok {o : Oper} {s : St} {av : AV} (h : zv P s o.op = some av) : Y0 P o s av := by
  unfold zv at h
  split at h
  · rename_i hx; cases h; exact xv_ok hx
  · exact yv_ok h
theorem gsat_yg {l : List Oper} {o : Oper} {S : St} (h : yg l.toArray o S = some true) : gsat l.toArray o S := by
  unfold yg at h
  split at h
  · rename_i h1; exact zI h1
  · rename_i j b h1
    split at h
    · rename_i t ht
      split at h
      · rename_i c hc
        have e : c = b := by cases c <;> cases b <;> simp_all
        subst e
        exact gsat_some h1 ht hc
      · cases h
      · cases h
    · cases h
theorem gun_yg {l : List Oper} {o : Oper} {S : St} (h : yg l.toArray o S = some false) : gun l.toArray o S := by
  unfold yg at h
  split at h
  · cases h
  · rename_i j b h1
    split at h
    · rename_i t ht
      split at h
      · rename_i c hc
        exact gun_some h1 ht hc (by cases c <;> cases b <;> simp_all)
      · rename_i hc
        exact gun_tn h1 ht hc
      · cases h
    · cases h
section
variable (P)
def er1 (l : List Oper) (ms : List Nat) (n1 : Nat) (css : List (List Cd)) (s0 : St) (rs : List Res) : Option (List Res) := match l[rs.length]?, css[rs.length]? with
  | some o, some c => bif Nat.blt rs.length n1 then (match yg l.toArray o (appC c (l.take n1) rs s0), o.dst with
    | some true, some _ => (match zv P (appC c (l.take n1) rs s0) o.op with
      | some av => bif mentOk ms rs.length av 0 (l.take n1) then some (rs ++ [.r0 av]) else none
      | none => match xn P (appC c (l.take n1) rs s0) o.op with
        | some r => bif keys8 r.2 && (makes o && r.1.small) then some (rs ++ [.r1 r.1 r.2]) else none
        | none => none)
    | some false, some _ => some (rs ++ [.r0 .tn])
    | some true, none => dr2 P l ms n1 css rs (appC c (l.take n1) rs s0) o.op
    | _, _ => none) else none
  | _, _ => none
def erN (l : List Oper) (ms : List Nat) (n1 : Nat) (css : List (List Cd)) (s0 : St) : Nat → List Res → Option (List Res)
  | 0, rs => some rs
  | k + 1, rs => match er1 P l ms n1 css s0 rs with
    | some rs' => erN l ms n1 css s0 k rs'
    | none => none
/-- The results so far. -/
def ego (l : List Oper) (ms : List Nat) (n1 : Nat) (css : List (List Cd)) (s0 : St) (k : Nat) (rs : List Res) : List Res := (erN P l ms n1 css s0 k rs).getD rs
/-- The state behind such a statement. -/
def efi (l : List Oper) (ms : List Nat) (n1 : Nat) (css : List (List Cd)) (s0 : St) (k : Nat) (rs : List Res) : St := fin (l.take n1) (ego P l ms n1 css s0 k rs) s0
def dfi (l : List Oper) (ms : List Nat) (n1 : Nat) (css : List (List Cd)) (s0 : St) (k : Nat) (rs : List Res) : St := yD P l.toArray (l.drop n1) (efi P l ms n1 css s0 k rs)
def dfo (l : List Oper) (ms : List Nat) (n1 : Nat) (css : List (List Cd)) (s0 : St) (k : Nat) (rs : List Res) : Bool := (yr P l.toArray (l.drop n1) (efi P l ms n1 css s0 k rs)).isSome
/-- The arguments of the next call of such a statement. -/
def dka (l : List Oper) (n1 : Nat) (css : List (List Cd)) (s0 : St) (f : FuncId) (rs : List Res) : Option (List AV) := match l[rs.length]?, css[rs.length]? with
  | some o, some c => match yg l.toArray o (appC c (l.take n1) rs s0), o.dst with
    | some true, some _ => (match o.op with
      | .call ⟨.value (.func g), xs, _⟩ => bif Nat.beq g f && (Nat.blt rs.length n1 && makes o) then some (evL (appC c (l.take n1) rs s0) xs.toList) else none
      | _ => none)
    | _, _ => none
  | _, _ => none
end
theorem er1_ok {l : List Oper} {ms : List Nat} {n1 : Nat} {css : List (List Cd)} {s0 : St} {rs rs' : List Res} {K : St → Prop} (h : er1 P l ms n1 css s0 rs = some rs') (hk : DL P l ms n1 css s0 rs' K) : DL P l ms n1 css s0 rs K := by
  unfold er1 at h
  split at h
  · rename_i o c ho hc
    cases hb : Nat.blt rs.length n1 with
    | false => rw [hb, cond_false] at h; cases h
    | true =>
      rw [hb, cond_true] at h
      split at h
      · rename_i d hg hd
        split at h
        · rename_i av hv
          cases hm : mentOk ms rs.length av 0 (l.take n1) with
          | false => rw [hm, cond_false] at h; cases h
          | true =>
            rw [hm, cond_true] at h
            cases h
            exact DE_0 rs.length av rfl hb ho hc (gsat_yg hg) hm (zv_ok hv) d hd hk
        · split at h
          · rename_i r hr
            cases hm : keys8 r.2 && (makes o && r.1.small) with
            | false => rw [hm, cond_false] at h; cases h
            | true =>
              rw [hm, cond_true] at h
              cases h
              rw [Bool.and_eq_true, Bool.and_eq_true] at hm
              exact DE_1 rs.length rfl hb ho hc (gsat_yg hg) (xn_ok hr) hm.1 hm.2.1 hm.2.2 d hd hk
          · cases h
      · rename_i d hg hd
        cases h
        exact DL_t (Nat.le_of_ble_eq_true hb) ho hc (gun_yg hg) ⟨d, hd⟩ hk
      · rename_i hg hd
        unfold dr2 at h
        split at h
        · rename_i t x y hop
          split at h
          · rename_i id off vc hx hy
            split at h
            · rename_i cs he
              cases hm : (sizeT P t == some vc.length) && Nat.ble (off + vc.length) cs.length && (colOk rs.length id css && (mkOk ms rs.length id 0 (l.take n1) && freshW id rs)) with
              | false => rw [hm, cond_false] at h; cases h
              | true =>
                rw [hm, cond_true] at h
                cases h
                rw [Bool.and_eq_true, Bool.and_eq_true, Bool.and_eq_true, Bool.and_eq_true, beq_iff_eq] at hm
                exact DE_2 rs.length id _ rfl hb ho hc (gsat_yg hg) hop hd hx he hy hm.1.1 (Nat.le_of_ble_eq_true hm.1.2) rfl hm.2.1 hm.2.2.1 hm.2.2.2 hk
            · cases h
          · cases h
        · cases h
      · cases h
  · cases h
theorem erN_ok {l : List Oper} {ms : List Nat} {n1 : Nat} {css : List (List Cd)} {s0 : St} {K : St → Prop} : ∀ (k : Nat) (rs rs' : List Res), erN P l ms n1 css s0 k rs = some rs' → DL P l ms n1 css s0 rs' K → DL P l ms n1 css s0 rs K
  | 0, rs, rs', h, hk => by cases h; exact hk
  | k + 1, rs, rs', h, hk => by
    unfold erN at h
    split at h
    · rename_i r1 h1
      exact er1_ok h1 (erN_ok k r1 rs' h hk)
    · cases h
theorem ER (k : Nat) {l : List Oper} {ms : List Nat} {n1 : Nat} {css : List (List Cd)} {s0 : St} {rs : List Res} {K : St → Prop} (hk : DL P l ms n1 css s0 (ego P l ms n1 css s0 k rs) K) (h : (erN P l ms n1 css s0 k rs).isSome = true := by kernel_rfl) : DL P l ms n1 css s0 rs K := by
  cases hx : erN P l ms n1 css s0 k rs with
  | none => rw [hx] at h; cases h
  | some r => rw [ego, hx] at hk; exact erN_ok k rs r hx hk
/-- All of the open part. -/
theorem EA (k : Nat) {l : List Oper} {ms : List Nat} {n1 : Nat} {css : List (List Cd)} {s0 : St} {rs : List Res} {K : St → Prop} (hk : K (efi P l ms n1 css s0 k rs)) (h : (erN P l ms n1 css s0 k rs).map List.length = some n1 := by kernel_rfl) : DL P l ms n1 css s0 rs K := by
  cases hx : erN P l ms n1 css s0 k rs with
  | none => rw [hx] at h; cases h
  | some r =>
    rw [efi, ego, hx] at hk
    rw [hx] at h
    exact erN_ok k rs r hx (DL_nil (by injection h) hk)
theorem dka_ok {l : List Oper} {ms : List Nat} {n1 : Nat} {css : List (List Cd)} {s0 : St} {rs : List Res} {K : St → Prop} {f : FuncId} {args : List AV} {av : AV} {ne : List (Nat × Ent)} (hS : zP P f args av ne) (hcf : ∀ args w, (callFunc f args).run P w = .ok (.enter f args) w)
    (h : DL P l ms n1 css s0 (rs ++ [.r1 av ne]) K) (ha : dka l n1 css s0 f rs = some args) (h1 : keys8 ne = true) (h3 : av.small = true) : DL P l ms n1 css s0 rs K := by
  unfold dka at ha
  split at ha
  · rename_i o c ho hc
    split at ha
    · rename_i d hg hd
      split at ha
      · rename_i g xs ts hop
        cases hb : Nat.beq g f && (Nat.blt rs.length n1 && makes o) with
        | false => rw [hb, cond_false] at ha; cases ha
        | true =>
          rw [hb, cond_true] at ha
          rw [Bool.and_eq_true, Bool.and_eq_true] at hb
          have hgf := Nat.eq_of_beq_eq_true hb.1
          subst hgf
          exact DE_1 rs.length rfl hb.2.1 ho hc (gsat_yg hg) (Y1_call hS hcf hop (by injection ha)) h1 hb.2.2 h3 d hd h
      · cases ha
    · cases ha
  · cases ha
/-- Some of its operations, and a call. -/
theorem EK (k : Nat) {l : List Oper} {ms : List Nat} {n1 : Nat} {css : List (List Cd)} {s0 : St} {rs : List Res} {K : St → Prop} {f : FuncId} {args : List AV} {av : AV} {ne : List (Nat × Ent)} (hS : zP P f args av ne) (hcf : ∀ args w, (callFunc f args).run P w = .ok (.enter f args) w)
    (h : DL P l ms n1 css s0 (ego P l ms n1 css s0 k rs ++ [.r1 av ne]) K) (hs : (erN P l ms n1 css s0 k rs).bind (dka l n1 css s0 f) = some args := by kernel_rfl) (h1 : keys8 ne = true := by kernel_rfl) (h3 : av.small = true := by kernel_rfl) : DL P l ms n1 css s0 rs K := by
  cases hx : erN P l ms n1 css s0 k rs with
  | none => rw [hx] at hs; cases hs
  | some r =>
    rw [ego, hx] at h
    rw [hx] at hs
    exact erN_ok k rs r hx (dka_ok hS hcf h hs h1 h3)
/-- All of the open part, and what comes behind it. -/
theorem EF (k : Nat) {l : List Oper} {ms : List Nat} {n1 : Nat} {css : List (List Cd)} {s0 : St} {rs : List Res} {K : St → Prop} (hk : K (dfi P l ms n1 css s0 k rs)) (h : (erN P l ms n1 css s0 k rs).map List.length = some n1 := by kernel_rfl)
    (h2 : dfo P l ms n1 css s0 k rs = true := by kernel_rfl) : DL P l ms n1 css s0 rs (fun s' => XL P l.toArray (l.drop n1) s' K) := EA k (YF hk h2) h
/-- An operation with a value. -/
theorem E0 (j : Nat) {l : List Oper} {ms : List Nat} {n1 : Nat} {css : List (List Cd)} {s0 : St} {rs : List Res} {K : St → Prop} {o : Oper} {c : List Cd} {av : AV} (ho : l[j]? = some o) (hc : css[j]? = some c) (hY : Y0 P o (appC c (l.take n1) rs s0) av) (h : DL P l ms n1 css s0 (rs ++ [.r0 av]) K)
    (hj : rs.length = j := by kernel_rfl) (hlt : Nat.blt j n1 = true := by kernel_rfl) (hg : yg l.toArray o (appC c (l.take n1) rs s0) = some true := by kernel_rfl) (hm : mentOk ms j av 0 (l.take n1) = true := by kernel_rfl) (hd : o.dst.isSome = true := by kernel_rfl) : DL P l ms n1 css s0 rs K := by
  obtain ⟨d, hd⟩ := Option.isSome_iff_exists.mp hd
  exact DE_0 j av hj hlt ho hc (gsat_yg hg) hm hY d hd h
/-- An operation that makes memory. -/
theorem E1 (j : Nat) {l : List Oper} {ms : List Nat} {n1 : Nat} {css : List (List Cd)} {s0 : St} {rs : List Res} {K : St → Prop} {o : Oper} {c : List Cd} {av : AV} {ne : List (Nat × Ent)} (ho : l[j]? = some o) (hc : css[j]? = some c) (hY : Y1 P o (appC c (l.take n1) rs s0) av ne) (h : DL P l ms n1 css s0 (rs ++ [.r1 av ne]) K)
    (hj : rs.length = j := by kernel_rfl) (hlt : Nat.blt j n1 = true := by kernel_rfl) (hg : yg l.toArray o (appC c (l.take n1) rs s0) = some true := by kernel_rfl) (h1 : keys8 ne = true := by kernel_rfl) (h2 : makes o = true := by kernel_rfl) (h3 : av.small = true := by kernel_rfl) (hd : o.dst.isSome = true := by kernel_rfl) : DL P l ms n1 css s0 rs K := by
  obtain ⟨d, hd⟩ := Option.isSome_iff_exists.mp hd
  exact DE_1 j hj hlt ho hc (gsat_yg hg) hY h1 h2 h3 d hd h
def idT (t : Nat) : List Oper → Nat → Nat
  | [], _ => 0
  | o :: os, k => match o.dst with
    | some d => bif Nat.beq d t then k else idT t os (k + 1)
    | none => idT t os (k + 1)
/-- The mark on which the next operation hangs. -/
def gtD (l : List Oper) (rs : List Res) : Nat := match l[rs.length]? with
  | some o => (match o.guard with
    | some (j, _) => j
    | none => match o.op with
      | .pick (.tmp t) _ _ => idT t l 0
      | _ => 0)
  | none => 0
/-- A mark whose truth is known. -/
theorem EQ {c v : Bool} (hc : c = v) {l : List Oper} {ms : List Nat} {n1 : Nat} {css : List (List Cd)} {s0 : St} {rs : List Res} {K : St → Prop} (hk : DL P l ms n1 css s0 (rs.set (gtD l rs) (.r0 (Bo v))) K) (h : rs[gtD l rs]? = some (.r0 (Bo c)) := by kernel_rfl) : DL P l ms n1 css s0 rs K := by
  subst hc
  have e : rs.set (gtD l rs) (.r0 (Bo c)) = rs := by
    apply List.ext_getElem?
    intro i
    rw [List.getElem?_set]
    by_cases hi : gtD l rs = i
    · subst hi
      have hlt : gtD l rs < rs.length := by
        by_cases h2 : gtD l rs < rs.length
        · exact h2
        · rw [List.getElem?_eq_none (by omega)] at h; cases h
      rw [if_pos rfl, if_pos hlt, h]
    · rw [if_neg hi]
  rwa [e] at hk
end
end Go.Proofs.YtfmjfofocklgpaaGreatDoor
namespace Go.Proofs.YtfmjfofocklgpaaGreatDoor
open Go.RowKit
set_option linter.unusedSimpArgs false
set_option linter.unusedVariables false
theorem ba_beq (a b : ByteArray) : (a == b) = decide (a = b) := by
  have h : (a == b) = (a.data == b.data) := rfl
  rw [h, Bool.eq_iff_iff, beq_iff_eq, decide_eq_true_iff]
  constructor
  · intro h
    cases a
    cases b
    exact congrArg _ h
  · intro h
    rw [h]
section
variable {κ ν : Type} [DecidableEq κ]
theorem ixM_none {a : κ} : ∀ {m : List (κ × ν)}, ixM a (m.map Prod.fst) = none → mGet a m = none ∧ ∀ v, mPut a v m = m ++ [(a, v)]
  | [], _ => ⟨rfl, fun _ => rfl⟩
  | p :: ps, h => by
    simp only [List.map_cons, ixM] at h
    by_cases e : a = p.1
    · rw [if_pos e] at h; cases h
    · rw [if_neg e] at h
      have h2 : ixM a (ps.map Prod.fst) = none := by simpa using h
      obtain ⟨k1, k2⟩ := ixM_none h2
      exact ⟨by unfold mGet; rw [if_neg e, k1], fun v => by unfold mPut; rw [if_neg e, k2]; rfl⟩
theorem ixM_some {a : κ} : ∀ {m : List (κ × ν)} {j : Nat}, ixM a (m.map Prod.fst) = some j → ∃ v0, m[j]? = some (a, v0) ∧ mGet a m = some v0 ∧ ∀ v, mPut a v m = m.set j (a, v)
  | [], j, h => by cases h
  | p :: ps, j, h => by
    simp only [List.map_cons, ixM] at h
    by_cases e : a = p.1
    · rw [if_pos e] at h
      injection h with h
      subst h
      refine ⟨p.2, by rw [e]; rfl, by unfold mGet; rw [if_pos e], fun v => by unfold mPut; rw [if_pos e]; rfl⟩
    · rw [if_neg e] at h
      cases h2 : ixM a (ps.map Prod.fst) with
      | none => rw [h2] at h; cases h
      | some i =>
        rw [h2] at h
        injection h with h
        subst h
        obtain ⟨v0, k1, k2, k3⟩ := ixM_some h2
        exact ⟨v0, by simpa using k1, by unfold mGet; rw [if_neg e, k2], fun v => by unfold mPut; rw [if_neg e, k3]; rfl⟩
end
section
variable {P : Program}
/-- A type of keys: what a key is, and that the model finds it. -/
structure KeyT (P : Program) {κ : Type} [DecidableEq κ] (kt : TypeId) (ek : κ → Value) : Prop where
  chk : ∀ b a w, (Instr.checkKey b 10000 kt (ek a)).run P w = .ok () w
  find : ∀ a (es : List MapEntry) (ks : List κ) w, es.map (·.key) = ks.map ek → (Instr.findKey kt (ek a) es).run P w = .ok ((ixM a ks).bind fun j => (es[j]?).map fun e => (j, e.val)) w
  bits : ∀ a, Instr.sameBits 10000 (ek a) (ek a) = true
theorem findNow_run {κ : Type} [DecidableEq κ] {d : TypeDesc} {ek : κ → Value} (hs : ∀ a b, Instr.sameNow d (ek a) (ek b) = some (decide (a = b))) (a : κ) : ∀ (es : List MapEntry) (ks : List κ) (i : Nat), es.map (·.key) = ks.map ek →
    Instr.findNow d (ek a) es i = some ((ixM a ks).bind fun j => (es[j]?).map fun e => (i + j, e.val))
  | [], [], i, _ => rfl
  | [], k :: ks, i, h => by simp at h
  | e :: es, [], i, h => by simp at h
  | e :: es, k :: ks, i, h => by
    simp only [List.map_cons, List.cons.injEq] at h
    have ih := findNow_run hs a es ks (i + 1) h.2
    unfold Instr.findNow
    rw [h.1, hs]
    by_cases e1 : a = k
    · simp [e1, ixM]
    · simp only [decide_eq_false e1, ih, ixM, if_neg e1]
      cases ixM a ks with
      | none => rfl
      | some j =>
        simp only [Option.bind_some, Option.map_some, List.getElem?_cons_succ]
        rw [show i + 1 + j = i + (j + 1) by omega]
theorem keyT_now {κ : Type} [DecidableEq κ] {kt : TypeId} {ek : κ → Value} (d : TypeDesc) (hd : P.underlying kt = some d) (chk : ∀ b a w, (Instr.checkKey b 10000 kt (ek a)).run P w = .ok () w) (hs : ∀ a b, Instr.sameNow d (ek a) (ek b) = some (decide (a = b)))
    (bits : ∀ a, Instr.sameBits 10000 (ek a) (ek a) = true) : KeyT P kt ek := by
  refine ⟨chk, fun a es ks w h => ?_, bits⟩
  unfold Instr.findKey
  simp only [Sem.run_bind, run_underlying hd, Result.andThen_ok]
  have := findNow_run hs a es ks 0 h
  simp only [Nat.zero_add] at this
  rw [this]
  rfl
theorem run_zero {t : TypeId} {z : Value} (h : (P.info? t).bind (·.zero) = some z) (w : World) : (zeroValue t).run P w = .ok z w := by
  cases hi : P.info? t with
  | none => rw [hi] at h; cases h
  | some i =>
    rw [hi] at h
    have h2 : i.zero = some z := h
    simp [zeroValue, typeInfo, hi, h2]
/-- What the model reads in a map that is a list. -/
theorem run_lookupM {κ ν : Type} [DecidableEq κ] {ek : κ → Value} {ev : ν → Value} {t kt vt : TypeId} {z : ν} (ht : P.underlying t = some (.map kt vt)) (hk : KeyT P kt ek) (hz : (P.info? vt).bind (·.zero) = some (ev z)) {w : World} {b : Nat} {es : Array MapEntry} {clock : Nat} (hb : w.heap[b]? = some (.map es clock))
    {m : List (κ × ν)} (hm : es.toList.map kvOf = m.map fun p => (ek p.1, ev p.2)) (a : κ) (co : Bool) :
    (Instr.lookup t (.map (some b)) (ek a) co).run P w = .ok (if co then .tuple #[ev (mAt a m z), .bool (mHas a m)] else ev (mAt a m z)) w := by
  have hkeys : es.toList.map (·.key) = (m.map Prod.fst).map ek := by
    have := congrArg (List.map Prod.fst) hm
    simpa [kvOf, Function.comp_def] using this
  have hf := hk.find a es.toList (m.map Prod.fst) w hkeys
  unfold Instr.lookup
  simp only [Sem.run_bind, run_underlying ht, Result.andThen_ok, MapKept.run_getObj_map hb, Sem.run_pure, hk.chk, hf]
  cases hi : ixM a (m.map Prod.fst) with
  | none =>
    obtain ⟨k1, _⟩ := ixM_none hi
    simp only [Option.bind_none, Sem.run_bind, run_zero hz, Result.andThen_ok, Sem.run_pure, mAt, mHas, k1, Option.getD_none, Option.isSome_none]
  | some j =>
    obtain ⟨v0, k1, k2, _⟩ := ixM_some hi
    have he : ∃ e, es.toList[j]? = some e ∧ e.val = ev v0 := by
      have h1 := congrArg (fun l => l[j]?) hm
      simp only [List.getElem?_map, k1, Option.map_some] at h1
      cases h2 : es.toList[j]? with
      | none => rw [h2] at h1; cases h1
      | some e =>
        rw [h2] at h1
        simp only [Option.map_some, Option.some.injEq, kvOf, Prod.mk.injEq] at h1
        exact ⟨e, rfl, h1.2⟩
    obtain ⟨e, e1, e2⟩ := he
    simp only [Option.bind_some, e1, Option.map_some, Sem.run_bind, Sem.run_pure, Result.andThen_ok, mAt, mHas, k2, Option.getD_some, Option.isSome_some, e2]
/-- What the model writes into a map that is a list. -/
theorem run_mapUpdateM {κ ν : Type} [DecidableEq κ] {ek : κ → Value} {ev : ν → Value} {t kt vt : TypeId} (ht : P.underlying t = some (.map kt vt)) (hk : KeyT P kt ek) {w : World} {b : Nat} {es : Array MapEntry} {clock : Nat} (hb : w.heap[b]? = some (.map es clock))
    {m : List (κ × ν)} (hm : es.toList.map kvOf = m.map fun p => (ek p.1, ev p.2)) (a : κ) (v : ν) :
    ∃ es' clock', (Instr.mapUpdate t (.map (some b)) (ek a) (ev v)).run P w = .ok () { w with heap := w.heap.setIfInBounds b (.map es' clock') } ∧ es'.toList.map kvOf = (mPut a v m).map fun p => (ek p.1, ev p.2) := by
  have hkeys : es.toList.map (·.key) = (m.map Prod.fst).map ek := by
    have := congrArg (List.map Prod.fst) hm
    simpa [kvOf, Function.comp_def] using this
  have hf := hk.find a es.toList (m.map Prod.fst) w hkeys
  cases hi : ixM a (m.map Prod.fst) with
  | none =>
    obtain ⟨_, k2⟩ := ixM_none hi
    refine ⟨es.push { key := ek a, val := ev v, born := clock }, clock + 1, ?_, ?_⟩
    · unfold Instr.mapUpdate
      rw [hi] at hf
      simp only [Sem.run_bind, run_underlying ht, Result.andThen_ok, MapKept.run_getObj_map hb, Sem.run_pure, hk.chk, hf, Option.bind_none, MapKept.run_setObj_map _ hb]
    · rw [k2]
      simp [hm, kvOf]
  | some j =>
    obtain ⟨v0, k1, _, k3⟩ := ixM_some hi
    have he : ∃ e, es.toList[j]? = some e ∧ e.key = ek a := by
      have h1 := congrArg (fun l => l[j]?) hm
      simp only [List.getElem?_map, k1, Option.map_some] at h1
      cases h2 : es.toList[j]? with
      | none => rw [h2] at h1; cases h1
      | some e =>
        rw [h2] at h1
        simp only [Option.map_some, Option.some.injEq, kvOf, Prod.mk.injEq] at h1
        exact ⟨e, rfl, h1.1⟩
    obtain ⟨e, e1, e2⟩ := he
    have e3 : es[j]? = some e := by simpa using e1
    refine ⟨es.modify j fun e => { e with key := ek a, val := ev v }, clock, ?_, ?_⟩
    · unfold Instr.mapUpdate
      rw [hi] at hf
      simp only [Sem.run_bind, run_underlying ht, Result.andThen_ok, MapKept.run_getObj_map hb, Sem.run_pure, hk.chk, hf, Option.bind_some, e1, Option.map_some, e3, Option.getD_some, e2, Instr.keyThatStays, hk.bits, if_true, MapKept.run_setObj_map _ hb]
    · rw [k3, Array.toList_modify]
      apply List.ext_getElem?
      intro i
      have h1 := congrArg (fun l => l[i]?) hm
      simp only [List.getElem?_map] at h1 ⊢
      rw [List.getElem?_modify, List.getElem?_set]
      by_cases hij : j = i
      · subst hij
        have hlt : j < m.length := (List.getElem?_eq_some_iff.1 k1).1
        simp [e1, hlt, kvOf]
      · simp only [hij, if_false, Option.map_map]
        rw [← h1]
        cases es.toList[i]? <;> rfl
/-- A map of the call's own is written. -/
theorem R.writeG {B : Fr} {w0 : World} {ok0 ok : Nat → Prop} {σ : Nat → Loc} {s : St} {a : Act} {w w' : World} (h : R B w0 ok0 ok σ s a w) {id : Nat} {e e' : Ent} {g : Nat} (he : s.ent id = some e) (hg : (σ id).blk = some g) (hsize : w'.heap.size = w.heap.size)
    (hw : ∀ q, q ≠ g → w'.heap[q]? = w.heap[q]?) (hos : w'.os = w.os) (htp : w'.tape = w.tape) (hou : w'.output = w.output) (E' : List (Nat × Ent)) (hE : ∀ j, (E'.lookup j) = if j = id then some e' else s.ent j) (hok : EntOk ok w' (σ id) e') (hpin : e'.pin = e.pin) :
    R B w0 ok0 ok σ ⟨s.T, E'⟩ a w' := by
  obtain ⟨hb1, hb2⟩ := h.core.blk id e g he hg
  have hB := h.own id e g he hg
  have hwok : ∀ q, ok q → w'.heap[q]? = w.heap[q]? := fun q hq => hw q fun e => hb1 (e ▸ hq)
  have look : ∀ j f, (St.mk s.T E').ent j = some f → (j = id ∧ f = e') ∨ (j ≠ id ∧ s.ent j = some f) := by
    intro j f hj
    have h1 : E'.lookup j = some f := hj
    rw [hE] at h1
    split at h1
    · rename_i hji
      exact .inl ⟨hji, by simpa using h1.symm⟩
    · rename_i hji
      exact .inr ⟨hji, h1⟩
  refine ⟨⟨h.core.len, fun q hq => by rw [hsize]; exact h.core.okL q hq, h.core.lib.mono (fun _ h => h) hwok, fun t => ?_, fun j f hj => ?_, fun j f q hj hq => ?_, fun i j f1 f2 q hi hj h1 h2 => ?_⟩, h.defers, h.below.trans ?_, by rw [hsize]; exact h.base, h.old, h.fresh, fun j f q hj hq => ?_⟩
  · have h1 := h.core.tmp t
    exact h1.mono0 (fun _ h => h) hwok
  · rcases look j f hj with ⟨rfl, rfl⟩ | ⟨h1, h2⟩
    · exact hok
    · refine (h.core.ent j f h2).mono (fun _ h => h) hwok fun q hq => hw q fun e1 => ?_
      subst e1
      exact h1 (h.core.inj _ _ _ _ _ h2 he hq hg)
  · rw [hsize]
    rcases look j f hj with ⟨rfl, rfl⟩ | ⟨h1, h2⟩
    · exact h.core.blk _ _ _ he hq
    · exact h.core.blk _ _ _ h2 hq
  · rcases look i f1 hi with ⟨a1, a2⟩ | ⟨a1, a2⟩ <;> rcases look j f2 hj with ⟨b1, b2⟩ | ⟨b1, b2⟩
    · omega
    · subst a1
      exact h.core.inj _ _ _ _ _ he b2 h1 h2
    · subst b1
      exact h.core.inj _ _ _ _ _ a2 he h1 h2
    · exact h.core.inj _ _ _ _ _ a2 b2 h1 h2
  · refine ⟨hos, htp, hou, by rw [hsize]; exact Nat.le_refl _, fun q hq hx => hw q fun e1 => ?_⟩
    subst e1
    split at hB
    · exact hx hB
    · omega
  · rcases look j f hj with ⟨rfl, rfl⟩ | ⟨h1, h2⟩
    · rw [hpin]
      exact h.own _ _ _ he hq
    · exact h.own _ _ _ h2 hq
def trV : Tr → Option Value
  | .v x => some x
  | _ => none
/-- A slot's value that is known. -/
def keyV : AV → Option Value
  | .c (.v x) => some x
  | .ag cs => (cs.mapM trV).map fun xs => .agg xs.toArray
  | _ => none
theorem mapM_v {ok : Nat → Prop} {w : World} : ∀ (cs : List Tr) (vs xs : List Value), RdL ok w cs vs → (cs.mapM trV) = some xs → vs = xs
  | [], _, xs, .nil, h => by simpa using h
  | c :: cs, _, xs, .cons h1 h2, h => by
    rw [List.mapM_cons] at h
    cases c with
    | v x =>
      simp only [trV, Option.pure_def, Option.bind_eq_bind, Option.bind_some] at h
      cases h3 : (cs.mapM trV) with
      | none => rw [h3] at h; cases h
      | some ys =>
        rw [h3] at h
        simp only [Option.bind_some, Option.some.injEq] at h
        subst h
        have := mapM_v cs _ ys h2 h3
        subst this
        cases h1
        rfl
    | sl e => simp [trV] at h
    | mp e => simp [trV] at h
theorem keyV_eval {ok : Nat → Prop} {σ : Nat → Loc} {s : St} {a : Act} {w : World} (h : Core ok σ s a w) {x : Operand} {v : Value} (hx : keyV (s.ev x) = some v) : a.eval x = v := by
  have h1 := h.ev x
  cases hs : s.ev x with
  | c t =>
    rw [hs] at hx
    cases t with
    | v y =>
      injection hx with hx
      subst hx
      exact h.exact hs
    | sl e => cases hx
    | mp e => cases hx
  | ag cs =>
    rw [hs] at hx h1
    obtain ⟨vs, hv, hr⟩ := (h1 : Rel1 ok σ w (.ag cs) (a.eval x))
    simp only [keyV, Option.map_eq_some_iff] at hx
    obtain ⟨xs, h2, h3⟩ := hx
    have := mapM_v cs vs.toList xs hr h2
    rw [hv, ← h3, ← this]
  | bot => rw [hs] at hx; cases hx
  | ow _ => rw [hs] at hx; cases hx
  | pt _ _ => rw [hs] at hx; cases hx
  | po _ _ _ _ => rw [hs] at hx; cases hx
  | pe _ => rw [hs] at hx; cases hx
  | fn _ _ => rw [hs] at hx; cases hx
  | er _ => rw [hs] at hx; cases hx
  | vw _ _ _ => rw [hs] at hx; cases hx
  | sf _ _ _ => rw [hs] at hx; cases hx
  | tn => rw [hs] at hx; cases hx
  | tc _ _ => rw [hs] at hx; cases hx
def MpOk (P : Program) (t : TypeId) {κ ν : Type} [DecidableEq κ] (ek : κ → Value) (ev : ν → Value) (z : ν) : Prop := ∃ kt vt, P.underlying t = some (.map kt vt) ∧ KeyT P kt ek ∧ (P.info? vt).bind (·.zero) = some (ev z) ∧ ∀ v, (ev v).oneCell' = true
theorem lookup_own {ok : Nat → Prop} {σ : Nat → Loc} {s : St} {a : Act} {w : World} (h : Core ok σ s a w) {x : Operand} {id b : Nat} {kvs : List (Value × Value)} (hx : s.ev x = .c (.v (.map (some b)))) (he : s.ent id = some (.mp b kvs)) : a.eval x = .map (some b) ∧ ∃ es clock, w.heap[b]? = some (.map es clock) ∧ es.toList.map kvOf = kvs := by
  obtain ⟨h1, es, clock, h2, h3⟩ := h.ent id _ he
  exact ⟨h.exact hx, es, clock, h2, h3⟩
theorem Y0_lookM {o : Oper} {s : St} {x k : Operand} {t : TypeId} {κ ν : Type} [DecidableEq κ] {ek : κ → Value} {ev : ν → Value} {z : ν} {id b : Nat} {m : List (κ × ν)} {a : κ} (hm : MpOk P t ek ev z) (ho : o.op = .lookup t x k false) (hx : s.ev x = .c (.v (.map (some b)))) (he : s.ent id = some (.mp b (m.map fun p => (ek p.1, ev p.2)))) (hk : keyV (s.ev k) = some (ek a)) :
    Y0 P o s (.c (.v (ev (mAt a m z)))) :=
  Y0_of_run fun ok σ ac w hC => by
    obtain ⟨kt, vt, h1, h2, h3, h4⟩ := hm
    obtain ⟨e1, es, clock, e2, e3⟩ := lookup_own hC hx he
    have := run_lookupM h1 h2 h3 e2 e3 a false
    refine ⟨_, ?_, Rd.v _ (h4 _)⟩
    unfold execOp
    rw [ho]
    simp only [e1, keyV_eval hC hk, Sem.run_bind, this, Result.andThen_ok, Sem.run_pure]
    rfl
theorem X_putM {o : Oper} {s : St} {x k v : Operand} {t : TypeId} {κ ν : Type} [DecidableEq κ] {ek : κ → Value} {ev : ν → Value} {z : ν} {id b : Nat} {m : List (κ × ν)} {a : κ} {u : ν} (hm : MpOk P t ek ev z) (ho : o.op = .mapUpdate t x k v ∨ o.op = .insert t x k v) (hd : o.dst = none) (hx : s.ev x = .c (.v (.map (some b)))) (he : s.ent id = some (.mp b (m.map fun p => (ek p.1, ev p.2)))) (hk : keyV (s.ev k) = some (ek a)) (hv : s.ev v = .c (.v (ev u))) :
    X P o s ⟨s.T, setE id (.mp b ((mPut a u m).map fun p => (ek p.1, ev p.2))) s.E⟩ := by
  intro B w0 ok0 ok σ ac w hR K Q hK
  obtain ⟨kt, vt, h1, h2, h3, h4⟩ := hm
  obtain ⟨e1, es, clock, e2, e3⟩ := lookup_own hR.core hx he
  obtain ⟨es', clock', r1, r2⟩ := run_mapUpdateM h1 h2 e2 e3 a u
  have ek1 := keyV_eval hR.core hk
  have ev1 := hR.core.exact hv
  have hblk := (hR.core.ent id _ he).1
  have hset := MapKept.heap_set (o' := .map es' clock') e2
  have hR' := hR.writeG (w' := { w with heap := w.heap.setIfInBounds b (.map es' clock') }) he hblk (by simp) (fun q hq => hset.2 q hq) rfl rfl rfl _ (setE_look id (.mp b ((mPut a u m).map fun p => (ek p.1, ev p.2))) s.E _ he) ⟨hblk, es', clock', hset.1, r2⟩ rfl
  have hrun : (execOp ac.eval o).run P w = .ok .skip { w with heap := w.heap.setIfInBounds b (.map es' clock') } := by
    unfold execOp
    rcases ho with ho | ho <;> rw [ho] <;> simp only [e1, ek1, ev1, Sem.run_bind, r1, Result.andThen_ok, Sem.run_pure]
  unfold Oper.wp
  rw [hrun]
  show K (ac.put o.dst undef) _
  rw [hd]
  exact hK _ _ _ _ hR'
/-- A map is made: its place is known from then on. -/
theorem XL_mkmap {ops : Array Oper} {o : Oper} {rest : List Oper} {s : St} {J : St → Prop} {t : TypeId} {d : Nat} (hg : o.guard = none) (ho : o.op = .makeMap t none) (hd : o.dst = some d) (hk : ∀ b : Nat, XL P ops rest ⟨(killT d s.T).set d (.c (.v (.map (some b)))), (d * 8, .mp b []) :: killE d s.E⟩ J) : XL P ops (o :: rest) s J := by
  intro B w0 ok0 ok σ a w hR Q hQ
  refine wpList_plain hg fun K hK => ?_
  have hnew : New w (w.alloc (.map #[] 0)) ok ok (fun _ => ⟨some w.heap.size, 0, 0⟩) (.c (.v (.map (some w.heap.size)))) [(0, .mp w.heap.size [])] (.map (some w.heap.size)) := by
    have ha := MapKept.heap_alloc w (.map #[] 0)
    have hsz : (w.alloc (.map #[] 0)).heap.size = w.heap.size + 1 := by
      show (w.heap.push _).size = _
      simp
    refine ⟨⟨rfl, rfl, rfl, by omega, fun k hk => ha.2 k hk⟩, fun _ h => h, fun _ h => .inl h, fun g hg => by have := hR.core.okL g hg; omega, Rd.v _ rfl, fun id e he => ?_, fun e he => rfl, fun id e he => ?_, fun id e g he hg => ?_, fun i j e f g hi hj _ _ => ?_, fun id e he => ?_⟩
    · obtain ⟨h1, _⟩ := look_one _ _ _ _ he; omega
    · obtain ⟨h1, h2⟩ := look_one _ _ _ _ he
      subst h2
      exact ⟨rfl, #[], 0, ha.1, rfl⟩
    · have e1 : w.heap.size = g := by simpa using hg
      subst e1
      exact ⟨Nat.le_refl _, fun h => Nat.lt_irrefl _ (hR.core.okL _ h), by omega⟩
    · obtain ⟨h1, _⟩ := look_one _ _ _ _ hi
      obtain ⟨h2, _⟩ := look_one _ _ _ _ hj
      omega
    · obtain ⟨_, h2⟩ := look_one _ _ _ _ he
      subst h2; rfl
  have hrun : (execOp a.eval o).run P w = .ok (.value (.map (some w.heap.size))) (w.alloc (.map #[] 0)) := by
    unfold execOp
    rw [ho]
    simp [Instr.makeMap]
  have hR' := hR.upd (d := d) hnew
  unfold Oper.wp
  rw [hrun]
  show K (a.put o.dst _) _
  rw [hd]
  exact hK _ _ (hk w.heap.size B w0 ok0 ok (fun id => if id / 8 = d then ⟨some w.heap.size, 0, 0⟩ else σ id) _ _ hR' Q hQ)
/-- A statement, with a map's place that is known behind it. -/
theorem V_regM {id : Nat} {ops : Array Oper} {s : St} {J : Exit → St → Prop} (S : Nat → St) (m : List Bool) (ids : List Nat) (h : XL P ops ops.toList s (fun s' => ∃ b, s'.keep m ids = S b)) (hj : ∀ b, J .normal (S b)) : V P (.region id ops false) s J := by
  refine zW fun B w0 ok0 ok σ a w hR Q hQ => ?_
  refine h _ _ _ _ _ _ _ hR Q fun s' a' w' ok' σ' hs hR' => ?_
  obtain ⟨b, hs⟩ := hs
  exact hQ _ a' w' ok' σ' (hj b) (by rw [← hs]; exact hR'.le (keep_le m ids s'))
theorem V_sregM {id : Nat} {ops : Array Oper} {y : Code} {s : St} {J : Exit → St → Prop} (S : Nat → St) (m : List Bool) (ids : List Nat) (h : XL P ops ops.toList s (fun s' => ∃ b, s'.keep m ids = S b)) (hv : ∀ b, V P y (S b) J) : V P (.seq (.region id ops false) y) s J := zF (V_regM S m ids h hv)
end
end Go.Proofs.YtfmjfofocklgpaaGreatDoor
namespace Go.Proofs.YtfmjfofocklgpaaGreatDoor
open Go.RowKit
set_option linter.unusedSimpArgs false
set_option linter.unusedVariables false
section
variable {P : Program}
/-- What is more general is shown instead. -/
theorem V_gen {α : Type} {c : Code} {s : St} {J : Exit → St → Prop} (S : α → St) (g : α) (h0 : s = S g) (h : ∀ g, V P c (S g) J) : V P c s J := by
  rw [h0]
  exact h g
/-- A slice that is nil, as a row of the call's own. -/
theorem R_nilrow {B : Fr} {w0 : World} {ok0 ok : Nat → Prop} {σ : Nat → Loc} {s : St} {a : Act} {w : World} (hR : R B w0 ok0 ok σ s a w) (k T sz : Nat) (hk : s.ent k = none) (hz : 0 < sz) :
    R B w0 ok0 ok (fun i => if i = k then loc0 else σ i) ⟨killI k s.T, (k, .qarr loc0 T sz []) :: s.E⟩ a w := by
  have lk : ∀ i e, (St.mk (killI k s.T) ((k, .qarr loc0 T sz []) :: s.E)).ent i = some e → (i = k ∧ e = .qarr loc0 T sz []) ∨ (i ≠ k ∧ s.ent i = some e) := by
    intro i e hi
    unfold St.ent at hi
    simp only [List.lookup] at hi
    cases hik : (i == k) with
    | true => rw [hik] at hi; exact .inl ⟨by simpa using hik, by simpa using hi.symm⟩
    | false => rw [hik] at hi; exact .inr ⟨by simpa using hik, hi⟩
  refine ⟨⟨by simpa [killI_len] using hR.core.len, hR.core.okL, hR.core.lib, fun t => ?_, fun i e hi => ?_, fun i e g hi hg => ?_, fun i i2 e f2 g hi hi2 h1 h2 => ?_⟩, hR.defers, hR.below, hR.base, hR.old, hR.fresh, fun i e g hi hg => ?_⟩
  · have e0 : (St.mk (killI k s.T) ((k, .qarr loc0 T sz []) :: s.E)).get t = (bif (s.get t).mid k then AV.bot else s.get t) := by
      unfold St.get
      exact killI_get k s.T t
    rw [e0]
    cases hm : (s.get t).mid k with
    | true => trivial
    | false => exact (hR.core.tmp t).mid k (fun _ h => h) (fun _ _ => rfl) hm (fun i hi => by simp [hi])
  · rcases lk i e hi with ⟨rfl, rfl⟩ | ⟨h1, h2⟩
    · simp only [if_true]
      exact ⟨rfl, hz, rfl, (by intro el h; cases h), [], World.ownsRow_nil w 0 _ sz, RdL.nil⟩
    · simp only [if_neg h1]
      exact hR.core.ent i e h2
  · rcases lk i e hi with ⟨rfl, rfl⟩ | ⟨h1, h2⟩
    · simp only [if_true] at hg
      cases hg
    · simp only [if_neg h1] at hg
      exact hR.core.blk i e g h2 hg
  · rcases lk i e hi with ⟨a1, _⟩ | ⟨a1, a2⟩ <;> rcases lk i2 f2 hi2 with ⟨b1, _⟩ | ⟨b1, b2⟩
    · rw [a1, b1]
    · simp only [a1, if_true] at h1
      cases h1
    · simp only [b1, if_true] at h2
      cases h2
    · simp only [if_neg a1] at h1
      simp only [if_neg b1] at h2
      exact hR.core.inj _ _ _ _ _ a2 b2 h1 h2
  · rcases lk i e hi with ⟨rfl, rfl⟩ | ⟨h1, h2⟩
    · simp only [if_true] at hg
      cases hg
    · simp only [if_neg h1] at hg
      exact hR.own i e g h2 hg
theorem V_nilrow {c : Code} {s : St} {J : Exit → St → Prop} (k T sz : Nat) (hk : s.ent k = none) (hz : 0 < sz) (h : V P c ⟨killI k s.T, (k, .qarr loc0 T sz []) :: s.E⟩ J) : V P c s J := fun _ _ _ _ _ _ _ hR => h _ _ _ _ _ _ _ (R_nilrow hR k T sz hk hz)
/-- One entry is told otherwise, and one slot. -/
theorem R_alter {B : Fr} {w0 : World} {ok0 ok : Nat → Prop} {σ : Nat → Loc} {s : St} {a : Act} {w : World} (hR : R B w0 ok0 ok σ s a w) {k t : Nat} {e e' : Ent} {av : AV} (he : s.ent k = some e) (hok : EntOk ok w (σ k) e → EntOk ok w (σ k) e') (hp : e'.pin = e.pin) (hav : Rel ok σ w av (a.tmps.getD t undef)) :
    R B w0 ok0 ok σ ⟨s.T.set t av, setE k e' s.E⟩ a w := by
  have look := setE_look k e' s.E e he
  have lk : ∀ i f, (setE k e' s.E).lookup i = some f → (i = k ∧ f = e') ∨ (i ≠ k ∧ s.ent i = some f) := by
    intro i f hi
    rw [look] at hi
    by_cases h : i = k
    · rw [if_pos h] at hi; exact .inl ⟨h, by simpa using hi.symm⟩
    · rw [if_neg h] at hi; exact .inr ⟨h, hi⟩
  refine ⟨⟨by simpa using hR.core.len, hR.core.okL, hR.core.lib, fun u => ?_, fun i f hi => ?_, fun i f g hi hg => ?_, fun i i2 f f2 g hi hi2 h1 h2 => ?_⟩, hR.defers, hR.below, hR.base, hR.old, hR.fresh, fun i f g hi hg => ?_⟩
  · have e0 := get_put s t u av
    unfold St.put at e0
    have e1 : (St.mk (s.T.set t av) (setE k e' s.E)).get u = if t = u ∧ t < s.T.length then av else s.get u := e0
    rw [e1]
    split
    · rename_i h
      rw [← h.1]
      exact hav
    · exact hR.core.tmp u
  · rcases lk i f hi with ⟨rfl, rfl⟩ | ⟨h1, h2⟩
    · exact hok (hR.core.ent _ _ he)
    · exact hR.core.ent i f h2
  · rcases lk i f hi with ⟨rfl, rfl⟩ | ⟨h1, h2⟩
    · exact hR.core.blk _ _ g he hg
    · exact hR.core.blk i f g h2 hg
  · have key : ∀ i f, (setE k e' s.E).lookup i = some f → ∃ f0, s.ent i = some f0 := by
      intro i f hi
      rcases lk i f hi with ⟨rfl, _⟩ | ⟨_, h⟩
      · exact ⟨_, he⟩
      · exact ⟨_, h⟩
    obtain ⟨f0, k1⟩ := key i f hi
    obtain ⟨f3, k2⟩ := key i2 f2 hi2
    exact hR.core.inj _ _ _ _ g k1 k2 h1 h2
  · rcases lk i f hi with ⟨rfl, rfl⟩ | ⟨h1, h2⟩
    · rw [hp]; exact hR.own _ _ g he hg
    · exact hR.own i f g h2 hg
/-- A row that lies in a variable's cell is loaded: it is the call's own again. -/
theorem XL_unpinQ {ops : Array Oper} {rest : List Oper} {s : St} {J : St → Prop} (t k : Nat) {l : Loc} {T sz : Nat} {els : List (List Tr)} (ht : s.get t = .c (.v (zE l))) (hk : s.ent k = some (.qarr l T sz els)) (h : XL P ops rest ⟨s.T.set t (.ow k), setE k (.arr T sz els) s.E⟩ J) : XL P ops rest s J := by
  intro B w0 ok0 ok σ a w hR Q hQ
  refine h _ _ _ _ _ _ _ (R_alter hR hk (fun h => h.2) rfl ?_) Q hQ
  have h1 := hR.core.tmp t
  rw [ht] at h1
  have h2 : Rd ok w (.v (zE l)) (a.tmps.getD t undef) := h1
  have h3 := (hR.core.ent k _ hk).1
  show _ = zE (σ k)
  rw [h3]
  generalize a.tmps.getD t undef = y at h2
  cases h2
  rfl
/-- A row of the call's own is to go into a variable's cell: its place is told. -/
theorem XL_pinQ {ops : Array Oper} {rest : List Oper} {s : St} {J : St → Prop} (t k : Nat) {T sz : Nat} {els : List (List Tr)} (ht : s.get t = .ow k) (hk : s.ent k = some (.arr T sz els)) (h : ∀ l : Loc, XL P ops rest ⟨s.T.set t (.c (.v (zE l))), setE k (.qarr l T sz els) s.E⟩ J) : XL P ops rest s J := by
  intro B w0 ok0 ok σ a w hR Q hQ
  have h1 := hR.core.tmp t
  rw [ht] at h1
  have h2 : a.tmps.getD t undef = zE (σ k) := h1
  refine h (σ k) _ _ _ _ _ _ _ (R_alter hR hk (fun h => ⟨rfl, h⟩) rfl ?_) Q hQ
  rw [h2]
  exact Rd.v _ rfl
theorem V_regQ {α : Type} {id : Nat} {ops : Array Oper} {s : St} {J : Exit → St → Prop} (S : α → St) (m : List Bool) (ids : List Nat) (h : XL P ops ops.toList s (fun s' => ∃ b, s'.keep m ids = S b)) (hj : ∀ b, J .normal (S b)) : V P (.region id ops false) s J := by
  refine zW fun B w0 ok0 ok σ a w hR Q hQ => ?_
  refine h _ _ _ _ _ _ _ hR Q fun s' a' w' ok' σ' hs hR' => ?_
  obtain ⟨b, hs⟩ := hs
  exact hQ _ a' w' ok' σ' (hj b) (by rw [← hs]; exact hR'.le (keep_le m ids s'))
theorem V_sregQ {α : Type} {id : Nat} {ops : Array Oper} {y : Code} {s : St} {J : Exit → St → Prop} (S : α → St) (m : List Bool) (ids : List Nat) (h : XL P ops ops.toList s (fun s' => ∃ b, s'.keep m ids = S b)) (hv : ∀ b, V P y (S b) J) : V P (.seq (.region id ops false) y) s J := zF (V_regQ S m ids h hv)
theorem V_toKQ {α : Type} {c : Code} {s : St} {S : α → St} {J : Exit → St → Prop} (m : List Bool) (ids : List Nat) (h1 : V P c s (thenA (fun s' => ∃ g, s'.keep m ids = S g) J)) (h2 : ∀ g, J .normal (S g)) : V P c s J := by
  intro B w0 ok0 ok σ a w hR
  refine wp_mono (h1 _ _ _ _ _ _ _ hR) ?_
  rintro e a' w' ⟨s', ok', σ', hJ, hR'⟩
  cases e with
  | normal =>
    obtain ⟨g, hk⟩ : ∃ g, s'.keep m ids = S g := hJ
    have h3 := h2 g
    rw [← hk] at h3
    exact ⟨_, ok', σ', h3, hR'.le (keep_le m ids s')⟩
  | exit id => exact ⟨s', ok', σ', hJ, hR'⟩
  | goto l => exact ⟨s', ok', σ', hJ, hR'⟩
  | ret => exact ⟨s', ok', σ', hJ, hR'⟩
  | panic ch => exact ⟨s', ok', σ', hJ, hR'⟩
  | outgrown => exact ⟨s', ok', σ', hJ, hR'⟩
theorem V_toSQ {α β γ : Type} {q : α ⊕ β} {c : Code} {s : St} {S : α → γ → St} {J : Exit → St → Prop} (m : List Bool) (ids : List Nat) (h1 : V P c s (thenA (fun s' => ∃ o, q = .inl o ∧ ∃ g, s'.keep m ids = S o g) J)) (h2 : ∀ o, q = .inl o → ∀ g, J .normal (S o g)) : V P c s J := by
  intro B w0 ok0 ok σ a w hR
  refine wp_mono (h1 _ _ _ _ _ _ _ hR) ?_
  rintro e a' w' ⟨s', ok', σ', hJ, hR'⟩
  cases e with
  | normal =>
    obtain ⟨o, ho, g, hk⟩ : ∃ o, q = .inl o ∧ ∃ g, s'.keep m ids = S o g := hJ
    have h3 := h2 o ho g
    rw [← hk] at h3
    exact ⟨_, ok', σ', h3, hR'.le (keep_le m ids s')⟩
  | exit id => exact ⟨s', ok', σ', hJ, hR'⟩
  | goto l => exact ⟨s', ok', σ', hJ, hR'⟩
  | ret => exact ⟨s', ok', σ', hJ, hR'⟩
  | panic ch => exact ⟨s', ok', σ', hJ, hR'⟩
  | outgrown => exact ⟨s', ok', σ', hJ, hR'⟩
/-- A row in a variable's cell that nobody writes any more. -/
theorem R_frzQ {B : Fr} {w0 : World} {ok0 ok : Nat → Prop} {σ : Nat → Loc} {s : St} {a : Act} {w : World} (hR : R B w0 ok0 ok σ s a w) (k id2 j : Nat) {l : Loc} {T sz : Nat} {els : List (List Tr)} {cs : List Tr} (he : s.ent k = some (.qarr l T sz els)) (h2 : s.ent id2 = some (.box cs)) (hj : cs[j]? = some (.v (zE l))) :
    R B w0 ok0 (fun g => ok g ∨ (σ k).blk = some g) σ ⟨s.T, setE id2 (.box (cs.set j (.sl els))) (rmE k s.E)⟩ a w := by
  have hup : ∀ g, ok g → ok g ∨ (σ k).blk = some g := fun g hg => .inl hg
  have hl : σ k = l := (hR.core.ent k _ he).1
  have hne : id2 ≠ k := fun e => by rw [e, he] at h2; cases h2
  have hrm : (rmE k s.E).lookup id2 = some (.box cs) := by rw [rmE_look, if_neg hne]; exact h2
  have lk : ∀ i e, (setE id2 (.box (cs.set j (.sl els))) (rmE k s.E)).lookup i = some e → (i = id2 ∧ e = .box (cs.set j (.sl els))) ∨ (i ≠ id2 ∧ i ≠ k ∧ s.ent i = some e) := by
    intro i e hi
    rw [setE_look id2 _ _ _ hrm] at hi
    by_cases h : i = id2
    · rw [if_pos h] at hi
      exact .inl ⟨h, by simpa using hi.symm⟩
    · rw [if_neg h, rmE_look] at hi
      split at hi
      · cases hi
      · rename_i hn
        exact .inr ⟨h, hn, hi⟩
  -- the row, read
  have hread : Rd (fun g => ok g ∨ (σ k).blk = some g) w (.sl els) (zE l) := by
    have hR1 := R_alter (t := s.T.length) (av := .bot) hR he (fun h => h.2) (e' := .arr T sz els) rfl trivial
    have hk1 : (St.mk (s.T.set s.T.length .bot) (setE k (.arr T sz els) s.E)).ent k = some (.arr T sz els) := by
      have := setE_look k (.arr T sz els) s.E _ he k
      rw [if_pos rfl] at this
      exact this
    have hle : Le ⟨[], [(k, .arr T sz els)]⟩ ⟨s.T.set s.T.length .bot, setE k (.arr T sz els) s.E⟩ := ⟨Nat.zero_le _, fun t => .inl (by simp [St.get]), fun i e hi => by
      unfold St.ent at hi
      simp only [List.lookup] at hi
      split at hi
      · rename_i hik
        have : i = k := by simpa using hik
        subst this
        injection hi with hi
        subst hi
        exact hk1
      · cases hi⟩
    have h1 : Rel ok σ w (.ow k) (zE (σ k)) := rfl
    have h3 := snap_rel (hR1.le hle).core h1
    have e2 : snapA ⟨[], [(k, .arr T sz els)]⟩ (.ow k) = .c (.sl els) := by
      simp [snapA, St.entc, St.ent, List.lookup, Ent.core]
    rw [e2, hl] at h3
    have h4 : Rel (fun g => ok g ∨ (σ k).blk = some g) σ w (.c (.sl els)) (zE l) := by
      refine h3.mono0 (fun g hg => ?_) fun _ _ => rfl
      rcases hg with hg | ⟨i, e, hi, hg⟩
      · exact .inl hg
      · refine .inr ?_
        unfold St.ent at hi
        simp only [List.lookup] at hi
        split at hi
        · rename_i hik
          have : i = k := by simpa using hik
          subst this
          exact hg
        · cases hi
    exact h4
  refine ⟨⟨hR.core.len, fun g hg => ?_, hR.core.lib.mono hup (fun _ _ => rfl), fun t => (hR.core.tmp t).mono0 hup fun _ _ => rfl, fun i e hi => ?_, fun i e g hi hg => ?_, fun i i2 e f g hi hk h1 h3 => ?_⟩, hR.defers, hR.below, hR.base, fun g hg => .inl (hR.old g hg), fun g hg => ?_, fun i e g hi hg => ?_⟩
  · rcases hg with hg | hg
    · exact hR.core.okL g hg
    · exact (hR.core.blk k _ g he hg).2
  · rcases lk i e hi with ⟨rfl, rfl⟩ | ⟨_, _, h5⟩
    · obtain ⟨g, arr, T', g1, g2, g3⟩ := hR.core.ent _ _ h2
      refine ⟨g, arr, T', g1, g2, ?_⟩
      have hr := g3.mono hup (fun _ _ => rfl : ∀ g, ok g → w.heap[g]? = w.heap[g]?)
      obtain ⟨u, hu1, hu2⟩ := g3.get j _ hj
      have huv : u = zE l := by
        generalize zE l = v at hu2
        cases hu2
        rfl
      subst huv
      have hset := hr.set j hread
      have : arr.toList.set j (zE l) = arr.toList := by
        apply List.ext_getElem?
        intro q
        rw [List.getElem?_set]
        split
        · rename_i hq
          subst hq
          split
          · exact hu1.symm
          · rename_i hlt
            rw [List.getElem?_eq_none (by omega)]
        · rfl
      rwa [this] at hset
    · exact (hR.core.ent i e h5).mono hup (fun _ _ => rfl) fun _ _ => rfl
  · have key : ∃ e0, s.ent i = some e0 ∧ i ≠ k := by
      rcases lk i e hi with ⟨rfl, rfl⟩ | ⟨_, h4, h5⟩
      · exact ⟨_, h2, hne⟩
      · exact ⟨e, h5, h4⟩
    obtain ⟨e0, k1, k2⟩ := key
    obtain ⟨h3, h4⟩ := hR.core.blk i e0 g k1 hg
    refine ⟨fun h5 => ?_, h4⟩
    rcases h5 with h5 | h5
    · exact h3 h5
    · exact k2 (hR.core.inj _ _ _ _ _ k1 he hg h5)
  · have key : ∀ i e, (setE id2 (.box (cs.set j (.sl els))) (rmE k s.E)).lookup i = some e → ∃ e0, s.ent i = some e0 := by
      intro i e hi
      rcases lk i e hi with ⟨rfl, rfl⟩ | ⟨_, h4, h5⟩
      · exact ⟨_, h2⟩
      · exact ⟨e, h5⟩
    obtain ⟨e0, k1⟩ := key i e hi
    obtain ⟨f0, k2⟩ := key i2 f hk
    exact hR.core.inj i i2 e0 f0 g k1 k2 h1 h3
  · rcases hg with hg | hg
    · exact hR.fresh g hg
    · have := hR.own k _ g he hg
      rw [if_neg (fun hc => by cases hc)] at this
      exact .inr this
  · rcases lk i e hi with ⟨rfl, rfl⟩ | ⟨_, _, h5⟩
    · have h6 : B.n ≤ g := hR.own _ _ g h2 hg
      exact h6
    · exact hR.own i e g h5 hg
theorem V_frzQ {c : Code} {s s1 : St} {J : Exit → St → Prop} (k id2 j : Nat) {l : Loc} {T sz : Nat} {els : List (List Tr)} {cs : List Tr} (he : s.ent k = some (.qarr l T sz els)) (h2 : s.ent id2 = some (.box cs)) (hj : cs[j]? = some (.v (zE l))) (hs : (⟨s.T, setE id2 (.box (cs.set j (.sl els))) (rmE k s.E)⟩ : St) = s1) (h : V P c s1 J) : V P c s J := by
  subst hs
  exact fun _ _ _ _ _ _ _ hR => h _ _ _ _ _ _ _ (R_frzQ hR k id2 j he h2 hj)
/-- A slice that is nil, told as an empty one. -/
theorem V_nilSl {c : Code} {s s1 : St} {J : Exit → St → Prop} (id j : Nat) {cs : List Tr} (he : s.ent id = some (.box cs)) (hj : cs[j]? = some (.v (.slice none 0 0))) (hs : (⟨s.T, setE id (.box (cs.set j (.sl []))) s.E⟩ : St) = s1) (h : V P c s1 J) : V P c s J := by
  subst hs
  intro B w0 ok0 ok σ a w hR
  have e0 : s.T.set s.T.length .bot = s.T := List.set_eq_of_length_le (Nat.le_refl _)
  have hR1 := R_alter (t := s.T.length) (av := .bot) hR he (e' := .box (cs.set j (.sl []))) (fun h => by
    obtain ⟨g, arr, T', g1, g2, g3⟩ := h
    refine ⟨g, arr, T', g1, g2, ?_⟩
    obtain ⟨u, hu1, hu2⟩ := g3.get j _ hj
    have huv : u = .slice none 0 0 := by cases hu2; rfl
    subst huv
    have hset := g3.set j (Rd.nl (ok := ok) (w := w) none 0)
    have : arr.toList.set j (.slice none 0 0) = arr.toList := by
      apply List.ext_getElem?
      intro q
      rw [List.getElem?_set]
      split
      · rename_i hq
        subst hq
        split
        · exact hu1.symm
        · rename_i hlt
          rw [List.getElem?_eq_none (by omega)]
      · rfl
    rwa [this] at hset) rfl trivial
  rw [e0] at hR1
  exact h _ _ _ _ _ _ _ hR1
end
end Go.Proofs.YtfmjfofocklgpaaGreatDoor
namespace Go.Proofs.YtfmjfofocklgpaaGreatDoor
open Go.RowKit
set_option linter.unusedVariables false
set_option linter.unusedSimpArgs false
/-- Not part of a number. -/
def pFF (x : Nat) : Bool := (x != 45) && (decide (x < 48) || decide (57 < x))
theorem pOf_ff : pOf r_impl_integersIn_1 = pFF := by
  funext x
  unfold pOf pFF r_impl_integersIn_1
  simp only [Option.bind_some, Option.getD_some, eqI_eq, ltI_eq]
  have e : ((x : Int) == 45) = (x == 45) := by rw [Bool.eq_iff_iff, beq_iff_eq, beq_iff_eq]; omega
  have e1 : decide ((x : Int) < 48) = decide (x < 48) := by rw [decide_eq_decide]; omega
  have e2 : decide ((57 : Int) < (x : Int)) = decide (57 < x) := by rw [decide_eq_decide]; omega
  rw [e, e1, e2]
  cases h1 : (x == 45) <;> cases h2 : decide (x < 48) <;> cases h3 : decide (57 < x) <;> simp_all [bne]
theorem pFF_int (x : Nat) : pFF x = (((x : Int) != 45) && (decide ((x : Int) < 48) || decide (57 < (x : Int)))) := by
  unfold pFF
  have e : ((x : Int) != 45) = (x != 45) := by rw [Bool.eq_iff_iff, bne_iff_ne, bne_iff_ne]; omega
  have e1 : decide ((x : Int) < 48) = decide (x < 48) := by rw [decide_eq_decide]; omega
  have e2 : decide ((57 : Int) < (x : Int)) = decide (57 < x) := by rw [decide_eq_decide]; omega
  rw [e, e1, e2]
theorem drew0 (W : World) : ∃ q, W = W.drewN q := ⟨0, rfl⟩
theorem ff_gives (w : World) : Go.Proofs.PredAt Tryz.prog 230 #[] (fun x : Nat => Value.int .i32 (x : Int)) pFF w := by
  intro W x hb
  unfold Go.Proofs.FnGives
  go_enter Tryz.func230, Tryz.ntmps230
  go_wp2
  · rename_i h
    go_ret
    refine ⟨?_, drew0 W⟩
    rw [pFF_int, h]
    rfl
  · go_ret
    refine ⟨?_, drew0 W⟩
    rw [pFF_int]
    rfl
  · rename_i h1 h2
    go_ret
    refine ⟨?_, drew0 W⟩
    rw [pFF_int, decide_eq_true h2, Bool.true_or, Bool.and_true]
    rfl
theorem s_strings_FieldsFunc_230 {s : ByteArray} {r : List ByteArray} (h : r_strings_FieldsFunc (pOf r_impl_integersIn_1) s = some r) : zP Tryz.prog 229 [.c (.v (.string s)), .c (.v (.func (.func 230) #[] #[]))] (.ow 0) [(0, .arr 9 1 (r.map cStr))] := by
  rw [pOf_ff] at h
  exact s_FieldsFunc (run_callFunc Tryz.func230 (by kernel_rfl) (by kernel_rfl)) ff_gives h
end Go.Proofs.YtfmjfofocklgpaaGreatDoor
namespace Go.Proofs.YtfmjfofocklgpaaGreatDoor
open Go.RowKit
set_option linter.unusedVariables false
set_option linter.unusedSimpArgs false
set_option maxRecDepth 100000
set_option maxHeartbeats 400000
def c9 (x : ByteArray) : List Tr := [.v (.string x)]
def c3 (x : Int) : List Tr := [Ti x]
def c38 (x : (Int × Int × Int)) : List Tr := [Ti x.1, Ti x.2.1, Ti x.2.2]
def c109 (x : (Int × Int × Int × Int)) : List Tr := [Ti x.1, Ti x.2.1, Ti x.2.2.1, Ti x.2.2.2]
def c24 (x : List Int) : List Tr := [.sl (x.map c3)]
def zv3 : Value := .int .i64 0
def zv9 : Value := .string ByteArray.empty
def zv24 : Value := .slice none 0 0
def zv38 : Value := .agg #[.int .i64 0, .int .i64 0, .int .i64 0]
def zv109 : Value := .agg #[.int .i64 0, .int .i64 0, .int .i64 0, .int .i64 0]
theorem iz3 : (Tryz.prog.info? 3).map (fun i => (i.zero, i.size)) = some (some zv3, 1) := by kernel_rfl
theorem iz9 : (Tryz.prog.info? 9).map (fun i => (i.zero, i.size)) = some (some zv9, 1) := by kernel_rfl
theorem iz24 : (Tryz.prog.info? 24).map (fun i => (i.zero, i.size)) = some (some zv24, 1) := by kernel_rfl
theorem iz38 : (Tryz.prog.info? 38).map (fun i => (i.zero, i.size)) = some (some zv38, 3) := by kernel_rfl
theorem iz109 : (Tryz.prog.info? 109).map (fun i => (i.zero, i.size)) = some (some zv109, 4) := by kernel_rfl
theorem izb3 : (Tryz.prog.info? 3).map (fun i => (i.zero, i.size, i.bytes)) = some (some zv3, 1, 8) := by kernel_rfl
theorem izb9 : (Tryz.prog.info? 9).map (fun i => (i.zero, i.size, i.bytes)) = some (some zv9, 1, 16) := by kernel_rfl
theorem izb38 : (Tryz.prog.info? 38).map (fun i => (i.zero, i.size, i.bytes)) = some (some zv38, 3, 24) := by kernel_rfl
theorem izb109 : (Tryz.prog.info? 109).map (fun i => (i.zero, i.size, i.bytes)) = some (some zv109, 4, 32) := by kernel_rfl
theorem sc3 : scalar Tryz.prog 3 := ⟨_, Tryz.underlying3, rfl⟩
theorem sc9 : scalar Tryz.prog 9 := ⟨_, Tryz.underlying9, rfl⟩
theorem sc24 : scalar Tryz.prog 24 := ⟨_, Tryz.underlying24, rfl⟩
theorem sz3 : (Tryz.prog.info? 3).map (·.size) = some 1 := by kernel_rfl
theorem sz9 : (Tryz.prog.info? 9).map (·.size) = some 1 := by kernel_rfl
theorem sz24 : (Tryz.prog.info? 24).map (·.size) = some 1 := by kernel_rfl
theorem sz38 : (Tryz.prog.info? 38).map (·.size) = some 3 := by kernel_rfl
theorem sz109 : (Tryz.prog.info? 109).map (·.size) = some 4 := by kernel_rfl
theorem wd38 : wide Tryz.prog 38 3 := ⟨⟨_, Tryz.underlying38, rfl⟩, by kernel_rfl⟩
theorem wd62 : wide Tryz.prog 62 4 := ⟨⟨_, Tryz.underlying62, rfl⟩, by kernel_rfl⟩
theorem wd98 : wide Tryz.prog 98 3 := ⟨⟨_, Tryz.underlying98, rfl⟩, by kernel_rfl⟩
theorem wd109 : wide Tryz.prog 109 4 := ⟨⟨_, Tryz.underlying109, rfl⟩, by kernel_rfl⟩
theorem wd169 : wide Tryz.prog 169 9 := ⟨⟨_, Tryz.underlying169, rfl⟩, by kernel_rfl⟩
theorem wd178 : wide Tryz.prog 178 12 := ⟨⟨_, Tryz.underlying178, rfl⟩, by kernel_rfl⟩
def pl38 : Nat → Option (Nat × Nat) := fun i => (#[(0, 1), (1, 1), (2, 1)] : Array (Nat × Nat))[i]?
theorem bt38 : ∀ ps, Tryz.prog.built 38 ps = Instr.fill pl38 #[.int .i64 0, .int .i64 0, .int .i64 0] ps := fun ps => by kernel_rfl
def pl62 : Nat → Option (Nat × Nat) := fun i => (#[(0, 1), (1, 1), (2, 1), (3, 1)] : Array (Nat × Nat))[i]?
theorem bt62 : ∀ ps, Tryz.prog.built 62 ps = Instr.fill pl62 #[.string ByteArray.empty, .slice none 0 0, .slice none 0 0, .slice none 0 0] ps := fun ps => by kernel_rfl
def pl109 : Nat → Option (Nat × Nat) := fun i => (#[(0, 1), (1, 1), (2, 1), (3, 1)] : Array (Nat × Nat))[i]?
theorem bt109 : ∀ ps, Tryz.prog.built 109 ps = Instr.fill pl109 #[.int .i64 0, .int .i64 0, .int .i64 0, .int .i64 0] ps := fun ps => by kernel_rfl
def pl168 : Nat → Option (Nat × Nat) := fun i => some (i * 1, 1)
theorem bt168 : ∀ ps, Tryz.prog.built 168 ps = Instr.fill pl168 #[.int .i64 0, .int .i64 0, .int .i64 0] ps := fun ps => by kernel_rfl
def pl169 : Nat → Option (Nat × Nat) := fun i => some (i * 3, 3)
theorem bt169 : ∀ ps, Tryz.prog.built 169 ps = Instr.fill pl169 #[.int .i64 0, .int .i64 0, .int .i64 0, .int .i64 0, .int .i64 0, .int .i64 0, .int .i64 0, .int .i64 0, .int .i64 0] ps := fun ps => by kernel_rfl
def pl178 : Nat → Option (Nat × Nat) := fun i => (#[(0, 1), (1, 1), (2, 1), (3, 1), (4, 4), (8, 4)] : Array (Nat × Nat))[i]?
theorem bt178 : ∀ ps, Tryz.prog.built 178 ps = Instr.fill pl178 #[.int .i64 0, .int .i64 0, .int .i64 0, .int .i64 0, .int .i64 0, .int .i64 0, .int .i64 0, .int .i64 0, .int .i64 0, .int .i64 0, .int .i64 0, .int .i64 0] ps := fun ps => by kernel_rfl
theorem eqg38 : EqAg3 Tryz.prog .eql 38 := by
 intro a0 a1 a2 b0 b1 b2 x y w
 have hg : (eqGuard .eql 38 x y (.agg #[.int .i64 a0, .int .i64 a1, .int .i64 a2]) (.agg #[.int .i64 b0, .int .i64 b1, .int .i64 b2])).run Tryz.prog w = .ok () w := by simp [eqGuard, (by kernel_rfl : Tryz.prog.eqGuardType Tryz.prog.depth 38 = false)]
 have hf : (Tryz.prog.fieldsOf 38).toList = (match Tryz.prog.underlying 38 with | some (.struct fs) => fs.toList | _ => []) := by kernel_rfl
 refine ⟨hg, ?_⟩
 rw [run_eql_struct, run_equalIn_agg (d := 9999) (ht := by kernel_rfl) (hp := by kernel_rfl), hf, Tryz.underlying38]
 by_cases h0 : a0 = b0 <;> by_cases h1 : a1 = b1 <;> by_cases h2 : a2 = b2 <;> simp [Op.eqFields, part, go_sem, h0, h1, h2]
theorem neg38 : EqAg3 Tryz.prog .neq 38 := by
 intro a0 a1 a2 b0 b1 b2 x y w
 have hg : (eqGuard .neq 38 x y (.agg #[.int .i64 a0, .int .i64 a1, .int .i64 a2]) (.agg #[.int .i64 b0, .int .i64 b1, .int .i64 b2])).run Tryz.prog w = .ok () w := by simp [eqGuard, (by kernel_rfl : Tryz.prog.eqGuardType Tryz.prog.depth 38 = false)]
 have hf : (Tryz.prog.fieldsOf 38).toList = (match Tryz.prog.underlying 38 with | some (.struct fs) => fs.toList | _ => []) := by kernel_rfl
 refine ⟨hg, ?_⟩
 rw [run_neq_struct, run_equalIn_agg (d := 9999) (ht := by kernel_rfl) (hp := by kernel_rfl), hf, Tryz.underlying38]
 by_cases h0 : a0 = b0 <;> by_cases h1 : a1 = b1 <;> by_cases h2 : a2 = b2 <;> simp [Op.eqFields, part, go_sem, h0, h1, h2]
def ek161 (x : ByteArray) : Value := .string x
def ev161 (x : ByteArray) : Value := .string x
def kv161 (p : ByteArray × ByteArray) : Value × Value := (ek161 p.1, ev161 p.2)
theorem kt161 : KeyT Tryz.prog 9 ek161 := by
 refine keyT_now (.string) Tryz.underlying9 (fun b a w => ?_) (fun a b => ?_) (fun a => ?_)
 ·exact MapKept.run_checkKey Tryz.underlying9 (by simp [MapKept.IsKey, ek161]) b 9999
 ·simp [ek161, Instr.sameNow, ba_beq]
 ·simp [ek161, Instr.sameBits, ba_beq]
theorem mo161 : MpOk Tryz.prog 161 ek161 ev161 ByteArray.empty := ⟨9, 9, Tryz.underlying161, kt161, by kernel_rfl, fun _ => rfl⟩
theorem cf_spec_l1Split : CfW Tryz.prog 85 := cfW Tryz.func85
theorem s_spec_l1Split {vs1 : ByteArray} {b2 : Int} {r : List ByteArray} (h : r_spec_l1Split vs1 b2 = some r) : zP Tryz.prog 85 [.c (.v (.string vs1)), .c (.v (.int .u8 b2))] (.ow 0) [(0, .arr 9 1 (r.map c9))] := by
 refine CtW [4] Tryz.func85 rfl rfl 34 ?_
 unfold r_spec_l1Split at h
 refine VS ?_
 refine L1 rfl rfl (Y1_nil (e := 9) 1 (by decide) (.inl rfl)) ?_
 refine YF ?_
 refine VS ?_
 refine L1 rfl rfl (Y1_nil (e := 9) 1 (by decide) (.inl rfl)) ?_
 refine YF ?_
 refine VE ?_
 refine zF ?_
 refine VE ?_
 obtain ⟨o7, hLo7, h⟩ := zA h
 refine V_toK (mb 34 97) [40] (s1 := ⟨.c (.v (.string vs1)) :: bt 4 (.ow 40 :: I o7.1 :: bt 27 []), [(40, .arr 9 1 (o7.2.map c9))]⟩) ?_ ?_
 ·clear h
  refine zG (V_loop (fun n s => ∃ (vfrom3 : Int) (i4 : Int) (l5 : List ByteArray), s.keep (mb 34 227) [40] = (⟨.c (.v (.string vs1)) :: .c (.v (.int .u8 b2)) :: bt 3 (.ow 40 :: I vfrom3 :: I i4 :: bt 26 []), [(40, .arr 9 1 (l5.map c9))]⟩ : St) ∧ r_spec_l1Split_L6 b2 vs1 n vfrom3 i4 l5 = some o7) FU ⟨_, _, _,  kk, hLo7⟩ ?_)
  clear hLo7
  rintro n s ⟨vfrom3, i4, l5, hs, h⟩
  refine zV _ _ hs ?_
  clear hs
  cases n with
  | zero => cases h
  | succ n =>
   rw [r_spec_l1Split_L6] at h
   refine zF ?_
   refine VS ?_
   refine YF ?_
   refine VC h (fun h => ?_) (fun h => ?_)
   ·refine zK ?_
    show V _ _ _ _
    refine zF ?_
    refine zG ?_
    obtain ⟨e9, he9, h⟩ := zA h
    refine VS ?_
    refine YR 2 ?_
    refine L0 rfl rfl (Y0_idxs (b := vs1) (k := .i64) (n := i4) (v := e9) Tryz.underlying9 rfl kk kk he9) ?_
    refine YF ?_
    refine VC h (fun h => ?_) (fun h => ?_)
    ·obtain ⟨u11, hu11, h⟩ := zA h
     obtain ⟨u12, hu12, h⟩ := zA h
     refine VS ?_
     refine YR 4 ?_
     refine L0 rfl rfl (Y0_slices (b := vs1) (l := vfrom3) (h := i4) Tryz.underlying9 rfl kk (fun y hy => by cases hy; exact ⟨.i64, kk⟩) (fun hh => by cases hh) (fun y hy => by cases hy; exact ⟨.i64, kk⟩) (fun hh => by cases hh) (slc_some hu11)) ?_
     refine L1 rfl rfl (Y1_bslice (z := zv9) (els := [vs1.extract (Int.toNat vfrom3) (Int.toNat i4)].map c9) Tryz.underlying66 iz9 rfl (by decide) rfl kk rfl (by simp [c9]) (by decide) (by decide)) ?_
     refine XL_cons rfl (X_appendM (c := c9) (xs := l5) (ys := [vs1.extract (Int.toNat vfrom3) (Int.toNat i4)]) (id := 40) (z := zv9) rfl rfl Tryz.underlying66 izb9 rfl kk kk kk (fun _ => rfl) (by simp) (room_some hu12) (by decide)) ?_
     refine YF ?_
     obtain ⟨vfrom13, hvfrom13, h⟩ := zU h
     refine V_reg (mb 34 227) [40] (s1 := ⟨.c (.v (.string vs1)) :: .c (.v (.int .u8 b2)) :: bt 3 (.ow 40 :: I vfrom13 :: I i4 :: bt 26 []), [(40, .arr 9 1 ((l5 ++ ([vs1.extract (Int.toNat vfrom3) (Int.toNat i4)])).map c9))]⟩) ?_ ?_
     ·refine XR 3 ?_
      refine zD ?_
      subst hvfrom13
      kernel_rfl
     show V _ _ _ _
     obtain ⟨i14, hi14, h⟩ := zU h
     refine V_reg (mb 34 227) [40] (s1 := ⟨.c (.v (.string vs1)) :: .c (.v (.int .u8 b2)) :: bt 3 (.ow 40 :: I vfrom13 :: I i14 :: bt 26 []), [(40, .arr 9 1 ((l5 ++ ([vs1.extract (Int.toNat vfrom3) (Int.toNat i4)])).map c9))]⟩) ?_ ?_
     ·refine XR 3 ?_
      refine zD ?_
      subst hi14
      kernel_rfl
     exact ⟨n, Nat.lt_succ_self n, _, _, _,  kk, h⟩
    ·refine zK ?_
     show V _ _ _ _
     obtain ⟨i15, hi15, h⟩ := zU h
     refine V_reg (mb 34 227) [40] (s1 := ⟨.c (.v (.string vs1)) :: .c (.v (.int .u8 b2)) :: bt 3 (.ow 40 :: I vfrom3 :: I i15 :: bt 26 []), [(40, .arr 9 1 (l5.map c9))]⟩) ?_ ?_
     ·refine XR 3 ?_
      refine zD ?_
      subst hi15
      kernel_rfl
     exact ⟨n, Nat.lt_succ_self n, _, _, _,  kk, h⟩
   ·refine V_exit ?_
    obtain rfl := zB h
    show St.keep _ _ _ = _
    kernel_rfl
 show V _ _ _ _
 obtain ⟨u16, hu16, h⟩ := zA h
 obtain ⟨u17, hu17, h⟩ := zA h
 obtain ⟨l18, hl18, h⟩ := zA h
 have hl18 := zB hl18
 refine zO (mb 34 16) [40] (s1 := ⟨bt 4 (.ow 40 :: bt 29 []), [(40, .arr 9 1 (l18.map c9))]⟩) ?_ ?_
 ·refine XR 3 ?_
  refine L0 rfl rfl (Y0_slices (b := vs1) (l := o7.1) (h := (vs1.size : Int)) Tryz.underlying9 rfl kk (fun y hy => by cases hy; exact ⟨.i64, kk⟩) (fun hh => by cases hh) (fun y hy => by cases hy) (fun _ => rfl) (slc_some hu16)) ?_
  refine L1 rfl rfl (Y1_bslice (z := zv9) (els := [vs1.extract (Int.toNat o7.1) (Int.toNat ((vs1.size : Int)))].map c9) Tryz.underlying66 iz9 rfl (by decide) rfl kk rfl (by simp [c9]) (by decide) (by decide)) ?_
  refine XL_cons rfl (X_appendM (c := c9) (xs := o7.2) (ys := [vs1.extract (Int.toNat o7.1) (Int.toNat ((vs1.size : Int)))]) (id := 40) (z := zv9) rfl rfl Tryz.underlying66 izb9 rfl kk kk kk (fun _ => rfl) (by simp) (room_some hu17) (by decide)) ?_
  refine XR 1 ?_
  refine zD ?_
  subst hl18
  kernel_rfl
 cases h
 exact zH VT
theorem cf_spec_prLines : CfW Tryz.prog 45 := cfW Tryz.func45
theorem s_spec_prLines {vs1 : ByteArray} {bytes2 : Int} {most3 : Int} {r : ((List ByteArray) × Bool)} (h : r_spec_prLines vs1 bytes2 most3 = some r) : zP Tryz.prog 45 [.c (.v (.string vs1)), I bytes2, I most3] (.tc (.c (.sl (r.1.map c9))) (.tc (Bo r.2) .tn)) [] := by
 refine CtW [6, 7] Tryz.func45 rfl rfl 37 ?_
 unfold r_spec_prLines at h
 refine VS ?_
 refine L1 rfl rfl (Y1_nil (e := 9) 1 (by decide) (.inl rfl)) ?_
 refine YF ?_
 refine zF ?_
 obtain ⟨b8, hb8, h⟩ := zA h
 refine zO (mb 37 16777221) [] (s1 := ⟨.c (.v (.string vs1)) :: .bot :: I most3 :: bt 21 (Bo b8 :: bt 12 []), []⟩) ?_ ?_
 ·refine YR 5 ?_
  refine zJ (ltI bytes2 ((vs1.size : Int))) (fun hc4 => ?_) (fun hc4 => ?_)
  ·have hb8 := zB (zN hb8 hc4)
   refine YQ hc4 ?_
   exact YE (by rw [← hb8]; (try rw [hc4]); kernel_rfl)
  ·have hb8 := zC hb8 hc4
   obtain ⟨b7, hb7, hb8⟩ := zA hb8
   have hb8 := zB hb8
   refine YQ hc4 ?_
   refine YR 3 ?_
   refine zJ (!(vs1.toList == ((⟨#[]⟩ : ByteArray)).toList)) (fun hc5 => ?_) (fun hc5 => ?_)
   ·have hb7 := zN hb7 hc5
    obtain ⟨e6, he6, hb7⟩ := zA hb7
    have hb7 := zB hb7
    refine YQ hc5 ?_
    refine YR 4 ?_
    refine YT (X_of_Y0 rfl (Y0_idxs (b := vs1) (k := .i64) (n := w64 (((vs1.size : Int)) - 1)) (v := e6) Tryz.underlying9 rfl kk kk he6)) ?_
    exact YE (by rw [← hb8]; (try rw [← hb7]); (try rw [hc5]); (try rw [hc4]); kernel_rfl)
   ·have hb7 := zB (zC hb7 hc5)
    refine YQ hc5 ?_
    exact YE (by rw [← hb8]; (try rw [← hb7]); (try rw [hc5]); (try rw [hc4]); kernel_rfl)
 refine VC h (fun h => ?_) (fun h => ?_)
 ·refine VS ?_
  refine L1 rfl rfl (Y1_nil (e := 9) 1 (by decide) (.inl rfl)) ?_
  refine YF ?_
  refine V_freeze 48 (T := 9) (sz := 1) (els := (([] : List ByteArray)).map c9) kk rfl ?_
  cases h
  exact zH VT
 ·refine zK ?_
  show V _ _ _ _
  obtain ⟨y10, hy10, h⟩ := zA h
  refine VS ?_
  refine YK 1 (s_spec_l1Split hy10) cf_spec_l1Split ?_
  refine YF ?_
  obtain ⟨u11, hu11, h⟩ := zA h
  refine VS ?_
  refine YR 2 ?_
  refine L0 rfl rfl (Y0_lenM (c := c9) (xs := y10) Tryz.underlying66 rfl kk) ?_
  refine YR 1 ?_
  refine XL_freeze 208 (T := 9) (sz := 1) (els := y10.map c9) kk rfl ?_
  refine L0 rfl rfl (Y0_slice (c := c9) (xs := y10) (l := 0) (h := w64 (((y10.length : Int)) - 1)) Tryz.underlying66 sz9 (fun _ => rfl) rfl kk (fun y hy => by cases hy) (fun _ => rfl) (fun y hy => by cases hy; exact ⟨.i64, kk⟩) (fun hh => by cases hh) (slc_some hu11)) ?_
  refine YF ?_
  obtain ⟨t12, ht12, h⟩ := zA h
  have ht12 := zB ht12
  refine zO (mb 37 192) [] (s1 := ⟨bt 6 (.c (.sl ((subl y10 0 (w64 (((y10.length : Int)) - 1))).map c9)) :: Bo t12 :: bt 29 []), []⟩) ?_ ?_
  ·refine XR 2 ?_
   refine L0 rfl rfl (Y0_lenM (c := c9) (xs := subl y10 0 (w64 (((y10.length : Int)) - 1))) Tryz.underlying66 rfl kk) ?_
   refine XR 4 ?_
   refine zD ?_
   subst ht12
   kernel_rfl
  cases h
  exact zH VT
theorem cf_spec_prWords : CfW Tryz.prog 143 := cfW Tryz.func143
theorem s_spec_prWords {kind1 : ByteArray} {r : ByteArray} (h : r_spec_prWords kind1 = some r) : zP Tryz.prog 143 [.c (.v (.string kind1))] (.c (.v (.string r))) [] := by
 refine CtW [2] Tryz.func143 rfl rfl 20 ?_
 unfold r_spec_prWords at h
 refine VE ?_
 refine zF ?_
 refine VE ?_
 refine zG ?_
 obtain ⟨t2, ht2, h⟩ := zA h
 have ht2 := zB ht2
 refine zO (mb 20 24) [] (s1 := ⟨bt 3 (.c (.v (.string kind1)) :: Bo t2 :: bt 15 []), []⟩) ?_ ?_
 ·refine L0 rfl rfl (Y0_eqs (a := kind1) (b := ((⟨#[101, 113, 117, 105, 118, 97, 108, 101, 110, 116]⟩ : ByteArray))) rfl kk kk) ?_
  refine XR 1 ?_
  refine zD ?_
  subst ht2
  kernel_rfl
 refine VC h (fun h => ?_) (fun h => ?_)
 ·refine VE ?_
  cases h
  exact zH VT
 ·obtain ⟨t4, ht4, h⟩ := zA h
  have ht4 := zB ht4
  refine zO (mb 20 72) [] (s1 := ⟨bt 3 (.c (.v (.string kind1)) :: .bot :: .bot :: Bo t4 :: bt 13 []), []⟩) ?_ ?_
  ·refine L0 rfl rfl (Y0_eqs (a := kind1) (b := ((⟨#[100, 105, 102, 102, 101, 114, 101, 110, 116]⟩ : ByteArray))) rfl kk kk) ?_
   refine XR 1 ?_
   refine zD ?_
   subst ht4
   kernel_rfl
  refine VC h (fun h => ?_) (fun h => ?_)
  ·refine VE ?_
   cases h
   exact zH VT
  ·obtain ⟨t6, ht6, h⟩ := zA h
   have ht6 := zB ht6
   refine zO (mb 20 264) [] (s1 := ⟨bt 3 (.c (.v (.string kind1)) :: bt 4 (Bo t6 :: bt 11 [])), []⟩) ?_ ?_
   ·refine L0 rfl rfl (Y0_eqs (a := kind1) (b := ((⟨#[118, 97, 108, 117, 101]⟩ : ByteArray))) rfl kk kk) ?_
    refine XR 1 ?_
    refine zD ?_
    subst ht6
    kernel_rfl
   refine VC h (fun h => ?_) (fun h => ?_)
   ·refine VE ?_
    cases h
    exact zH VT
   ·obtain ⟨j8, hj8, h⟩ := zA h
    refine V_cutK (mb 20 1032) [] (s1 := ⟨bt 3 (.c (.v (.string kind1)) :: bt 6 (Bo j8 :: bt 9 [])), []⟩) ?_ ?_
    ·clear h
     have h := hj8
     clear hj8
     obtain ⟨t9, ht9, h⟩ := zA h
     have ht9 := zB ht9
     refine zO (mb 20 1032) [] (s1 := ⟨bt 3 (.c (.v (.string kind1)) :: bt 6 (Bo t9 :: bt 9 [])), []⟩) ?_ ?_
     ·refine L0 rfl rfl (Y0_eqs (a := kind1) (b := ((⟨#[111, 98, 115, 116, 114, 117, 99, 116, 105, 111, 110]⟩ : ByteArray))) rfl kk kk) ?_
      refine XR 1 ?_
      refine zD ?_
      subst ht9
      kernel_rfl
     refine VC h (fun h => ?_) (fun h => ?_)
     ·refine zK ?_
      obtain rfl := zB h
      show St.keep _ _ _ = _
      kernel_rfl
     ·obtain ⟨t11, ht11, h⟩ := zA h
      have ht11 := zB ht11
      refine zO (mb 20 1032) [] (s1 := ⟨bt 3 (.c (.v (.string kind1)) :: bt 6 (Bo t11 :: bt 9 [])), []⟩) ?_ ?_
      ·refine L0 rfl rfl (Y0_eqs (a := kind1) (b := ((⟨#[114, 111, 111, 116]⟩ : ByteArray))) rfl kk kk) ?_
       refine XR 1 ?_
       refine zD ?_
       subst ht11
       kernel_rfl
      refine VC h (fun h => ?_) (fun h => ?_)
      ·refine zK ?_
       obtain rfl := zB h
       show St.keep _ _ _ = _
       kernel_rfl
      ·obtain ⟨t13, ht13, h⟩ := zA h
       have ht13 := zB ht13
       refine V_reg (mb 20 1032) [] (s1 := ⟨bt 3 (.c (.v (.string kind1)) :: bt 6 (Bo t13 :: bt 9 [])), []⟩) ?_ ?_
       ·refine L0 rfl rfl (Y0_eqs (a := kind1) (b := ((⟨#[115, 111, 108, 117, 116, 105, 111, 110]⟩ : ByteArray))) rfl kk kk) ?_
        refine XR 1 ?_
        refine zD ?_
        subst ht13
        kernel_rfl
       obtain rfl := zB h
       show St.keep _ _ _ = _
       kernel_rfl
    refine VC h (fun h => ?_) (fun h => ?_)
    ·refine VE ?_
     cases h
     exact zH VT
    ·obtain ⟨t15, ht15, h⟩ := zA h
     have ht15 := zB ht15
     refine zO (mb 20 16392) [] (s1 := ⟨bt 3 (.c (.v (.string kind1)) :: bt 10 (Bo t15 :: bt 5 [])), []⟩) ?_ ?_
     ·refine L0 rfl rfl (Y0_eqs (a := kind1) (b := ((⟨#[99, 111, 109, 112, 111, 115, 105, 116, 101]⟩ : ByteArray))) rfl kk kk) ?_
      refine XR 1 ?_
      refine zD ?_
      subst ht15
      kernel_rfl
     refine VC h (fun h => ?_) (fun h => ?_)
     ·refine VE ?_
      cases h
      exact zH VT
     ·obtain ⟨t17, ht17, h⟩ := zA h
      have ht17 := zB ht17
      refine zO (mb 20 65544) [] (s1 := ⟨bt 3 (.c (.v (.string kind1)) :: bt 12 (Bo t17 :: bt 3 [])), []⟩) ?_ ?_
      ·refine L0 rfl rfl (Y0_eqs (a := kind1) (b := ((⟨#[111, 114, 100, 101, 114]⟩ : ByteArray))) rfl kk kk) ?_
       refine XR 1 ?_
       refine zD ?_
       subst ht17
       kernel_rfl
      refine VC h (fun h => ?_) (fun h => ?_)
      ·refine VE ?_
       cases h
       exact zH VT
      ·obtain ⟨t19, ht19, h⟩ := zA h
       have ht19 := zB ht19
       refine zO (mb 20 262144) [] (s1 := ⟨bt 18 (Bo t19 :: .bot :: []), []⟩) ?_ ?_
       ·refine L0 rfl rfl (Y0_eqs (a := kind1) (b := ((⟨#[97, 117, 116, 111, 109, 111, 114, 112, 104]⟩ : ByteArray))) rfl kk kk) ?_
        refine XR 1 ?_
        refine zD ?_
        subst ht19
        kernel_rfl
       refine VC h (fun h => ?_) (fun h => ?_)
       ·refine VE ?_
        cases h
        exact zH VT
       ·refine zK ?_
        show V _ _ _ _
        refine VE ?_
        cases h
        exact zH VT
theorem cf_spec_foInside : CfW Tryz.prog 214 := cfW Tryz.func214
theorem s_spec_foInside {vs1 : ByteArray} {first2 : Int} {last3 : Int} {r : (ByteArray × Bool)} (h : r_spec_foInside vs1 first2 last3 = some r) : zP Tryz.prog 214 [.c (.v (.string vs1)), .c (.v (.int .u8 first2)), .c (.v (.int .u8 last3))] (.tc (.c (.v (.string r.1))) (.tc (Bo r.2) .tn)) [] := by
 refine CtW [6, 7] Tryz.func214 rfl rfl 31 ?_
 unfold r_spec_foInside at h
 refine VE ?_
 refine zF ?_
 obtain ⟨b6, hb6, h⟩ := zA h
 obtain ⟨b9, hb9, h⟩ := zA h
 refine zO (mb 31 33554433) [] (s1 := ⟨.c (.v (.string vs1)) :: bt 24 (Bo b9 :: bt 5 []), []⟩) ?_ ?_
 ·refine YR 4 ?_
  refine zJ (ltI ((vs1.size : Int)) 2) (fun hc4 => ?_) (fun hc4 => ?_)
  ·have hb6 := zB (zN hb6 hc4)
   refine YQ hc4 ?_
   refine YR 6 ?_
   subst hb6
   have hc7 : true = true := rfl
   have hb9 := zB (zN hb9 hc7)
   exact YE (by rw [← hb9]; (try rw [hc4]); kernel_rfl)
  ·have hb6 := zC hb6 hc4
   obtain ⟨e5, he5, hb6⟩ := zA hb6
   have hb6 := zB hb6
   refine YQ hc4 ?_
   refine YR 1 ?_
   refine YT (X_of_Y0 rfl (Y0_idxs (b := vs1) (k := .i64) (n := 0) (v := e5) Tryz.underlying9 rfl kk kk he5)) ?_
   refine YR 4 ?_
   refine zJ b6 (fun hc7 => ?_) (fun hc7 => ?_)
   ·have hb9 := zB (zN hb9 hc7)
    refine YQ hc7 ?_ (by rw [← hb6]; (try rw [← hb9]); (try rw [hc4]); kernel_rfl)
    exact YE (by rw [← hb9]; (try rw [hc4]); (try rw [hc7]); kernel_rfl)
   ·have hb9 := zC hb9 hc7
    obtain ⟨e8, he8, hb9⟩ := zA hb9
    have hb9 := zB hb9
    refine YQ hc7 ?_ (by rw [← hb6]; (try rw [← hb9]); (try rw [hc4]); kernel_rfl)
    refine YR 4 ?_
    refine YT (X_of_Y0 rfl (Y0_idxs (b := vs1) (k := .i64) (n := w64 (((vs1.size : Int)) - 1)) (v := e8) Tryz.underlying9 rfl kk kk he8)) ?_
    exact YE (by rw [← hb9]; (try rw [hc4]); (try rw [hc7]); kernel_rfl)
 refine VC h (fun h => ?_) (fun h => ?_)
 ·refine VE ?_
  cases h
  exact zH VT
 ·refine zK ?_
  show V _ _ _ _
  obtain ⟨u11, hu11, h⟩ := zA h
  refine VS ?_
  refine YR 4 ?_
  refine L0 rfl rfl (Y0_slices (b := vs1) (l := 1) (h := w64 (((vs1.size : Int)) - 1)) Tryz.underlying9 rfl kk (fun y hy => by cases hy; exact ⟨.i64, kk⟩) (fun hh => by cases hh) (fun y hy => by cases hy; exact ⟨.i64, kk⟩) (fun hh => by cases hh) (slc_some hu11)) ?_
  refine YF ?_
  cases h
  exact zH VT
theorem cf_spec_l1In : CfW Tryz.prog 91 := cfW Tryz.func91
theorem s_spec_l1In {vn1 : Int} {lo2 : Int} {hi3 : Int} {r : Bool} (h : r_spec_l1In vn1 lo2 hi3 = some r) : zP Tryz.prog 91 [I vn1, I lo2, I hi3] (Bo r) [] := by
 refine CtW [6] Tryz.func91 rfl rfl 15 ?_
 unfold r_spec_l1In at h
 refine VE ?_
 refine zO (mb 15 64) [] (s1 := ⟨bt 6 (Bo (bif (leI lo2 vn1) then (leI vn1 hi3) else false) :: bt 8 []), []⟩) ?_ ?_
 ·refine YR 4 ?_
  refine zJ (leI lo2 vn1) (fun hc4 => ?_) (fun hc4 => ?_)
  ·refine YQ hc4 ?_
   exact YE (by rw [hc4]; kernel_rfl)
  ·refine YQ hc4 ?_
   exact YE (by rw [hc4]; kernel_rfl)
 cases h
 exact zH VT
theorem cf_spec_nuRead : CfW Tryz.prog 216 := cfW Tryz.func216
theorem s_spec_nuRead {vs1 : ByteArray} {r : Int} (h : r_spec_nuRead vs1 = some r) : zP Tryz.prog 216 [.c (.v (.string vs1))] (I r) [] := by
 refine CtW [2] Tryz.func216 rfl rfl 44 ?_
 unfold r_spec_nuRead at h
 refine VE ?_
 refine zF ?_
 obtain ⟨y2, hy2, h⟩ := zA h
 obtain ⟨b6, hb6, h⟩ := zA h
 refine zO (mb 44 262145) [] (s1 := ⟨.c (.v (.string vs1)) :: bt 17 (Bo b6 :: bt 25 []), []⟩) ?_ ?_
 ·refine YK 2 (s_spec_l1In hy2) cf_spec_l1In ?_
  refine YR 2 ?_
  refine zJ (!y2) (fun hc3 => ?_) (fun hc3 => ?_)
  ·have hb6 := zB (zN hb6 hc3)
   refine YQ hc3 ?_
   exact YE (by rw [← hb6]; (try rw [hc3]); kernel_rfl)
  ·have hb6 := zC hb6 hc3
   obtain ⟨e4, he4, hb6⟩ := zA hb6
   have hb6 := zB hb6
   refine YQ hc3 ?_
   refine YR 1 ?_
   refine YT (X_of_Y0 rfl (Y0_idxs (b := vs1) (k := .i64) (n := 0) (v := e4) Tryz.underlying9 rfl kk kk he4)) ?_
   refine YR 2 ?_
   refine zJ (eqI e4 48) (fun hc5 => ?_) (fun hc5 => ?_)
   ·refine YQ hc5 ?_
    exact YE (by rw [← hb6]; (try rw [hc5]); (try rw [hc3]); kernel_rfl)
   ·refine YQ hc5 ?_
    exact YE (by rw [← hb6]; (try rw [hc5]); (try rw [hc3]); kernel_rfl)
 refine VC h (fun h => ?_) (fun h => ?_)
 ·refine VE ?_
  cases h
  exact zH VT
 ·refine zK ?_
  show V _ _ _ _
  refine VE ?_
  refine zF ?_
  refine VE ?_
  obtain ⟨qo11, hLo11, hko11⟩ := zA h
  refine V_toS (q := qo11) (S := fun o11 => ⟨bt 3 (I o11 :: bt 40 []), []⟩) (mb 44 8) [] ?_ ?_
  ·refine zG (V_loop (fun n s => ∃ (vn8 : Int) (i9 : Int), s.keep (mb 44 25) [] = (⟨.c (.v (.string vs1)) :: .bot :: .bot :: I vn8 :: I i9 :: bt 39 [], []⟩ : St) ∧ r_spec_nuRead_L10 vs1 n vn8 i9 = some qo11) FU ⟨_, _,  kk, hLo11⟩ ?_)
   clear hLo11
   rintro n s ⟨vn8, i9, hs, h⟩
   refine zV _ _ hs ?_
   clear hs
   cases n with
   | zero => cases h
   | succ n =>
    rw [r_spec_nuRead_L10] at h
    refine zF ?_
    refine VS ?_
    refine YF ?_
    refine VC h (fun h => ?_) (fun h => ?_)
    ·refine zK ?_
     show V _ _ _ _
     refine zF ?_
     refine zG ?_
     refine zF ?_
     obtain ⟨e13, he13, h⟩ := zA h
     obtain ⟨b16, hb16, h⟩ := zA h
     refine zO (mb 44 17179869209) [] (s1 := ⟨.c (.v (.string vs1)) :: .bot :: .bot :: I vn8 :: I i9 :: bt 29 (Bo b16 :: bt 9 []), []⟩) ?_ ?_
     ·refine YR 2 ?_
      refine L0 rfl rfl (Y0_idxs (b := vs1) (k := .i64) (n := i9) (v := e13) Tryz.underlying9 rfl kk kk he13) ?_
      refine YR 2 ?_
      refine zJ (ltI e13 48) (fun hc14 => ?_) (fun hc14 => ?_)
      ·have hb16 := zB (zN hb16 hc14)
       refine YQ hc14 ?_
       exact YE (by rw [← hb16]; (try rw [hc14]); kernel_rfl)
      ·have hb16 := zC hb16 hc14
       obtain ⟨e15, he15, hb16⟩ := zA hb16
       have hb16 := zB hb16
       refine YQ hc14 ?_
       refine YR 2 ?_
       refine YT (X_of_Y0 rfl (Y0_idxs (b := vs1) (k := .i64) (n := i9) (v := e15) Tryz.underlying9 rfl kk kk he15)) ?_
       exact YE (by rw [← hb16]; (try rw [hc14]); kernel_rfl)
     refine VC h (fun h => ?_) (fun h => ?_)
     ·refine VE ?_
      refine zH ?_
      obtain rfl := zB h
      have h := hko11
      obtain rfl := zB h
      exact VT
     ·refine zK ?_
      show V _ _ _ _
      obtain ⟨e18, he18, h⟩ := zA h
      obtain ⟨vn19, hvn19, h⟩ := zU h
      refine V_reg (mb 44 25) [] (s1 := ⟨.c (.v (.string vs1)) :: .bot :: .bot :: I vn19 :: I i9 :: bt 39 [], []⟩) ?_ ?_
      ·refine XR 4 ?_
       refine L0 rfl rfl (Y0_idxs (b := vs1) (k := .i64) (n := i9) (v := e18) Tryz.underlying9 rfl kk kk he18) ?_
       refine L0 rfl rfl (Y0_sub (k := .u8) (a := e18) (b := 48) rfl kk kk) ?_
       refine L0 rfl rfl (Y0_conv (k2 := .u8) (a := IntKind.u8.wrap (e18 - 48)) Tryz.underlying5 Tryz.underlying3 rfl kk) ?_
       refine XR 2 ?_
       refine zD ?_
       subst hvn19
       kernel_rfl
      show V _ _ _ _
      obtain ⟨i20, hi20, h⟩ := zU h
      refine V_reg (mb 44 25) [] (s1 := ⟨.c (.v (.string vs1)) :: .bot :: .bot :: I vn19 :: I i20 :: bt 39 [], []⟩) ?_ ?_
      ·refine XR 3 ?_
       refine zD ?_
       subst hi20
       kernel_rfl
      exact ⟨n, Nat.lt_succ_self n, _, _,  kk, h⟩
    ·refine V_exit ?_
     obtain rfl := zB h
     exact ⟨_, rfl, kk⟩
  rintro o11 rfl
  have h := hko11
  clear hko11
  show V _ _ _ _
  refine VE ?_
  cases h
  exact zH VT
theorem cf_spec_foInt : CfW Tryz.prog 146 := cfW Tryz.func146
theorem s_spec_foInt {vs1 : ByteArray} {r : (Int × Bool)} (h : r_spec_foInt vs1 = some r) : zP Tryz.prog 146 [.c (.v (.string vs1))] (.tc (I r.1) (.tc (Bo r.2) .tn)) [] := by
 refine CtW [2, 3] Tryz.func146 rfl rfl 36 ?_
 unfold r_spec_foInt at h
 refine VE ?_
 obtain ⟨b4, hb4, h⟩ := zA h
 refine zO (mb 36 17) [] (s1 := ⟨.c (.v (.string vs1)) :: bt 3 (Bo b4 :: bt 31 []), []⟩) ?_ ?_
 ·refine YR 4 ?_
  refine zJ (ltI 1 ((vs1.size : Int))) (fun hc2 => ?_) (fun hc2 => ?_)
  ·have hb4 := zN hb4 hc2
   obtain ⟨e3, he3, hb4⟩ := zA hb4
   have hb4 := zB hb4
   refine YQ hc2 ?_
   refine YR 1 ?_
   refine YT (X_of_Y0 rfl (Y0_idxs (b := vs1) (k := .i64) (n := 0) (v := e3) Tryz.underlying9 rfl kk kk he3)) ?_
   exact YE (by rw [← hb4]; (try rw [hc2]); kernel_rfl)
  ·have hb4 := zB (zC hb4 hc2)
   refine YQ hc2 ?_
   exact YE (by rw [← hb4]; (try rw [hc2]); kernel_rfl)
 obtain ⟨j5, hj5, h⟩ := zA h
 refine V_cutK (mb 36 17) [] (s1 := ⟨.c (.v (.string j5)) :: bt 3 (Bo b4 :: bt 31 []), []⟩) ?_ ?_
 ·clear h
  have h := hj5
  clear hj5
  refine VE ?_
  refine VC h (fun h => ?_) (fun h => ?_)
  ·obtain ⟨u7, hu7, h⟩ := zA h
   refine zW ?_
   refine YR 1 ?_
   refine L0 rfl rfl (Y0_slices (b := vs1) (l := 1) (h := (vs1.size : Int)) Tryz.underlying9 rfl kk (fun y hy => by cases hy; exact ⟨.i64, kk⟩) (fun hh => by cases hh) (fun y hy => by cases hy) (fun _ => rfl) (slc_some hu7)) ?_
   refine YF ?_
   obtain rfl := zB h
   show St.keep _ _ _ = _
   kernel_rfl
  ·refine zK ?_
   obtain rfl := zB h
   show St.keep _ _ _ = _
   kernel_rfl
 obtain ⟨y8, hy8, h⟩ := zA h
 refine VS ?_
 refine YK 1 (s_spec_nuRead hy8) cf_spec_nuRead ?_
 refine YF ?_
 refine zF ?_
 obtain ⟨t12, ht12, h⟩ := zA h
 have ht12 := zB ht12
 refine zO (mb 36 2147483696) [] (s1 := ⟨bt 4 (Bo b4 :: I y8 :: bt 25 (Bo t12 :: bt 4 [])), []⟩) ?_ ?_
 ·refine YR 3 ?_
  refine zJ (ltI y8 0) (fun hc9 => ?_) (fun hc9 => ?_)
  ·refine YQ hc9 ?_
   refine YR 7 ?_
   refine zJ (bif (ltI y8 0) then true else (bif b4 then (eqI y8 0) else false)) (fun hc11 => ?_) (fun hc11 => ?_)
   ·refine YQ hc11 ?_ (by rw [hc9]; kernel_rfl)
    exact YE (by rw [← ht12]; (try rw [hc11]); (try rw [hc9]); kernel_rfl)
   ·refine YQ hc11 ?_ (by rw [hc9]; kernel_rfl)
    exact YE (by rw [← ht12]; (try rw [hc11]); (try rw [hc9]); kernel_rfl)
  ·refine YQ hc9 ?_
   refine YR 2 ?_
   refine zJ b4 (fun hc10 => ?_) (fun hc10 => ?_)
   ·refine YQ hc10 ?_
    refine YR 5 ?_
    refine zJ (bif (ltI y8 0) then true else (bif b4 then (eqI y8 0) else false)) (fun hc11 => ?_) (fun hc11 => ?_)
    ·refine YQ hc11 ?_ (by rw [hc9]; (try rw [hc10]); kernel_rfl)
     exact YE (by rw [← ht12]; (try rw [hc11]); (try rw [hc9]); (try rw [hc10]); kernel_rfl)
    ·refine YQ hc11 ?_ (by rw [hc9]; (try rw [hc10]); kernel_rfl)
     exact YE (by rw [← ht12]; (try rw [hc11]); (try rw [hc9]); (try rw [hc10]); kernel_rfl)
   ·refine YQ hc10 ?_
    refine YR 5 ?_
    refine zJ (bif (ltI y8 0) then true else (bif b4 then (eqI y8 0) else false)) (fun hc11 => ?_) (fun hc11 => ?_)
    ·refine YQ hc11 ?_ (by rw [hc9]; (try rw [hc10]); kernel_rfl)
     exact YE (by rw [← ht12]; (try rw [hc11]); (try rw [hc9]); (try rw [hc10]); kernel_rfl)
    ·refine YQ hc11 ?_ (by rw [hc9]; (try rw [hc10]); kernel_rfl)
     exact YE (by rw [← ht12]; (try rw [hc11]); (try rw [hc9]); (try rw [hc10]); kernel_rfl)
 refine VC h (fun h => ?_) (fun h => ?_)
 ·refine VE ?_
  cases h
  exact zH VT
 ·refine zK ?_
  show V _ _ _ _
  refine zF ?_
  refine VE ?_
  refine VC h (fun h => ?_) (fun h => ?_)
  ·obtain ⟨t15, ht15, h⟩ := zU h
   refine zO (mb 36 12) [] (s1 := ⟨.bot :: .bot :: I t15 :: Bo true :: bt 32 [], []⟩) ?_ ?_
   ·refine XR 4 ?_
    refine zD ?_
    subst ht15
    kernel_rfl
   cases h
   exact zH VT
  ·refine zK ?_
   show V _ _ _ _
   refine VE ?_
   cases h
   exact zH VT
theorem cf_spec_foInts : CfW Tryz.prog 215 := cfW Tryz.func215
theorem s_spec_foInts {vs1 : ByteArray} {b2 : Int} {count3 : Int} {r : List Int} (h : r_spec_foInts vs1 b2 count3 = some r) : zP Tryz.prog 215 [.c (.v (.string vs1)), .c (.v (.int .u8 b2)), I count3] (.ow 0) [(0, .arr 3 1 (r.map c3))] := by
 refine CtW [6] Tryz.func215 rfl rfl 39 ?_
 unfold r_spec_foInts at h
 refine VS ?_
 refine L1 rfl rfl (Y1_nil (e := 3) 1 (by decide) (.inl rfl)) ?_
 refine YF ?_
 obtain ⟨y4, hy4, h⟩ := zA h
 refine VS ?_
 refine YK 2 (s_spec_l1Split hy4) cf_spec_l1Split ?_
 refine YF ?_
 refine zF ?_
 refine VS ?_
 refine YR 1 ?_
 refine L0 rfl rfl (Y0_lenM (c := c9) (xs := y4) Tryz.underlying66 rfl kk) ?_
 refine YF ?_
 refine VC h (fun h => ?_) (fun h => ?_)
 ·refine VS ?_
  refine L1 rfl rfl (Y1_nil (e := 3) 1 (by decide) (.inl rfl)) ?_
  refine YF ?_
  cases h
  exact zH VT
 ·refine zK ?_
  show V _ _ _ _
  refine VS ?_
  refine L1 rfl rfl (Y1_nil (e := 3) 1 (by decide) (.inl rfl)) ?_
  refine YF ?_
  refine zF ?_
  refine VS ?_
  refine YR 1 ?_
  refine L0 rfl rfl (Y0_lenM (c := c9) (xs := y4) Tryz.underlying66 rfl kk) ?_
  refine YF ?_
  obtain ⟨qo9, hLo9, hko9⟩ := zA h
  refine V_toS (q := qo9) (S := fun o9 => ⟨bt 8 (.ow 64 :: bt 30 []), [(64, .arr 3 1 (o9.map c3))]⟩) (mb 39 256) [64] ?_ ?_
  ·refine zG (V_loop (fun n s => ∃ (t6 : Int) (l7 : List Int), s.keep (mb 39 7340288) [64, 120] = (⟨bt 8 (.ow 64 :: bt 11 (.ow 120 :: I ((y4.length : Int)) :: I t6 :: bt 16 [])), [(64, .arr 3 1 (l7.map c3)), (120, .arr 9 1 (y4.map c9))]⟩ : St) ∧ r_spec_foInts_L8 y4 n t6 l7 = some qo9) FU ⟨_, _,  kk, hLo9⟩ ?_)
   clear hLo9
   rintro n s ⟨t6, l7, hs, h⟩
   refine zV _ _ hs ?_
   clear hs
   cases n with
   | zero => cases h
   | succ n =>
    rw [r_spec_foInts_L8] at h
    refine VE ?_
    refine zF ?_
    refine VC h (fun h => ?_) (fun h => ?_)
    ·refine zK ?_
     show V _ _ _ _
     refine zF ?_
     refine zG ?_
     obtain ⟨e11, he11, h⟩ := zA h
     obtain ⟨e12, he12, h⟩ := zA h
     refine VS ?_
     refine L0 rfl rfl (Y0_idxoM (c := c9) (xs := y4) (v := e11) (id := 120) (T := 9) (sz := 1) (n := t6) Tryz.underlying66 sz9 rfl kk kk kk he11) ?_
     refine L0 rfl rfl (Y0_loado1 (c := c9) (xs := y4) (v := e12) (id := 120) (sz := 1) (T := 9) (off := 0) (n := t6) (d := .v (.string e12)) (ds := []) sc9 rfl kk kk he12 kk) ?_
     refine YF ?_
     obtain ⟨y13, hy13, h⟩ := zA h
     refine VS ?_
     refine YK 1 (s_spec_foInt hy13) cf_spec_foInt ?_
     refine YF ?_
     refine zF ?_
     refine VE ?_
     refine VC h (fun h => ?_) (fun h => ?_)
     ·refine VS ?_
      refine L1 rfl rfl (Y1_nil (e := 3) 1 (by decide) (.inl rfl)) ?_
      refine YF ?_
      refine zH ?_
      obtain rfl := zB h
      have h := hko9
      obtain rfl := zB h
      exact VT
     ·refine zK ?_
      show V _ _ _ _
      obtain ⟨u15, hu15, h⟩ := zA h
      refine zW ?_
      refine YR 2 ?_
      refine L1 rfl rfl (Y1_bslice (z := zv3) (els := [y13.1].map c3) Tryz.underlying24 iz3 rfl (by decide) rfl kk rfl (by simp [c3]) (by decide) (by decide)) ?_
      refine XL_cons rfl (X_appendM (c := c3) (xs := l7) (ys := [y13.1]) (id := 64) (z := zv3) rfl rfl Tryz.underlying24 izb3 rfl kk kk kk (fun _ => rfl) (by simp) (room_some hu15) (by decide)) ?_
      refine YF ?_
      show V _ _ _ _
      obtain ⟨t16, ht16, h⟩ := zU h
      refine V_reg (mb 39 7340288) [64, 120] (s1 := ⟨bt 8 (.ow 64 :: bt 11 (.ow 120 :: I ((y4.length : Int)) :: I t16 :: bt 16 [])), [(64, .arr 3 1 ((l7 ++ ([y13.1])).map c3)), (120, .arr 9 1 (y4.map c9))]⟩) ?_ ?_
      ·refine XR 2 ?_
       refine zD ?_
       subst ht16
       kernel_rfl
      exact ⟨n, Nat.lt_succ_self n, _, _,  kk, h⟩
    ·refine V_exit ?_
     obtain rfl := zB h
     exact ⟨_, rfl, kk⟩
  rintro o9 rfl
  have h := hko9
  clear hko9
  show V _ _ _ _
  refine VE ?_
  cases h
  exact zH VT
theorem cf_spec_foRead : CfW Tryz.prog 144 := cfW Tryz.func144
theorem s_spec_foRead {vs1 : ByteArray} {r : (((Int × Int × Int)) × Bool)} (h : r_spec_foRead vs1 = some r) : zP Tryz.prog 144 [.c (.v (.string vs1))] (.tc (.ag [Ti r.1.1, Ti r.1.2.1, Ti r.1.2.2]) (.tc (Bo r.2) .tn)) [] := by
 refine zT (rs := [.w 2 3, .t 3]) (vs := [.cell 2 38, .tmp 3]) Tryz.func144 rfl rfl (.cons ⟨rfl, wd38⟩ (.cons rfl FitsL.nil)) (by decide) 32 rfl ?_
 unfold r_spec_foRead at h
 refine VE ?_
 obtain ⟨y2, hy2, h⟩ := zA h
 refine VS ?_
 refine YK 1 (s_spec_foInside hy2) cf_spec_foInside ?_
 refine YF ?_
 obtain ⟨y3, hy3, h⟩ := zA h
 refine VS ?_
 refine YK 1 (s_spec_foInts hy3) cf_spec_foInts ?_
 refine YF ?_
 refine zF ?_
 refine zO (mb 32 1048644) [104, 16] (s1 := ⟨.bot :: .bot :: .pt 16 0 :: bt 3 (.ow 104 :: bt 13 (Bo (bif (!y2.2) then true else (!eqI ((y3.length : Int)) 3)) :: bt 11 [])), [(104, .arr 3 1 (y3.map c3)), (16, .box [Ti 0, Ti 0, Ti 0])]⟩) ?_ ?_
 ·refine YR 3 ?_
  refine zJ (!y2.2) (fun hc4 => ?_) (fun hc4 => ?_)
  ·refine YQ hc4 ?_
   exact YE (by rw [hc4]; kernel_rfl)
  ·refine YQ hc4 ?_
   refine YR 1 ?_
   refine YT (X_of_Y0 rfl (Y0_lenM (c := c3) (xs := y3) Tryz.underlying24 rfl kk)) ?_
   exact YE (by rw [hc4]; kernel_rfl)
 refine VC h (fun h => ?_) (fun h => ?_)
 ·refine VS ?_
  refine L0 rfl rfl (Y0_build (cs := [Ti 0, Ti 0, Ti 0]) pl38 bt38 rfl rfl kk) ?_
  refine YF ?_
  cases h
  exact zH VT
 ·refine zK ?_
  show V _ _ _ _
  obtain ⟨e6, he6, h⟩ := zA h
  obtain ⟨e7, he7, h⟩ := zA h
  obtain ⟨e8, he8, h⟩ := zA h
  obtain ⟨e9, he9, h⟩ := zA h
  obtain ⟨e10, he10, h⟩ := zA h
  obtain ⟨e11, he11, h⟩ := zA h
  refine VDS [0, 1, 3, 0, 8, 24, 0, 64, 192, 511, 1023, 2047] 10 (cdm 10 [174720, 174721, 174725, 172074, 172138, 172394, 2730, 6826, 23210, 87381]) ?_
  refine ER 1 ?_
  refine E0 1 rfl rfl (Y0_idxoM (c := c3) (xs := y3) (v := e6) (id := 104) (T := 3) (sz := 1) (n := 0) Tryz.underlying24 sz3 rfl kk kk kk he6) ?_
  refine E0 2 rfl rfl (Y0_loado1 (c := c3) (xs := y3) (v := e7) (id := 104) (sz := 1) (T := 3) (off := 0) (n := 0) (d := Ti e7) (ds := []) sc3 rfl kk kk he7 kk) ?_
  refine ER 1 ?_
  refine E0 4 rfl rfl (Y0_idxoM (c := c3) (xs := y3) (v := e8) (id := 104) (T := 3) (sz := 1) (n := 1) Tryz.underlying24 sz3 rfl kk kk kk he8) ?_
  refine E0 5 rfl rfl (Y0_loado1 (c := c3) (xs := y3) (v := e9) (id := 104) (sz := 1) (T := 3) (off := 0) (n := 1) (d := Ti e9) (ds := []) sc3 rfl kk kk he9 kk) ?_
  refine ER 1 ?_
  refine E0 7 rfl rfl (Y0_idxoM (c := c3) (xs := y3) (v := e10) (id := 104) (T := 3) (sz := 1) (n := 2) Tryz.underlying24 sz3 rfl kk kk kk he10) ?_
  refine E0 8 rfl rfl (Y0_loado1 (c := c3) (xs := y3) (v := e11) (id := 104) (sz := 1) (T := 3) (off := 0) (n := 2) (d := Ti e11) (ds := []) sc3 rfl kk kk he11 kk) ?_
  refine E0 9 rfl rfl (Y0_build (cs := [Ti e7, Ti e9, Ti e11]) pl38 bt38 rfl rfl kk) ?_
  refine EF 0 ?_
  cases h
  exact zH VT
theorem cf_spec_foReadMatrix : CfW Tryz.prog 145 := cfW Tryz.func145
theorem s_spec_foReadMatrix {vs1 : ByteArray} {r : (((Int × Int × Int × Int)) × Bool)} (h : r_spec_foReadMatrix vs1 = some r) : zP Tryz.prog 145 [.c (.v (.string vs1))] (.tc (.ag [Ti r.1.1, Ti r.1.2.1, Ti r.1.2.2.1, Ti r.1.2.2.2]) (.tc (Bo r.2) .tn)) [] := by
 refine zT (rs := [.w 2 4, .t 3]) (vs := [.cell 2 109, .tmp 3]) Tryz.func145 rfl rfl (.cons ⟨rfl, wd109⟩ (.cons rfl FitsL.nil)) (by decide) 54 rfl ?_
 unfold r_spec_foReadMatrix at h
 refine VE ?_
 obtain ⟨y2, hy2, h⟩ := zA h
 refine VS ?_
 refine YK 1 (s_spec_foInside hy2) cf_spec_foInside ?_
 refine YF ?_
 obtain ⟨y3, hy3, h⟩ := zA h
 refine VS ?_
 refine YK 1 (s_spec_l1Split hy3) cf_spec_l1Split ?_
 refine YF ?_
 refine zF ?_
 refine zO (mb 54 4194372) [120, 16] (s1 := ⟨.bot :: .bot :: .pt 16 0 :: bt 3 (.ow 120 :: bt 15 (Bo (bif (!y2.2) then true else (!eqI ((y3.length : Int)) 2)) :: bt 31 [])), [(120, .arr 9 1 (y3.map c9)), (16, .box [Ti 0, Ti 0, Ti 0, Ti 0])]⟩) ?_ ?_
 ·refine YR 3 ?_
  refine zJ (!y2.2) (fun hc4 => ?_) (fun hc4 => ?_)
  ·refine YQ hc4 ?_
   exact YE (by rw [hc4]; kernel_rfl)
  ·refine YQ hc4 ?_
   refine YR 1 ?_
   refine YT (X_of_Y0 rfl (Y0_lenM (c := c9) (xs := y3) Tryz.underlying66 rfl kk)) ?_
   exact YE (by rw [hc4]; kernel_rfl)
 refine VC h (fun h => ?_) (fun h => ?_)
 ·refine VS ?_
  refine L0 rfl rfl (Y0_build (cs := [Ti 0, Ti 0, Ti 0, Ti 0]) pl109 bt109 rfl rfl kk) ?_
  refine YF ?_
  cases h
  exact zH VT
 ·refine zK ?_
  show V _ _ _ _
  obtain ⟨e6, he6, h⟩ := zA h
  obtain ⟨e7, he7, h⟩ := zA h
  obtain ⟨y8, hy8, h⟩ := zA h
  obtain ⟨e9, he9, h⟩ := zA h
  obtain ⟨e10, he10, h⟩ := zA h
  obtain ⟨y11, hy11, h⟩ := zA h
  refine VDS [0, 1, 3, 7, 0, 16, 48, 127, 255, 511] 10 (cdm 10 [10752, 10753, 10757, 10773, 170, 426, 1450, 5461, 21845, 87381]) ?_
  refine ER 1 ?_
  refine E0 1 rfl rfl (Y0_idxoM (c := c9) (xs := y3) (v := e6) (id := 120) (T := 9) (sz := 1) (n := 0) Tryz.underlying66 sz9 rfl kk kk kk he6) ?_
  refine E0 2 rfl rfl (Y0_loado1 (c := c9) (xs := y3) (v := e7) (id := 120) (sz := 1) (T := 9) (off := 0) (n := 0) (d := .v (.string e7)) (ds := []) sc9 rfl kk kk he7 kk) ?_
  refine EK 0 (s_spec_foInts hy8) cf_spec_foInts ?_
  refine ER 1 ?_
  refine E0 5 rfl rfl (Y0_idxoM (c := c9) (xs := y3) (v := e9) (id := 120) (T := 9) (sz := 1) (n := 1) Tryz.underlying66 sz9 rfl kk kk kk he9) ?_
  refine E0 6 rfl rfl (Y0_loado1 (c := c9) (xs := y3) (v := e10) (id := 120) (sz := 1) (T := 9) (off := 0) (n := 1) (d := .v (.string e10)) (ds := []) sc9 rfl kk kk he10 kk) ?_
  refine EK 0 (s_spec_foInts hy11) cf_spec_foInts ?_
  refine EF 2 ?_
  refine zF ?_
  obtain ⟨t13, ht13, h⟩ := zA h
  have ht13 := zB ht13
  refine zO (mb 54 549755814276) [248, 216, 16] (s1 := ⟨.bot :: .bot :: .pt 16 0 :: bt 4 (.ow 216 :: .ow 248 :: bt 30 (Bo t13 :: bt 14 [])), [(248, .arr 3 1 (y11.map c3)), (216, .arr 3 1 (y8.map c3)), (16, .box [Ti 0, Ti 0, Ti 0, Ti 0])]⟩) ?_ ?_
  ·refine YR 1 ?_
   refine L0 rfl rfl (Y0_lenM (c := c3) (xs := y8) Tryz.underlying24 rfl kk) ?_
   refine YR 2 ?_
   refine zJ (!eqI ((y8.length : Int)) 2) (fun hc12 => ?_) (fun hc12 => ?_)
   ·refine YQ hc12 ?_
    exact YE (by rw [← ht13]; (try rw [hc12]); kernel_rfl)
   ·refine YQ hc12 ?_
    refine YR 1 ?_
    refine YT (X_of_Y0 rfl (Y0_lenM (c := c3) (xs := y11) Tryz.underlying24 rfl kk)) ?_
    exact YE (by rw [← ht13]; (try rw [hc12]); kernel_rfl)
  refine VC h (fun h => ?_) (fun h => ?_)
  ·refine VS ?_
   refine L0 rfl rfl (Y0_build (cs := [Ti 0, Ti 0, Ti 0, Ti 0]) pl109 bt109 rfl rfl kk) ?_
   refine YF ?_
   cases h
   exact zH VT
  ·refine zK ?_
   show V _ _ _ _
   obtain ⟨e15, he15, h⟩ := zA h
   obtain ⟨e16, he16, h⟩ := zA h
   obtain ⟨e17, he17, h⟩ := zA h
   obtain ⟨e18, he18, h⟩ := zA h
   obtain ⟨e19, he19, h⟩ := zA h
   obtain ⟨e20, he20, h⟩ := zA h
   obtain ⟨e21, he21, h⟩ := zA h
   obtain ⟨e22, he22, h⟩ := zA h
   refine VDS [0, 1, 3, 0, 8, 24, 0, 64, 192, 0, 512, 1536, 4095, 8191, 16383] 13 (cdm 13 [11184768, 11184769, 11184773, 11182122, 11182186, 11182442, 11012778, 11016874, 11033258, 174762, 436906, 1485482, 5592405]) ?_
   refine ER 1 ?_
   refine E0 1 rfl rfl (Y0_idxoM (c := c3) (xs := y8) (v := e15) (id := 216) (T := 3) (sz := 1) (n := 0) Tryz.underlying24 sz3 rfl kk kk kk he15) ?_
   refine E0 2 rfl rfl (Y0_loado1 (c := c3) (xs := y8) (v := e16) (id := 216) (sz := 1) (T := 3) (off := 0) (n := 0) (d := Ti e16) (ds := []) sc3 rfl kk kk he16 kk) ?_
   refine ER 1 ?_
   refine E0 4 rfl rfl (Y0_idxoM (c := c3) (xs := y8) (v := e17) (id := 216) (T := 3) (sz := 1) (n := 1) Tryz.underlying24 sz3 rfl kk kk kk he17) ?_
   refine E0 5 rfl rfl (Y0_loado1 (c := c3) (xs := y8) (v := e18) (id := 216) (sz := 1) (T := 3) (off := 0) (n := 1) (d := Ti e18) (ds := []) sc3 rfl kk kk he18 kk) ?_
   refine ER 1 ?_
   refine E0 7 rfl rfl (Y0_idxoM (c := c3) (xs := y11) (v := e19) (id := 248) (T := 3) (sz := 1) (n := 0) Tryz.underlying24 sz3 rfl kk kk kk he19) ?_
   refine E0 8 rfl rfl (Y0_loado1 (c := c3) (xs := y11) (v := e20) (id := 248) (sz := 1) (T := 3) (off := 0) (n := 0) (d := Ti e20) (ds := []) sc3 rfl kk kk he20 kk) ?_
   refine ER 1 ?_
   refine E0 10 rfl rfl (Y0_idxoM (c := c3) (xs := y11) (v := e21) (id := 248) (T := 3) (sz := 1) (n := 1) Tryz.underlying24 sz3 rfl kk kk kk he21) ?_
   refine E0 11 rfl rfl (Y0_loado1 (c := c3) (xs := y11) (v := e22) (id := 248) (sz := 1) (T := 3) (off := 0) (n := 1) (d := Ti e22) (ds := []) sc3 rfl kk kk he22 kk) ?_
   refine E0 12 rfl rfl (Y0_build (cs := [Ti e16, Ti e18, Ti e20, Ti e22]) pl109 bt109 rfl rfl kk) ?_
   refine EF 0 ?_
   cases h
   exact zH VT
theorem cf_spec_prParse : CfW Tryz.prog 67 := cfW Tryz.func67
theorem s_spec_prParse {vs1 : ByteArray} {r : (ByteArray × (((List ((Int × Int × Int))) × (List ((Int × Int × Int × Int))) × (List Int))) × Bool)} (h : r_spec_prParse vs1 = some r) : zP Tryz.prog 67 [.c (.v (.string vs1))] (.tc (.c (.v (.string r.1))) (.tc (.ag [.sl (r.2.1.1.map c38), .sl (r.2.1.2.1.map c109), .sl (r.2.1.2.2.map c3)]) (.tc (Bo r.2.2) .tn))) [] := by
 refine zT (rs := [.t 2, .w 3 3, .t 4]) (vs := [.tmp 2, .cell 3 98, .tmp 4]) Tryz.func67 rfl rfl (.cons rfl (.cons ⟨rfl, wd98⟩ (.cons rfl FitsL.nil))) (by decide) 102 rfl ?_
 unfold r_spec_prParse at h
 refine VE ?_
 obtain ⟨y2, hy2, h⟩ := zA h
 refine VS ?_
 refine YK 1 (s_spec_l1Split hy2) cf_spec_l1Split ?_
 refine YF ?_
 refine VE ?_
 obtain ⟨e3, he3, h⟩ := zA h
 obtain ⟨e4, he4, h⟩ := zA h
 obtain ⟨y5, hy5, h⟩ := zA h
 refine VS ?_
 refine YR 1 ?_
 refine L0 rfl rfl (Y0_idxoM (c := c9) (xs := y2) (v := e3) (id := 144) (T := 9) (sz := 1) (n := 0) Tryz.underlying66 sz9 rfl kk kk kk he3) ?_
 refine L0 rfl rfl (Y0_loado1 (c := c9) (xs := y2) (v := e4) (id := 144) (sz := 1) (T := 9) (off := 0) (n := 0) (d := .v (.string e4)) (ds := []) sc9 rfl kk kk he4 kk) ?_
 refine YK 0 (s_spec_prWords hy5) cf_spec_prWords ?_
 refine YF ?_
 refine zF ?_
 obtain ⟨t7, ht7, h⟩ := zA h
 have ht7 := zB ht7
 refine zO (mb 102 4294967528) [48, 144, 24] (s1 := ⟨bt 3 (.pt 24 0 :: .bot :: .ow 144 :: .pt 48 0 :: .c (.v (.string y5)) :: bt 24 (Bo t7 :: bt 69 [])), [(48, .box [.v (.slice none 0 0), .v (.slice none 0 0), .v (.slice none 0 0)]), (144, .arr 9 1 (y2.map c9)), (24, .box [.v (.slice none 0 0), .v (.slice none 0 0), .v (.slice none 0 0)])]⟩) ?_ ?_
 ·refine YR 3 ?_
  refine zJ (y5.toList == ((⟨#[]⟩ : ByteArray)).toList) (fun hc6 => ?_) (fun hc6 => ?_)
  ·refine YQ hc6 ?_
   exact YE (by rw [← ht7]; (try rw [hc6]); kernel_rfl)
  ·refine YQ hc6 ?_
   refine YR 1 ?_
   refine YT (X_of_Y0 rfl (Y0_lenM (c := c9) (xs := y2) Tryz.underlying66 rfl kk)) ?_
   exact YE (by rw [← ht7]; (try rw [hc6]); kernel_rfl)
 refine VC h (fun h => ?_) (fun h => ?_)
 ·refine VDS [0, 0, 3, 7] 2 (cdm 2 [8, 2]) ?_
  refine EF 2 ?_
  refine V_nilSl 24 0 (cs := [.v (.slice none 0 0), .v (.slice none 0 0), .v (.slice none 0 0)]) kk kk rfl ?_
  refine V_nilSl 24 1 (cs := [.sl ((([] : List ((Int × Int × Int)))).map c38), .v (.slice none 0 0), .v (.slice none 0 0)]) kk kk rfl ?_
  refine V_nilSl 24 2 (cs := [.sl ((([] : List ((Int × Int × Int)))).map c38), .sl ((([] : List ((Int × Int × Int × Int)))).map c109), .v (.slice none 0 0)]) kk kk rfl ?_
  cases h
  exact zH VT
 ·refine zK ?_
  show V _ _ _ _
  refine VE ?_
  refine zF ?_
  refine V_e (mb 102 1000) [48, 144, 24] (s1 := ⟨bt 3 (.pt 24 0 :: .bot :: .ow 144 :: .pt 48 0 :: .c (.v (.string y5)) :: Bo true :: I 0 :: bt 92 []), [(48, .box [.v (.slice none 0 0), .v (.slice none 0 0), .v (.slice none 0 0)]), (144, .arr 9 1 (y2.map c9)), (24, .box [.v (.slice none 0 0), .v (.slice none 0 0), .v (.slice none 0 0)])]⟩) ?_
  refine V_nilrow 49 38 3 kk (by decide) ?_
  refine V_nilrow 50 109 4 kk (by decide) ?_
  refine V_nilrow 51 3 1 kk (by decide) ?_
  refine V_gen (fun γ : Nat → Loc => ⟨bt 3 (.pt 24 0 :: .bot :: .ow 144 :: .pt 48 0 :: .c (.v (.string y5)) :: Bo true :: I 0 :: bt 92 []), [(51, .qarr (γ 51) 3 1 ((([] : List Int)).map c3)), (50, .qarr (γ 50) 109 4 ((([] : List ((Int × Int × Int × Int)))).map c109)), (49, .qarr (γ 49) 38 3 ((([] : List ((Int × Int × Int)))).map c38)), (48, .box [.v (zE (γ 49)), .v (zE (γ 50)), .v (zE (γ 51))]), (144, .arr 9 1 (y2.map c9)), (24, .box [.v (.slice none 0 0), .v (.slice none 0 0), .v (.slice none 0 0)])]⟩) (fun _ => loc0) kk fun γ => ?_
  obtain ⟨o15, hLo15, h⟩ := zA h
  refine V_toKQ (S := fun γ : Nat → Loc => ⟨bt 3 (.pt 24 0 :: .bot :: .ow 144 :: .pt 48 0 :: .bot :: Bo o15.1 :: bt 93 []), [(51, .qarr (γ 51) 3 1 (o15.2.1.map c3)), (50, .qarr (γ 50) 109 4 (o15.2.2.1.map c109)), (49, .qarr (γ 49) 38 3 (o15.2.2.2.map c38)), (48, .box [.v (zE (γ 49)), .v (zE (γ 50)), .v (zE (γ 51))]), (144, .arr 9 1 (y2.map c9)), (24, .box [.v (.slice none 0 0), .v (.slice none 0 0), .v (.slice none 0 0)])]⟩) (mb 102 360) [51, 50, 49, 48, 144, 24] ?_ ?_
  ·clear h
   refine zG (V_loop (fun n s => ∃ (ok9 : Bool) (i10 : Int) (l11 : List ((Int × Int × Int))) (l12 : List ((Int × Int × Int × Int))) (l13 : List Int), ∃ γ : Nat → Loc, s.keep (mb 102 1000) [51, 50, 49, 48, 144, 24] = (⟨bt 3 (.pt 24 0 :: .bot :: .ow 144 :: .pt 48 0 :: .c (.v (.string y5)) :: Bo ok9 :: I i10 :: bt 92 []), [(51, .qarr (γ 51) 3 1 (l13.map c3)), (50, .qarr (γ 50) 109 4 (l12.map c109)), (49, .qarr (γ 49) 38 3 (l11.map c38)), (48, .box [.v (zE (γ 49)), .v (zE (γ 50)), .v (zE (γ 51))]), (144, .arr 9 1 (y2.map c9)), (24, .box [.v (.slice none 0 0), .v (.slice none 0 0), .v (.slice none 0 0)])]⟩ : St) ∧ zR y2 y5 n ok9 i10 l11 l12 l13 = some o15) FU ⟨_, _, _, _, _, γ,  kk, hLo15⟩ ?_)
   clear hLo15
   rintro n s ⟨ok9, i10, l11, l12, l13, γ, hs, h⟩
   refine zV _ _ hs ?_
   clear hs
   cases n with
   | zero => cases h
   | succ n =>
    rw [zR] at h
    refine zF ?_
    refine V_sregQ (fun γ : Nat → Loc => ⟨bt 3 (.pt 24 0 :: .bot :: .ow 144 :: .pt 48 0 :: .c (.v (.string y5)) :: Bo ok9 :: I i10 :: bt 27 (Bo (ltI i10 ((y5.size : Int))) :: bt 64 [])), [(51, .qarr (γ 51) 3 1 (l13.map c3)), (50, .qarr (γ 50) 109 4 (l12.map c109)), (49, .qarr (γ 49) 38 3 (l11.map c38)), (48, .box [.v (zE (γ 49)), .v (zE (γ 50)), .v (zE (γ 51))]), (144, .arr 9 1 (y2.map c9)), (24, .box [.v (.slice none 0 0), .v (.slice none 0 0), .v (.slice none 0 0)])]⟩) (mb 102 137438954472) [51, 50, 49, 48, 144, 24] ?_ ?_
    ·refine XR 2 ?_
     refine L0 rfl rfl (Y0_lens (b := y5) Tryz.underlying9 rfl kk) ?_
     refine XR 1 ?_
     refine zD ?_
     exact ⟨γ, by kernel_rfl⟩
    intro γ
    refine VC h (fun h => ?_) (fun h => ?_)
    ·refine zK ?_
     show V _ _ _ _
     refine zF ?_
     refine zG ?_
     obtain ⟨e17, he17, h⟩ := zA h
     obtain ⟨e18, he18, h⟩ := zA h
     refine V_sregQ (fun γ : Nat → Loc => ⟨bt 3 (.pt 24 0 :: .bot :: .ow 144 :: .pt 48 0 :: .c (.v (.string y5)) :: Bo ok9 :: I i10 :: .c (.v (.string e18)) :: bt 91 []), [(51, .qarr (γ 51) 3 1 (l13.map c3)), (50, .qarr (γ 50) 109 4 (l12.map c109)), (49, .qarr (γ 49) 38 3 (l11.map c38)), (48, .box [.v (zE (γ 49)), .v (zE (γ 50)), .v (zE (γ 51))]), (144, .arr 9 1 (y2.map c9)), (24, .box [.v (.slice none 0 0), .v (.slice none 0 0), .v (.slice none 0 0)])]⟩) (mb 102 2024) [51, 50, 49, 48, 144, 24] ?_ ?_
     ·refine XR 3 ?_
      refine L0 rfl rfl (Y0_idxoM (c := c9) (xs := y2) (v := e17) (id := 144) (T := 9) (sz := 1) (n := w64 (i10 + 1)) Tryz.underlying66 sz9 rfl kk kk kk he17) ?_
      refine L0 rfl rfl (Y0_loado1 (c := c9) (xs := y2) (v := e18) (id := 144) (sz := 1) (T := 9) (off := 0) (n := w64 (i10 + 1)) (d := .v (.string e18)) (ds := []) sc9 rfl kk kk he18 kk) ?_
      refine XR 1 ?_
      refine zD ?_
      exact ⟨γ, by kernel_rfl⟩
     intro γ
     obtain ⟨e19, he19, h⟩ := zA h
     refine V_sregQ (fun γ : Nat → Loc => ⟨bt 3 (.pt 24 0 :: .bot :: .ow 144 :: .pt 48 0 :: .c (.v (.string y5)) :: Bo ok9 :: I i10 :: .c (.v (.string e18)) :: bt 36 (.c (.v (.int .u8 e19)) :: bt 54 [])), [(51, .qarr (γ 51) 3 1 (l13.map c3)), (50, .qarr (γ 50) 109 4 (l12.map c109)), (49, .qarr (γ 49) 38 3 (l11.map c38)), (48, .box [.v (zE (γ 49)), .v (zE (γ 50)), .v (zE (γ 51))]), (144, .arr 9 1 (y2.map c9)), (24, .box [.v (.slice none 0 0), .v (.slice none 0 0), .v (.slice none 0 0)])]⟩) (mb 102 140737488357352) [51, 50, 49, 48, 144, 24] ?_ ?_
     ·refine XR 2 ?_
      refine L0 rfl rfl (Y0_idxs (b := y5) (k := .i64) (n := i10) (v := e19) Tryz.underlying9 rfl kk kk he19) ?_
      refine zD ?_
      exact ⟨γ, by kernel_rfl⟩
     intro γ
     refine zG ?_
     refine V_sregQ (fun γ : Nat → Loc => ⟨bt 3 (.pt 24 0 :: .bot :: .ow 144 :: .pt 48 0 :: .c (.v (.string y5)) :: Bo ok9 :: I i10 :: .c (.v (.string e18)) :: bt 36 (.c (.v (.int .u8 e19)) :: bt 15 (Bo (eqI e19 102) :: bt 38 []))), [(51, .qarr (γ 51) 3 1 (l13.map c3)), (50, .qarr (γ 50) 109 4 (l12.map c109)), (49, .qarr (γ 49) 38 3 (l11.map c38)), (48, .box [.v (zE (γ 49)), .v (zE (γ 50)), .v (zE (γ 51))]), (144, .arr 9 1 (y2.map c9)), (24, .box [.v (.slice none 0 0), .v (.slice none 0 0), .v (.slice none 0 0)])]⟩) (mb 102 9223512774343133160) [51, 50, 49, 48, 144, 24] ?_ ?_
     ·refine L0 rfl rfl (Y0_eqw (k := .u8) (a := e19) (b := 102) rfl kk kk) ?_
      refine XR 1 ?_
      refine zD ?_
      exact ⟨γ, by kernel_rfl⟩
     intro γ
     refine VC h (fun h => ?_) (fun h => ?_)
     ·obtain ⟨y21, hy21, h⟩ := zA h
      refine V_sregQ (fun γ : Nat → Loc => ⟨bt 3 (.pt 24 0 :: .bot :: .ow 144 :: .pt 48 0 :: .c (.v (.string y5)) :: Bo ok9 :: I i10 :: .bot :: .pt 88 0 :: Bo y21.2 :: bt 89 []), [(88, .box [Ti y21.1.1, Ti y21.1.2.1, Ti y21.1.2.2]), (51, .qarr (γ 51) 3 1 (l13.map c3)), (50, .qarr (γ 50) 109 4 (l12.map c109)), (49, .qarr (γ 49) 38 3 (l11.map c38)), (48, .box [.v (zE (γ 49)), .v (zE (γ 50)), .v (zE (γ 51))]), (144, .arr 9 1 (y2.map c9)), (24, .box [.v (.slice none 0 0), .v (.slice none 0 0), .v (.slice none 0 0)])]⟩) (mb 102 7144) [88, 51, 50, 49, 48, 144, 24] ?_ ?_
      ·refine XR 1 ?_
       refine XC (s_spec_foRead hy21) cf_spec_foRead rfl rfl rfl ?_
       refine XR 6 ?_
       refine zD ?_
       exact ⟨γ, by kernel_rfl⟩
      intro γ
      obtain ⟨u22, hu22, h⟩ := zA h
      refine V_sregQ (fun γ : Nat → Loc => ⟨bt 3 (.pt 24 0 :: .bot :: .ow 144 :: .pt 48 0 :: .c (.v (.string y5)) :: Bo ok9 :: I i10 :: .bot :: .bot :: Bo y21.2 :: bt 89 []), [(51, .qarr (γ 51) 3 1 (l13.map c3)), (50, .qarr (γ 50) 109 4 (l12.map c109)), (49, .qarr (γ 49) 38 3 ((l11 ++ ([y21.1])).map c38)), (48, .box [.v (zE (γ 49)), .v (zE (γ 50)), .v (zE (γ 51))]), (144, .arr 9 1 (y2.map c9)), (24, .box [.v (.slice none 0 0), .v (.slice none 0 0), .v (.slice none 0 0)])]⟩) (mb 102 5096) [51, 50, 49, 48, 144, 24] ?_ ?_
      ·refine XR 3 ?_
       refine L1 rfl rfl (Y1_bslice (z := zv38) (els := [y21.1].map c38) Tryz.underlying59 iz38 rfl (by decide) rfl kk rfl (by simp [c38]) (by decide) (by decide)) ?_
       refine XL_unpinQ 71 49 (l := γ 49) (T := 38) (sz := 3) (els := l11.map c38) kk kk ?_
       refine XL_cons rfl (X_appendM (c := c38) (xs := l11) (ys := [y21.1]) (id := 49) (z := zv38) rfl rfl Tryz.underlying59 izb38 rfl kk kk kk (fun _ => rfl) (by simp) (room_some hu22) (by decide)) ?_
       refine XR 1 ?_
       refine XL_pinQ 74 49 (T := 38) (sz := 3) (els := (l11 ++ ([y21.1])).map c38) kk kk fun lq1 => ?_
       refine XR 1 ?_
       refine zD ?_
       exact ⟨(fun i => if i = 49 then lq1 else γ i), by kernel_rfl⟩
      intro γ
      refine V_regQ (fun γ : Nat → Loc => ⟨bt 3 (.pt 24 0 :: .bot :: .ow 144 :: .pt 48 0 :: .c (.v (.string y5)) :: Bo (bif ok9 then y21.2 else false) :: I i10 :: bt 92 []), [(51, .qarr (γ 51) 3 1 (l13.map c3)), (50, .qarr (γ 50) 109 4 (l12.map c109)), (49, .qarr (γ 49) 38 3 ((l11 ++ ([y21.1])).map c38)), (48, .box [.v (zE (γ 49)), .v (zE (γ 50)), .v (zE (γ 51))]), (144, .arr 9 1 (y2.map c9)), (24, .box [.v (.slice none 0 0), .v (.slice none 0 0), .v (.slice none 0 0)])]⟩) (mb 102 1000) [51, 50, 49, 48, 144, 24] ?_ ?_
      ·refine XR 2 ?_
       refine zJ ok9 (fun hc23 => ?_) (fun hc23 => ?_)
       ·refine XL_takeC _ rfl rfl kk hc23 (X_of_Y0 rfl (E_move (Bo y21.2) rfl kk)) ?_
        refine XL_cons rfl (X_of_Y0 rfl (Y0_pick1 (b := ok9) (p := y21.2) (q := false) rfl kk hc23 kk)) ?_
        refine XR 1 ?_
        refine zD ?_
        exact ⟨γ, by kernel_rfl⟩
       ·refine XL_skipT _ rfl rfl kk hc23 rfl ?_
        refine XL_cons rfl (X_of_Y0 rfl (Y0_pick0 (b := ok9) (p := y21.2) (q := false) rfl kk hc23 kk)) ?_
        refine XR 1 ?_
        refine zD ?_
        exact ⟨γ, by kernel_rfl⟩
      intro γ
      show V _ _ _ _
      obtain ⟨i24, hi24, h⟩ := zU h
      refine V_regQ (fun γ : Nat → Loc => ⟨bt 3 (.pt 24 0 :: .bot :: .ow 144 :: .pt 48 0 :: .c (.v (.string y5)) :: Bo (bif ok9 then y21.2 else false) :: I i24 :: bt 92 []), [(51, .qarr (γ 51) 3 1 (l13.map c3)), (50, .qarr (γ 50) 109 4 (l12.map c109)), (49, .qarr (γ 49) 38 3 ((l11 ++ ([y21.1])).map c38)), (48, .box [.v (zE (γ 49)), .v (zE (γ 50)), .v (zE (γ 51))]), (144, .arr 9 1 (y2.map c9)), (24, .box [.v (.slice none 0 0), .v (.slice none 0 0), .v (.slice none 0 0)])]⟩) (mb 102 1000) [51, 50, 49, 48, 144, 24] ?_ ?_
      ·refine XR 3 ?_
       refine zD ?_
       subst hi24
       exact ⟨γ, by kernel_rfl⟩
      intro γ
      exact ⟨n, Nat.lt_succ_self n, _, _, _, _, _, γ,  kk, h⟩
     ·refine V_sregQ (fun γ : Nat → Loc => ⟨bt 3 (.pt 24 0 :: .bot :: .ow 144 :: .pt 48 0 :: .c (.v (.string y5)) :: Bo ok9 :: I i10 :: .c (.v (.string e18)) :: bt 69 (Bo (eqI e19 109) :: bt 21 [])), [(51, .qarr (γ 51) 3 1 (l13.map c3)), (50, .qarr (γ 50) 109 4 (l12.map c109)), (49, .qarr (γ 49) 38 3 (l11.map c38)), (48, .box [.v (zE (γ 49)), .v (zE (γ 50)), .v (zE (γ 51))]), (144, .arr 9 1 (y2.map c9)), (24, .box [.v (.slice none 0 0), .v (.slice none 0 0), .v (.slice none 0 0)])]⟩) (mb 102 1208925819614629174708200) [51, 50, 49, 48, 144, 24] ?_ ?_
      ·refine L0 rfl rfl (Y0_eqw (k := .u8) (a := e19) (b := 109) rfl kk kk) ?_
       refine XR 1 ?_
       refine zD ?_
       exact ⟨γ, by kernel_rfl⟩
      intro γ
      refine VC h (fun h => ?_) (fun h => ?_)
      ·obtain ⟨y26, hy26, h⟩ := zA h
       refine V_sregQ (fun γ : Nat → Loc => ⟨bt 3 (.pt 24 0 :: .bot :: .ow 144 :: .pt 48 0 :: .c (.v (.string y5)) :: Bo ok9 :: I i10 :: bt 3 (.pt 104 0 :: Bo y26.2 :: bt 87 [])), [(104, .box [Ti y26.1.1, Ti y26.1.2.1, Ti y26.1.2.2.1, Ti y26.1.2.2.2]), (51, .qarr (γ 51) 3 1 (l13.map c3)), (50, .qarr (γ 50) 109 4 (l12.map c109)), (49, .qarr (γ 49) 38 3 (l11.map c38)), (48, .box [.v (zE (γ 49)), .v (zE (γ 50)), .v (zE (γ 51))]), (144, .arr 9 1 (y2.map c9)), (24, .box [.v (.slice none 0 0), .v (.slice none 0 0), .v (.slice none 0 0)])]⟩) (mb 102 25576) [104, 51, 50, 49, 48, 144, 24] ?_ ?_
       ·refine XR 1 ?_
        refine XC (s_spec_foReadMatrix hy26) cf_spec_foReadMatrix rfl rfl rfl ?_
        refine XR 6 ?_
        refine zD ?_
        exact ⟨γ, by kernel_rfl⟩
       intro γ
       obtain ⟨u27, hu27, h⟩ := zA h
       refine V_sregQ (fun γ : Nat → Loc => ⟨bt 3 (.pt 24 0 :: .bot :: .ow 144 :: .pt 48 0 :: .c (.v (.string y5)) :: Bo ok9 :: I i10 :: bt 4 (Bo y26.2 :: bt 87 [])), [(51, .qarr (γ 51) 3 1 (l13.map c3)), (50, .qarr (γ 50) 109 4 ((l12 ++ ([y26.1])).map c109)), (49, .qarr (γ 49) 38 3 (l11.map c38)), (48, .box [.v (zE (γ 49)), .v (zE (γ 50)), .v (zE (γ 51))]), (144, .arr 9 1 (y2.map c9)), (24, .box [.v (.slice none 0 0), .v (.slice none 0 0), .v (.slice none 0 0)])]⟩) (mb 102 17384) [51, 50, 49, 48, 144, 24] ?_ ?_
       ·refine XR 3 ?_
        refine L1 rfl rfl (Y1_bslice (z := zv109) (els := [y26.1].map c109) Tryz.underlying60 iz109 rfl (by decide) rfl kk rfl (by simp [c109]) (by decide) (by decide)) ?_
        refine XL_unpinQ 88 50 (l := γ 50) (T := 109) (sz := 4) (els := l12.map c109) kk kk ?_
        refine XL_cons rfl (X_appendM (c := c109) (xs := l12) (ys := [y26.1]) (id := 50) (z := zv109) rfl rfl Tryz.underlying60 izb109 rfl kk kk kk (fun _ => rfl) (by simp) (room_some hu27) (by decide)) ?_
        refine XR 1 ?_
        refine XL_pinQ 91 50 (T := 109) (sz := 4) (els := (l12 ++ ([y26.1])).map c109) kk kk fun lq1 => ?_
        refine XR 1 ?_
        refine zD ?_
        exact ⟨(fun i => if i = 50 then lq1 else γ i), by kernel_rfl⟩
       intro γ
       refine V_regQ (fun γ : Nat → Loc => ⟨bt 3 (.pt 24 0 :: .bot :: .ow 144 :: .pt 48 0 :: .c (.v (.string y5)) :: Bo (bif ok9 then y26.2 else false) :: I i10 :: bt 92 []), [(51, .qarr (γ 51) 3 1 (l13.map c3)), (50, .qarr (γ 50) 109 4 ((l12 ++ ([y26.1])).map c109)), (49, .qarr (γ 49) 38 3 (l11.map c38)), (48, .box [.v (zE (γ 49)), .v (zE (γ 50)), .v (zE (γ 51))]), (144, .arr 9 1 (y2.map c9)), (24, .box [.v (.slice none 0 0), .v (.slice none 0 0), .v (.slice none 0 0)])]⟩) (mb 102 1000) [51, 50, 49, 48, 144, 24] ?_ ?_
       ·refine XR 2 ?_
        refine zJ ok9 (fun hc28 => ?_) (fun hc28 => ?_)
        ·refine XL_takeC _ rfl rfl kk hc28 (X_of_Y0 rfl (E_move (Bo y26.2) rfl kk)) ?_
         refine XL_cons rfl (X_of_Y0 rfl (Y0_pick1 (b := ok9) (p := y26.2) (q := false) rfl kk hc28 kk)) ?_
         refine XR 1 ?_
         refine zD ?_
         exact ⟨γ, by kernel_rfl⟩
        ·refine XL_skipT _ rfl rfl kk hc28 rfl ?_
         refine XL_cons rfl (X_of_Y0 rfl (Y0_pick0 (b := ok9) (p := y26.2) (q := false) rfl kk hc28 kk)) ?_
         refine XR 1 ?_
         refine zD ?_
         exact ⟨γ, by kernel_rfl⟩
       intro γ
       show V _ _ _ _
       obtain ⟨i29, hi29, h⟩ := zU h
       refine V_regQ (fun γ : Nat → Loc => ⟨bt 3 (.pt 24 0 :: .bot :: .ow 144 :: .pt 48 0 :: .c (.v (.string y5)) :: Bo (bif ok9 then y26.2 else false) :: I i29 :: bt 92 []), [(51, .qarr (γ 51) 3 1 (l13.map c3)), (50, .qarr (γ 50) 109 4 ((l12 ++ ([y26.1])).map c109)), (49, .qarr (γ 49) 38 3 (l11.map c38)), (48, .box [.v (zE (γ 49)), .v (zE (γ 50)), .v (zE (γ 51))]), (144, .arr 9 1 (y2.map c9)), (24, .box [.v (.slice none 0 0), .v (.slice none 0 0), .v (.slice none 0 0)])]⟩) (mb 102 1000) [51, 50, 49, 48, 144, 24] ?_ ?_
       ·refine XR 3 ?_
        refine zD ?_
        subst hi29
        exact ⟨γ, by kernel_rfl⟩
       intro γ
       exact ⟨n, Nat.lt_succ_self n, _, _, _, _, _, γ,  kk, h⟩
      ·obtain ⟨y30, hy30, h⟩ := zA h
       refine V_sregQ (fun γ : Nat → Loc => ⟨bt 3 (.pt 24 0 :: .bot :: .ow 144 :: .pt 48 0 :: .c (.v (.string y5)) :: Bo ok9 :: I i10 :: bt 5 (I y30.1 :: Bo y30.2 :: bt 85 [])), [(51, .qarr (γ 51) 3 1 (l13.map c3)), (50, .qarr (γ 50) 109 4 (l12.map c109)), (49, .qarr (γ 49) 38 3 (l11.map c38)), (48, .box [.v (zE (γ 49)), .v (zE (γ 50)), .v (zE (γ 51))]), (144, .arr 9 1 (y2.map c9)), (24, .box [.v (.slice none 0 0), .v (.slice none 0 0), .v (.slice none 0 0)])]⟩) (mb 102 99304) [51, 50, 49, 48, 144, 24] ?_ ?_
       ·refine XR 1 ?_
        refine XC (s_spec_foInt hy30) cf_spec_foInt rfl rfl rfl ?_
        refine XR 5 ?_
        refine zD ?_
        exact ⟨γ, by kernel_rfl⟩
       intro γ
       obtain ⟨u31, hu31, h⟩ := zA h
       refine V_sregQ (fun γ : Nat → Loc => ⟨bt 3 (.pt 24 0 :: .bot :: .ow 144 :: .pt 48 0 :: .c (.v (.string y5)) :: Bo ok9 :: I i10 :: bt 6 (Bo y30.2 :: bt 85 [])), [(51, .qarr (γ 51) 3 1 ((l13 ++ ([y30.1])).map c3)), (50, .qarr (γ 50) 109 4 (l12.map c109)), (49, .qarr (γ 49) 38 3 (l11.map c38)), (48, .box [.v (zE (γ 49)), .v (zE (γ 50)), .v (zE (γ 51))]), (144, .arr 9 1 (y2.map c9)), (24, .box [.v (.slice none 0 0), .v (.slice none 0 0), .v (.slice none 0 0)])]⟩) (mb 102 66536) [51, 50, 49, 48, 144, 24] ?_ ?_
       ·refine XR 3 ?_
        refine L1 rfl rfl (Y1_bslice (z := zv3) (els := [y30.1].map c3) Tryz.underlying24 iz3 rfl (by decide) rfl kk rfl (by simp [c3]) (by decide) (by decide)) ?_
        refine XL_unpinQ 54 51 (l := γ 51) (T := 3) (sz := 1) (els := l13.map c3) kk kk ?_
        refine XL_cons rfl (X_appendM (c := c3) (xs := l13) (ys := [y30.1]) (id := 51) (z := zv3) rfl rfl Tryz.underlying24 izb3 rfl kk kk kk (fun _ => rfl) (by simp) (room_some hu31) (by decide)) ?_
        refine XR 1 ?_
        refine XL_pinQ 57 51 (T := 3) (sz := 1) (els := (l13 ++ ([y30.1])).map c3) kk kk fun lq1 => ?_
        refine XR 1 ?_
        refine zD ?_
        exact ⟨(fun i => if i = 51 then lq1 else γ i), by kernel_rfl⟩
       intro γ
       refine V_regQ (fun γ : Nat → Loc => ⟨bt 3 (.pt 24 0 :: .bot :: .ow 144 :: .pt 48 0 :: .c (.v (.string y5)) :: Bo (bif ok9 then y30.2 else false) :: I i10 :: bt 92 []), [(51, .qarr (γ 51) 3 1 ((l13 ++ ([y30.1])).map c3)), (50, .qarr (γ 50) 109 4 (l12.map c109)), (49, .qarr (γ 49) 38 3 (l11.map c38)), (48, .box [.v (zE (γ 49)), .v (zE (γ 50)), .v (zE (γ 51))]), (144, .arr 9 1 (y2.map c9)), (24, .box [.v (.slice none 0 0), .v (.slice none 0 0), .v (.slice none 0 0)])]⟩) (mb 102 1000) [51, 50, 49, 48, 144, 24] ?_ ?_
       ·refine XR 2 ?_
        refine zJ ok9 (fun hc32 => ?_) (fun hc32 => ?_)
        ·refine XL_takeC _ rfl rfl kk hc32 (X_of_Y0 rfl (E_move (Bo y30.2) rfl kk)) ?_
         refine XL_cons rfl (X_of_Y0 rfl (Y0_pick1 (b := ok9) (p := y30.2) (q := false) rfl kk hc32 kk)) ?_
         refine XR 1 ?_
         refine zD ?_
         exact ⟨γ, by kernel_rfl⟩
        ·refine XL_skipT _ rfl rfl kk hc32 rfl ?_
         refine XL_cons rfl (X_of_Y0 rfl (Y0_pick0 (b := ok9) (p := y30.2) (q := false) rfl kk hc32 kk)) ?_
         refine XR 1 ?_
         refine zD ?_
         exact ⟨γ, by kernel_rfl⟩
       intro γ
       show V _ _ _ _
       obtain ⟨i33, hi33, h⟩ := zU h
       refine V_regQ (fun γ : Nat → Loc => ⟨bt 3 (.pt 24 0 :: .bot :: .ow 144 :: .pt 48 0 :: .c (.v (.string y5)) :: Bo (bif ok9 then y30.2 else false) :: I i33 :: bt 92 []), [(51, .qarr (γ 51) 3 1 ((l13 ++ ([y30.1])).map c3)), (50, .qarr (γ 50) 109 4 (l12.map c109)), (49, .qarr (γ 49) 38 3 (l11.map c38)), (48, .box [.v (zE (γ 49)), .v (zE (γ 50)), .v (zE (γ 51))]), (144, .arr 9 1 (y2.map c9)), (24, .box [.v (.slice none 0 0), .v (.slice none 0 0), .v (.slice none 0 0)])]⟩) (mb 102 1000) [51, 50, 49, 48, 144, 24] ?_ ?_
       ·refine XR 3 ?_
        refine zD ?_
        subst hi33
        exact ⟨γ, by kernel_rfl⟩
       intro γ
       exact ⟨n, Nat.lt_succ_self n, _, _, _, _, _, γ,  kk, h⟩
    ·refine V_exit ?_
     obtain rfl := zB h
     exact ⟨γ, kk⟩
  intro γ
  show V _ _ _ _
  refine V_frzQ 49 48 0 (l := γ 49) (T := 38) (sz := 3) (els := o15.2.2.2.map c38) (cs := [.v (zE (γ 49)), .v (zE (γ 50)), .v (zE (γ 51))]) (s1 := ⟨bt 3 (.pt 24 0 :: .bot :: .ow 144 :: .pt 48 0 :: .bot :: Bo o15.1 :: bt 93 []), [(51, .qarr (γ 51) 3 1 (o15.2.1.map c3)), (50, .qarr (γ 50) 109 4 (o15.2.2.1.map c109)), (48, .box [.sl (o15.2.2.2.map c38), .v (zE (γ 50)), .v (zE (γ 51))]), (144, .arr 9 1 (y2.map c9)), (24, .box [.v (.slice none 0 0), .v (.slice none 0 0), .v (.slice none 0 0)])]⟩) kk kk kk kk ?_
  refine V_frzQ 50 48 1 (l := γ 50) (T := 109) (sz := 4) (els := o15.2.2.1.map c109) (cs := [.sl (o15.2.2.2.map c38), .v (zE (γ 50)), .v (zE (γ 51))]) (s1 := ⟨bt 3 (.pt 24 0 :: .bot :: .ow 144 :: .pt 48 0 :: .bot :: Bo o15.1 :: bt 93 []), [(51, .qarr (γ 51) 3 1 (o15.2.1.map c3)), (48, .box [.sl (o15.2.2.2.map c38), .sl (o15.2.2.1.map c109), .v (zE (γ 51))]), (144, .arr 9 1 (y2.map c9)), (24, .box [.v (.slice none 0 0), .v (.slice none 0 0), .v (.slice none 0 0)])]⟩) kk kk kk kk ?_
  refine V_frzQ 51 48 2 (l := γ 51) (T := 3) (sz := 1) (els := o15.2.1.map c3) (cs := [.sl (o15.2.2.2.map c38), .sl (o15.2.2.1.map c109), .v (zE (γ 51))]) (s1 := ⟨bt 3 (.pt 24 0 :: .bot :: .ow 144 :: .pt 48 0 :: .bot :: Bo o15.1 :: bt 93 []), [(48, .box [.sl (o15.2.2.2.map c38), .sl (o15.2.2.1.map c109), .sl (o15.2.1.map c3)]), (144, .arr 9 1 (y2.map c9)), (24, .box [.v (.slice none 0 0), .v (.slice none 0 0), .v (.slice none 0 0)])]⟩) kk kk kk kk ?_
  obtain ⟨e34, he34, h⟩ := zA h
  obtain ⟨e35, he35, h⟩ := zA h
  refine VDS [0, 1, 3, 0, 0, 7, 47, 127] 7 [[.z, .z, .z, .b, .b, .z, .z], [.a, .z, .z, .b, .b, .z, .z], [.a, .a, .z, .b, .b, .z, .z], [.b, .b, .b, .z, .b, .b, .z], [.b, .b, .b, .b, .z, .b, .r 24], [.a, .a, .a, .b, .b, .z, .z], [.a, .a, .a, .a, .b, .a, .z]] ?_
  refine ER 1 ?_
  refine E0 1 rfl rfl (Y0_idxoM (c := c9) (xs := y2) (v := e34) (id := 144) (T := 9) (sz := 1) (n := 0) Tryz.underlying66 sz9 rfl kk kk kk he34) ?_
  refine E0 2 rfl rfl (Y0_loado1 (c := c9) (xs := y2) (v := e35) (id := 144) (sz := 1) (T := 9) (off := 0) (n := 0) (d := .v (.string e35)) (ds := []) sc9 rfl kk kk he35 kk) ?_
  refine EF 4 ?_
  cases h
  exact zH VT
theorem cf_spec_foDet : CfW Tryz.prog 217 := cfW Tryz.func217
theorem s_spec_foDet {vm1 : (Int × Int × Int × Int)} {r : Int} (h : r_spec_foDet vm1 = some r) : zP Tryz.prog 217 [.ag [Ti vm1.1, Ti vm1.2.1, Ti vm1.2.2.1, Ti vm1.2.2.2]] (I r) [] := by
 refine CtW [2] Tryz.func217 rfl rfl 14 ?_
 unfold r_spec_foDet at h
 refine VE ?_
 obtain ⟨t2, ht2, h⟩ := zU h
 refine zO (mb 14 4) [] (s1 := ⟨.bot :: .bot :: I t2 :: bt 11 [], []⟩) ?_ ?_
 ·refine XR 12 ?_
  refine zD ?_
  subst ht2
  kernel_rfl
 cases h
 exact zH VT
theorem cf_spec_foValue : CfW Tryz.prog 150 := cfW Tryz.func150
theorem s_spec_foValue {f1 : (Int × Int × Int)} {x2 : Int} {y3 : Int} {r : Int} (h : r_spec_foValue f1 x2 y3 = some r) : zP Tryz.prog 150 [.ag [Ti f1.1, Ti f1.2.1, Ti f1.2.2], I x2, I y3] (I r) [] := by
 refine CtW [6] Tryz.func150 rfl rfl 27 ?_
 unfold r_spec_foValue at h
 refine VE ?_
 obtain ⟨t4, ht4, h⟩ := zU h
 refine zO (mb 27 64) [] (s1 := ⟨bt 6 (I t4 :: bt 20 []), []⟩) ?_ ?_
 ·refine XR 21 ?_
  refine zD ?_
  subst ht4
  kernel_rfl
 cases h
 exact zH VT
theorem cf_spec_foPolar : CfW Tryz.prog 252 := cfW Tryz.func252
theorem s_spec_foPolar {f1 : (Int × Int × Int)} {x2 : Int} {y3 : Int} {u4 : Int} {v5 : Int} {r : Int} (h : r_spec_foPolar f1 x2 y3 u4 v5 = some r) : zP Tryz.prog 252 [.ag [Ti f1.1, Ti f1.2.1, Ti f1.2.2], I x2, I y3, I u4, I v5] (I r) [] := by
 refine CtW [10] Tryz.func252 rfl rfl 37 ?_
 unfold r_spec_foPolar at h
 refine VE ?_
 obtain ⟨t6, ht6, h⟩ := zU h
 refine zO (mb 37 1024) [] (s1 := ⟨bt 10 (I t6 :: bt 26 []), []⟩) ?_ ?_
 ·refine XR 27 ?_
  refine zD ?_
  subst ht6
  kernel_rfl
 cases h
 exact zH VT
theorem cf_spec_foAct : CfW Tryz.prog 198 := cfW Tryz.func198
theorem s_spec_foAct {f1 : (Int × Int × Int)} {vm2 : (Int × Int × Int × Int)} {r : (Int × Int × Int)} (h : r_spec_foAct f1 vm2 = some r) : zP Tryz.prog 198 [.ag [Ti f1.1, Ti f1.2.1, Ti f1.2.2], .ag [Ti vm2.1, Ti vm2.2.1, Ti vm2.2.2.1, Ti vm2.2.2.2]] (.ag [Ti r.1, Ti r.2.1, Ti r.2.2]) [] := by
 refine zT (rs := [.w 4 3]) (vs := [.cell 4 38]) Tryz.func198 rfl rfl (.cons ⟨rfl, wd38⟩ FitsL.nil) (by decide) 28 rfl ?_
 unfold r_spec_foAct at h
 refine VE ?_
 obtain ⟨y3, hy3, h⟩ := zA h
 obtain ⟨y4, hy4, h⟩ := zA h
 obtain ⟨y5, hy5, h⟩ := zA h
 refine VDS [0, 0, 2, 0, 8, 31, 0, 0, 128, 0, 512, 0, 2048, 0, 8192, 32767, 0, 0, 131072, 0, 524288, 2097151, 4194303, 8388607] 23 (cdm 23 [2929883521704, 2929883521666, 2929883521670, 2929883521066, 2929883521130, 2929883521365, 2929883515562, 2929883359914, 2929883376298, 2929880902314, 2929881164458, 2929841580714, 2929845775018, 2929212435114, 2929279543978, 2929525609813, 2923441072810, 2760232315562, 2777412184746, 183251937962, 458129844906, 1466015503701, 5864062014805]) ?_
 refine EK 5 (s_spec_foValue hy3) cf_spec_foValue ?_
 refine EK 9 (s_spec_foPolar hy4) cf_spec_foPolar ?_
 refine EK 5 (s_spec_foValue hy5) cf_spec_foValue ?_
 refine E0 22 rfl rfl (Y0_build (cs := [Ti y3, Ti y4, Ti y5]) pl38 bt38 rfl rfl kk) ?_
 refine EF 0 ?_
 cases h
 exact zH VT
theorem cf_spec_prTakes : CfW Tryz.prog 148 := cfW Tryz.func148
theorem s_spec_prTakes {f1 : (Int × Int × Int)} {vm2 : (Int × Int × Int × Int)} {g3 : (Int × Int × Int)} {r : Bool} (h : r_spec_prTakes f1 vm2 g3 = some r) : zP Tryz.prog 148 [.ag [Ti f1.1, Ti f1.2.1, Ti f1.2.2], .ag [Ti vm2.1, Ti vm2.2.1, Ti vm2.2.2.1, Ti vm2.2.2.2], .ag [Ti g3.1, Ti g3.2.1, Ti g3.2.2]] (Bo r) [] := by
 refine CtW [6] Tryz.func148 rfl rfl 17 ?_
 unfold r_spec_prTakes at h
 refine VE ?_
 obtain ⟨y4, hy4, h⟩ := zA h
 obtain ⟨b7, hb7, h⟩ := zA h
 refine V_sdreg [0, 1, 3, 7, 15, 15, 63, 15, 255, 511, 1023] 11 (cdm 11 [0, 1, 5, 21, 34901, 33365, 34133, 10837, 21845, 87381, 349525]) (mb 17 64) [] (s1 := ⟨bt 6 (Bo b7 :: bt 10 []), []⟩) kk kk ?_ ?_
 ·refine EK 1 (s_spec_foDet hy4) cf_spec_foDet ?_
  refine ER 2 ?_
  refine DL_split (eqI y4 1) (fun hc5 => ?_) (fun hc5 => ?_)
  ·have hb7 := zN hb7 hc5
   obtain ⟨y6, hy6, hb7⟩ := zA hb7
   have hb7 := zB hb7
   refine EQ hc5 ?_
   refine EK 2 (s_spec_foAct hy6) cf_spec_foAct ?_
   refine ER 1 ?_
   refine E0 8 rfl rfl (Y0_eqg3 (a0 := y6.1) (b0 := g3.1) (a1 := y6.2.1) (b1 := g3.2.1) (a2 := y6.2.2) (b2 := g3.2.2) eqg38 rfl kk kk) ?_
   refine EA 2 ?_
   exact YE (by rw [← hb7]; (try rw [hc5]); kernel_rfl)
  ·have hb7 := zB (zC hb7 hc5)
   refine EQ hc5 ?_
   refine EA 7 ?_
   exact YE (by rw [← hb7]; (try rw [hc5]); kernel_rfl)
 cases h
 exact zH VT
theorem cf_spec_nuGood : CfW Tryz.prog 211 := cfW Tryz.func211
theorem s_spec_nuGood {vn1 : Int} {r : Bool} (h : r_spec_nuGood vn1 = some r) : zP Tryz.prog 211 [I vn1] (Bo r) [] := by
 refine CtW [2] Tryz.func211 rfl rfl 5 ?_
 unfold r_spec_nuGood at h
 refine VE ?_
 obtain ⟨y2, hy2, h⟩ := zA h
 refine VS ?_
 refine YK 1 (s_spec_l1In hy2) cf_spec_l1In ?_
 refine YF ?_
 cases h
 exact zH VT
theorem cf_spec_foGood : CfW Tryz.prog 200 := cfW Tryz.func200
theorem s_spec_foGood {f1 : (Int × Int × Int)} {r : Bool} (h : r_spec_foGood f1 = some r) : zP Tryz.prog 200 [.ag [Ti f1.1, Ti f1.2.1, Ti f1.2.2]] (Bo r) [] := by
 refine CtW [2] Tryz.func200 rfl rfl 16 ?_
 unfold r_spec_foGood at h
 refine VE ?_
 obtain ⟨y2, hy2, h⟩ := zA h
 obtain ⟨b5, hb5, h⟩ := zA h
 obtain ⟨b8, hb8, h⟩ := zA h
 refine zO (mb 16 4) [] (s1 := ⟨.bot :: .bot :: Bo b8 :: bt 13 [], []⟩) ?_ ?_
 ·refine YK 2 (s_spec_nuGood hy2) cf_spec_nuGood ?_
  refine YR 1 ?_
  refine zJ y2 (fun hc3 => ?_) (fun hc3 => ?_)
  ·have hb5 := zN hb5 hc3
   obtain ⟨y4, hy4, hb5⟩ := zA hb5
   have hb5 := zB hb5
   refine YQ hc3 ?_
   refine YK 2 (s_spec_nuGood hy4) cf_spec_nuGood ?_
   refine YR 2 ?_
   refine zJ b5 (fun hc6 => ?_) (fun hc6 => ?_)
   ·have hb8 := zN hb8 hc6
    obtain ⟨y7, hy7, hb8⟩ := zA hb8
    have hb8 := zB hb8
    refine YQ hc6 ?_ (by rw [← hb5]; (try rw [← hb8]); (try rw [hc3]); kernel_rfl)
    refine YK 2 (s_spec_nuGood hy7) cf_spec_nuGood ?_
    exact YE (by rw [← hb8]; (try rw [hc3]); (try rw [hc6]); kernel_rfl)
   ·have hb8 := zB (zC hb8 hc6)
    refine YQ hc6 ?_ (by rw [← hb5]; (try rw [← hb8]); (try rw [hc3]); kernel_rfl)
    exact YE (by rw [← hb8]; (try rw [hc3]); (try rw [hc6]); kernel_rfl)
  ·have hb5 := zB (zC hb5 hc3)
   refine YQ hc3 ?_
   refine YR 5 ?_
   subst hb5
   have hc6 : false = false := rfl
   have hb8 := zB (zC hb8 hc6)
   exact YE (by rw [← hb8]; (try rw [hc3]); kernel_rfl)
 cases h
 exact zH VT
theorem cf_spec_foDisc : CfW Tryz.prog 99 := cfW Tryz.func99
theorem s_spec_foDisc {f1 : (Int × Int × Int)} {r : Int} (h : r_spec_foDisc f1 = some r) : zP Tryz.prog 99 [.ag [Ti f1.1, Ti f1.2.1, Ti f1.2.2]] (I r) [] := by
 refine CtW [2] Tryz.func99 rfl rfl 15 ?_
 unfold r_spec_foDisc at h
 refine VE ?_
 obtain ⟨t2, ht2, h⟩ := zU h
 refine zO (mb 15 4) [] (s1 := ⟨.bot :: .bot :: I t2 :: bt 12 [], []⟩) ?_ ?_
 ·refine XR 13 ?_
  refine zD ?_
  subst ht2
  kernel_rfl
 cases h
 exact zH VT
theorem cf_spec_foDefinite : CfW Tryz.prog 137 := cfW Tryz.func137
theorem s_spec_foDefinite {f1 : (Int × Int × Int)} {r : Bool} (h : r_spec_foDefinite f1 = some r) : zP Tryz.prog 137 [.ag [Ti f1.1, Ti f1.2.1, Ti f1.2.2]] (Bo r) [] := by
 refine CtW [2] Tryz.func137 rfl rfl 15 ?_
 unfold r_spec_foDefinite at h
 refine VE ?_
 obtain ⟨y2, hy2, h⟩ := zA h
 obtain ⟨b5, hb5, h⟩ := zA h
 refine zO (mb 15 4) [] (s1 := ⟨.bot :: .bot :: Bo (bif b5 then (ltI 0 f1.1) else false) :: bt 12 [], []⟩) ?_ ?_
 ·refine YK 1 (s_spec_foGood hy2) cf_spec_foGood ?_
  refine YR 1 ?_
  refine zJ y2 (fun hc3 => ?_) (fun hc3 => ?_)
  ·have hb5 := zN hb5 hc3
   obtain ⟨y4, hy4, hb5⟩ := zA hb5
   have hb5 := zB hb5
   refine YQ hc3 ?_
   refine YK 1 (s_spec_foDisc hy4) cf_spec_foDisc ?_
   refine YR 3 ?_
   refine zJ b5 (fun hc6 => ?_) (fun hc6 => ?_)
   ·refine YQ hc6 ?_ (by rw [← hb5]; (try rw [hc3]); kernel_rfl)
    exact YE (by rw [hc6]; kernel_rfl)
   ·refine YQ hc6 ?_ (by rw [← hb5]; (try rw [hc3]); kernel_rfl)
    exact YE (by rw [hc6]; kernel_rfl)
  ·have hb5 := zB (zC hb5 hc3)
   refine YQ hc3 ?_
   refine YR 5 ?_
   subst hb5
   have hc6 : false = false := rfl
   exact YE
 cases h
 exact zH VT
theorem cf_spec_reIs : CfW Tryz.prog 149 := cfW Tryz.func149
theorem s_spec_reIs {f1 : (Int × Int × Int)} {r : Bool} (h : r_spec_reIs f1 = some r) : zP Tryz.prog 149 [.ag [Ti f1.1, Ti f1.2.1, Ti f1.2.2]] (Bo r) [] := by
 refine CtW [2] Tryz.func149 rfl rfl 35 ?_
 unfold r_spec_reIs at h
 refine VE ?_
 obtain ⟨t6, ht6, h⟩ := zA h
 have ht6 := zB ht6
 refine zO (mb 35 4) [] (s1 := ⟨.bot :: .bot :: Bo t6 :: bt 32 [], []⟩) ?_ ?_
 ·refine YR 7 ?_
  refine zJ (ltI (w64 (0 - f1.1)) f1.2.1) (fun hc2 => ?_) (fun hc2 => ?_)
  ·refine YQ hc2 ?_
   refine YR 7 ?_
   refine zJ (bif (ltI (w64 (0 - f1.1)) f1.2.1) then (leI f1.2.1 f1.1) else false) (fun hc3 => ?_) (fun hc3 => ?_)
   ·refine YQ hc3 ?_ (by rw [hc2]; kernel_rfl)
    refine YR 6 ?_
    refine zJ (ltI f1.1 f1.2.2) (fun hc4 => ?_) (fun hc4 => ?_)
    ·refine YQ hc4 ?_
     exact YE (by rw [← ht6]; (try rw [hc3]); (try rw [hc2]); (try rw [hc4]); kernel_rfl)
    ·refine YQ hc4 ?_
     refine YR 6 ?_
     refine zJ (eqI f1.1 f1.2.2) (fun hc5 => ?_) (fun hc5 => ?_)
     ·refine YQ hc5 ?_
      exact YE (by rw [← ht6]; (try rw [hc3]); (try rw [hc2]); (try rw [hc4]); (try rw [hc5]); kernel_rfl)
     ·refine YQ hc5 ?_
      exact YE (by rw [← ht6]; (try rw [hc3]); (try rw [hc2]); (try rw [hc4]); (try rw [hc5]); kernel_rfl)
   ·refine YQ hc3 ?_ (by rw [hc2]; kernel_rfl)
    exact YE (by rw [← ht6]; (try rw [hc3]); (try rw [hc2]); kernel_rfl)
  ·refine YQ hc2 ?_
   refine YR 7 ?_
   refine zJ (bif (ltI (w64 (0 - f1.1)) f1.2.1) then (leI f1.2.1 f1.1) else false) (fun hc3 => ?_) (fun hc3 => ?_)
   ·refine YQ hc3 ?_ (by rw [hc2]; kernel_rfl)
    refine YR 6 ?_
    refine zJ (ltI f1.1 f1.2.2) (fun hc4 => ?_) (fun hc4 => ?_)
    ·refine YQ hc4 ?_
     exact YE (by rw [← ht6]; (try rw [hc3]); (try rw [hc2]); (try rw [hc4]); kernel_rfl)
    ·refine YQ hc4 ?_
     refine YR 6 ?_
     refine zJ (eqI f1.1 f1.2.2) (fun hc5 => ?_) (fun hc5 => ?_)
     ·refine YQ hc5 ?_
      exact YE (by rw [← ht6]; (try rw [hc3]); (try rw [hc2]); (try rw [hc4]); (try rw [hc5]); kernel_rfl)
     ·refine YQ hc5 ?_
      exact YE (by rw [← ht6]; (try rw [hc3]); (try rw [hc2]); (try rw [hc4]); (try rw [hc5]); kernel_rfl)
   ·refine YQ hc3 ?_ (by rw [hc2]; kernel_rfl)
    exact YE (by rw [← ht6]; (try rw [hc3]); (try rw [hc2]); kernel_rfl)
 cases h
 exact zH VT
theorem cf_spec_l1Most : CfW Tryz.prog 225 := cfW Tryz.func225
theorem s_spec_l1Most {a1 : Int} {b2 : Int} {r : Int} (h : r_spec_l1Most a1 b2 = some r) : zP Tryz.prog 225 [I a1, I b2] (I r) [] := by
 refine CtW [4] Tryz.func225 rfl rfl 10 ?_
 unfold r_spec_l1Most at h
 refine VE ?_
 refine zF ?_
 refine VE ?_
 refine VC h (fun h => ?_) (fun h => ?_)
 ·refine VE ?_
  cases h
  exact zH VT
 ·refine zK ?_
  show V _ _ _ _
  refine VE ?_
  cases h
  exact zH VT
theorem cf_spec_l1Abs : CfW Tryz.prog 158 := cfW Tryz.func158
theorem s_spec_l1Abs {vn1 : Int} {r : Int} (h : r_spec_l1Abs vn1 = some r) : zP Tryz.prog 158 [I vn1] (I r) [] := by
 refine CtW [2] Tryz.func158 rfl rfl 7 ?_
 unfold r_spec_l1Abs at h
 refine VE ?_
 obtain ⟨y2, hy2, h⟩ := zA h
 refine VS ?_
 refine YK 3 (s_spec_l1Most hy2) cf_spec_l1Most ?_
 refine YF ?_
 cases h
 exact zH VT
theorem cf_spec_nuGcd : CfW Tryz.prog 151 := cfW Tryz.func151
theorem s_spec_nuGcd {a1 : Int} {b2 : Int} {r : Int} (h : r_spec_nuGcd a1 b2 = some r) : zP Tryz.prog 151 [I a1, I b2] (I r) [] := by
 refine CtW [4] Tryz.func151 rfl rfl 16 ?_
 unfold r_spec_nuGcd at h
 refine VE ?_
 obtain ⟨y3, hy3, h⟩ := zA h
 obtain ⟨y4, hy4, h⟩ := zA h
 refine VS ?_
 refine YK 1 (s_spec_l1Abs hy3) cf_spec_l1Abs ?_
 refine YK 1 (s_spec_l1Abs hy4) cf_spec_l1Abs ?_
 refine YF ?_
 refine zF ?_
 obtain ⟨o8, hLo8, h⟩ := zA h
 refine V_toK (mb 16 1) [] (s1 := ⟨I o8 :: bt 15 [], []⟩) ?_ ?_
 ·clear h
  refine zG (V_loop (fun n s => ∃ (a5 : Int) (b6 : Int), s.keep (mb 16 3) [] = (⟨I a5 :: I b6 :: bt 14 [], []⟩ : St) ∧ r_spec_nuGcd_L7 n a5 b6 = some o8) FU ⟨_, _,  kk, hLo8⟩ ?_)
  clear hLo8
  rintro n s ⟨a5, b6, hs, h⟩
  refine zV _ _ hs ?_
  clear hs
  cases n with
  | zero => cases h
  | succ n =>
   rw [r_spec_nuGcd_L7] at h
   refine zF ?_
   refine VE ?_
   refine VC h (fun h => ?_) (fun h => ?_)
   ·refine zK ?_
    show V _ _ _ _
    refine zG ?_
    obtain ⟨z10, hz10, h⟩ := zA h
    obtain ⟨b11, hb11, h⟩ := zU h
    refine V_dreg [0, 0, 0, 6, 3, 31] 6 (cdm 6 [168, 34, 522, 534, 165, 341]) (mb 16 3) [] (s1 := ⟨I b6 :: I b11 :: bt 14 [], []⟩) kk kk ?_ ?_
    ·refine DR 3 ?_
     refine DE_0 3 (I (Int.tmod a5 b6)) kk rfl rfl rfl (zI rfl) kk (Y0_rem (k := .i64) (a := a5) (b := b6) rfl kk kk (nz_some hz10)) 14 rfl ?_
     refine DA 2 ?_
     refine zD ?_
     subst hb11
     kernel_rfl
    exact ⟨n, Nat.lt_succ_self n, _, _,  kk, h⟩
   ·refine V_exit ?_
    obtain rfl := zB h
    show St.keep _ _ _ = _
    kernel_rfl
 show V _ _ _ _
 refine VE ?_
 cases h
 exact zH VT
theorem cf_spec_nuMod : CfW Tryz.prog 218 := cfW Tryz.func218
theorem s_spec_nuMod {a1 : Int} {vm2 : Int} {r : Int} (h : r_spec_nuMod a1 vm2 = some r) : zP Tryz.prog 218 [I a1, I vm2] (I r) [] := by
 refine CtW [4] Tryz.func218 rfl rfl 15 ?_
 unfold r_spec_nuMod at h
 refine VE ?_
 obtain ⟨z3, hz3, h⟩ := zA h
 obtain ⟨vr4, hvr4, h⟩ := zU h
 refine zO (mb 15 34) [] (s1 := ⟨.bot :: I vm2 :: bt 3 (I vr4 :: bt 9 []), []⟩) ?_ ?_
 ·refine XR 2 ?_
  refine L0 rfl rfl (Y0_rem (k := .i64) (a := a1) (b := vm2) rfl kk kk (nz_some hz3)) ?_
  refine XR 1 ?_
  refine zD ?_
  subst hvr4
  kernel_rfl
 refine zF ?_
 refine VE ?_
 refine VC h (fun h => ?_) (fun h => ?_)
 ·obtain ⟨vr6, hvr6, h⟩ := zU h
  refine V_reg (mb 15 32) [] (s1 := ⟨bt 5 (I vr6 :: bt 9 []), []⟩) ?_ ?_
  ·refine XR 4 ?_
   refine zD ?_
   subst hvr6
   kernel_rfl
  show V _ _ _ _
  refine VE ?_
  cases h
  exact zH VT
 ·refine zK ?_
  show V _ _ _ _
  refine VE ?_
  cases h
  exact zH VT
theorem cf_spec_reDisc : CfW Tryz.prog 152 := cfW Tryz.func152
theorem s_spec_reDisc {d1 : Int} {r : Bool} (h : r_spec_reDisc d1 = some r) : zP Tryz.prog 152 [I d1] (Bo r) [] := by
 refine CtW [2] Tryz.func152 rfl rfl 10 ?_
 unfold r_spec_reDisc at h
 refine VE ?_
 obtain ⟨y2, hy2, h⟩ := zA h
 obtain ⟨b5, hb5, h⟩ := zA h
 refine zO (mb 10 4) [] (s1 := ⟨.bot :: .bot :: Bo b5 :: bt 7 [], []⟩) ?_ ?_
 ·refine YK 1 (s_spec_l1In hy2) cf_spec_l1In ?_
  refine YR 1 ?_
  refine zJ y2 (fun hc3 => ?_) (fun hc3 => ?_)
  ·have hb5 := zN hb5 hc3
   obtain ⟨y4, hy4, hb5⟩ := zA hb5
   have hb5 := zB hb5
   refine YQ hc3 ?_
   refine YK 1 (s_spec_nuMod hy4) cf_spec_nuMod ?_
   exact YE (by rw [← hb5]; (try rw [hc3]); kernel_rfl)
  ·have hb5 := zB (zC hb5 hc3)
   refine YQ hc3 ?_
   exact YE (by rw [← hb5]; (try rw [hc3]); kernel_rfl)
 cases h
 exact zH VT
theorem cf_spec_nuPrime : CfW Tryz.prog 153 := cfW Tryz.func153
theorem s_spec_nuPrime {vn1 : Int} {r : Bool} (h : r_spec_nuPrime vn1 = some r) : zP Tryz.prog 153 [I vn1] (Bo r) [] := by
 refine CtW [2] Tryz.func153 rfl rfl 17 ?_
 unfold r_spec_nuPrime at h
 refine VE ?_
 refine zF ?_
 refine VE ?_
 refine VC h (fun h => ?_) (fun h => ?_)
 ·refine VE ?_
  cases h
  exact zH VT
 ·refine zK ?_
  show V _ _ _ _
  refine zF ?_
  refine VE ?_
  obtain ⟨qo5, hLo5, hko5⟩ := zA h
  refine V_toS (q := qo5) (S := fun o5 => ⟨bt 17 [], []⟩) (mb 17 0) [] ?_ ?_
  ·refine zG (V_loop (fun n s => ∃ (d3 : Int), s.keep (mb 17 9) [] = (⟨I vn1 :: .bot :: .bot :: I d3 :: bt 13 [], []⟩ : St) ∧ r_spec_nuPrime_L4 vn1 n d3 = some qo5) FU ⟨_,  kk, hLo5⟩ ?_)
   clear hLo5
   rintro n s ⟨d3, hs, h⟩
   refine zV _ _ hs ?_
   clear hs
   cases n with
   | zero => cases h
   | succ n =>
    rw [r_spec_nuPrime_L4] at h
    refine zF ?_
    refine VE ?_
    refine VC h (fun h => ?_) (fun h => ?_)
    ·refine zK ?_
     show V _ _ _ _
     refine zF ?_
     refine zG ?_
     obtain ⟨z7, hz7, h⟩ := zA h
     refine VS ?_
     refine YR 2 ?_
     refine L0 rfl rfl (Y0_rem (k := .i64) (a := vn1) (b := d3) rfl kk kk (nz_some hz7)) ?_
     refine YF ?_
     refine VC h (fun h => ?_) (fun h => ?_)
     ·refine VE ?_
      refine zH ?_
      obtain rfl := zB h
      have h := hko5
      obtain rfl := zB h
      exact VT
     ·refine zK ?_
      show V _ _ _ _
      obtain ⟨d9, hd9, h⟩ := zU h
      refine V_reg (mb 17 9) [] (s1 := ⟨I vn1 :: .bot :: .bot :: I d9 :: bt 13 [], []⟩) ?_ ?_
      ·refine XR 3 ?_
       refine zD ?_
       subst hd9
       kernel_rfl
      exact ⟨n, Nat.lt_succ_self n, _,  kk, h⟩
    ·refine V_exit ?_
     obtain rfl := zB h
     exact ⟨_, rfl, kk⟩
  rintro o5 rfl
  have h := hko5
  clear hko5
  show V _ _ _ _
  refine VE ?_
  cases h
  exact zH VT
theorem cf_spec_nuExponent : CfW Tryz.prog 154 := cfW Tryz.func154
theorem s_spec_nuExponent {vn1 : Int} {p2 : Int} {r : Int} (h : r_spec_nuExponent vn1 p2 = some r) : zP Tryz.prog 154 [I vn1, I p2] (I r) [] := by
 refine CtW [4] Tryz.func154 rfl rfl 16 ?_
 unfold r_spec_nuExponent at h
 refine VE ?_
 refine VE ?_
 refine zF ?_
 obtain ⟨o6, hLo6, h⟩ := zA h
 refine V_toK (mb 16 32) [] (s1 := ⟨bt 5 (I o6 :: bt 10 []), []⟩) ?_ ?_
 ·clear h
  refine zG (V_loop (fun n s => ∃ (vn3 : Int) (k4 : Int), s.keep (mb 16 35) [] = (⟨I vn3 :: I p2 :: bt 3 (I k4 :: bt 10 []), []⟩ : St) ∧ r_spec_nuExponent_L5 p2 n vn3 k4 = some o6) FU ⟨_, _,  kk, hLo6⟩ ?_)
  clear hLo6
  rintro n s ⟨vn3, k4, hs, h⟩
  refine zV _ _ hs ?_
  clear hs
  cases n with
  | zero => cases h
  | succ n =>
   rw [r_spec_nuExponent_L5] at h
   refine zF ?_
   obtain ⟨z7, hz7, h⟩ := zA h
   refine VS ?_
   refine YR 2 ?_
   refine L0 rfl rfl (Y0_rem (k := .i64) (a := vn3) (b := p2) rfl kk kk (nz_some hz7)) ?_
   refine YF ?_
   refine VC h (fun h => ?_) (fun h => ?_)
   ·refine zK ?_
    show V _ _ _ _
    refine zG ?_
    obtain ⟨z9, hz9, h⟩ := zA h
    obtain ⟨vn10, hvn10, h⟩ := zU h
    refine zO (mb 16 35) [] (s1 := ⟨I vn10 :: I p2 :: bt 3 (I k4 :: bt 10 []), []⟩) ?_ ?_
    ·refine XR 2 ?_
     refine L0 rfl rfl (zS (a := vn3) (b := p2) rfl kk kk (nz_some hz9)) ?_
     refine XR 1 ?_
     refine zD ?_
     subst hvn10
     kernel_rfl
    obtain ⟨k11, hk11, h⟩ := zU h
    refine V_reg (mb 16 35) [] (s1 := ⟨I vn10 :: I p2 :: bt 3 (I k11 :: bt 10 []), []⟩) ?_ ?_
    ·refine XR 3 ?_
     refine zD ?_
     subst hk11
     kernel_rfl
    exact ⟨n, Nat.lt_succ_self n, _, _,  kk, h⟩
   ·refine V_exit ?_
    obtain rfl := zB h
    show St.keep _ _ _ = _
    kernel_rfl
 show V _ _ _ _
 refine VE ?_
 cases h
 exact zH VT
theorem cf_spec_roDisc : CfW Tryz.prog 155 := cfW Tryz.func155
theorem s_spec_roDisc {d1 : Int} {vn2 : Int} {r : List Int} (h : r_spec_roDisc d1 vn2 = some r) : zP Tryz.prog 155 [I d1, I vn2] (.ow 0) [(0, .arr 3 1 (r.map c3))] := by
 refine CtW [4] Tryz.func155 rfl rfl 27 ?_
 unfold r_spec_roDisc at h
 refine VS ?_
 refine L1 rfl rfl (Y1_nil (e := 3) 1 (by decide) (.inl rfl)) ?_
 refine YF ?_
 refine VS ?_
 refine L1 rfl rfl (Y1_nil (e := 3) 1 (by decide) (.inl rfl)) ?_
 refine YF ?_
 refine zF ?_
 refine VE ?_
 obtain ⟨o6, hLo6, h⟩ := zA h
 refine V_toK (mb 27 32) [40] (s1 := ⟨bt 5 (.ow 40 :: bt 21 []), [(40, .arr 3 1 (o6.map c3))]⟩) ?_ ?_
 ·clear h
  refine zG (V_loop (fun n s => ∃ (b3 : Int) (l4 : List Int), s.keep (mb 27 99) [40] = (⟨I d1 :: I vn2 :: bt 3 (.ow 40 :: I b3 :: bt 20 []), [(40, .arr 3 1 (l4.map c3))]⟩ : St) ∧ r_spec_roDisc_L5 d1 vn2 n b3 l4 = some o6) FU ⟨_, _,  kk, hLo6⟩ ?_)
  clear hLo6
  rintro n s ⟨b3, l4, hs, h⟩
  refine zV _ _ hs ?_
  clear hs
  cases n with
  | zero => cases h
  | succ n =>
   rw [r_spec_roDisc_L5] at h
   refine zF ?_
   refine VE ?_
   refine VC h (fun h => ?_) (fun h => ?_)
   ·refine zK ?_
    show V _ _ _ _
    refine zF ?_
    refine zG ?_
    obtain ⟨z8, hz8, h⟩ := zA h
    obtain ⟨t9, ht9, h⟩ := zA h
    have ht9 := zB ht9
    refine zO (mb 27 2097251) [40] (s1 := ⟨I d1 :: I vn2 :: bt 3 (.ow 40 :: I b3 :: bt 14 (Bo t9 :: bt 5 [])), [(40, .arr 3 1 (l4.map c3))]⟩) ?_ ?_
    ·refine XR 7 ?_
     refine L0 rfl rfl (Y0_rem (k := .i64) (a := w64 ((w64 (b3 * b3)) - d1)) (b := w64 (4 * vn2)) rfl kk kk (nz_some hz8)) ?_
     refine XR 1 ?_
     refine zD ?_
     subst ht9
     kernel_rfl
    refine VC h (fun h => ?_) (fun h => ?_)
    ·obtain ⟨u11, hu11, h⟩ := zA h
     refine zW ?_
     refine YR 2 ?_
     refine L1 rfl rfl (Y1_bslice (z := zv3) (els := [b3].map c3) Tryz.underlying24 iz3 rfl (by decide) rfl kk rfl (by simp [c3]) (by decide) (by decide)) ?_
     refine XL_cons rfl (X_appendM (c := c3) (xs := l4) (ys := [b3]) (id := 40) (z := zv3) rfl rfl Tryz.underlying24 izb3 rfl kk kk kk (fun _ => rfl) (by simp) (room_some hu11) (by decide)) ?_
     refine YF ?_
     show V _ _ _ _
     obtain ⟨b12, hb12, h⟩ := zU h
     refine V_reg (mb 27 99) [40] (s1 := ⟨I d1 :: I vn2 :: bt 3 (.ow 40 :: I b12 :: bt 20 []), [(40, .arr 3 1 ((l4 ++ ([b3])).map c3))]⟩) ?_ ?_
     ·refine XR 3 ?_
      refine zD ?_
      subst hb12
      kernel_rfl
     exact ⟨n, Nat.lt_succ_self n, _, _,  kk, h⟩
    ·refine zK ?_
     show V _ _ _ _
     obtain ⟨b13, hb13, h⟩ := zU h
     refine V_reg (mb 27 99) [40] (s1 := ⟨I d1 :: I vn2 :: bt 3 (.ow 40 :: I b13 :: bt 20 []), [(40, .arr 3 1 (l4.map c3))]⟩) ?_ ?_
     ·refine XR 3 ?_
      refine zD ?_
      subst hb13
      kernel_rfl
     exact ⟨n, Nat.lt_succ_self n, _, _,  kk, h⟩
   ·refine V_exit ?_
    obtain rfl := zB h
    show St.keep _ _ _ = _
    kernel_rfl
 show V _ _ _ _
 refine VE ?_
 cases h
 exact zH VT
theorem cf_spec_vaForm : CfW Tryz.prog 181 := cfW Tryz.func181
theorem s_spec_vaForm {f1 : (Int × Int × Int)} {r : Bool} (h : r_spec_vaForm f1 = some r) : zP Tryz.prog 181 [.ag [Ti f1.1, Ti f1.2.1, Ti f1.2.2]] (Bo r) [] := by
 refine CtW [2] Tryz.func181 rfl rfl 10 ?_
 unfold r_spec_vaForm at h
 refine VE ?_
 obtain ⟨y2, hy2, h⟩ := zA h
 obtain ⟨b5, hb5, h⟩ := zA h
 refine zO (mb 10 4) [] (s1 := ⟨.bot :: .bot :: Bo b5 :: bt 7 [], []⟩) ?_ ?_
 ·refine YK 1 (s_spec_foDefinite hy2) cf_spec_foDefinite ?_
  refine YR 1 ?_
  refine zJ y2 (fun hc3 => ?_) (fun hc3 => ?_)
  ·have hb5 := zN hb5 hc3
   obtain ⟨y4, hy4, hb5⟩ := zA hb5
   have hb5 := zB hb5
   refine YQ hc3 ?_
   refine YK 1 (s_spec_foDisc hy4) cf_spec_foDisc ?_
   exact YE (by rw [← hb5]; (try rw [hc3]); kernel_rfl)
  ·have hb5 := zB (zC hb5 hc3)
   refine YQ hc3 ?_
   exact YE (by rw [← hb5]; (try rw [hc3]); kernel_rfl)
 cases h
 exact zH VT
theorem cf_spec_foContent : CfW Tryz.prog 182 := cfW Tryz.func182
theorem s_spec_foContent {f1 : (Int × Int × Int)} {r : Int} (h : r_spec_foContent f1 = some r) : zP Tryz.prog 182 [.ag [Ti f1.1, Ti f1.2.1, Ti f1.2.2]] (I r) [] := by
 refine CtW [2] Tryz.func182 rfl rfl 11 ?_
 unfold r_spec_foContent at h
 refine VE ?_
 obtain ⟨y2, hy2, h⟩ := zA h
 obtain ⟨y3, hy3, h⟩ := zA h
 refine VDS [0, 1, 0, 4, 15, 0, 32, 127, 255] 9 (cdm 9 [10400, 10401, 10250, 10266, 10325, 682, 1706, 5461, 21845]) ?_
 refine EK 4 (s_spec_nuGcd hy2) cf_spec_nuGcd ?_
 refine EK 2 (s_spec_nuGcd hy3) cf_spec_nuGcd ?_
 refine EF 1 ?_
 cases h
 exact zH VT
theorem cf_spec_coGood : CfW Tryz.prog 94 := cfW Tryz.func94
theorem s_spec_coGood {f1 : (Int × Int × Int)} {r : Bool} (h : r_spec_coGood f1 = some r) : zP Tryz.prog 94 [.ag [Ti f1.1, Ti f1.2.1, Ti f1.2.2]] (Bo r) [] := by
 refine CtW [2] Tryz.func94 rfl rfl 10 ?_
 unfold r_spec_coGood at h
 refine VE ?_
 obtain ⟨y2, hy2, h⟩ := zA h
 obtain ⟨b5, hb5, h⟩ := zA h
 refine zO (mb 10 4) [] (s1 := ⟨.bot :: .bot :: Bo b5 :: bt 7 [], []⟩) ?_ ?_
 ·refine YK 1 (s_spec_vaForm hy2) cf_spec_vaForm ?_
  refine YR 1 ?_
  refine zJ y2 (fun hc3 => ?_) (fun hc3 => ?_)
  ·have hb5 := zN hb5 hc3
   obtain ⟨y4, hy4, hb5⟩ := zA hb5
   have hb5 := zB hb5
   refine YQ hc3 ?_
   refine YK 1 (s_spec_foContent hy4) cf_spec_foContent ?_
   exact YE (by rw [← hb5]; (try rw [hc3]); kernel_rfl)
  ·have hb5 := zB (zC hb5 hc3)
   refine YQ hc3 ?_
   exact YE (by rw [← hb5]; (try rw [hc3]); kernel_rfl)
 cases h
 exact zH VT
theorem cf_spec_coTwo : CfW Tryz.prog 219 := cfW Tryz.func219
theorem s_spec_coTwo {f1 : (Int × Int × Int)} {g2 : (Int × Int × Int)} {r : Bool} (h : r_spec_coTwo f1 g2 = some r) : zP Tryz.prog 219 [.ag [Ti f1.1, Ti f1.2.1, Ti f1.2.2], .ag [Ti g2.1, Ti g2.2.1, Ti g2.2.2]] (Bo r) [] := by
 refine CtW [4] Tryz.func219 rfl rfl 18 ?_
 unfold r_spec_coTwo at h
 refine VE ?_
 obtain ⟨y3, hy3, h⟩ := zA h
 obtain ⟨b6, hb6, h⟩ := zA h
 obtain ⟨b10, hb10, h⟩ := zA h
 refine V_sdreg [0, 1, 3, 7, 15, 31, 63, 127, 255, 127, 1023, 2047, 4095, 8191] 14 (cdm 14 [0, 1, 5, 21, 85, 341, 1365, 529749, 546133, 169301, 349525, 1398101, 5592405, 22369621]) (mb 18 16) [] (s1 := ⟨bt 4 (Bo b10 :: bt 13 []), []⟩) kk kk ?_ ?_
 ·refine EK 1 (s_spec_coGood hy3) cf_spec_coGood ?_
  refine ER 1 ?_
  refine DL_split y3 (fun hc4 => ?_) (fun hc4 => ?_)
  ·have hb6 := zN hb6 hc4
   obtain ⟨y5, hy5, hb6⟩ := zA hb6
   have hb6 := zB hb6
   refine EQ hc4 ?_
   refine EK 1 (s_spec_coGood hy5) cf_spec_coGood ?_
   refine ER 2 ?_
   refine DL_split b6 (fun hc7 => ?_) (fun hc7 => ?_)
   ·have hb10 := zN hb10 hc7
    obtain ⟨y8, hy8, hb10⟩ := zA hb10
    obtain ⟨y9, hy9, hb10⟩ := zA hb10
    have hb10 := zB hb10
    refine EQ hc7 ?_ (by rw [← hb6]; (try rw [← hb10]); (try rw [hc4]); kernel_rfl)
    refine EK 1 (s_spec_foDisc hy8) cf_spec_foDisc ?_
    refine EK 1 (s_spec_foDisc hy9) cf_spec_foDisc ?_
    refine EA 3 ?_
    exact YE (by rw [← hb10]; (try rw [hc4]); (try rw [hc7]); kernel_rfl)
   ·have hb10 := zB (zC hb10 hc7)
    refine EQ hc7 ?_ (by rw [← hb6]; (try rw [← hb10]); (try rw [hc4]); kernel_rfl)
    refine EA 7 ?_
    exact YE (by rw [← hb10]; (try rw [hc4]); (try rw [hc7]); kernel_rfl)
  ·have hb6 := zB (zC hb6 hc4)
   refine EQ hc4 ?_
   refine ER 4 ?_
   subst hb6
   have hc7 : false = false := rfl
   have hb10 := zB (zC hb10 hc7)
   refine EA 7 ?_
   exact YE (by rw [← hb10]; (try rw [hc4]); kernel_rfl)
 cases h
 exact zH VT
theorem cf_spec_l1All : CfW Tryz.prog 220 := cfW Tryz.func220
theorem s_spec_l1All {l1 : List Int} {lo2 : Int} {hi3 : Int} {r : Bool} (h : r_spec_l1All l1 lo2 hi3 = some r) : zP Tryz.prog 220 [.c (.sl (l1.map c3)), I lo2, I hi3] (Bo r) [] := by
 refine CtW [6] Tryz.func220 rfl rfl 21 ?_
 unfold r_spec_l1All at h
 refine VE ?_
 refine zF ?_
 refine VS ?_
 refine YR 1 ?_
 refine L0 rfl rfl (Y0_lenM (c := c3) (xs := l1) Tryz.underlying24 rfl kk) ?_
 refine YF ?_
 obtain ⟨qo6, hLo6, hko6⟩ := zA h
 refine V_toS (q := qo6) (S := fun o6 => ⟨bt 21 [], []⟩) (mb 21 0) [] ?_ ?_
 ·refine zG (V_loop (fun n s => ∃ (t4 : Int), s.keep (mb 21 3590) [] = (⟨.bot :: I lo2 :: I hi3 :: bt 6 (.c (.sl (l1.map c3)) :: I ((l1.length : Int)) :: I t4 :: bt 9 []), []⟩ : St) ∧ r_spec_l1All_L5 hi3 l1 lo2 n t4 = some qo6) FU ⟨_,  kk, hLo6⟩ ?_)
  clear hLo6
  rintro n s ⟨t4, hs, h⟩
  refine zV _ _ hs ?_
  clear hs
  cases n with
  | zero => cases h
  | succ n =>
   rw [r_spec_l1All_L5] at h
   refine VE ?_
   refine zF ?_
   refine VC h (fun h => ?_) (fun h => ?_)
   ·refine zK ?_
    show V _ _ _ _
    refine zF ?_
    refine zG ?_
    obtain ⟨e8, he8, h⟩ := zA h
    refine VS ?_
    refine L0 rfl rfl (zM (c := c3) (xs := l1) (v := e8) (n := t4) Tryz.underlying24 sz3 rfl kk kk he8) ?_
    refine YF ?_
    obtain ⟨y9, hy9, h⟩ := zA h
    refine VS ?_
    refine YK 3 (s_spec_l1In hy9) cf_spec_l1In ?_
    refine YF ?_
    refine VC h (fun h => ?_) (fun h => ?_)
    ·refine VE ?_
     refine zH ?_
     obtain rfl := zB h
     have h := hko6
     obtain rfl := zB h
     exact VT
    ·refine zK ?_
     show V _ _ _ _
     obtain ⟨t11, ht11, h⟩ := zU h
     refine V_reg (mb 21 3590) [] (s1 := ⟨.bot :: I lo2 :: I hi3 :: bt 6 (.c (.sl (l1.map c3)) :: I ((l1.length : Int)) :: I t11 :: bt 9 []), []⟩) ?_ ?_
     ·refine XR 2 ?_
      refine zD ?_
      subst ht11
      kernel_rfl
     exact ⟨n, Nat.lt_succ_self n, _,  kk, h⟩
   ·refine V_exit ?_
    obtain rfl := zB h
    exact ⟨_, rfl, kk⟩
 rintro o6 rfl
 have h := hko6
 clear hko6
 show V _ _ _ _
 refine VE ?_
 cases h
 exact zH VT
end Go.Proofs.YtfmjfofocklgpaaGreatDoor
