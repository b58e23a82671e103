/-
  Rules of walks, plain functions and their laws, part 4.
  Conditions: none.
-/
import Derived.Shelf.Strings.Builder1
import Derived.Shelf.Strings.OnBuilder
import Derived.Shelf.LaysM
import Derived.Shelf.Strconv.Itoa3
import Derived.Shelf.LaysC
import Derived.Shelf.Strconv.AtoiAll
import Derived.Shelf.Strings.Cut
import Derived.Shelf.Strings.Prefix
import Derived.Shelf.Strings.Split
import Derived.Shelf.Strings.FieldsFuncAny
import Derived.Test.YtfmjfofocklgpaaGreatDoorProg
import Derived.Test.YtfmjfofocklgpaaGreatDoorRows
import Derived.MapKept
import Derived.Laws.IdiomStrings
import Derived.Laws.BytesString
import Derived.Test.YtfmjfofocklgpaaGreatDoorJbz3
set_option linter.unusedSimpArgs false
set_option linter.unusedVariables false
namespace Go.Proofs.YtfmjfofocklgpaaGreatDoor
theorem one_ok {k : Nat} {c : List Int × Int × Int} (n : Int) (h : CurB k c) (hk : k ≤ 100000000000) : ∃ b c', jY c n = some (b, c') ∧ CurB (k + 2) c' := by
 obtain ⟨x, c', e, _, _, _, h1⟩ := jL n h (by omega)
 exact ⟨eqI x 0, c', by simp only [jY, e, Option.bind_some], h1⟩
theorem zIv (m n : Int × Int × Int × Int) : ∃ y, qO m n = some y := by
 simp only [qO, qA]
 exact ⟨_, rfl⟩
theorem foAct_some (f : Int × Int × Int) (m : Int × Int × Int × Int) : ∃ y, zDG f m = some y := by
 simp only [zDG, zBK, zCp, qA, Option.bind_some]
 exact ⟨_, rfl⟩
theorem zGg : ∀ (m fu k : Nat) (t : Int) (a b c d : Int) (cu : List Int × Int × Int), CurB k cu → k + 4 * m ≤ 100000000000 → t ≤ m → m < fu →
  ∃ p q r s c', jB fu t a b c d cu.1 cu.2.1 cu.2.2 = some (p, q, r, s, c') ∧ CurB (k + 4 * m) c'
 | m, 0, k, t, a, b, c, d, cu, _, _, _, h => by omega
 | 0, fu + 1, k, t, a, b, c, d, cu, hc, hk, ht, hf => by
  rw [jB, zP, decide_eq_false (by omega), cond_false]
  exact ⟨_, _, _, _, _, rfl, hc⟩
 | m + 1, fu + 1, k, t, a, b, c, d, cu, hc, hk, ht, hf => by
  rw [jB, zP]
  by_cases h0 : 0 < t
  ·obtain ⟨x, c1, e1, _, _, _, h1⟩ := jL 9 hc (by omega)
   obtain ⟨y, c2, e2, _, _, _, h2⟩ := jL 3 h1 (by omega)
   have e1' : zD (cu.1, cu.2.1, cu.2.2) 9 = some (x, c1) := e1
   rw [decide_eq_true h0, cond_true, e1']
   simp only [Option.bind_some, qA, e2]
   have hw : w64 (t - 1) ≤ (m : Int) := by rw [zJ (by omega)]; omega
   cases eqI y 0 with
   | true =>
    obtain ⟨z, hz⟩ := zIv (a, b, c, d) (1, w64 (x - 4), 0, 1)
    rw [cond_true, hz, Option.bind_some]
    obtain ⟨p, q, r, s, c', g1, g2⟩ := zGg m fu (k + 4) (w64 (t - 1)) z.1 z.2.1 z.2.2.1 z.2.2.2 c2 (h2.up (by omega)) (by omega) hw (by omega)
    exact ⟨p, q, r, s, c', g1, g2.up (by omega)⟩
   | false =>
    rw [cond_false]
    cases eqI y 1 with
    | true =>
     obtain ⟨z, hz⟩ := zIv (a, b, c, d) (1, 0, w64 (x - 4), 1)
     rw [cond_true, hz, Option.bind_some]
     obtain ⟨p, q, r, s, c', g1, g2⟩ := zGg m fu (k + 4) (w64 (t - 1)) z.1 z.2.1 z.2.2.1 z.2.2.2 c2 (h2.up (by omega)) (by omega) hw (by omega)
     exact ⟨p, q, r, s, c', g1, g2.up (by omega)⟩
    | false =>
     obtain ⟨z, hz⟩ := zIv (a, b, c, d) (0, -1, 1, 0)
     rw [cond_false, hz, Option.bind_some]
     obtain ⟨p, q, r, s, c', g1, g2⟩ := zGg m fu (k + 4) (w64 (t - 1)) z.1 z.2.1 z.2.2.1 z.2.2.2 c2 (h2.up (by omega)) (by omega) hw (by omega)
     exact ⟨p, q, r, s, c', g1, g2.up (by omega)⟩
  ·rw [decide_eq_false h0, cond_false]
   exact ⟨_, _, _, _, _, rfl, hc.up (by omega)⟩
theorem proper_ok {k : Nat} {c : List Int × Int × Int} (h : CurB k c) (hk : k ≤ 10000000000) : ∃ m c', zBw c = some (m, c') ∧ CurB (k + 26) c' := by
 obtain ⟨x, c1, e1, x0, _, x2, h1⟩ := jL 6 h (by omega)
 have x3 := x2 (by omega)
 have hF := FUge
 obtain ⟨p, q, r, s, c', g1, g2⟩ := zGg 6 FU (k + 2) x 1 0 0 1 c1 h1 (by omega) (by omega) (by omega)
 exact ⟨(p, q, r, s), c', by simp only [zBw, e1, Option.bind_some, g1], g2.up (by omega)⟩
theorem zJ7 {k : Nat} {c : List Int × Int × Int} (f : Int × Int × Int) (h : CurB k c) (hk : k ≤ 10000000000) : ∃ g c', zAG c f = some (g, c') ∧ CurB (k + 26) c' := by
 obtain ⟨m, c1, e1, h1⟩ := proper_ok h hk
 obtain ⟨y, hy⟩ := foAct_some f m
 simp only [zAG, e1, Option.bind_some, hy, sform_val]
 cases (inN y.1 && (inN y.2.1 && inN y.2.2)) with
 | true => exact ⟨_, c1, rfl, h1⟩
 | false => exact ⟨_, c1, rfl, h1⟩
def OkD (d : Int) : Prop := -2000 ≤ d ∧ d ≤ -3 ∧ d % 4 ≤ 1
instance (d : Int) : Decidable (OkD d) := inferInstanceAs (Decidable (-2000 ≤ d ∧ d ≤ -3 ∧ d % 4 ≤ 1))
theorem okd_val (d : Int) : zDx d = some (decide (OkD d)) := by
 simp only [zDx, jQ, Option.bind_some, q9]
 by_cases h1 : -2000 ≤ d
 ·by_cases h2 : d ≤ -3
  ·rw [decide_eq_true h1, decide_eq_true h2, cond_true, cond_true, zFp, zBg (by omega) (by omega)]
   simp only [Option.bind_some, zP]
   congr 1
   rw [Bool.eq_iff_iff, decide_eq_true_iff, decide_eq_true_iff]
   unfold OkD
   omega
  ·rw [decide_eq_true h1, decide_eq_false h2, decide_eq_false (show ¬ OkD d from fun h => h2 h.2.1)]
   rfl
 ·rw [decide_eq_false h1, decide_eq_false (show ¬ OkD d from fun h => h1 h.1)]
  rfl
theorem zHj {k : Nat} {c : List Int × Int × Int} (h : CurB k c) (hk : k ≤ 10000000000) : ∃ d c', zAR c = some (d, c') ∧ OkD d ∧ CurB (k + 4) c' := by
 obtain ⟨d, c1, e1, h1⟩ := disc_ok h (by omega)
 simp only [zAR, e1, Option.bind_some, okd_val]
 by_cases hd : OkD d
 ·rw [decide_eq_true hd]
  exact ⟨d, c1, rfl, hd, h1⟩
 ·rw [decide_eq_false hd]
  exact ⟨-23, c1, rfl, ⟨by decide, by decide, by decide⟩, h1⟩
theorem zIp {k : Nat} {c : List Int × Int × Int} {d : Int} (hd : OkD d) (h : CurB k c) (hk : k ≤ 100000000000) : ∃ f c', zAZ c d = some (f, c') ∧ PrR d f ∧ CurB (k + 2) c' := by
 obtain ⟨L, h1, h2, h3, _⟩ := relist_val hd.1 hd.2.1
 have hp := (h3 _).2 (prin_red hd.1 hd.2.1 hd.2.2)
 have hL : 0 < L.length := List.length_pos_of_mem hp
 obtain ⟨x, c1, e1, x0, x1, x2, g1⟩ := jL (L.length : Int) h (by omega)
 have hx : x < (L.length : Int) := by
  rcases Int.lt_or_le 1 (L.length : Int) with h5 | h5
  ·exact x2 h5
  ·have := x1 h5; omega
 obtain ⟨f, e2, hf⟩ := zLB x0 hx
 simp only [zAZ, h1, Option.bind_some, e1, e2]
 exact ⟨f, c1, rfl, (h3 f).1 hf, g1⟩
theorem bif3 {α : Type} (a b c : Bool) : ∃ x, (bif a then some b else some c : Option Bool) = some x := by cases a <;> exact ⟨_, rfl⟩
theorem zKF {k : Nat} {c : List Int × Int × Int} (h : CurB k c) (hk : k ≤ 100000000000) : ∃ v c', zAg c = some (v, c') ∧ CurB (k + 8) c' := by
 obtain ⟨y, c1, e1, _, _, _, h1⟩ := jL 12 h (by omega)
 simp only [zAg, e1, Option.bind_some]
 cases eqI y 0 with
 | true =>
  obtain ⟨x, c2, e2, _, h2⟩ := zIA (l := [0, 1, -1, 1000000, -1000000, 1000001, -1000001, -9223372036854775808, 9223372036854775807, 999983, 999999, 1000]) (by simp) h1 (by omega)
  simp only [cond_true, e2, Option.bind_some]
  exact ⟨x, c2, rfl, h2.up (by omega)⟩
 | false =>
  rw [cond_false]
  obtain ⟨j, hj⟩ := bif3 (α := Int) (eqI y 1) (eqI y 1) (eqI y 2)
  rw [hj]
  simp only [Option.bind_some]
  cases j with
  | true =>
   obtain ⟨x1, c2, e2, _, _, _, h2⟩ := jL 50000 h1 (by omega)
   obtain ⟨x2, c3, e3, _, _, _, h3⟩ := jL 20 h2 (by omega)
   obtain ⟨x3, c4, e4, _, _, _, h4⟩ := jL 2 h3 (by omega)
   simp only [cond_true, e2, e3, e4, Option.bind_some, qA]
   exact ⟨_, c4, rfl, h4.up (by omega)⟩
  | false =>
   rw [cond_false]
   obtain ⟨j, hj⟩ := bif3 (α := Int) (eqI y 3) (eqI y 3) (eqI y 4)
   rw [hj]
   simp only [Option.bind_some]
   cases j with
   | true =>
    obtain ⟨x1, c2, e2, _, _, _, h2⟩ := jL 2000 h1 (by omega)
    simp only [cond_true, e2, Option.bind_some]
    exact ⟨_, c2, rfl, h2.up (by omega)⟩
   | false =>
    obtain ⟨x1, c2, e2, _, _, _, h2⟩ := jL 121 h1 (by omega)
    simp only [cond_false, e2, Option.bind_some, qA]
    exact ⟨_, c2, rfl, h2.up (by omega)⟩
theorem form_ok {k : Nat} {c : List Int × Int × Int} (h : CurB k c) (hk : k ≤ 10000000000) : ∃ v c', zC0 c = some (v, c') ∧ CurB (k + 30) c' := by
 obtain ⟨y, c1, e1, _, _, _, h1⟩ := jL 14 h (by omega)
 simp only [zC0, e1, Option.bind_some]
 cases eqI y 0 with
 | true =>
  obtain ⟨x1, c2, e2, h2⟩ := zKF h1 (by omega)
  obtain ⟨x2, c3, e3, h3⟩ := zKF h2 (by omega)
  obtain ⟨x3, c4, e4, h4⟩ := zKF h3 (by omega)
  simp only [cond_true, e2, e3, e4, Option.bind_some]
  exact ⟨_, c4, rfl, h4.up (by omega)⟩
 | false =>
  rw [cond_false]
  cases eqI y 1 with
  | true =>
   obtain ⟨x0, c2, e2, _, h2⟩ := zIA (l := [2, 3, -1, 0, 1000]) (by simp) h1 (by omega)
   obtain ⟨x1, c3, e3, _, _, _, h3⟩ := jL 20 h2 (by omega)
   obtain ⟨x2, c4, e4, _, _, _, h4⟩ := jL 21 h3 (by omega)
   obtain ⟨x3, c5, e5, _, _, _, h5⟩ := jL 20 h4 (by omega)
   simp only [cond_true, e2, e3, e4, e5, Option.bind_some, qA]
   exact ⟨_, c5, rfl, h5.up (by omega)⟩
  | false =>
   rw [cond_false]
   cases eqI y 2 with
   | true =>
    obtain ⟨x1, c3, e3, _, _, _, h3⟩ := jL 2000 h1 (by omega)
    obtain ⟨x2, c4, e4, _, _, _, h4⟩ := jL 3000 h3 (by omega)
    obtain ⟨x3, c5, e5, _, _, _, h5⟩ := jL 2000 h4 (by omega)
    simp only [cond_true, e3, e4, e5, Option.bind_some, qA]
    exact ⟨_, c5, rfl, h5.up (by omega)⟩
   | false =>
    rw [cond_false]
    cases eqI y 3 with
    | true =>
     obtain ⟨x1, c3, e3, _, _, _, h3⟩ := jL 21 h1 (by omega)
     obtain ⟨x2, c4, e4, _, _, _, h4⟩ := jL 21 h3 (by omega)
     obtain ⟨x3, c5, e5, _, _, _, h5⟩ := jL 21 h4 (by omega)
     simp only [cond_true, e3, e4, e5, Option.bind_some, qA]
     exact ⟨_, c5, rfl, h5.up (by omega)⟩
    | false =>
     obtain ⟨x1, c3, e3, p0, _, p2, h3⟩ := jL 25 h1 (by omega)
     have p3 := p2 (by omega)
     obtain ⟨x2, c4, e4, _, _, _, h4⟩ := jL 40 h3 (by omega)
     have ea : w64 (1 + x1) = 1 + x1 := zJ (by omega)
     obtain ⟨x3, c5, e5, _, _, _, h5⟩ := jL (w64 (2 * (1 + x1))) h4 (by omega)
     have hz : nz (w64 (4 * (1 + x1))) = some () := nzOk (by rw [zJ (by omega)]; omega)
     simp only [cond_false, e3, e4, ea, e5, hz, Option.bind_some, qA]
     exact ⟨_, c5, rfl, h5.up (by omega)⟩
theorem definite_ok {k : Nat} {c : List Int × Int × Int} (h : CurB k c) (hk : k ≤ 1000000000) : ∃ v c', zBY c = some (v, c') ∧ CurB (k + 40) c' := by
 obtain ⟨y, c1, e1, _, _, _, h1⟩ := jL 12 h (by omega)
 simp only [zBY, e1, Option.bind_some]
 cases eqI y 0 with
 | true =>
  obtain ⟨x1, c2, e2, h2⟩ := form_ok h1 (by omega)
  simp only [cond_true, e2, Option.bind_some]
  exact ⟨_, c2, rfl, h2.up (by omega)⟩
 | false =>
  rw [cond_false]
  cases eqI y 1 with
  | true =>
   obtain ⟨d, c2, e2, hd, h2⟩ := zHj h1 (by omega)
   obtain ⟨f, c3, e3, _, h3⟩ := zIp hd h2 (by omega)
   obtain ⟨x, c4, e4, _, _, _, h4⟩ := jL 5 h3 (by omega)
   obtain ⟨g, c5, e5, h5⟩ := zJ7 (w64 (w64 (1 + x) * f.1), w64 (w64 (1 + x) * f.2.1), w64 (w64 (1 + x) * f.2.2)) h4 (by omega)
   simp only [cond_true, e2, e3, e4, e5, Option.bind_some, qA]
   exact ⟨_, c5, rfl, h5.up (by omega)⟩
  | false =>
   rw [cond_false]
   cases eqI y 2 with
   | true =>
    obtain ⟨x1, c3, e3, _, _, _, h3⟩ := jL 1000000 h1 (by omega)
    obtain ⟨x2, c4, e4, _, _, _, h4⟩ := jL 1000001 h3 (by omega)
    obtain ⟨x3, c5, e5, _, _, _, h5⟩ := jL 750001 h4 (by omega)
    simp only [cond_true, e3, e4, e5, Option.bind_some, qA]
    exact ⟨_, c5, rfl, h5.up (by omega)⟩
   | false =>
    obtain ⟨d, c2, e2, hd, h2⟩ := zHj h1 (by omega)
    obtain ⟨f, c3, e3, _, h3⟩ := zIp hd h2 (by omega)
    obtain ⟨g, c5, e5, h5⟩ := zJ7 f h3 (by omega)
    simp only [cond_false, e2, e3, e5, Option.bind_some]
    exact ⟨_, c5, rfl, h5.up (by omega)⟩
theorem classForm_ok {k : Nat} {c : List Int × Int × Int} (h : CurB k c) (hk : k ≤ 100000000) : ∃ f c', zA8 c = some (f, c') ∧ CurB (k + 60) c' := by
 obtain ⟨b, c1, e1, h1⟩ := one_ok 12 h (by omega)
 simp only [zA8, e1, Option.bind_some]
 cases b with
 | true =>
  obtain ⟨v, c2, e2, h2⟩ := definite_ok h1 (by omega)
  exact ⟨v, c2, by simp only [cond_true, e2, Option.bind_some], h2.up (by omega)⟩
 | false =>
  obtain ⟨d, c2, e2, hd, h2⟩ := zHj h1 (by omega)
  obtain ⟨f, c3, e3, _, h3⟩ := zIp hd h2 (by omega)
  obtain ⟨b, c4, e4, h4⟩ := one_ok 2 h3 (by omega)
  simp only [cond_false, e2, e3, e4, Option.bind_some]
  cases b with
  | true =>
   obtain ⟨g, c5, e5, h5⟩ := zJ7 f h4 (by omega)
   exact ⟨g, c5, by simp only [cond_true, e5, Option.bind_some], h5.up (by omega)⟩
  | false => exact ⟨f, c4, rfl, h4.up (by omega)⟩
end Go.Proofs.YtfmjfofocklgpaaGreatDoor
namespace Go.Proofs.YtfmjfofocklgpaaGreatDoor
open Go.Lib
def OkO {α : Type} (x : Option α) (Q : α → Prop) : Prop := ∃ a, x = some a ∧ Q a
theorem OkO.bind {α β : Type} {x : Option α} {f : α → Option β} {Q : α → Prop} {R : β → Prop} (h : OkO x Q) (hf : ∀ a, Q a → OkO (f a) R) : OkO (x.bind f) R := by
 obtain ⟨a, rfl, h1⟩ := h
 exact hf a h1
theorem OkO.cond {α : Type} {b : Bool} {x y : Option α} {Q : α → Prop} (h1 : b = true → OkO x Q) (h2 : b = false → OkO y Q) : OkO (bif b then x else y) Q := by
 cases b with
 | true => exact h1 rfl
 | false => exact h2 rfl
theorem OkO.some {α : Type} {a : α} {Q : α → Prop} (h : Q a) : OkO (some a) Q := ⟨a, rfl, h⟩
theorem OkO.mono {α : Type} {x : Option α} {Q R : α → Prop} (h : OkO x Q) (hr : ∀ a, Q a → R a) : OkO x R := by
 obtain ⟨a, h1, h2⟩ := h
 exact ⟨a, h1, hr a h2⟩
theorem OkO.sI {α : Type} {e : Int} {f : Int → Option α} {Q : α → Prop} (h : OkO (f e) Q) : OkO (sI e f) Q := by
 rw [qA]
 exact h
abbrev Cur3 := List Int × Int × Int
theorem among_O {k : Nat} {c : Cur3} {l : List Int} (hl : l ≠ []) (h : CurB k c) (hk : k ≤ 1000000000000) : OkO (jJ c l) (fun y => y.1 ∈ l ∧ CurB (k + 2) y.2) := by
 obtain ⟨x, c', e, h1, h2⟩ := zIA hl h hk
 exact ⟨_, e, h1, h2⟩
theorem one_O {k : Nat} {c : Cur3} (n : Int) (h : CurB k c) (hk : k ≤ 100000000000) : OkO (jY c n) (fun y => CurB (k + 2) y.2) := by
 obtain ⟨x, c', e, h1⟩ := one_ok n h hk
 exact ⟨_, e, h1⟩
theorem pickL_O {α : Type} {k : Nat} {c : Cur3} {l : List α} (hl : 0 < l.length) (h : CurB k c) (hk : k ≤ 1000000000000) : OkO (zD c (l.length : Int)) (fun y => 0 ≤ y.1 ∧ y.1 < (l.length : Int) ∧ CurB (k + 2) y.2) := by
 obtain ⟨x, c', e, h1, h2, h3, h4⟩ := jL (l.length : Int) h hk
 refine ⟨_, e, h1, ?_, h4⟩
 rcases Nat.lt_or_ge 1 l.length with h5 | h5
 ·exact h3 (by omega)
 ·have := h2 (by omega)
  simp only
  omega
theorem pick_O {k : Nat} {c : Cur3} (n : Int) (h : CurB k c) (hk : k ≤ 1000000000000) : OkO (zD c n) (fun y => 0 ≤ y.1 ∧ (n ≤ 1 → y.1 = 0) ∧ (1 < n → y.1 < n) ∧ CurB (k + 2) y.2) := by
 obtain ⟨x, c', e, h1, h2, h3, h4⟩ := jL n h hk
 exact ⟨_, e, h1, h2, h3, h4⟩
theorem getI_O {α : Type} {l : List α} {x : Int} (h1 : 0 ≤ x) (h2 : x < (l.length : Int)) : OkO (getI l x) (fun y => y ∈ l) := zLB h1 h2
theorem of_O {k : Nat} {c : Cur3} {l : List ByteArray} (hl : 0 < l.length) (h : CurB k c) (hk : k ≤ 1000000000000) : OkO (zBq c l) (fun y => y.1 ∈ l ∧ CurB (k + 2) y.2) := by
 unfold zBq
 refine (pickL_O hl h hk).bind fun y h3 => ?_
 refine (getI_O h3.1 h3.2.1).bind fun e h4 => ?_
 exact OkO.some ⟨h4, h3.2.2⟩
theorem name_O {k : Nat} {c : Cur3} (h : CurB k c) (hk : k ≤ 10000000000) : OkO (zAH c) (fun y => y.1.size ≤ 9 ∧ CurB (k + 4) y.2) := by
 unfold zAH
 refine (one_O 30 h (by omega)).bind fun y h2 => ?_
 have key : ∀ {l : List ByteArray}, l.all (fun s => decide (s.size ≤ 9)) = true → ∀ x ∈ l, x.size ≤ 9 := fun hl x hx => by simpa using List.all_eq_true.1 hl x hx
 refine OkO.cond (fun _ => ?_) fun _ => ?_
 ·refine (of_O (by decide) h2 (by omega)).bind fun y h3 => OkO.some ⟨key (by decide) _ h3.1, h3.2.up (by omega)⟩
 ·refine (of_O (by decide) h2 (by omega)).bind fun y h3 => OkO.some ⟨key (by decide) _ h3.1, h3.2.up (by omega)⟩
theorem classForm_O {k : Nat} {c : Cur3} (h : CurB k c) (hk : k ≤ 100000000) : OkO (zA8 c) (fun y => CurB (k + 60) y.2) := by
 obtain ⟨f, c', e, h1⟩ := classForm_ok h hk
 exact ⟨_, e, h1⟩
theorem moved_O {k : Nat} {c : Cur3} (f : Int × Int × Int) (h : CurB k c) (hk : k ≤ 10000000000) : OkO (zAG c f) (fun y => CurB (k + 26) y.2) := by
 obtain ⟨g, c', e, h1⟩ := zJ7 f h hk
 exact ⟨_, e, h1⟩
def zHG (c : Cmd) : Prop := c.2.1.size ≤ 9 ∧ c.2.2.1.size ≤ 9 ∧ c.2.2.2.1.size ≤ 9
theorem command_O {k : Nat} {c : Cur3} {l : List E4} (hl : ∀ e ∈ l, e.1.size ≤ 9) (h : CurB k c) (hk : k ≤ 10000000) : OkO (zBB c l) (fun y => zHG y.1 ∧ CurB (k + 200) y.2) := by
 have e0 : ByteArray.empty.size ≤ 9 := by decide
 unfold zBB
 refine (among_O (by decide) h (by omega)).bind fun y3 h3 => ?_
 refine (name_O h3.2 (by omega)).bind fun y4 h4 => ?_
 refine (name_O h4.2 (by omega)).bind fun y5 h5 => ?_
 refine (name_O h5.2 (by omega)).bind fun y6 h6 => ?_
 refine (classForm_O h6.2 (by omega)).bind fun y7 h7 => ?_
 refine OkO.bind (Q := fun j => j.1.size ≤ 9 ∧ j.2.1.size ≤ 9 ∧ j.2.2.2.2.2.1.size ≤ 9 ∧ CurB (k + 110) j.2.2.2.2.2.2) ?_ fun j8 h8 => ?_
 ·refine OkO.bind (Q := fun b => (b.1 = true → 0 < l.length) ∧ CurB (k + 76) b.2) ?_ fun b h11 => ?_
  ·refine OkO.cond (fun hc => ?_) fun _ => OkO.some ⟨fun h => Bool.noConfusion h, h7.up (by omega)⟩
   rw [zP] at hc
   have hc := of_decide_eq_true hc
   exact (one_O 6 h7 (by omega)).bind fun y10 h10 => OkO.some ⟨fun _ => by omega, h10.up (by omega)⟩
  ·refine OkO.cond (fun hb => ?_) fun _ => OkO.some ⟨h5.1, h6.1, h4.1, h11.2.up (by omega)⟩
   have hp := h11.1 hb
   refine (pickL_O hp h11.2 (by omega)).bind fun y13 h13 => ?_
   refine (getI_O h13.1 h13.2.1).bind fun e14 h14 => ?_
   refine (pickL_O hp h13.2.2 (by omega)).bind fun y15 h15 => ?_
   refine (getI_O h15.1 h15.2.1).bind fun e16 h16 => ?_
   refine OkO.bind (Q := fun j => j.size ≤ 9) (OkO.cond (fun _ => OkO.some (hl _ h14)) fun _ => OkO.some h4.1) fun j17 h17 => ?_
   obtain ⟨b, hb2⟩ := zIx e14.2
   refine OkO.bind (Q := fun _ => True) ⟨b, by rw [class_val, hb2], trivial⟩ fun b _ => ?_
   refine OkO.cond (fun _ => ?_) fun _ => OkO.some ⟨hl _ h14, hl _ h16, h17, h15.2.2.up (by omega)⟩
   exact (moved_O _ h15.2.2 (by omega)).bind fun y22 h22 => OkO.some ⟨hl _ h14, hl _ h16, h17, h22.up (by omega)⟩
 refine OkO.bind (Q := fun j => j.1.size ≤ 9 ∧ CurB (k + 112) j.2) ?_ fun j23 h23 => ?_
 ·refine OkO.bind (Q := fun _ => True) (OkO.some trivial) fun t26 _ => ?_
  refine OkO.cond (fun _ => ?_) fun _ => OkO.some ⟨h8.2.2.1, h8.2.2.2.up (by omega)⟩
  refine (of_O (by decide) h8.2.2.2 (by omega)).bind fun y28 h28 => OkO.some ⟨?_, h28.2⟩
  have key : ∀ {l : List ByteArray}, l.all (fun s => decide (s.size ≤ 9)) = true → ∀ x ∈ l, x.size ≤ 9 := fun hl x hx => by simpa using List.all_eq_true.1 hl x hx
  exact key (by decide) _ h28.1
 refine OkO.bind (Q := fun j => j.1.size ≤ 9 ∧ j.2.1.size ≤ 9) ?_ fun j29 h29 => ?_
 ·refine OkO.bind (Q := fun _ => True) (OkO.cond (fun _ => OkO.some trivial) fun _ => OkO.some trivial) fun t _ => ?_
  refine OkO.cond (fun _ => OkO.some ⟨e0, e0⟩) fun _ => ?_
  refine OkO.cond (fun _ => OkO.some ⟨h8.1, h8.2.1⟩) fun _ => ?_
  exact OkO.cond (fun _ => OkO.some ⟨h8.1, e0⟩) fun _ => OkO.some ⟨e0, e0⟩
 refine (pick_O 40 h23.2 (by omega)).bind fun y35 h35 => ?_
 obtain ⟨_, _, _, h35⟩ := h35
 refine OkO.cond (fun _ => ?_) fun _ => ?_
 ·exact (among_O (by decide) h35 (by omega)).bind fun y37 h37 => OkO.some ⟨⟨h23.1, h29.1, h29.2⟩, h37.2.up (by omega)⟩
 refine OkO.cond (fun _ => OkO.some ⟨⟨h23.1, h29.1, by simp only; decide⟩, h35.up (by omega)⟩) fun _ => ?_
 exact OkO.cond (fun _ => OkO.some ⟨⟨h23.1, h29.1, h29.2⟩, h35.up (by omega)⟩) fun _ => OkO.some ⟨⟨h23.1, h29.1, h29.2⟩, h35.up (by omega)⟩
theorem cg_size {l : List E4} (h : Cg l) : ∀ e ∈ l, e.1.size ≤ 9 := fun e he => by
 have := (zEI (h.good e he).1).2.1
 omega
theorem zJg {c : Cmd} (h : zHG c) : zAO c = some (cmdB c) ∧ jX c = some (cmdB c) := by
 obtain ⟨h1, h2, h3⟩ := h
 exact zCd c (by omega) (by omega) (by omega)
theorem zEb : ∀ (m f : Nat) (l : List E4) (out : List Cmd) (a : List Int) (b c : Int) (n k : Nat), Cg l → out.length + m = n → m < f → n ≤ 100 → (∀ x ∈ out, zHG x) → CurB k (a, b, c) → k + 210 * m ≤ 1000000 →
  OkO (qL f l out a b c (n : Int)) (fun y => y.1.length ≤ 100 ∧ (∀ x ∈ y.1, zHG x) ∧ CurB (k + 210 * m) y.2)
 | 0, f, l, out, a, b, c, n, k, hl, hn, hf, hn2, ho, hc, hk => by
  obtain ⟨f, rfl⟩ : ∃ m, f = m + 1 := ⟨f - 1, by omega⟩
  unfold qL
  rw [zP, decide_eq_false (by omega), cond_false]
  exact OkO.some ⟨by simp only; omega, ho, hc.up (by omega)⟩
 | m + 1, f, l, out, a, b, c, n, k, hl, hn, hf, hn2, ho, hc, hk => by
  obtain ⟨f, rfl⟩ : ∃ m, f = m + 1 := ⟨f - 1, by omega⟩
  unfold qL
  rw [zP, decide_eq_true (by omega), cond_true]
  refine (command_O (cg_size hl) hc (by omega)).bind fun y h1 => ?_
  rw [zCA (by simp; omega), Option.bind_some, (zJg h1.1).2, Option.bind_some]
  have ho2 : ∀ x ∈ out ++ [y.1], zHG x := fun x hx => by
   rw [List.mem_append, List.mem_singleton] at hx
   rcases hx with hx | rfl
   ·exact ho x hx
   ·exact h1.1
  have up : ∀ {z : List Cmd × Cur3} {q : Nat}, q + 210 * m ≤ k + 210 * (m + 1) → z.1.length ≤ 100 ∧ (∀ x ∈ z.1, zHG x) ∧ CurB (q + 210 * m) z.2 → z.1.length ≤ 100 ∧ (∀ x ∈ z.1, zHG x) ∧ CurB (k + 210 * (m + 1)) z.2 := fun hq h => ⟨h.1, h.2.1, h.2.2.up hq⟩
  refine OkO.cond (fun hcm => ?_) fun _ => ?_
  ·obtain ⟨q, _, q2, q3⟩ := zH7 hl hcm
   rw [q2, Option.bind_some]
   refine OkO.cond (fun h0 => ?_) fun _ => ?_
   ·have h0 : q.2 = 0 := by rw [zBN] at h0; simpa using h0
    exact (zEb m f q.1 _ _ _ _ n (k + 200) (q3 h0) (by simp; omega) (by omega) hn2 ho2 h1.2 (by omega)).mono fun z => up (by omega)
   ·refine (one_O 4 h1.2 (by omega)).bind fun y19 h19 => ?_
    refine OkO.cond (fun _ => ?_) fun _ => ?_
    ·have e1 : w64 ((((out ++ [y.1]).length : Nat) : Int) - 1) = ((out.length : Nat) : Int) := by rw [zJ (by simp; omega)]; simp
     have e2 : w64 ((n : Int) - 1) = ((n - 1 : Nat) : Int) := by rw [zJ (by omega)]; omega
     have e3 : slc (out ++ [y.1]).length 0 ((out.length : Nat) : Int) = some () := zEk (l := 0) (Nat.zero_le _) (by simp)
     have e4 : subl (out ++ [y.1]) 0 ((out.length : Nat) : Int) = out := by
      unfold subl
      simp
     rw [e1, e3, Option.bind_some, e4, Option.bind_some, qA, e2]
     exact (zEb m f l out _ _ _ (n - 1) (k + 202) hl (by omega) (by omega) (by omega) ho h19 (by omega)).mono fun z => up (by omega)
    ·exact (zEb m f l _ _ _ _ n (k + 202) hl (by simp; omega) (by omega) hn2 ho2 h19 (by omega)).mono fun z => up (by omega)
  ·exact (zEb m f l _ _ _ _ n (k + 200) hl (by simp; omega) (by omega) hn2 ho2 h1.2 (by omega)).mono fun z => up (by omega)
theorem commands_O {k n : Nat} {c : Cur3} (h : CurB k c) (hk : k ≤ 100000) (hn : n ≤ 100) : OkO (zBZ c (n : Int)) (fun y => y.1.length ≤ 100 ∧ (∀ x ∈ y.1, zHG x) ∧ CurB (k + 21000) y.2) := by
 have hF : 200000000 < FU := by decide
 unfold zBZ
 rw [Option.bind_some]
 refine (zEb n FU [] [] c.1 c.2.1 c.2.2 n k cg_nil (by simp) (by omega) hn (fun x hx => by cases hx) h (by omega)).bind fun o ho => OkO.some ⟨ho.1, ho.2.1, ho.2.2.up (by omega)⟩
theorem bytesI1 (e : Int) : (zBs [e]).size = 1 := rfl
theorem ext_sz (t : ByteArray) {a b : Int} (h0 : 0 ≤ a) (h1 : a ≤ b) (h2 : b ≤ t.size) : (t.extract (Int.toNat a) (Int.toNat b)).size = b.toNat - a.toNat := by
 rw [ByteArray.size_extract]
 omega
theorem slcI {n : Nat} {a b : Int} (h0 : 0 ≤ a) (h1 : a ≤ b) (h2 : b ≤ n) : slc n a b = some () := by
 obtain ⟨x, rfl⟩ : ∃ x : Nat, a = (x : Int) := ⟨a.toNat, by omega⟩
 obtain ⟨y, rfl⟩ : ∃ y : Nat, b = (y : Int) := ⟨b.toNat, by omega⟩
 exact zEk (by omega) (by omega)
theorem catI {a b : ByteArray} (h : a.size + b.size ≤ 1000000000) : catR a b = some () := by
 unfold catR
 rw [if_pos (by omega)]
theorem getB_O {b : ByteArray} {i : Int} (h0 : 0 ≤ i) (h1 : i < b.size) : OkO (getB b i) (fun _ => True) := by
 unfold getB
 rw [if_pos ⟨h0, h1⟩]
 exact OkO.some trivial
theorem zIJ {k : Nat} {c : Cur3} {n : Nat} (hn : 0 < n) (h : CurB k c) (hk : k ≤ 1000000000000) : OkO (zD c (n : Int)) (fun y => 0 ≤ y.1 ∧ y.1 < (n : Int) ∧ CurB (k + 2) y.2) := by
 obtain ⟨x, c', e, h1, h2, h3, h4⟩ := jL (n : Int) h hk
 refine ⟨_, e, h1, ?_, h4⟩
 simp only
 rcases Nat.lt_or_ge 1 n with h5 | h5
 ·exact h3 (by omega)
 ·have := h2 (by omega)
  omega
theorem zG4 (w : ByteArray) (hw : 0 < w.size) : ∀ (m f : Nat) (t : ByteArray) (a : List Int) (b c : Int) (k : Nat), m < f → t.size + m ≤ 100000 → CurB k (a, b, c) → k + 8 * m ≤ 10000000 →
  OkO (jA w f t (m : Int) a b c) (fun y => y.1.size ≤ t.size + m ∧ CurB (k + 8 * m) y.2)
 | 0, f, t, a, b, c, k, hf, ht, hc, hk => by
  obtain ⟨f, rfl⟩ : ∃ m, f = m + 1 := ⟨f - 1, by omega⟩
  unfold jA
  rw [zP, decide_eq_false (by omega), cond_false, cond_false]
  exact OkO.some ⟨by simp only; omega, hc⟩
 | m + 1, f, t, a, b, c, k, hf, ht, hc, hk => by
  obtain ⟨f, rfl⟩ : ∃ m, f = m + 1 := ⟨f - 1, by omega⟩
  unfold jA
  refine OkO.cond (fun hcond => ?_) fun _ => OkO.some ⟨by simp only; omega, hc.up (by omega)⟩
  rw [zP, zP, decide_eq_true (show (0 : Int) < ((m + 1 : Nat) : Int) by omega), cond_true] at hcond
  have htz := of_decide_eq_true hcond
  refine (zIJ (n := t.size) (by omega) hc (by omega)).bind fun y15 h15 => ?_
  refine (zIJ (n := w.size) hw h15.2.2 (by omega)).bind fun y16 h16 => ?_
  refine (getB_O h16.1 h16.2.1).bind fun e17 _ => ?_
  refine (pick_O 3 h16.2.2 (by omega)).bind fun y18 h18 => ?_
  obtain ⟨_, _, _, h18⟩ := h18
  obtain ⟨i0, i1, _⟩ := h15
  have e1 : w64 (((m + 1 : Nat) : Int) - 1) = (m : Int) := by rw [zJ (by omega)]; omega
  have e2 : w64 (y15.1 + 1) = y15.1 + 1 := zJ (by omega)
  have z1 := ext_sz t (a := 0) (b := y15.1) (by omega) (by omega) (by omega)
  have z2 := ext_sz t (a := y15.1) (b := (t.size : Int)) (by omega) (by omega) (by omega)
  have z3 := ext_sz t (a := y15.1 + 1) (b := (t.size : Int)) (by omega) (by omega) (by omega)
  have b1 := bytesI1 e17
  refine OkO.cond (fun _ => ?_) fun _ => OkO.cond (fun _ => ?_) fun _ => ?_
  ·rw [slcI (by omega) (by omega) (by omega), Option.bind_some, catI (by omega), Option.bind_some, slcI (by omega) (by omega) (by omega), Option.bind_some, catI (by rw [ByteArray.size_append]; omega), Option.bind_some, qA, e1]
   exact (zG4 w hw m f _ _ _ _ (k + 6) (by omega) (by rw [ByteArray.size_append, ByteArray.size_append]; omega) h18 (by omega)).mono fun z hz => ⟨by have := hz.1; rw [ByteArray.size_append, ByteArray.size_append] at this; omega, hz.2.up (by omega)⟩
  ·rw [slcI (by omega) (by omega) (by omega), Option.bind_some, catI (by omega), Option.bind_some, e2, slcI (by omega) (by omega) (by omega), Option.bind_some, catI (by rw [ByteArray.size_append]; omega), Option.bind_some, qA, e1]
   exact (zG4 w hw m f _ _ _ _ (k + 6) (by omega) (by rw [ByteArray.size_append, ByteArray.size_append]; omega) h18 (by omega)).mono fun z hz => ⟨by have := hz.1; rw [ByteArray.size_append, ByteArray.size_append] at this; omega, hz.2.up (by omega)⟩
  ·rw [slcI (by omega) (by omega) (by omega), Option.bind_some, e2, slcI (by omega) (by omega) (by omega), Option.bind_some, catI (by omega), Option.bind_some, qA, e1]
   exact (zG4 w hw m f _ _ _ _ (k + 6) (by omega) (by rw [ByteArray.size_append]; omega) h18 (by omega)).mono fun z hz => ⟨by have := hz.1; rw [ByteArray.size_append] at this; omega, hz.2.up (by omega)⟩
theorem spoilt_O {k : Nat} {c : Cur3} (t w : ByteArray) (hw : 0 < w.size) (ht : t.size ≤ 10000) (h : CurB k c) (hk : k ≤ 1000000) : OkO (zBv c t w) (fun y => y.1.size ≤ t.size + 2 ∧ CurB (k + 20) y.2) := by
 have hF : 200000000 < FU := by decide
 unfold zBv
 refine (zIJ (n := 2) (by omega) h (by omega)).bind fun y hy => ?_
 obtain ⟨m, hm, hm2⟩ : ∃ m : Nat, w64 (1 + y.1) = (m : Int) ∧ m ≤ 2 := by
  obtain ⟨h0, h1, _⟩ := hy
  exact ⟨(1 + y.1).toNat, by rw [zJ (by omega)]; omega, by omega⟩
 rw [qA, hm]
 exact (zG4 w hw m FU t _ _ _ (k + 2) (by omega) (by omega) hy.2.2 (by omega)).bind fun o ho => OkO.some ⟨by have := ho.1; simp only; omega, ho.2.up (by omega)⟩
theorem keepc_run (y : List Cmd × Cur3) (hl : y.1.length ≤ 100) (hz : ∀ x ∈ y.1, zHG x) : ∀ (m f k : Nat) (acc : List Cmd), y.1.length - k = m → m < f → k ≤ y.1.length → acc.length ≤ k → (∀ x ∈ acc, cmdB x = true) →
  OkO (qZ y f (k : Int) acc) (fun l => l.length ≤ 100 ∧ ∀ x ∈ l, cmdB x = true) := by
 intro m
 induction m with
 | zero =>
  intro f k acc hm hf hk ha hc
  obtain ⟨f, rfl⟩ : ∃ m, f = m + 1 := ⟨f - 1, by omega⟩
  unfold qZ
  rw [zP, decide_eq_false (by omega), cond_false]
  exact OkO.some ⟨by omega, hc⟩
 | succ m ih =>
  intro f k acc hm hf hk ha hc
  obtain ⟨f, rfl⟩ : ∃ m, f = m + 1 := ⟨f - 1, by omega⟩
  have hkl : k < y.1.length := by omega
  unfold qZ
  rw [zP, decide_eq_true (by omega), cond_true, zDV hkl, Option.bind_some, Option.bind_some, (zJg (hz _ (List.getElem_mem hkl))).2, Option.bind_some]
  refine OkO.cond (fun hb => ?_) fun _ => ?_
  ·rw [zCA (by simp; omega), Option.bind_some, qA, zCC (by omega)]
   refine ih f (k + 1) _ (by omega) (by omega) (by omega) (by simp; omega) fun x hx => ?_
   rw [List.mem_append, List.mem_singleton] at hx
   rcases hx with hx | rfl
   ·exact hc x hx
   ·exact hb
  ·rw [qA, zCC (by omega)]
   exact ih f (k + 1) _ (by omega) (by omega) (by omega) (by omega) hc
theorem journal_O {k : Nat} {c : Cur3} (h : CurB k c) (hk : k ≤ 10000) : OkO (zBe c) (fun y => y.1.size ≤ 6000 ∧ CurB (k + 22000) y.2) := by
 have hF : 200000000 < FU := by decide
 unfold zBe
 rw [Option.bind_some]
 refine (zIJ (n := 8) (by omega) h (by omega)).bind fun y3 h3 => ?_
 refine OkO.bind (Q := fun j => (∃ n : Nat, j.1 = (n : Int) ∧ n ≤ 100) ∧ CurB (k + 10) j.2) ?_ fun j4 h4 => ?_
 ·refine (one_O 16 h3.2.2 (by omega)).bind fun y5 h5 => ?_
  refine OkO.cond (fun _ => ?_) fun _ => OkO.some ⟨⟨y3.1.toNat, by simp only; omega, by omega⟩, h5.up (by omega)⟩
  refine (zIJ (n := 2) (by omega) h5 (by omega)).bind fun y7 h7 => ?_
  obtain ⟨g0, g1, g2⟩ := h7
  refine OkO.sI (OkO.some ⟨⟨(40 + y7.1).toNat, ?_, by omega⟩, g2.up (by omega)⟩)
  simp only
  rw [zJ (by omega)]
  omega
 ·obtain ⟨⟨n, hn, hn2⟩, h4⟩ := h4
  rw [hn]
  refine (commands_O h4 (by omega) hn2).bind fun y9 h9 => ?_
  obtain ⟨l, hl, hl2, hl3⟩ := keepc_run y9 h9.1 h9.2.1 y9.1.length FU 0 [] rfl (by omega) (by omega) (by simp) (fun x hx => by cases hx)
  have hl : qZ y9 FU 0 [] = _ := hl
  rw [hl, Option.bind_some]
  obtain ⟨t, ck', g1, g2, g3⟩ := jt_ex l 0 hl3 ⟨by omega, by omega⟩
  rw [jts_val (by omega) g1, Option.bind_some]
  have hts : (bl t).size ≤ 5200 := by rw [jI]; omega
  generalize bl t = s at hts
  refine OkO.cond (fun _ => OkO.some ⟨by simp only; omega, h9.2.2.up (by omega)⟩) fun hne => ?_
  have hpos : 0 < s.size := by
   rcases Nat.eq_zero_or_pos s.size with h0 | h0
   ·rw [h0] at hne
    cases hne
   ·exact h0
  refine (pick_O 6 h9.2.2 (by omega)).bind fun y24 h24 => ?_
  obtain ⟨_, _, _, h24⟩ := h24
  refine OkO.cond (fun _ => ?_) fun _ => OkO.cond (fun _ => ?_) fun _ => OkO.some ⟨by simp only; omega, h24.up (by omega)⟩
  ·refine (zIJ hpos h24 (by omega)).bind fun y26 h26 => ?_
   obtain ⟨i0, i1, i2⟩ := h26
   rw [slcI (by omega) (by omega) (by omega), Option.bind_some]
   exact OkO.some ⟨by simp only; rw [ext_sz s (by omega) (by omega) (by omega)]; omega, i2.up (by omega)⟩
  ·exact (spoilt_O s _ (by decide) (by omega) h24 (by omega)).bind fun y29 h29 => OkO.some ⟨by have := h29.1; simp only; omega, h29.2.up (by omega)⟩
theorem drawA_O {code : List Int} (h1 : code.length ≤ 1048576) (h2 : ∀ x ∈ code, 0 ≤ x ∧ x ≤ 255) : OkO (zAr code) (fun y => y.1.size ≤ 6000 ∧ zHG y.2) := by
 unfold zAr
 refine (journal_O (CurB.start h1 h2) (by omega)).bind fun y h => ?_
 obtain ⟨l, m, a, ck, _, r2, _, _, _, r6, _⟩ := zGf y.1 (by omega)
 rw [r2, Option.bind_some]
 exact (command_O (cg_size r6) h.2 (by omega)).bind fun z hz => OkO.some ⟨h.1, hz.1⟩
theorem same_run (l : List E4) (hl : l.length ≤ 1000) : ∀ (m n k : Nat), l.length - k = m → m < n → k ≤ l.length → jR l l n (k : Int) = some (.inl ()) := by
 intro m
 induction m with
 | zero =>
  intro n k hm hn hk
  obtain ⟨n, rfl⟩ : ∃ m, n = m + 1 := ⟨n - 1, by omega⟩
  unfold jR
  rw [zP, decide_eq_false (by omega), cond_false]
 | succ m ih =>
  intro n k hm hn hk
  obtain ⟨n, rfl⟩ : ∃ m, n = m + 1 := ⟨n - 1, by omega⟩
  have hkl : k < l.length := by omega
  unfold jR
  rw [zP, decide_eq_true (by omega), cond_true, zDV hkl]
  simp only [Option.bind_some, beq_self_eq_true, Bool.and_self, Bool.not_true, cond_false, qA, zCC (show k < 1000000000 by omega)]
  exact ih n (k + 1) (by omega) (by omega) (by omega)
theorem same_self (l : List E4) (hl : l.length ≤ 1000) : zAh l l = some true := by
 have hF : 200000000 < FU := by decide
 have h1 := same_run l hl l.length FU 0 rfl (by omega) (by omega)
 have h1 : jR l l FU 0 = _ := h1
 unfold zAh
 rw [zEu, Bool.not_true, cond_false, h1]
 rfl
theorem isCat_run (l : List E4) (h : Cg l) : ∀ (m n k : Nat), l.length - k = m → m < n → k ≤ l.length → jV l n (k : Int) = some (.inl ()) := by
 have hl := h.len
 intro m
 induction m with
 | zero =>
  intro n k hm hn hk
  obtain ⟨n, rfl⟩ : ∃ m, n = m + 1 := ⟨n - 1, by omega⟩
  unfold jV
  rw [zP, decide_eq_false (by omega), cond_false]
 | succ m ih =>
  intro n k hm hn hk
  obtain ⟨n, rfl⟩ : ∃ m, n = m + 1 := ⟨n - 1, by omega⟩
  have hkl : k < l.length := by omega
  have hg := h.good (l[k]'hkl) (List.getElem_mem hkl)
  have hz := zEI hg.1
  have hn1 := (zJ5 (l[k]'hkl).1 (by omega)).1
  rw [hg.1] at hn1
  obtain ⟨b, hb⟩ := zIx (l[k]'hkl).2
  have hb2 : b = true := by
   have := hg.2
   unfold cls at this
   rw [hb] at this
   exact this
  subst hb2
  unfold jV
  rw [zP, decide_eq_true (by omega), cond_true, zDV hkl]
  simp only [Option.bind_some, hn1, hb, Bool.not_true, cond_false]
  by_cases hk0 : k = 0
  ·rw [zP, decide_eq_false (by omega), cond_false]
   simp only [Option.bind_some, cond_false, qA, zCC (show k < 1000000000 by omega)]
   exact ih n (k + 1) (by omega) (by omega) (by omega)
  ·have hk1 : k - 1 < l.length := by omega
   have e1 : w64 ((k : Int) - 1) = ((k - 1 : Nat) : Int) := by rw [zJ (by omega)]; omega
   have hs : Op.bytesLess (l[k - 1]'hk1).1.toList (l[k]'hkl).1.toList = true := List.pairwise_iff_getElem.1 h.srt (k - 1) k hk1 hkl (by omega)
   rw [zP, decide_eq_true (by omega), cond_true, e1, zDV hk1]
   simp only [Option.bind_some, hs, Bool.not_true, cond_false, qA, zCC (show k < 1000000000 by omega)]
   exact ih n (k + 1) (by omega) (by omega) (by omega)
theorem isCat_val {l : List E4} (h : Cg l) : zCP l = some true := by
 have hF : 200000000 < FU := by decide
 have hl := h.len
 have h1 := isCat_run l h l.length FU 0 rfl (by omega) (by omega)
 have h1 : jV l FU 0 = _ := h1
 unfold zCP
 rw [h1, q9]
 simp only [Option.bind_some, decide_eq_true (show (l.length : Int) ≤ 20 by omega)]
theorem zMQ {l : List E4} (h : Cg l) {c : Cmd} (hc : cmdB c = true) : ∃ q, qV l c = some q ∧ zBm l c = some q ∧ (q.2 = 0 → Cg q.1) := by
 obtain ⟨q, q1, _, q3⟩ := zH7 h hc
 have hz := cmd_size hc
 have hi := (zCd c (by omega) (by omega) (by omega)).1
 rw [hc] at hi
 refine ⟨q, q1, ?_, q3⟩
 unfold zBm
 rw [isCat_val h, Option.bind_some, hi]
 simp only [Bool.not_true, cond_false, Option.bind_some, q1]
theorem Rch.le {s : ByteArray} {m a : Nat} {ck : Int} {l : List E4} {cs : List Cmd} {m1 a1 : Nat} {ck1 : Int} {l1 : List E4} (h : Rch s m a ck l cs m1 a1 ck1 l1) : a ≤ s.size → a1 ≤ s.size := by
 induction h with
 | refl => exact id
 | step h _ ih =>
  intro ha
  obtain ⟨_, ws, g1, _, _, g4, g5, _⟩ := h
  have := g5.length_le
  rw [List.length_drop, ← g4] at this
  have e : s.data.toList.length = s.size := rfl
  exact ih (by omega)
def ckF : List UInt8 → Int → Int
 | [], b => b
 | c :: l, b => ckF l ((31 * b + (c.toNat : Int) + 1) % 9973)
theorem zGW {b : Int} {c : UInt8} (h : CkB b) : CkB ((31 * b + (c.toNat : Int) + 1) % 9973) := by
 unfold CkB
 omega
theorem ckF_inj : ∀ (l : List UInt8) {a b : Int}, CkB a → CkB b → ckF l a = ckF l b → a = b
 | [], a, b, _, _, h => h
 | c :: l, a, b, ha, hb, h => by
  have := ckF_inj l (zGW ha) (zGW hb) h
  obtain ⟨a1, a2⟩ := ha
  obtain ⟨b1, b2⟩ := hb
  omega
theorem ckF_set : ∀ (l : List UInt8) (i : Nat) (u : UInt8) (hi : i < l.length) {b : Int}, CkB b → u ≠ l[i] → ckF (l.set i u) b ≠ ckF l b
 | c :: l, 0, u, hi, b, hb, hu => by
  intro h
  simp only [List.set_cons_zero] at h
  have := ckF_inj l (zGW hb) (zGW hb) h
  have hu2 : u ≠ c := hu
  have h3 : u.toNat ≠ c.toNat := fun e => hu2 (UInt8.toNat_inj.1 e)
  have h4 := u.toNat_lt
  have h5 := c.toNat_lt
  obtain ⟨b1, b2⟩ := hb
  omega
 | c :: l, i + 1, u, hi, b, hb, hu => by
  simp only [List.set_cons_succ]
  exact ckF_set l i u (by simpa using hi) (zGW hb) (by simpa using hu)
theorem ckL_run (s : ByteArray) (hs : s.size ≤ 100000000) : ∀ (r : List UInt8) (n i : Nat) (b : Int), s.data.toList.drop i = r → r.length < n → i ≤ s.size → CkB b → qE s n b (i : Int) = some (ckF r b)
 | [], n, i, b, hd, hn, hi, hb => by
  obtain ⟨n, rfl⟩ : ∃ m, n = m + 1 := ⟨n - 1, by simp at hn; omega⟩
  have hl : s.data.toList.length ≤ i := by simpa using hd
  have hz : s.data.toList.length = s.size := rfl
  unfold qE
  rw [zP, decide_eq_false (by omega), cond_false]
  rfl
 | c :: r, n, i, b, hd, hn, hi, hb => by
  obtain ⟨n, rfl⟩ : ∃ m, n = m + 1 := ⟨n - 1, by simp at hn; omega⟩
  have hz : s.data.toList.length = s.size := rfl
  have hil : i < s.data.toList.length := by
   rcases Nat.lt_or_ge i s.data.toList.length with h | h
   ·exact h
   ·rw [List.drop_of_length_le h] at hd; cases hd
  rw [List.drop_eq_getElem_cons hil] at hd
  have h1 := (List.cons.inj hd).1
  have h2 := (List.cons.inj hd).2
  have hg : getB s (i : Int) = some (c.toNat : Int) := by
   unfold getB
   rw [if_pos ⟨by omega, by omega⟩, Int.toNat_natCast, List.getElem?_eq_getElem hil, h1]
   rfl
  have hc := c.toNat_lt
  obtain ⟨b0, b1⟩ := hb
  unfold qE
  rw [zP, decide_eq_true (by omega), cond_true, hg, Option.bind_some, qA, qA, zCC (by omega)]
  rw [show IntKind.i64.wrap (c.toNat : Int) = (c.toNat : Int) from zF1 (by omega), zJ (show -9223372036854775808 ≤ 31 * b ∧ 31 * b ≤ 9223372036854775807 by omega), zJ (show -9223372036854775808 ≤ 31 * b + (c.toNat : Int) ∧ 31 * b + (c.toNat : Int) ≤ 9223372036854775807 by omega), zJ (show -9223372036854775808 ≤ 31 * b + (c.toNat : Int) + 1 ∧ 31 * b + (c.toNat : Int) + 1 ≤ 9223372036854775807 by omega), Int.tmod_eq_emod_of_nonneg (by omega)]
  exact ckL_run s hs r n (i + 1) _ h2 (by simp at hn; omega) (by omega) (zGW ⟨b0, b1⟩)
theorem ck_val (l : List UInt8) (hl : l.length ≤ 1000) {b : Int} (hb : CkB b) : qD (bl l) b = some (ckF l b) := by
 have hF : 200000000 < FU := by decide
 have h := ckL_run (bl l) (by rw [jI]; omega) l FU 0 b (by rw [zBX]; rfl) (by omega) (by omega) hb
 have h : qE (bl l) FU b 0 = _ := h
 unfold qD
 rw [h]
 rfl
theorem no_set {c u : UInt8} {l : List UInt8} (h : ∀ b ∈ l, b ≠ c) (hu : u ≠ c) (i : Nat) : ∀ b ∈ l.set i u, b ≠ c := fun b hb => by
 rcases List.mem_or_eq_of_mem_set hb with h1 | h1
 ·exact h b h1
 ·rw [h1]; exact hu
theorem zKz {c : Cmd} {ws : List (List UInt8)} (h : CT c ws) {k : Int} {D A : List UInt8} {E : List UInt8} (p : recB ws k <+: D) (hD : D = A ++ 10 :: E) (hA : ∀ b ∈ A, b ≠ 10) : A = jn 32 ws ++ 35 :: itoa k := by
 obtain ⟨a1, a2, _⟩ := zHb h k p
 rw [hD, zGp hA] at a1
 rw [← Option.some.inj a1, hD, List.take_left] at a2
 exact a2
theorem bent_false {c d : Cmd} {ws vs : List (List UInt8)} (hw : CT c ws) (hv : CT d vs) {ck k k2 : Int} (hck : CkB ck) (hk : qD (bl (jn 32 ws)) ck = some k) (hk2 : qD (bl (jn 32 vs)) ck = some k2) {D : List UInt8} {i : Nat} {u : UInt8} (hi : i < D.length) (hu : u ≠ D[i])
  (p2 : recB vs k2 <+: D) (p : recB ws k <+: D.set i u) (hin : i < (recB ws k).length) : False := by
 have hsw := hw.cw.size
 have hsv := hv.cw.size
 rw [ck_val _ (by omega) hck] at hk hk2
 have hk := Option.some.inj hk
 have hk2 := Option.some.inj hk2
 have hAv : ∀ b ∈ jn 32 vs, b ≠ 35 ∧ b ≠ 10 := hv.cw.byte
 have hNv : ∀ b ∈ itoa k2, b ≠ 35 ∧ b ≠ 10 := fun b hb => ⟨zFZ k2 35 (by decide) b hb, zFZ k2 10 (by decide) b hb⟩
 have hNw : ∀ b ∈ itoa k, b ≠ 35 ∧ b ≠ 10 := fun b hb => ⟨zFZ k 35 (by decide) b hb, zFZ k 10 (by decide) b hb⟩
 have hAw : ∀ b ∈ jn 32 ws, b ≠ 35 ∧ b ≠ 10 := hw.cw.byte
 -- the same text: the same record
 have same : jn 32 ws = jn 32 vs → False := fun e => by
  have ek : k = k2 := by rw [← hk, ← hk2, e]
  have er : recB ws k = recB vs k2 := by unfold recB; rw [e, ek]
  rw [er] at p hin
  have h1 : (D.set i u)[i]? = (recB vs k2)[i]? := by
   obtain ⟨z, hz⟩ := p
   rw [← hz, List.getElem?_append_left hin]
  have h2 : D[i]? = (recB vs k2)[i]? := by
   obtain ⟨z, hz⟩ := p2
   conv => lhs; rw [← hz]
   rw [List.getElem?_append_left hin]
  rw [List.getElem?_set_self hi, ← h2, List.getElem?_eq_getElem hi] at h1
  exact hu (Option.some.inj h1)
 obtain ⟨R, rfl⟩ := p2
 have eX : recB vs k2 ++ R = jn 32 vs ++ 35 :: (itoa k2 ++ 10 :: R) := by simp [recB]
 have hge : (jn 32 vs ++ 35 :: (itoa k2 ++ 10 :: R))[i]? = (recB vs k2 ++ R)[i]? := by rw [eX]
 rw [List.getElem?_eq_getElem hi] at hge
 rw [eX] at p
 generalize hg : (recB vs k2 ++ R)[i]'hi = g at hu hge
 clear hg eX hi
 generalize hN : itoa k2 = N at hNv p hge
 generalize jn 32 vs = A at hAv hk2 same p hge hsv
 rcases Nat.lt_trichotomy i A.length with h | h | h
 ·-- in the text
  have hgA : A[i]'h = g := by
   rw [List.getElem?_append_left h, List.getElem?_eq_getElem h] at hge
   exact Option.some.inj hge
  have e1 : (A ++ 35 :: (N ++ 10 :: R)).set i u = A.set i u ++ 35 :: (N ++ 10 :: R) := List.set_append_left i u h
  rw [e1] at p
  by_cases h10 : u = 10
  ·-- a line that ends within the text
   have e2 : A.set i u = A.take i ++ u :: A.drop (i + 1) := List.set_eq_take_append_cons_drop.trans (if_pos h)
   rw [e2, h10, List.append_assoc, List.cons_append] at p
   have hl := zKz hw p rfl (fun b hb => (hAv b (List.mem_of_mem_take hb)).2)
   have : (35 : UInt8) ∈ A.take i := by rw [hl]; simp
   exact (hAv 35 (List.mem_of_mem_take this)).1 rfl
  ·have e3 : A.set i u ++ 35 :: (N ++ 10 :: R) = (A.set i u ++ 35 :: N) ++ 10 :: R := by simp
   have hl := zKz hw p e3 (fun b hb => by
    rw [List.mem_append, List.mem_cons] at hb
    rcases hb with hb | rfl | hb
    ·exact no_set (fun b hb => (hAv b hb).2) h10 i b hb
    ·decide
    ·exact (hNv b hb).2)
   have hl2 := congrArg (fi 35) hl
   rw [rec_fi hw] at hl2
   by_cases h35 : u = 35
   ·have e2 : A.set i u = A.take i ++ u :: A.drop (i + 1) := List.set_eq_take_append_cons_drop.trans (if_pos h)
    rw [e2, h35, List.append_assoc, List.cons_append] at hl hl2
    rw [zGp (fun b hb => (hAv b (List.mem_of_mem_take hb)).1)] at hl2
    have h5 : A.take i = jn 32 ws := by
     have := congrArg (List.take (A.take i).length) hl
     rw [List.take_left, Option.some.inj hl2, List.take_left] at this
     exact this
    rw [h5] at hl
    have h6 := List.append_cancel_left hl
    have h7 := (List.cons.inj h6).2
    have : (35 : UInt8) ∈ itoa k := by rw [← h7]; simp
    exact (hNw 35 this).1 rfl
   ·rw [zGp (no_set (fun b hb => (hAv b hb).1) h35 i)] at hl2
    have h5 : A.set i u = jn 32 ws := by
     have := congrArg (List.take (A.set i u).length) hl
     rw [List.take_left, Option.some.inj hl2, List.take_left] at this
     exact this
    rw [h5] at hl
    have h6 := (List.cons.inj (List.append_cancel_left hl)).2
    have h7 := ckF_set A i u h hck (by rw [hgA]; exact hu)
    rw [h5, hk, hk2] at h7
    exact h7 (itoa_inj (h6.symm.trans hN.symm))
 ·-- the mark between text and number
  have hg35 : g = 35 := by
   rw [h, List.getElem?_append_right (Nat.le_refl _), Nat.sub_self] at hge
   exact (Option.some.inj hge).symm
  rw [hg35] at hu
  have e1 : (A ++ 35 :: (N ++ 10 :: R)).set i u = A ++ u :: (N ++ 10 :: R) := by
   rw [List.set_append_right i u (by omega), h, Nat.sub_self]
   rfl
  rw [e1] at p
  by_cases h10 : u = 10
  ·rw [h10] at p
   have hl := zKz hw p rfl (fun b hb => (hAv b hb).2)
   have : (35 : UInt8) ∈ A := by rw [hl]; simp
   exact (hAv 35 this).1 rfl
  ·have e3 : A ++ u :: (N ++ 10 :: R) = (A ++ u :: N) ++ 10 :: R := by simp
   have hl := zKz hw p e3 (fun b hb => by
    rw [List.mem_append, List.mem_cons] at hb
    rcases hb with hb | rfl | hb
    ·exact (hAv b hb).2
    ·exact h10
    ·exact (hNv b hb).2)
   have : (35 : UInt8) ∈ A ++ u :: N := by rw [hl]; simp
   rw [List.mem_append, List.mem_cons] at this
   rcases this with h1 | h1 | h1
   ·exact (hAv 35 h1).1 rfl
   ·exact hu h1.symm
   ·exact (hNv 35 h1).1 rfl
 ·-- behind it
  obtain ⟨T, hT⟩ : ∃ T, (A ++ 35 :: (N ++ 10 :: R)).set i u = A ++ 35 :: T := by
   obtain ⟨j, hj⟩ : ∃ j, i - A.length = j + 1 := ⟨i - A.length - 1, by omega⟩
   rw [List.set_append_right i u (by omega), hj]
   exact ⟨_, rfl⟩
  rw [hT] at p
  obtain ⟨z, hz⟩ := p
  have e1 : recB ws k ++ z = jn 32 ws ++ 35 :: (itoa k ++ 10 :: z) := by simp [recB]
  rw [e1] at hz
  have h1 := congrArg (fi 35) hz
  rw [zGp (fun b hb => (hAw b hb).1), zGp (fun b hb => (hAv b hb).1)] at h1
  have h2 := congrArg (List.take (jn 32 ws).length) hz
  rw [List.take_left, Option.some.inj h1, List.take_left] at h2
  exact same h2
theorem Stp.agree {s t : ByteArray} {m a : Nat} {ck : Int} {l : List E4} {c : Cmd} {kk : Int} {n : Nat} {l1 : List E4} (h : Stp s m a ck l c kk n l1) {p : Nat} (hp : a + n ≤ p) (ht : s.data.toList.take p = t.data.toList.take p) : Stp t m a ck l c kk n l1 := by
 obtain ⟨g0, ws, g1, g2, g3, g4, g5, g6⟩ := h
 refine ⟨g0, ws, g1, g2, g3, g4, ?_, g6⟩
 have h1 : recB ws kk <+: (s.data.toList.take p).drop a := by
  rw [List.drop_take]
  exact List.prefix_take_iff.2 ⟨g5, by omega⟩
 rw [ht, List.drop_take] at h1
 exact h1.trans (List.take_prefix _ _)
theorem Rch.agree {s t : ByteArray} {m a : Nat} {ck : Int} {l : List E4} {cs : List Cmd} {m1 a1 : Nat} {ck1 : Int} {l1 : List E4} (h : Rch s m a ck l cs m1 a1 ck1 l1) {p : Nat} (ht : s.data.toList.take p = t.data.toList.take p) : a1 ≤ p → Rch t m a ck l cs m1 a1 ck1 l1 := by
 induction h with
 | refl => exact fun _ => .refl
 | step h r ih =>
  intro hp
  have := r.len.2
  exact .step (h.agree (by omega) ht) (ih hp)
theorem Rch.at {s : ByteArray} {m a : Nat} {ck : Int} {l : List E4} {cs : List Cmd} {m1 a1 : Nat} {ck1 : Int} {l1 : List E4} (h : Rch s m a ck l cs m1 a1 ck1 l1) {p : Nat} : a ≤ p → p < a1 → ∃ ds m' a' ck' l' c kk n l'', Rch s m a ck l ds m' a' ck' l' ∧ Stp s m' a' ck' l' c kk n l'' ∧ a' ≤ p ∧ p < a' + n := by
 induction h with
 | refl => intro h1 h2; omega
 | step h r ih =>
  rename_i m a ck l c kk n l1 cs m1 a1 ck1 l2
  intro h1 h2
  rcases Nat.lt_or_ge p (a + n) with h3 | h3
  ·exact ⟨[], _, _, _, _, _, _, _, _, .refl, h, h1, h3⟩
  ·obtain ⟨ds, m', a', ck', l', c', kk', n', l'', i1, i2⟩ := ih h3 h2
   exact ⟨_, _, _, _, _, _, _, _, _, .step h i1, i2⟩
theorem Rch.ck {s : ByteArray} {m a : Nat} {ck : Int} {l : List E4} {cs : List Cmd} {m1 a1 : Nat} {ck1 : Int} {l1 : List E4} (h : Rch s m a ck l cs m1 a1 ck1 l1) : CkB ck → CkB ck1 := by
 induction h with
 | refl => exact id
 | step h r ih =>
  obtain ⟨_, _, _, g2, _⟩ := h
  exact fun _ => ih g2
theorem Rch.bnd {s : ByteArray} {m a : Nat} {ck : Int} {l : List E4} {cs : List Cmd} {m1 a1 : Nat} {ck1 : Int} {l1 : List E4} (h : Rch s m a ck l cs m1 a1 ck1 l1) : a1 ≤ a + 52 * cs.length := by
 induction h with
 | refl => simp
 | step h r ih =>
  obtain ⟨_, ws, g1, g2, _, g4, _⟩ := h
  have := zKP g1 g2
  rw [List.length_cons]
  omega
theorem bent_stop {s : List UInt8} {p : Nat} {u : UInt8} (hp : p < s.length) (hu : u ≠ s[p]) {cs ds : List Cmd} {m a m2 a2 : Nat} {ck ck2 : Int} {l l2 : List E4} (h : Rch (bl s) 0 0 0 [] cs m a ck l) (hs : Stk (bl s) m a ck l) (ha : p < a) (h2 : Rch (bl (s.set p u)) 0 0 0 [] ds m2 a2 ck2 l2) : a2 ≤ p := by
 rcases Nat.lt_or_ge p a2 with hlt | hge
 ·exfalso
  obtain ⟨es, m', a', ck', l', c, kk, n, l'', r1, r2, r3, r4⟩ := h2.at (Nat.zero_le _) hlt
  have hag : (bl (s.set p u)).data.toList.take p = (bl s).data.toList.take p := by
   rw [zBX, zBX, List.take_set_of_le (Nat.le_refl _)]
  have r5 := r1.agree hag r3
  obtain ⟨fs, e1, e2⟩ := r5.max h hs
  cases e2 with
  | refl => omega
  | step k t =>
   obtain ⟨_, ws, g1, g2, g3, g4, g5, _⟩ := r2
   obtain ⟨_, vs, k1, k2, k3, k4, k5, _⟩ := k
   rw [zBX] at g5 k5
   have hck := r1.ck ⟨by omega, by omega⟩
   have hlen : (s.drop a').length = s.length - a' := List.length_drop
   rw [show (s.set p u).drop a' = (s.drop a').set (p - a') u by
    rw [List.drop_set, if_neg (by omega)]] at g5
   refine bent_false g1 k1 hck g3 k3 (D := s.drop a') (i := p - a') (u := u) (by omega) ?_ k5 g5 (by omega)
   rw [List.getElem_drop]
   simp only [show a' + (p - a') = p by omega]
   exact hu
 ·exact hge
theorem zKK {nm : ByteArray} : ∀ {l : List E4}, (∀ x ∈ l, nl x.1 nm = true) → fnE nm l = none
 | [], _ => rfl
 | x :: l, h => by
  rw [fnE_cons, if_neg (nl_ne (h x (by simp)))]
  exact zKK fun y hy => h y (List.mem_cons_of_mem _ hy)
theorem put_last {e : E4} : ∀ {l : List E4}, (∀ x ∈ l, nl x.1 e.1 = true) → putE e l = l ++ [e]
 | [], _ => rfl
 | x :: l, h => by
  rw [zKA, if_pos (h x (by simp)), put_last fun y hy => h y (List.mem_cons_of_mem _ hy)]
  rfl
theorem run_add {l : List E4} {e : E4} (hl : l.length < 20) (h : ∀ x ∈ l, nl x.1 e.1 = true) : qV l (addC e) = some (l ++ [e], 0) := by
 have hll : l.length ≤ 100000 := by omega
 have ee : (⟨#[]⟩ : ByteArray) = emp := rfl
 have e0 : ByteArray.empty = emp := rfl
 obtain ⟨p0, q0, hp0, hq0⟩ := zF3 hll emp
 have hf := zLm l e.1 hll
 rw [zKK h] at hf
 have hw := zHS l e.1 e.2 hll
 rw [zEE (zKK h), put_last h] at hw
 unfold qV zD8 addC
 simp only [e0, hp0, hf, eqS, ee, decide_true, Bool.not_true, show eqI (1 : Int) 1 = true from rfl, show eqI (1 : Int) 2 = false from rfl, show eqI (1 : Int) 3 = false from rfl, show eqI (1 : Int) 4 = false from rfl, show eqI (1 : Int) 5 = false from rfl, show eqI 0 0 = true from rfl, cond_true, cond_false, Option.bind_some, Bool.not_false]
 have hw2 : zCJ l e.1 (e.2.1, e.2.2.1, e.2.2.2) = some (l ++ [e]) := hw
 rw [hw2, Option.bind_some, zP, decide_eq_false (by simp; omega), cond_false]
theorem adds_run {l : List E4} (h : Cg l) (t : List UInt8) : ∀ (rest pre : List E4) (a : Nat) (k k' : Int) (u : List UInt8), l = pre ++ rest → JT k (rest.map addC) u k' → t.drop a = u → Rch (bl t) pre.length a k pre (rest.map addC) l.length (a + u.length) k' l
 | [], pre, a, k, k', u, hl, hj, hu => by
  cases hj
  rw [List.append_nil] at hl
  subst hl
  exact .refl
 | e :: rest, pre, a, k, k', u, hl, hj, hu => by
  rw [List.map_cons] at hj
  cases hj with
  | cons h2 hk2 hc2 ht =>
   rename_i ws kk t2
   have hlen := h.len
   have hlp : pre.length < 20 := by rw [hl] at hlen; simp at hlen; omega
   have hsrt : ∀ x ∈ pre, nl x.1 e.1 = true := fun x hx => by
    have := h.srt
    rw [hl] at this
    exact (List.pairwise_append.1 this).2.2 x hx e (by simp)
   have hr := run_add hlp hsrt
   have ih := adds_run h t rest (pre ++ [e]) (a + (recB ws kk).length) kk k' t2 (by rw [hl]; simp) ht (by rw [← List.drop_drop, hu, List.drop_left])
   rw [List.length_append, List.length_singleton] at ih
   have e5 : a + (recB ws kk ++ t2).length = a + (recB ws kk).length + t2.length := by rw [List.length_append]; omega
   rw [e5]
   exact .step ⟨by omega, ws, h2, hk2, hc2, rfl, by rw [zBX, hu]; exact List.prefix_append _ _, hr⟩ ih
theorem zKx (s : ByteArray) (hs : s.size ≤ 4000) {l : List E4} {m a : Nat} {ck : Int} (h : zA5 s = some (l, (m : Int), (a : Int), ck)) : qM s = some (l, (m : Int), (a : Int), true) := by
 unfold qM
 rw [zP, decide_eq_false (by omega), cond_false, h]
 rfl
theorem ap_all {s : ByteArray} (hs : s.size ≤ 4000) {c : Cmd} (hz : zHG c) {l : List E4} {m a : Nat} {ck : Int} (h1 : zA5 s = some (l, (m : Int), (a : Int), ck)) (h2 : zA4 s = some (l, (m : Int), (a : Int), ck)) (hck : CkB ck) (hl : Cg l) :
  ∃ r, zA2 s c = some r ∧ zA1 s c = some r ∧ (r.2 = 0 → cmdB c = true ∧ s.size ≤ a ∧ m ≠ 40 ∧ ∃ ws kk q, CT c ws ∧ CkB kk ∧ qD (bl (jn 32 ws)) ck = some kk ∧ qV l c = some (q, 0) ∧ Cg q ∧ r.1 = s ++ bl (recB ws kk)) := by
 obtain ⟨i1, i2⟩ := zJg hz
 unfold zA2 zA1
 rw [i1, i2, zP]
 simp only [Option.bind_some]
 cases hc : cmdB c with
 | false => exact ⟨_, rfl, rfl, fun h => by cases h⟩
 | true =>
  rw [decide_eq_false (by omega)]
  obtain ⟨q, q1, q2, q3⟩ := zH7 hl hc
  obtain ⟨ws, hct⟩ := ct_of hc
  obtain ⟨kk, k1, k2, h4, h5⟩ := zFH hct hck
  have hsz := zKP hct k1
  simp only [Bool.not_true, cond_false, h1, h2, Option.bind_some, q1, q2, h4, h5, zP]
  by_cases ha : (a : Int) < (s.size : Int)
  ·rw [decide_eq_true ha]
   exact ⟨_, rfl, rfl, fun h => by cases h⟩
  ·rw [decide_eq_false ha]
   simp only [cond_false]
   by_cases h0 : q.2 = 0
   ·rw [h0, show eqI 0 0 = true from rfl]
    simp only [Bool.not_true, cond_false]
    by_cases hm : m = 40
    ·rw [hm, show eqI ((40 : Nat) : Int) 40 = true from rfl]
     exact ⟨_, rfl, rfl, fun h => by cases h⟩
    ·have hcat : catR s (bl (recB ws kk)) = some () := by
      unfold catR
      rw [if_pos (by rw [jI]; omega)]
     rw [eqNe (show (m : Int) ≠ 40 by omega)]
     simp only [cond_false, hcat, Option.bind_some]
     exact ⟨_, rfl, rfl, fun _ => ⟨trivial, by omega, hm, ws, kk, q.1, hct, k1, k2, by rw [← h0], q3 h0, rfl⟩⟩
   ·rw [eqNe h0]
    exact ⟨_, rfl, rfl, fun h => absurd h h0⟩
theorem ap_big {s : ByteArray} (hs : 4000 < s.size) {c : Cmd} (hz : zHG c) : ∃ r, zA2 s c = some r ∧ zA1 s c = some r := by
 obtain ⟨i1, i2⟩ := zJg hz
 unfold zA2 zA1
 rw [i1, i2, zP, decide_eq_true (by omega)]
 cases cmdB c with
 | false => exact ⟨_, rfl, rfl⟩
 | true => exact ⟨_, rfl, rfl⟩
theorem xor_byte (x : UInt8) {v : Int} (h1 : 1 ≤ v) (h2 : v ≤ 200) : ∃ u : UInt8, xorI .u8 (x.toNat : Int) v = (u.toNat : Int) ∧ u ≠ x ∧ (xorI .u8 (x.toNat : Int) v).toNat.toUInt8 = u := by
 obtain ⟨n, rfl⟩ : ∃ n : Nat, v = (n : Int) := ⟨v.toNat, by omega⟩
 have hx := x.toNat_lt
 have e1 : (BitVec.ofInt IntKind.u8.bits (x.toNat : Int) ^^^ BitVec.ofInt IntKind.u8.bits (n : Int)).toNat = x.toNat ^^^ n := by
  rw [BitVec.toNat_xor]
  have a1 : (BitVec.ofInt IntKind.u8.bits (x.toNat : Int)).toNat = x.toNat := by
   show (BitVec.ofInt 8 (x.toNat : Int)).toNat = x.toNat
   rw [BitVec.ofInt_natCast, BitVec.toNat_ofNat]
   omega
  have a2 : (BitVec.ofInt IntKind.u8.bits (n : Int)).toNat = n := by
   show (BitVec.ofInt 8 (n : Int)).toNat = n
   rw [BitVec.ofInt_natCast, BitVec.toNat_ofNat]
   omega
  rw [a1, a2]
 have hlt : x.toNat ^^^ n < 256 := Nat.xor_lt_two_pow (n := 8) hx (by omega)
 have e2 : xorI .u8 (x.toNat : Int) (n : Int) = ((x.toNat ^^^ n : Nat) : Int) := by
  unfold xorI
  rw [e1]
  show ((x.toNat ^^^ n : Nat) : Int) % 256 = _
  omega
 have e3 : ((x.toNat ^^^ n).toUInt8).toNat = x.toNat ^^^ n := by
  show (x.toNat ^^^ n) % 256 = _
  omega
 refine ⟨(x.toNat ^^^ n).toUInt8, by rw [e2, e3], fun e => ?_, by rw [e2, Int.toNat_natCast]⟩
 have h3 : x.toNat ^^^ n = x.toNat := by
  rw [← e3, e]
 have h4 : n = 0 := by
  have := congrArg (fun z => x.toNat ^^^ z) h3
  simp only [← Nat.xor_assoc, Nat.xor_self, Nat.zero_xor] at this
  exact this
 omega
theorem bend_val {s : ByteArray} {p : Nat} (hp : p < s.data.toList.length) {v : Int} (h1 : 1 ≤ v) (h2 : v ≤ 200) : ∃ u : UInt8, u ≠ s.data.toList[p] ∧ bendB s (p : Int) v = some (bl (s.data.toList.set p u)) := by
 obtain ⟨u, e1, e2, e3⟩ := xor_byte (s.data.toList[p]) h1 h2
 refine ⟨u, e2, ?_⟩
 unfold bendB
 rw [Int.toNat_natCast, List.getElem?_eq_getElem hp]
 simp only [e3]
 rw [e1, zEu, q9, decide_eq_true (show (0 : Int) ≤ (p : Int) by omega)]
 rfl
theorem bl_self (s : ByteArray) : bl s.data.toList = s := rfl
theorem zJz (code more : List Int) (hc8 : ∀ x ∈ code, 0 ≤ x ∧ x ≤ 255) (hm8 : ∀ x ∈ more, 0 ≤ x ∧ x ≤ 255) : zCT code more = some true := by
 unfold zCT
 rcases big_cases code more with hb | ⟨hb, hcl, hml⟩
 ·rw [hb]; rfl
 obtain ⟨⟨s, c⟩, e1, hs, hz⟩ := drawA_O hcl hc8
 simp only at hs hz
 rw [hb, Option.bind_some, cond_false, e1, Option.bind_some]
 simp only
 by_cases h4 : 4000 < s.size
 ·obtain ⟨r, r1, r2⟩ := ap_big (s := s) (by omega) hz
  have v1 : qM s = some ([], 0, 0, false) := by
   unfold qM
   rw [zP, decide_eq_true (by omega), cond_true]
  have v2 : zA0 s = some ([], 0, 0, false) := by
   unfold zA0
   rw [zP, decide_eq_true (by omega), cond_true]
  simp only [r1, r2, v1, v2, Option.bind_some, eqS, decide_true, zEu, Bool.not_true, cond_false, bne_self_eq_false, Bool.not_false, cond_true]
 ·obtain ⟨l, m, a, ck, r1, r2, r3, r4, r5, r6, ⟨cs, r7⟩, r8⟩ := zGf s (by omega)
  have v1 := zKx s (by omega) r1
  have v2 : zA0 s = some (l, (m : Int), (a : Int), true) := by
   unfold zA0
   rw [zP, decide_eq_false (by omega), cond_false, r2]
   rfl
  obtain ⟨r, a1, a2, a3⟩ := ap_all (by omega) hz r1 r2 r5 r6
  have hml2 := r7.len.1
  have hbn := r7.bnd
  have hcl2 : cs.length ≤ 40 := by omega
  simp only [a1, a2, v1, v2, Option.bind_some, eqS, decide_true, zEu, Bool.not_true, cond_false, bne_self_eq_false]
  -- the appended command
  have happ : (bif (eqI r.2 0) then ((zBm l c).bind fun y20 => (qM r.1).bind fun y21 => (bif (bif (bif (!eqI y20.2 0) then true else (!y21.2.2.2)) then true else (!eqI y21.2.1 (w64 ((m : Int) + 1)))) then some true else ((zAh y21.1 y20.1).bind fun y25 => some (!y25))).bind fun b26 => bif b26 then (some (.inr false)) else (some (.inl ()))) else (some (.inl ())) : Option (Unit ⊕ Bool)) = some (.inl ()) := by
   by_cases h0 : r.2 = 0
   ·obtain ⟨b1, b2, b3, ws, kk, q, b4, b5, b6, b7, b8, b9⟩ := a3 h0
    have has : a = s.size := by omega
    obtain ⟨q', q1, q2, _⟩ := zMQ r6 b1
    rw [b7] at q1
    rw [← Option.some.inj q1] at q2
    have htl : r.1.data.toList = s.data.toList ++ recB ws kk := by
     rw [b9, show s = bl s.data.toList from rfl, zBW, zBX, zBX]
    have hsl : s.data.toList.length = s.size := rfl
    have hrs : r.1.size = s.size + (recB ws kk).length := by
     show r.1.data.toList.length = _
     rw [htl, List.length_append, hsl]
    have hrl := zKP b4 b5
    have g1 : Rch r.1 0 0 0 [] (cs ++ [c]) (m + 1) (a + (recB ws kk).length) kk q := (r7.mono (t := r.1) (by rw [htl]; exact List.prefix_append _ _)).trans (.step ⟨by omega, ws, b4, b5, b6, rfl, by rw [htl, has, ← hsl, List.drop_left]; exact List.prefix_refl _, b7⟩ .refl)
    have g2 := replay_of (s := r.1) (by omega) g1 (stk_end (by omega))
    have g3 := zKx r.1 (by omega) g2
    have g4 := same_self q (by have := b8.len; omega)
    have e5 : w64 ((m : Int) + 1) = ((m + 1 : Nat) : Int) := zCC (by omega)
    rw [h0, zEu, cond_true, q2, Option.bind_some, g3]
    simp only [Option.bind_some, e5, zEu, Bool.not_true, cond_false, g4]
   ·rw [eqNe h0]
    rfl
  rw [happ, Option.bind_some]
  simp only
  -- the compact journal
  obtain ⟨l', m', a', ck2, t, ck', c1, c2, c3, c4, c5⟩ := cj_impl s (by omega)
  rw [r1] at c1
  have hll : l = l' := congrArg Prod.fst (Option.some.inj c1)
  subst hll
  have hlen := r6.len
  have d1 := adds_run r6 t l [] 0 0 ck' t rfl c3 rfl
  rw [Nat.zero_add] at d1
  have d2 := replay_of (s := bl t) (by rw [jI]; omega) d1 (stk_end (by rw [jI]; omega))
  have d3 := zKx (bl t) (by rw [jI]; omega) d2
  have d4 := same_self l (by omega)
  simp only [c5, d3, Option.bind_some, Bool.not_true, cond_false, jI, zEu, d4]
  -- the changed byte
  by_cases ha : 0 < a
  ·obtain ⟨z, z1, z2, z3⟩ := numberOf_ok hml hm8
   have ez : nz (a : Int) = some () := by
    unfold nz
    rw [eqNe (by omega), cond_false]
   obtain ⟨w1, w2⟩ := zG3 z2 (show (0 : Int) < (a : Int) by omega)
   obtain ⟨p, hp⟩ : ∃ k : Nat, z.tmod (a : Int) = (k : Int) := ⟨(z.tmod (a : Int)).toNat, by omega⟩
   rw [hp] at w2
   have hv : IntKind.u8.wrap (w64 (1 + Int.tmod ((more.length : Nat) : Int) 200)) = 1 + ((more.length : Nat) : Int) % 200 := by
    rw [Int.tmod_eq_emod_of_nonneg (by omega), zJ (by omega)]
    show (1 + ((more.length : Nat) : Int) % 200) % 256 = _
    omega
   have hpl : p < s.data.toList.length := by
    have : s.data.toList.length = s.size := rfl
    omega
   obtain ⟨u, u1, u2⟩ := bend_val (s := s) hpl (v := 1 + ((more.length : Nat) : Int) % 200) (by omega) (by omega)
   have hsz : (bl (s.data.toList.set p u)).size = s.size := by rw [jI, List.length_set]; rfl
   obtain ⟨l3, m3, a3', ck3, k1, _, _, _, _, _, ⟨ds, k7⟩, _⟩ := zGf (bl (s.data.toList.set p u)) (by omega)
   have k8 := zKx _ (by omega) k1
   have k9 := bent_stop (s := s.data.toList) hpl u1 (by rw [bl_self]; exact r7) (by rw [bl_self]; exact r8) (by omega) k7
   rw [zP, decide_eq_true (by omega), cond_true, z1, Option.bind_some, ez, Option.bind_some, qA, hp, hv, u2, Option.bind_some, k8]
   simp only [Option.bind_some, cond_true, q9, decide_eq_true (show (a3' : Int) ≤ (p : Int) by omega)]
  ·rw [zP, decide_eq_false (by omega), cond_false]
end Go.Proofs.YtfmjfofocklgpaaGreatDoor
namespace Go.Proofs
def Tryz.lays156_ren : Go.Shelf.Ren := ⟨fun | 156 => 194 | 165 => 249 | 166 => 61 | 169 => 62 | 240 => 119 | 241 => 282 | 276 => 196 | 277 => 301 | n => n, fun | 31 => 66 | 9 => 9 | 3 => 3 | 4 => 4 | 0 => 0 | 20 => 20 | 72 => 89 | 76 => 92 | 70 => 87 | 37 => 48 | 75 => 91 | 127 => 143 | 164 => 181 | 5 => 5 | 80 => 94 | n => n, fun | n => n⟩
theorem Tryz.lays156 : Go.Proofs.Lays.n156 Tryz.prog Tryz.lays156_ren := {
 mixed := by kernel_rfl
 f156 := Tryz.func194.trans (congrArg some (by kernel_rfl))
 f165 := Tryz.func249.trans (congrArg some (by kernel_rfl))
 f166 := Tryz.func61.trans (congrArg some (by kernel_rfl))
 f169 := Tryz.func62.trans (congrArg some (by kernel_rfl))
 f240 := Tryz.func119.trans (congrArg some (by kernel_rfl))
 f241 := Tryz.func282.trans (congrArg some (by kernel_rfl))
 f276 := Tryz.func196.trans (congrArg some (by kernel_rfl))
 f277 := Tryz.func301.trans (congrArg some (by kernel_rfl))
 t0 := Tryz.underlying0
 a0 := Tryz.isAgg0
 z0 := Tryz.sizeOf0
 v0 := Tryz.zeroValue0
 t3 := Tryz.underlying3
 a3 := Tryz.isAgg3
 z3 := Tryz.sizeOf3
 v3 := Tryz.zeroValue3
 t4 := Tryz.underlying4
 a4 := Tryz.isAgg4
 z4 := Tryz.sizeOf4
 v4 := Tryz.zeroValue4
 t9 := Tryz.underlying9
 a9 := Tryz.isAgg9
 z9 := Tryz.sizeOf9
 v9 := Tryz.zeroValue9
 t20 := Tryz.underlying20
 a20 := Tryz.isAgg20
 z20 := Tryz.sizeOf20
 v20 := Tryz.zeroValue20
 t31 := Tryz.underlying66
 a31 := Tryz.isAgg66
 z31 := Tryz.sizeOf66
 v31 := Tryz.zeroValue66
 t37 := Tryz.underlying48
 a37 := Tryz.isAgg48
 z37 := Tryz.sizeOf48
 v37 := Tryz.zeroValue48
 t70 := Tryz.underlying87
 a70 := Tryz.isAgg87
 z70 := Tryz.sizeOf87
 v70 := Tryz.zeroValue87
 t72 := Tryz.underlying89
 a72 := Tryz.isAgg89
 z72 := Tryz.sizeOf89
 v72 := Tryz.zeroValue89
 t75 := Tryz.underlying91
 a75 := Tryz.isAgg91
 z75 := Tryz.sizeOf91
 v75 := Tryz.zeroValue91
 t76 := Tryz.underlying92
 a76 := Tryz.isAgg92
 z76 := Tryz.sizeOf92
 v76 := Tryz.zeroValue92
 t127 := Tryz.underlying143
 a127 := Tryz.isAgg143
 z127 := Tryz.sizeOf143
 v127 := Tryz.zeroValue143
 t164 := Tryz.underlying181
 a164 := Tryz.isAgg181
 z164 := Tryz.sizeOf181
 v164 := Tryz.zeroValue181 }
theorem Tryz.Builder_Extra_156 : Builder.Extra Tryz.prog Tryz.lays156_ren := {
 sizeBuilder := by kernel_rfl
 liesBuilder := by kernel_rfl
 t5 := Tryz.underlying5
 a5 := Tryz.isAgg5
 z5 := Tryz.sizeOf5
 v5 := Tryz.zeroValue5
 infoByte := by kernel_rfl
 cellsByte := by kernel_rfl
 sizeByte := by kernel_rfl
 neB5 := by decide }
open Go.RowKit in
theorem Tryz.strings_Join_none (a : Option Addr) (c : Nat) (sep : ByteArray) (w : World) :
  Calls Tryz.prog 194 #[.slice a 0 c, .string sep] w fun e w' => e = .returned (.string ⟨#[]⟩) ∧ w' = w := Any.strings_Join_none Tryz.lays156 Tryz.Builder_Extra_156 a c sep w
open Go.RowKit in
theorem Tryz.strings_Join (bk o c : Nat) (xs : List ByteArray) (sep : ByteArray) (w : World) (hcells : ∀ (j : Nat) x, xs[j]? = some x → w.cell? ⟨bk, o + j, none⟩ = some (.string x)) (hbk : bk < w.heap.size) (hN : xs.length ≤ 140737488355328) (hcap : xs.length ≤ c) (hlen : (Lib.join (xs.map (·.data.toList)) sep.data.toList).length ≤ 140737488355328) :
  Calls Tryz.prog 194 #[.slice (some ⟨bk, o, none⟩) xs.length c, .string sep] w fun e w' => e = .returned (.string ⟨(Lib.join (xs.map (·.data.toList)) sep.data.toList).toArray⟩) ∧ Below w.heap.size w w' := Any.strings_Join Tryz.lays156 Tryz.Builder_Extra_156 bk o c xs sep w hcells hbk hN hcap hlen
def Tryz.laysM171_ren : Go.Shelf.Ren := ⟨fun | 171 => 117 | 243 => 195 | 246 => 250 | 283 => 283 | 284 => 284 | 285 => 285 | 286 => 286 | 129 => 303 | 317 => 302 | 318 => 304 | 319 => 305 | 320 => 306 | 337 => 312 | 338 => 313 | n => n, fun | 3 => 3 | 9 => 9 | 2 => 2 | 4 => 4 | 171 => 248 | 0 => 0 | 53 => 82 | 37 => 48 | 5 => 5 | 173 => 251 | 212 => 269 | 51 => 264 | 20 => 20 | 213 => 270 | 46 => 202 | 232 => 281 | 233 => 282 | n => n, fun | 17 => 3 | 18 => 6 | 19 => 7 | n => n⟩
theorem Tryz.laysM171 : Go.Proofs.LaysM.n171 Tryz.prog Tryz.laysM171_ren := {
 mixed := by kernel_rfl
 f129 := Tryz.func303.trans (congrArg some (by kernel_rfl))
 f171 := Tryz.func117.trans (congrArg some (by kernel_rfl))
 f243 := Tryz.func195.trans (congrArg some (by kernel_rfl))
 f246 := Tryz.func250.trans (congrArg some (by kernel_rfl))
 f283 := Tryz.func283.trans (congrArg some (by kernel_rfl))
 f284 := Tryz.func284.trans (congrArg some (by kernel_rfl))
 f285 := Tryz.func285.trans (congrArg some (by kernel_rfl))
 f286 := Tryz.func286.trans (congrArg some (by kernel_rfl))
 f317 := Tryz.func302.trans (congrArg some (by kernel_rfl))
 f318 := Tryz.func304.trans (congrArg some (by kernel_rfl))
 f319 := Tryz.func305.trans (congrArg some (by kernel_rfl))
 f320 := Tryz.func306.trans (congrArg some (by kernel_rfl))
 f337 := Tryz.func312.trans (congrArg some (by kernel_rfl))
 f338 := Tryz.func313.trans (congrArg some (by kernel_rfl))
 t0 := Tryz.underlying0
 a0 := Tryz.isAgg0
 z0 := Tryz.sizeOf0
 v0 := Tryz.zeroValue0
 t2 := Tryz.underlying2
 a2 := Tryz.isAgg2
 z2 := Tryz.sizeOf2
 v2 := Tryz.zeroValue2
 t3 := Tryz.underlying3
 a3 := Tryz.isAgg3
 z3 := Tryz.sizeOf3
 v3 := Tryz.zeroValue3
 t4 := Tryz.underlying4
 a4 := Tryz.isAgg4
 z4 := Tryz.sizeOf4
 v4 := Tryz.zeroValue4
 t5 := Tryz.underlying5
 a5 := Tryz.isAgg5
 z5 := Tryz.sizeOf5
 v5 := Tryz.zeroValue5
 t9 := Tryz.underlying9
 a9 := Tryz.isAgg9
 z9 := Tryz.sizeOf9
 v9 := Tryz.zeroValue9
 t20 := Tryz.underlying20
 a20 := Tryz.isAgg20
 z20 := Tryz.sizeOf20
 v20 := Tryz.zeroValue20
 t37 := Tryz.underlying48
 a37 := Tryz.isAgg48
 z37 := Tryz.sizeOf48
 v37 := Tryz.zeroValue48
 t46 := Tryz.underlying202
 a46 := Tryz.isAgg202
 z46 := Tryz.sizeOf202
 v46 := Tryz.zeroValue202
 t51 := Tryz.underlying264
 a51 := Tryz.isAgg264
 z51 := Tryz.sizeOf264
 v51 := Tryz.zeroValue264
 t53 := Tryz.underlying82
 a53 := Tryz.isAgg82
 z53 := Tryz.sizeOf82
 v53 := Tryz.zeroValue82
 t171 := Tryz.underlying248
 a171 := Tryz.isAgg248
 z171 := Tryz.sizeOf248
 v171 := Tryz.zeroValue248
 t173 := Tryz.underlying251
 a173 := Tryz.isAgg251
 z173 := Tryz.sizeOf251
 v173 := Tryz.zeroValue251
 t212 := Tryz.underlying269
 a212 := Tryz.isAgg269
 z212 := Tryz.sizeOf269
 v212 := Tryz.zeroValue269
 t213 := Tryz.underlying270
 a213 := Tryz.isAgg270
 z213 := Tryz.sizeOf270
 t232 := Tryz.underlying281
 a232 := Tryz.isAgg281
 z232 := Tryz.sizeOf281
 v232 := Tryz.zeroValue281
 t233 := Tryz.underlying282
 a233 := Tryz.isAgg282
 z233 := Tryz.sizeOf282
 v233 := Tryz.zeroValue282
 g17 := by kernel_rfl
 g18 := by kernel_rfl
 g19 := by kernel_rfl
 i0 := by kernel_rfl
 i2 := by kernel_rfl
 i3 := by kernel_rfl
 i4 := by kernel_rfl
 i5 := by kernel_rfl
 i9 := by kernel_rfl
 i20 := by kernel_rfl
 i37 := by kernel_rfl
 i46 := by kernel_rfl
 i51 := by kernel_rfl
 i53 := by kernel_rfl
 i171 := by kernel_rfl
 i173 := by kernel_rfl
 i212 := by kernel_rfl
 i232 := by kernel_rfl
 i233 := by kernel_rfl
 m17 := by kernel_rfl
 m18 := by kernel_rfl
 m19 := by kernel_rfl }
open Go.RowKit Go.Sort Go.Lib in
theorem Tryz.strconv_Itoa (n : Int) (h0 : -9223372036854775808 ≤ n) (h1 : n ≤ 9223372036854775807) (w : World) (htab : Lib.TabIs Tryz.prog w "internal/strconv.uint64pow10" .u64 Lib.pow10Tab) :
    Calls Tryz.prog 117 #[.int .i64 n] w fun e w' => e = .returned (.string ⟨(Lib.itoa n).toArray⟩) ∧ ∃ k os, w' = grow (w.drewN k) os := Any.strconv_Itoa Tryz.laysM171 n h0 h1 w htab
def Tryz.laysC172_ren : Go.Shelf.Ren := ⟨fun | 172 => 165 | 244 => 231 | 245 => 232 | 247 => 268 | 279 => 269 | 280 => 270 | 281 => 271 | 282 => 272 | 287 => 296 | 316 => 297 | 171 => 117 | 205 => 298 | 321 => 310 | 322 => 311 | 243 => 195 | 246 => 250 | 283 => 283 | 284 => 284 | 285 => 285 | 286 => 286 | 129 => 303 | 317 => 302 | 318 => 304 | 319 => 305 | 320 => 306 | 337 => 312 | 338 => 313 | n => n, fun | 9 => 9 | 3 => 3 | 75 => 91 | 76 => 92 | 4 => 4 | 5 => 5 | 167 => 240 | 37 => 48 | 0 => 0 | 85 => 241 | 2 => 2 | 168 => 243 | 53 => 82 | 175 => 259 | 46 => 202 | 210 => 262 | 127 => 143 | 145 => 279 | 143 => 277 | 21 => 21 | 171 => 248 | 173 => 251 | 212 => 269 | 51 => 264 | 20 => 20 | 213 => 270 | 232 => 281 | 233 => 282 | 80 => 94 | n => n, fun | 15 => 1 | 16 => 2 | 17 => 3 | 18 => 6 | 19 => 7 | n => n⟩
theorem Tryz.laysC172 : Go.Proofs.LaysC.n172 Tryz.prog Tryz.laysC172_ren := {
 mixed := by kernel_rfl
 f129 := Tryz.func303.trans (congrArg some (by kernel_rfl))
 f171 := Tryz.func117.trans (congrArg some (by kernel_rfl))
 f172 := Tryz.func165.trans (congrArg some (by kernel_rfl))
 f205 := Tryz.func298.trans (congrArg some (by kernel_rfl))
 f243 := Tryz.func195.trans (congrArg some (by kernel_rfl))
 f244 := Tryz.func231.trans (congrArg some (by kernel_rfl))
 f245 := Tryz.func232.trans (congrArg some (by kernel_rfl))
 f246 := Tryz.func250.trans (congrArg some (by kernel_rfl))
 f247 := Tryz.func268.trans (congrArg some (by kernel_rfl))
 f279 := Tryz.func269.trans (congrArg some (by kernel_rfl))
 f280 := Tryz.func270.trans (congrArg some (by kernel_rfl))
 f281 := Tryz.func271.trans (congrArg some (by kernel_rfl))
 f282 := Tryz.func272.trans (congrArg some (by kernel_rfl))
 f283 := Tryz.func283.trans (congrArg some (by kernel_rfl))
 f284 := Tryz.func284.trans (congrArg some (by kernel_rfl))
 f285 := Tryz.func285.trans (congrArg some (by kernel_rfl))
 f286 := Tryz.func286.trans (congrArg some (by kernel_rfl))
 f287 := Tryz.func296.trans (congrArg some (by kernel_rfl))
 f316 := Tryz.func297.trans (congrArg some (by kernel_rfl))
 f317 := Tryz.func302.trans (congrArg some (by kernel_rfl))
 f318 := Tryz.func304.trans (congrArg some (by kernel_rfl))
 f319 := Tryz.func305.trans (congrArg some (by kernel_rfl))
 f320 := Tryz.func306.trans (congrArg some (by kernel_rfl))
 f321 := Tryz.func310.trans (congrArg some (by kernel_rfl))
 f322 := Tryz.func311.trans (congrArg some (by kernel_rfl))
 f337 := Tryz.func312.trans (congrArg some (by kernel_rfl))
 f338 := Tryz.func313.trans (congrArg some (by kernel_rfl))
 t0 := Tryz.underlying0
 a0 := Tryz.isAgg0
 z0 := Tryz.sizeOf0
 v0 := Tryz.zeroValue0
 t2 := Tryz.underlying2
 a2 := Tryz.isAgg2
 z2 := Tryz.sizeOf2
 v2 := Tryz.zeroValue2
 t3 := Tryz.underlying3
 a3 := Tryz.isAgg3
 z3 := Tryz.sizeOf3
 v3 := Tryz.zeroValue3
 t4 := Tryz.underlying4
 a4 := Tryz.isAgg4
 z4 := Tryz.sizeOf4
 v4 := Tryz.zeroValue4
 t5 := Tryz.underlying5
 a5 := Tryz.isAgg5
 z5 := Tryz.sizeOf5
 v5 := Tryz.zeroValue5
 t9 := Tryz.underlying9
 a9 := Tryz.isAgg9
 z9 := Tryz.sizeOf9
 v9 := Tryz.zeroValue9
 t20 := Tryz.underlying20
 a20 := Tryz.isAgg20
 z20 := Tryz.sizeOf20
 v20 := Tryz.zeroValue20
 t21 := Tryz.underlying21
 a21 := Tryz.isAgg21
 z21 := Tryz.sizeOf21
 v21 := Tryz.zeroValue21
 t37 := Tryz.underlying48
 a37 := Tryz.isAgg48
 z37 := Tryz.sizeOf48
 v37 := Tryz.zeroValue48
 t46 := Tryz.underlying202
 a46 := Tryz.isAgg202
 z46 := Tryz.sizeOf202
 v46 := Tryz.zeroValue202
 t51 := Tryz.underlying264
 a51 := Tryz.isAgg264
 z51 := Tryz.sizeOf264
 v51 := Tryz.zeroValue264
 t53 := Tryz.underlying82
 a53 := Tryz.isAgg82
 z53 := Tryz.sizeOf82
 v53 := Tryz.zeroValue82
 t75 := Tryz.underlying91
 a75 := Tryz.isAgg91
 z75 := Tryz.sizeOf91
 v75 := Tryz.zeroValue91
 t76 := Tryz.underlying92
 a76 := Tryz.isAgg92
 z76 := Tryz.sizeOf92
 v76 := Tryz.zeroValue92
 t85 := Tryz.underlying241
 a85 := Tryz.isAgg241
 z85 := Tryz.sizeOf241
 v85 := Tryz.zeroValue241
 t127 := Tryz.underlying143
 a127 := Tryz.isAgg143
 z127 := Tryz.sizeOf143
 v127 := Tryz.zeroValue143
 t143 := Tryz.underlying277
 a143 := Tryz.isAgg277
 z143 := Tryz.sizeOf277
 v143 := Tryz.zeroValue277
 t145 := Tryz.underlying279
 a145 := Tryz.isAgg279
 z145 := Tryz.sizeOf279
 v145 := Tryz.zeroValue279
 t167 := Tryz.underlying240
 a167 := Tryz.isAgg240
 z167 := Tryz.sizeOf240
 v167 := Tryz.zeroValue240
 t168 := Tryz.underlying243
 a168 := Tryz.isAgg243
 z168 := Tryz.sizeOf243
 v168 := Tryz.zeroValue243
 t171 := Tryz.underlying248
 a171 := Tryz.isAgg248
 z171 := Tryz.sizeOf248
 v171 := Tryz.zeroValue248
 t173 := Tryz.underlying251
 a173 := Tryz.isAgg251
 z173 := Tryz.sizeOf251
 v173 := Tryz.zeroValue251
 t175 := Tryz.underlying259
 a175 := Tryz.isAgg259
 z175 := Tryz.sizeOf259
 v175 := Tryz.zeroValue259
 t210 := Tryz.underlying262
 a210 := Tryz.isAgg262
 z210 := Tryz.sizeOf262
 v210 := Tryz.zeroValue262
 t212 := Tryz.underlying269
 a212 := Tryz.isAgg269
 z212 := Tryz.sizeOf269
 v212 := Tryz.zeroValue269
 t213 := Tryz.underlying270
 a213 := Tryz.isAgg270
 z213 := Tryz.sizeOf270
 t232 := Tryz.underlying281
 a232 := Tryz.isAgg281
 z232 := Tryz.sizeOf281
 v232 := Tryz.zeroValue281
 t233 := Tryz.underlying282
 a233 := Tryz.isAgg282
 z233 := Tryz.sizeOf282
 v233 := Tryz.zeroValue282
 g15 := by kernel_rfl
 g16 := by kernel_rfl
 g17 := by kernel_rfl
 g18 := by kernel_rfl
 g19 := by kernel_rfl
 t80 := Tryz.underlying94
 a80 := Tryz.isAgg94
 z80 := Tryz.sizeOf94
 v80 := Tryz.zeroValue94
 i0 := by kernel_rfl
 i2 := by kernel_rfl
 i3 := by kernel_rfl
 i4 := by kernel_rfl
 i5 := by kernel_rfl
 i9 := by kernel_rfl
 i20 := by kernel_rfl
 i21 := by kernel_rfl
 i37 := by kernel_rfl
 i46 := by kernel_rfl
 i51 := by kernel_rfl
 i53 := by kernel_rfl
 i75 := by kernel_rfl
 i76 := by kernel_rfl
 i80 := by kernel_rfl
 i85 := by kernel_rfl
 i127 := by kernel_rfl
 i143 := by kernel_rfl
 i145 := by kernel_rfl
 i167 := by kernel_rfl
 i168 := by kernel_rfl
 i171 := by kernel_rfl
 i173 := by kernel_rfl
 i175 := by kernel_rfl
 i210 := by kernel_rfl
 i212 := by kernel_rfl
 i232 := by kernel_rfl
 i233 := by kernel_rfl
 m15 := by kernel_rfl
 m16 := by kernel_rfl
 m17 := by kernel_rfl
 m18 := by kernel_rfl
 m19 := by kernel_rfl
 c0 := by kernel_rfl
 c2 := by kernel_rfl
 c3 := by kernel_rfl
 c4 := by kernel_rfl
 c5 := by kernel_rfl
 c9 := by kernel_rfl
 c20 := by kernel_rfl
 c21 := by kernel_rfl
 c37 := by kernel_rfl
 c46 := by kernel_rfl
 c51 := by kernel_rfl
 c53 := by kernel_rfl
 c75 := by kernel_rfl
 c76 := by kernel_rfl
 c80 := by kernel_rfl
 c85 := by kernel_rfl
 c127 := by kernel_rfl
 c143 := by kernel_rfl
 c145 := by kernel_rfl
 c167 := by kernel_rfl
 c168 := by kernel_rfl
 c171 := by kernel_rfl
 c173 := by kernel_rfl
 c175 := by kernel_rfl
 c210 := by kernel_rfl
 c212 := by kernel_rfl
 c213 := by kernel_rfl
 c232 := by kernel_rfl
 c233 := by kernel_rfl }
open Go.RowKit in
theorem Tryz.strconv_Atoi_ok (s : ByteArray) (hmax : s.size ≤ 9223372036854775806) (v : Int) (h : Lib.atoiAll s.data.toList = .ok v) (w : World) :
  Calls Tryz.prog 165 #[.string s] w fun e w' => e = .returned (.tuple #[.int .i64 v, .nilIface]) ∧ (w' = w ∨ ∃ t, w' = Lib.bytesWorld w 5 t) := Any.strconv_Atoi_ok Tryz.laysC172 s hmax v h w
open Go.RowKit in
theorem Tryz.strconv_Atoi_syntax (s : ByteArray) (hlim : s.size ≤ 281474976710656) (h : Lib.atoiAll s.data.toList = .«syntax») (ev : Value) (w : World) (hv : w.cell? ⟨1, 0, none⟩ = some ev) (hev : ev = .nilIface ∨ ∃ te pe, ev = .iface te pe) :
  Calls Tryz.prog 165 #[.string s] w fun e w' => ∃ N, e = .returned (.tuple #[.int .i64 (0), .iface 243 (.pointer (some ⟨N, 0, none⟩))]) ∧ w.heap.size ≤ N ∧ w'.heap[N]? = some (.cells #[.string ⟨#[65, 116, 111, 105]⟩, .string s, ev] 262 (0, 0)) ∧ Below w.heap.size w w' := Any.strconv_Atoi_syntax Tryz.laysC172 s hlim h ev w hv hev
open Go.RowKit in
theorem Tryz.strconv_Atoi_range (s : ByteArray) (hlim : s.size ≤ 281474976710656) (h : Lib.atoiAll s.data.toList = .range) (ev : Value) (w : World) (hv : w.cell? ⟨2, 0, none⟩ = some ev) (hev : ev = .nilIface ∨ ∃ te pe, ev = .iface te pe) :
  Calls Tryz.prog 165 #[.string s] w fun e w' => ∃ N, e = .returned (.tuple #[.int .i64 (Lib.atoiSat s.data.toList), .iface 243 (.pointer (some ⟨N, 0, none⟩))]) ∧ w.heap.size ≤ N ∧ w'.heap[N]? = some (.cells #[.string ⟨#[65, 116, 111, 105]⟩, .string s, ev] 262 (0, 0)) ∧ Below w.heap.size w w' := Any.strconv_Atoi_range Tryz.laysC172 s hlim h ev w hv hev
def Tryz.lays145_ren : Go.Shelf.Ren := ⟨fun | 145 => 106 | 220 => 190 | 219 => 243 | 217 => 189 | 225 => 277 | 224 => 278 | 267 => 279 | 266 => 242 | 314 => 300 | n => n, fun | 9 => 9 | 4 => 4 | 59 => 135 | 3 => 3 | 5 => 5 | 46 => 202 | 146 => 265 | 51 => 264 | n => n, fun | 1 => 0 | n => n⟩
theorem Tryz.lays145 : Go.Proofs.Lays.n145 Tryz.prog Tryz.lays145_ren := {
 mixed := by kernel_rfl
 f145 := Tryz.func106.trans (congrArg some (by kernel_rfl))
 f217 := Tryz.func189.trans (congrArg some (by kernel_rfl))
 f219 := Tryz.func243.trans (congrArg some (by kernel_rfl))
 f220 := Tryz.func190.trans (congrArg some (by kernel_rfl))
 f224 := Tryz.func278.trans (congrArg some (by kernel_rfl))
 f225 := Tryz.func277.trans (congrArg some (by kernel_rfl))
 f266 := Tryz.func242.trans (congrArg some (by kernel_rfl))
 f267 := Tryz.func279.trans (congrArg some (by kernel_rfl))
 f314 := Tryz.func300.trans (congrArg some (by kernel_rfl))
 t3 := Tryz.underlying3
 a3 := Tryz.isAgg3
 z3 := Tryz.sizeOf3
 v3 := Tryz.zeroValue3
 t4 := Tryz.underlying4
 a4 := Tryz.isAgg4
 z4 := Tryz.sizeOf4
 v4 := Tryz.zeroValue4
 t5 := Tryz.underlying5
 a5 := Tryz.isAgg5
 z5 := Tryz.sizeOf5
 v5 := Tryz.zeroValue5
 t9 := Tryz.underlying9
 a9 := Tryz.isAgg9
 z9 := Tryz.sizeOf9
 v9 := Tryz.zeroValue9
 t46 := Tryz.underlying202
 a46 := Tryz.isAgg202
 z46 := Tryz.sizeOf202
 v46 := Tryz.zeroValue202
 t51 := Tryz.underlying264
 a51 := Tryz.isAgg264
 z51 := Tryz.sizeOf264
 v51 := Tryz.zeroValue264
 t59 := Tryz.underlying135
 a59 := Tryz.isAgg135
 z59 := Tryz.sizeOf135
 v59 := Tryz.zeroValue135
 t146 := Tryz.underlying265
 a146 := Tryz.isAgg265
 z146 := Tryz.sizeOf265
 v146 := Tryz.zeroValue265
 g1 := by kernel_rfl }
open Go.RowKit Go.Lib in
theorem Tryz.strings_Cut (s sep : ByteArray) (m : Int) (w : World) (hs : s.size < 4294967281) (hm : w.cell? ⟨0, 0, none⟩ = some (.int .i64 m)) :
  Calls Tryz.prog 106 #[.string s, .string sep] w fun e w' => e = .returned (.tuple #[.string ⟨(Lib.cut s.data.toList sep.data.toList).1.toArray⟩, .string ⟨(Lib.cut s.data.toList sep.data.toList).2.1.toArray⟩, .bool (Lib.cut s.data.toList sep.data.toList).2.2]) ∧ ∃ n, w' = w.drewN n := Any.strings_Cut Tryz.lays145 s sep m w hs hm
def Tryz.lays146_ren : Go.Shelf.Ren := ⟨fun | 146 => 71 | 221 => 159 | 268 => 226 | 138 => 227 | 143 => 228 | 195 => 265 | 197 => 266 | 218 => 267 | 219 => 243 | 260 => 295 | 217 => 189 | 225 => 277 | 224 => 278 | 267 => 279 | 266 => 242 | 314 => 300 | n => n, fun | 9 => 9 | 31 => 66 | 3 => 3 | 4 => 4 | 0 => 0 | 105 => 235 | 21 => 21 | 5 => 5 | 46 => 202 | 119 => 272 | 139 => 275 | 138 => 274 | 146 => 265 | 51 => 264 | n => n, fun | 1 => 0 | 3 => 4 | 4 => 5 | n => n⟩
theorem Tryz.lays146 : Go.Proofs.Lays.n146 Tryz.prog Tryz.lays146_ren := {
 mixed := by kernel_rfl
 f138 := Tryz.func227.trans (congrArg some (by kernel_rfl))
 f143 := Tryz.func228.trans (congrArg some (by kernel_rfl))
 f146 := Tryz.func71.trans (congrArg some (by kernel_rfl))
 f195 := Tryz.func265.trans (congrArg some (by kernel_rfl))
 f197 := Tryz.func266.trans (congrArg some (by kernel_rfl))
 f217 := Tryz.func189.trans (congrArg some (by kernel_rfl))
 f218 := Tryz.func267.trans (congrArg some (by kernel_rfl))
 f219 := Tryz.func243.trans (congrArg some (by kernel_rfl))
 f221 := Tryz.func159.trans (congrArg some (by kernel_rfl))
 f224 := Tryz.func278.trans (congrArg some (by kernel_rfl))
 f225 := Tryz.func277.trans (congrArg some (by kernel_rfl))
 f260 := Tryz.func295.trans (congrArg some (by kernel_rfl))
 f266 := Tryz.func242.trans (congrArg some (by kernel_rfl))
 f267 := Tryz.func279.trans (congrArg some (by kernel_rfl))
 f268 := Tryz.func226.trans (congrArg some (by kernel_rfl))
 f314 := Tryz.func300.trans (congrArg some (by kernel_rfl))
 t0 := Tryz.underlying0
 a0 := Tryz.isAgg0
 z0 := Tryz.sizeOf0
 v0 := Tryz.zeroValue0
 t3 := Tryz.underlying3
 a3 := Tryz.isAgg3
 z3 := Tryz.sizeOf3
 v3 := Tryz.zeroValue3
 t4 := Tryz.underlying4
 a4 := Tryz.isAgg4
 z4 := Tryz.sizeOf4
 v4 := Tryz.zeroValue4
 t5 := Tryz.underlying5
 a5 := Tryz.isAgg5
 z5 := Tryz.sizeOf5
 v5 := Tryz.zeroValue5
 t9 := Tryz.underlying9
 a9 := Tryz.isAgg9
 z9 := Tryz.sizeOf9
 v9 := Tryz.zeroValue9
 t21 := Tryz.underlying21
 a21 := Tryz.isAgg21
 z21 := Tryz.sizeOf21
 v21 := Tryz.zeroValue21
 t31 := Tryz.underlying66
 a31 := Tryz.isAgg66
 z31 := Tryz.sizeOf66
 v31 := Tryz.zeroValue66
 t46 := Tryz.underlying202
 a46 := Tryz.isAgg202
 z46 := Tryz.sizeOf202
 v46 := Tryz.zeroValue202
 t51 := Tryz.underlying264
 a51 := Tryz.isAgg264
 z51 := Tryz.sizeOf264
 v51 := Tryz.zeroValue264
 t105 := Tryz.underlying235
 a105 := Tryz.isAgg235
 z105 := Tryz.sizeOf235
 v105 := Tryz.zeroValue235
 t119 := Tryz.underlying272
 a119 := Tryz.isAgg272
 z119 := Tryz.sizeOf272
 t138 := Tryz.underlying274
 a138 := Tryz.isAgg274
 z138 := Tryz.sizeOf274
 v138 := Tryz.zeroValue274
 t139 := Tryz.underlying275
 a139 := Tryz.isAgg275
 z139 := Tryz.sizeOf275
 v139 := Tryz.zeroValue275
 t146 := Tryz.underlying265
 a146 := Tryz.isAgg265
 z146 := Tryz.sizeOf265
 v146 := Tryz.zeroValue265
 g1 := by kernel_rfl
 g3 := by kernel_rfl
 g4 := by kernel_rfl }
open Go.RowKit Go.Lib in
theorem Tryz.strings_Split (s sep : ByteArray) (m : Int) (w : World) (hs : s.size < 4294967281) (hm : w.cell? ⟨0, 0, none⟩ = some (.int .i64 m)) (h1 : 1 ≤ sep.size) :
  Calls Tryz.prog 71 #[.string s, .string sep] w fun e w' =>
   e = .returned (.slice (some ⟨w.heap.size, 0, none⟩) (Lib.countB s sep + 1) (Lib.countB s sep + 1)) ∧ w' = w.alloc (.cells ((Lib.splitB sep 0 (Lib.countB s sep) s).map Value.string).toArray 9) := Any.strings_Split Tryz.lays146 (by kernel_rfl) s sep m w hs hm h1
def Tryz.lays229_ren : Go.Shelf.Ren := ⟨fun | 229 => 229 | n => n, fun | 9 => 9 | 40 => 211 | 31 => 66 | 152 => 237 | 3 => 3 | 0 => 0 | 4 => 4 | 21 => 21 | 154 => 239 | n => n, fun | n => n⟩
theorem Tryz.lays229 : Go.Proofs.Lays.n229 Tryz.prog Tryz.lays229_ren := {
 mixed := by kernel_rfl
 f229 := Tryz.func229.trans (congrArg some (by kernel_rfl))
 t0 := Tryz.underlying0
 a0 := Tryz.isAgg0
 z0 := Tryz.sizeOf0
 v0 := Tryz.zeroValue0
 t3 := Tryz.underlying3
 a3 := Tryz.isAgg3
 z3 := Tryz.sizeOf3
 v3 := Tryz.zeroValue3
 t4 := Tryz.underlying4
 a4 := Tryz.isAgg4
 z4 := Tryz.sizeOf4
 v4 := Tryz.zeroValue4
 t9 := Tryz.underlying9
 a9 := Tryz.isAgg9
 z9 := Tryz.sizeOf9
 v9 := Tryz.zeroValue9
 t21 := Tryz.underlying21
 a21 := Tryz.isAgg21
 z21 := Tryz.sizeOf21
 v21 := Tryz.zeroValue21
 t31 := Tryz.underlying66
 a31 := Tryz.isAgg66
 z31 := Tryz.sizeOf66
 v31 := Tryz.zeroValue66
 t40 := Tryz.underlying211
 a40 := Tryz.isAgg211
 z40 := Tryz.sizeOf211
 v40 := Tryz.zeroValue211
 t152 := Tryz.underlying237
 a152 := Tryz.isAgg237
 z152 := Tryz.sizeOf237
 v152 := Tryz.zeroValue237
 t154 := Tryz.underlying239
 a154 := Tryz.isAgg239
 z154 := Tryz.sizeOf239
 v154 := Tryz.zeroValue239 }
open Go.RowKit Go.Lib in
theorem Tryz.strings_FieldsFunc (g : Nat) (lb : Array Value) (eg : ∀ args w, (callFunc g args).run Tryz.prog w = .ok (.enter g args) w) (p : Nat → Bool) (s : ByteArray) (w : World) (hs : s.size ≤ 4294967296) (hp : PredAt Tryz.prog g lb encR p w) :
  Calls Tryz.prog 229 #[.string s, .func (.func g) #[] lb] w fun e w' => ∃ A, e = .returned (.slice (some ⟨A, 0, none⟩) (Lib.goFieldsP p s).length (Lib.goFieldsP p s).length) ∧ w.heap.size ≤ A ∧
   w'.ownsRow w.heap.size 9 1 (.slice (some ⟨A, 0, none⟩) (Lib.goFieldsP p s).length (Lib.goFieldsP p s).length) (Lib.goFieldsP p s).length ((Lib.goFieldsP p s).map Value.string) ∧ Below w.heap.size w w' := Any.strings_FieldsFunc Tryz.lays229 g lb eg p s w hs hp (by kernel_rfl) (by kernel_rfl)
end Go.Proofs
namespace Go.Proofs.YtfmjfofocklgpaaGreatDoor
open Go.RowKit
def cStr (x : ByteArray) : List Tr := [.v (.string x)]
theorem tab_of_lb {ok : Nat → Prop} {w : World} (h : Lb ok w) : Go.Lib.TabIs Tryz.prog w "internal/strconv.uint64pow10" .u64 Go.Lib.pow10Tab := by
  have hg : Tryz.prog.globalNamed "internal/strconv.uint64pow10" = some 3 := by kernel_rfl
  obtain ⟨_, cs, T, fz, h2, h3⟩ := h (3, fun cs => cs = (Go.Lib.pow10Tab.map fun z => Value.int .u64 z).toArray) (by simp [TB])
  have h3 : cs = (Go.Lib.pow10Tab.map fun z => Value.int .u64 z).toArray := h3
  subst h3
  unfold Go.Lib.TabIs World.var?
  rw [hg]
  simp only [Option.bind_some, h2]
theorem zGj {w : World} {g : Nat} {o : Obj} (h : w.heap[g]? = some o) : g < w.heap.size := by
 by_cases hlt : g < w.heap.size
 ·exact hlt
 ·rw [Array.getElem?_eq_none (by omega)] at h
  cases h
theorem cells_of_tab {w : World} (h : Go.Lib.TabIs Tryz.prog w "internal/strconv.uint64pow10" .u64 Go.Lib.pow10Tab) : ∃ cs T fz, w.heap[3]? = some (.cells cs T fz) ∧ cs = (Go.Lib.pow10Tab.map fun z => Value.int .u64 z).toArray := by
  have hg : Tryz.prog.globalNamed "internal/strconv.uint64pow10" = some 3 := by kernel_rfl
  unfold Go.Lib.TabIs World.var? at h
  rw [hg] at h
  simp only [Option.bind_some] at h
  have key : ∀ (o : Option Obj) (cs : Array Value), (match o with | some (.cells cs _ _) => some cs | _ => none) = some cs → ∃ T fz, o = some (.cells cs T fz) := by
    intro o cs ho
    split at ho
    · rename_i cs2 T fz
      injection ho with ho
      subst ho
      exact ⟨T, fz, rfl⟩
    · cases ho
  obtain ⟨T, fz, he⟩ := key _ _ h
  exact ⟨_, T, fz, he, rfl⟩
theorem zKZ {w : World} {g : Nat} {v : Value} (h : w.cell? ⟨g, 0, none⟩ = some v) : ∃ cs T fz, w.heap[g]? = some (.cells cs T fz) ∧ cs[0]? = some v := by
 unfold World.cell? at h
 split at h
 ·rename_i c T fz hc
  exact ⟨c, T, fz, hc, by simpa using h⟩
 ·cases h
theorem zKI {w : World} {g : Nat} {v : Value} {cs : Array Value} {T : TypeId} {fz : Nat × Nat} (h : w.heap[g]? = some (.cells cs T fz)) (hv : cs[0]? = some v) : w.cell? ⟨g, 0, none⟩ = some v := by
 simp [World.cell?, h, hv]
theorem lb_of_tab {ok : Nat → Prop} {w : World} (hok : ∀ g, g < w.heap.size → ok g) (h : Go.Lib.TabIs Tryz.prog w "internal/strconv.uint64pow10" .u64 Go.Lib.pow10Tab) (hm : ∃ m, w.cell? ⟨0, 0, none⟩ = some (.int .i64 m)) (he1 : ∃ te pe, w.cell? ⟨1, 0, none⟩ = some (.iface te pe)) (he2 : ∃ te pe, w.cell? ⟨2, 0, none⟩ = some (.iface te pe)) : Lb ok w := by
  intro p hp
  simp only [TB, List.mem_cons, List.not_mem_nil, or_false] at hp
  rcases hp with rfl | rfl | rfl | rfl
  · obtain ⟨cs, T, fz, h1, h2⟩ := cells_of_tab h
    exact ⟨hok _ (zGj h1), cs, T, fz, h1, h2⟩
  · obtain ⟨m, hm⟩ := hm
    obtain ⟨cs, T, fz, h1, h2⟩ := zKZ hm
    exact ⟨hok _ (zGj h1), cs, T, fz, h1, m, h2⟩
  · obtain ⟨te, pe, he⟩ := he1
    obtain ⟨cs, T, fz, h1, h2⟩ := zKZ he
    exact ⟨hok _ (zGj h1), cs, T, fz, h1, te, pe, h2⟩
  · obtain ⟨te, pe, he⟩ := he2
    obtain ⟨cs, T, fz, h1, h2⟩ := zKZ he
    exact ⟨hok _ (zGj h1), cs, T, fz, h1, te, pe, h2⟩
theorem zEK : ∀ args w, (callFunc 117 args).run Tryz.prog w = .ok (.enter 117 args) w := zBJ Tryz.func117 (by kernel_rfl) (by kernel_rfl)
theorem zE0 {n : Int} {r : ByteArray} (h : zAo n = some r) : zV Tryz.prog 117 [I n] (.c (.v (.string r))) [] :=
 CallS_itoa (fun ok w n hl h0 h1 => (Go.Proofs.Tryz.strconv_Itoa n h0 h1 w (tab_of_lb hl)).mono (by
  rintro e w' ⟨he, k, os, hw⟩
  subst hw
  refine ⟨he, rfl, rfl, rfl, ?_, fun q hq => ?_⟩
  ·show w.heap.size ≤ (w.heap ++ os).size
   simp
  ·show (w.heap ++ os)[q]? = w.heap[q]?
   exact Array.getElem?_append_left hq)) h
theorem zKp : ∀ args w, (callFunc 194 args).run Tryz.prog w = .ok (.enter 194 args) w := zBJ Tryz.func194 (by kernel_rfl) (by kernel_rfl)
theorem zLR {xs : List ByteArray} {sep r : ByteArray} (h : zCn xs sep = some r) : zV Tryz.prog 194 [.c (.sl (xs.map cStr)), .c (.v (.string sep))] (.c (.v (.string r))) [] :=
 CallS_join (fun _ => rfl) (fun a c sep w => Go.Proofs.Tryz.strings_Join_none a c sep w) (fun bk o c xs sep w h1 h2 h3 h4 h5 => Go.Proofs.Tryz.strings_Join bk o c xs sep w h1 h2 h3 h4 h5) h
theorem max_of_lb {ok : Nat → Prop} {w : World} (h : Lb ok w) : ∃ m, w.cell? ⟨0, 0, none⟩ = some (.int .i64 m) := by
 obtain ⟨_, cs, T, fz, h2, m, h3⟩ := h (0, fun cs => ∃ m, cs[0]? = some (.int .i64 m)) (by simp [TB])
 exact ⟨m, zKI h2 h3⟩
theorem drewN_below (w : World) (n : Nat) : Below w.heap.size w (w.drewN n) := ⟨rfl, rfl, rfl, Nat.le_refl _, fun _ _ => rfl⟩
theorem err1_of_lb {ok : Nat → Prop} {w : World} (h : Lb ok w) : ∃ te pe, w.cell? ⟨1, 0, none⟩ = some (.iface te pe) := by
 obtain ⟨_, cs, T, fz, h2, te, pe, h3⟩ := h (1, fun cs => ∃ te pe, cs[0]? = some (.iface te pe)) (by simp [TB])
 exact ⟨te, pe, zKI h2 h3⟩
theorem err2_of_lb {ok : Nat → Prop} {w : World} (h : Lb ok w) : ∃ te pe, w.cell? ⟨2, 0, none⟩ = some (.iface te pe) := by
 obtain ⟨_, cs, T, fz, h2, te, pe, h3⟩ := h (2, fun cs => ∃ te pe, cs[0]? = some (.iface te pe)) (by simp [TB])
 exact ⟨te, pe, zKI h2 h3⟩
theorem zKS : ∀ args w, (callFunc 71 args).run Tryz.prog w = .ok (.enter 71 args) w := zBJ Tryz.func71 (by kernel_rfl) (by kernel_rfl)
theorem zKi {s sep : ByteArray} {r : List ByteArray} (h : zBS s sep = some r) : zV Tryz.prog 71 [.c (.v (.string s)), .c (.v (.string sep))] (.ow 0) [(0, .arr 9 1 (r.map cStr))] :=
 CallS_split (fun _ => rfl) (fun ok w s sep hl h1 h2 => by obtain ⟨m, hm⟩ := max_of_lb hl; exact Go.Proofs.Tryz.strings_Split s sep m w h1 hm h2) h
theorem zLu : ∀ args w, (callFunc 106 args).run Tryz.prog w = .ok (.enter 106 args) w := zBJ Tryz.func106 (by kernel_rfl) (by kernel_rfl)
theorem s_strings_Cut {s sep : ByteArray} {r : ByteArray × ByteArray × Bool} (h : zCD s sep = some r) : zV Tryz.prog 106 [.c (.v (.string s)), .c (.v (.string sep))] (.tc (.c (.v (.string r.1))) (.tc (.c (.v (.string r.2.1))) (.tc (Bo r.2.2) .tn))) [] :=
 CallS_cut (fun ok w s sep hl h1 => by
  obtain ⟨m, hm⟩ := max_of_lb hl
  refine (Go.Proofs.Tryz.strings_Cut s sep m w h1 hm).mono ?_
  rintro e w' ⟨he, n, rfl⟩
  exact ⟨he, drewN_below w n⟩) h
theorem zKq : ∀ args w, (callFunc 165 args).run Tryz.prog w = .ok (.enter 165 args) w := zBJ Tryz.func165 (by kernel_rfl) (by kernel_rfl)
theorem zLS {s : ByteArray} {r : Int × Bool} (h : zAp s = some r) : zV Tryz.prog 165 [.c (.v (.string s))] (.tc (I r.1) (.tc (.er r.2) .tn)) [] :=
 CallS_atoi (fun ok w s hl hs r hr => by
  obtain ⟨te1, pe1, h1⟩ := err1_of_lb hl
  obtain ⟨te2, pe2, h2⟩ := err2_of_lb hl
  unfold zAp at hr
  rw [if_pos hs] at hr
  cases ha : Go.Lib.atoiAll s.data.toList with
  | ok v =>
   rw [ha] at hr
   injection hr with hr
   subst hr
   refine (Go.Proofs.Tryz.strconv_Atoi_ok s (by omega) v ha w).mono ?_
   rintro e w' ⟨he, hw⟩
   refine ⟨⟨_, he, .inl ⟨rfl, rfl⟩⟩, ?_⟩
   rcases hw with rfl | ⟨t, rfl⟩
   ·exact Below.refl _ _
   ·exact Go.Lib.bytesWorld_below _ _ _
  | «syntax» =>
   rw [ha] at hr
   injection hr with hr
   subst hr
   refine (Go.Proofs.Tryz.strconv_Atoi_syntax s hs ha _ w h1 (.inr ⟨te1, pe1, rfl⟩)).mono ?_
   rintro e w' ⟨N, he, _, _, hb⟩
   exact ⟨⟨_, he, .inr ⟨rfl, _, _, rfl⟩⟩, hb⟩
  | range =>
   rw [ha] at hr
   injection hr with hr
   subst hr
   refine (Go.Proofs.Tryz.strconv_Atoi_range s hs ha _ w h2 (.inr ⟨te2, pe2, rfl⟩)).mono ?_
   rintro e w' ⟨N, he, _, _, hb⟩
   exact ⟨⟨_, he, .inr ⟨rfl, _, _, rfl⟩⟩, hb⟩) h
theorem zHL : ∀ args w, (callFunc 229 args).run Tryz.prog w = .ok (.enter 229 args) w := zBJ Tryz.func229 (by kernel_rfl) (by kernel_rfl)
theorem s_FieldsFunc {s : ByteArray} {r : List ByteArray} {p : Nat → Bool} {g : Nat} (eg : ∀ args w, (callFunc g args).run Tryz.prog w = .ok (.enter g args) w) (hp : ∀ w, Go.Proofs.PredAt Tryz.prog g #[] (fun x : Nat => Value.int .i32 (x : Int)) p w) (h : zAy p s = some r) : zV Tryz.prog 229 [.c (.v (.string s)), .c (.v (.func (.func g) #[] #[]))] (.ow 0) [(0, .arr 9 1 (r.map cStr))] := by
 unfold zAy at h
 split at h
 ·rename_i hn
  injection h with h
  subst h
  refine CallS_row (fun _ => rfl) fun ok σ w vs hok hlib hargs => ?_
  cases hargs with
  | cons h1 h2 =>
   cases h2 with
   | cons h3 h4 =>
    cases h4
    have := zD5 h1
    subst this
    have h5 : Rd ok w (.v (.func (.func g) #[] #[])) _ := h3
    cases h5
    refine (Go.Proofs.Tryz.strings_FieldsFunc g #[] eg p s w hn (hp w)).mono ?_
    rintro e w' ⟨B, he, h6, h7, h8⟩
    exact ⟨B, _, he, h6, h7, h8⟩
 ·cases h
section
variable (P : Program)
def ybin (op : BinOp) : AV → AV → Option AV
 | .c (.v (.int k a)), .c (.v (.int k2 b)) => match decEq k k2 with
  | isTrue _ => (match op with
   | .lss => some (Bo (ltI a b))
   | .leq => some (Bo (leI a b))
   | .gtr => some (Bo (ltI b a))
   | .geq => some (Bo (leI b a))
   | .eql => some (Bo (eqI a b))
   | .neq => some (Bo (!eqI a b))
   | _ => none)
  | isFalse _ => none
 | .c (.v (.string a)), .c (.v (.string b)) => match op with
  | .eql => some (Bo (a.toList == b.toList))
  | .neq => some (Bo (!(a.toList == b.toList)))
  | _ => none
 | _, _ => none
def yv (s : St) : Op → Option AV
 | .binOp op t x y _ => match ybin op (s.ev x) (s.ev y) with
  | some av => some av
  | none => (match s.ev x, s.ev y with
   | .c (.v (.bool a)), .c (.v (.bool b)) => (match P.underlying t with
    | some .bool => (match op with
     | .eql => some (Bo (a == b))
     | .neq => some (Bo (a != b))
     | _ => none)
    | _ => none)
   | _, _ => none)
 | .pick c x y => match s.ev c with
  | .c (.v (.bool b)) => nbA (bif b then s.ev x else s.ev y)
  | _ => none
 | .call c => match c with
  | ⟨.builtin .len, ⟨[x]⟩, ⟨[t]⟩⟩ => match P.underlying t, s.ev x with
   | some .string, .c (.v (.string b)) => some (I (b.size : Int))
   | _, _ => none
  | _ => none
 | _ => none
def yo (o : Oper) (s : St) : Option St := match xo P o s with
 | some s' => some s'
 | none => match o.dst with
  | some d => (match yv P s o.op with
   | some av => some (s.put d av)
   | none => none)
  | none => none
def gdt (ops : Array Oper) (j : Nat) : Option Nat := (ops[j]?).bind (·.dst)
def yg (ops : Array Oper) (o : Oper) (s : St) : Option Bool := match o.guard with
 | none => some true
 | some (j, b) => match gdt ops j with
  | some t => match s.get t with
   | .c (.v (.bool c)) => some (bif c then b else !b)
   | .tn => some false
   | _ => none
  | none => none
def yr (ops : Array Oper) : List Oper → St → Option St
 | [], s => some s
 | o :: os, s => match yg ops o s with
  | some true => (match yo P o s with
   | some s' => yr ops os s'
   | none => none)
  | some false => (match o.dst with
   | some d => yr ops os (s.put d .tn)
   | none => none)
  | none => none
def yD (ops : Array Oper) (l : List Oper) (s : St) : St := (yr P ops l s).getD s
def yc (ops : Array Oper) (f : FuncId) (l : List Oper) (s : St) : Option (List AV) := match l with
 | o :: _ => match yg ops o s, o.dst with
  | some true, some _ => (match o.op with
   | .call ⟨.value (.func g), xs, _⟩ => bif Nat.beq g f then some (evL s xs.toList) else none
   | _ => none)
  | _, _ => none
 | [] => none
def ycn (ops : Array Oper) (f : FuncId) (n : Nat) (l : List Oper) (s : St) : Option (List AV) := match yr P ops (l.take n) s with
 | some s' => yc ops f (l.drop n) s'
 | none => none
end
def dstH : List Oper → Nat
 | o :: _ => o.dst.getD 0
 | [] => 0
section
variable {P : Program}
theorem ybin_ok {o : Oper} {s : St} {op : BinOp} {t t2 : TypeId} {x y : Operand} {av : AV} (ho : o.op = .binOp op t x y t2) (h : ybin op (s.ev x) (s.ev y) = some av) : Y0 P o s av := by
 generalize hx : s.ev x = a at h
 generalize hy : s.ev y = b at h
 unfold ybin at h
 split at h
 ·split at h
  ·rename_i hk _
   subst hk
   cases op <;> simp only [Option.some.injEq, reduceCtorEq] at h <;> subst h <;>
    first | exact zMM ho hx hy | exact Y0_new ho hx hy | exact Y0_ltw ho hx hy | exact Y0_lew ho hx hy | exact Y0_gtw ho hx hy | exact Y0_gew ho hx hy
  ·cases h
 ·cases op <;> simp only [Option.some.injEq, reduceCtorEq] at h <;> subst h <;>
   first | exact Y0_eqs ho hx hy | exact Y0_nes ho hx hy
 ·cases h
theorem yv_ok {o : Oper} {s : St} {av : AV} (h : yv P s o.op = some av) : Y0 P o s av := by
 unfold yv at h
 split at h
 ·rename_i ho
  split at h
  ·rename_i hb; cases h; exact ybin_ok ho hb
  ·split at h
   ·rename_i hx hy
    split at h
    ·rename_i hu
     split at h
     ·cases h; exact Y0_eqb hu ho hx hy
     ·cases h; exact Y0_neb hu ho hx hy
     ·cases h
    ·cases h
   ·cases h
 ·rename_i ho
  split at h
  ·rename_i b hc
   obtain ⟨h1, h2⟩ := nbA_ok h
   rw [← h1]
   exact Y0_pick ho hc
  ·cases h
 ·rename_i ho
  split at h
  ·rename_i x t
   split at h
   ·rename_i b hu hx
    cases h
    exact Y0_lens hu ho hx
   ·cases h
  ·cases h
 ·cases h
theorem yo_ok {o : Oper} {s s' : St} (h : yo P o s = some s') : X P o s s' := by
 unfold yo at h
 split at h
 ·rename_i h1; cases h; exact xo_ok h1
 ·split at h
  ·rename_i d hd
   split at h
   ·rename_i hv; cases h; exact qB hd (yv_ok hv)
   ·cases h
  ·cases h
theorem yg_take {ops : Array Oper} {o : Oper} {rest : List Oper} {s s' : St} {J : St → Prop} (hg : yg ops o s = some true) (h : X P o s s') (hk : XL P ops rest s' J) : XL P ops (o :: rest) s J := by
 unfold yg at hg
 split at hg
 ·rename_i h1; exact zL h1 h hk
 ·rename_i j b h1
  split at hg
  ·rename_i t ht
   split at hg
   ·rename_i c hc
    have e : c = b := by cases c <;> cases b <;> simp_all
    subst e
    exact XL_take h1 ht hc h hk
   ·cases hg
   ·cases hg
  ·cases hg
theorem YT {ops : Array Oper} {o : Oper} {rest : List Oper} {s s' : St} {J : St → Prop} (h : X P o s s') (hk : XL P ops rest s' J) (hg : yg ops o s = some true := by kernel_rfl) : XL P ops (o :: rest) s J := yg_take hg h hk
theorem yg_skip {ops : Array Oper} {o : Oper} {rest : List Oper} {s : St} {d : Nat} {J : St → Prop} (hg : yg ops o s = some false) (hd : o.dst = some d) (hk : XL P ops rest (s.put d .tn) J) : XL P ops (o :: rest) s J := by
 unfold yg at hg
 split at hg
 ·cases hg
 ·rename_i j b h1
  split at hg
  ·rename_i t ht
   split at hg
   ·rename_i c hc
    exact XL_skip h1 ht hc (by cases c <;> cases b <;> simp_all) hd hk
   ·rename_i hc
    exact XL_skip2 h1 ht hc hd hk
   ·cases hg
  ·cases hg
theorem yr_ok {ops : Array Oper} {J : St → Prop} (rest : List Oper) : ∀ (l : List Oper) (s s' : St), yr P ops l s = some s' → XL P ops rest s' J → XL P ops (l ++ rest) s J
 | [], s, s', h, hk => by cases h; exact hk
 | o :: os, s, s', h, hk => by
  unfold yr at h
  split at h
  ·rename_i hg
   split at h
   ·rename_i s1 h1
    exact yg_take hg (yo_ok h1) (yr_ok rest os s1 s' h hk)
   ·cases h
  ·rename_i hg
   split at h
   ·rename_i d hd
    exact yg_skip hg hd (yr_ok rest os _ s' h hk)
   ·cases h
  ·cases h
theorem YR (n : Nat) {ops : Array Oper} {rest : List Oper} {s : St} {J : St → Prop} (hk : XL P ops (rest.drop n) (yD P ops (rest.take n) s) J) (h : (yr P ops (rest.take n) s).isSome = true := by kernel_rfl) : XL P ops rest s J := by
 cases hx : yr P ops (rest.take n) s with
 | none => rw [hx] at h; cases h
 | some s' =>
  have e : yD P ops (rest.take n) s = s' := by unfold yD; rw [hx]; rfl
  rw [e] at hk
  have := yr_ok (ops := ops) (J := J) (rest.drop n) (rest.take n) s s' hx hk
  rwa [List.take_append_drop] at this
theorem YF {ops : Array Oper} {rest : List Oper} {s : St} {K : St → Prop} (hk : K (yD P ops rest s)) (h : (yr P ops rest s).isSome = true := by kernel_rfl) : XL P ops rest s K := by
 cases hx : yr P ops rest s with
 | none => rw [hx] at h; cases h
 | some s' =>
  have e : yD P ops rest s = s' := by unfold yD; rw [hx]; rfl
  rw [e] at hk
  have := yr_ok (ops := ops) (J := K) [] rest s s' hx (zM hk)
  rwa [List.append_nil] at this
theorem YE {ops : Array Oper} {rest : List Oper} {s s1 : St} {m : List Bool} {ids : List Nat} (h : (yr P ops rest s).map (fun s' => s'.keep m ids) = some s1 := by kernel_rfl) : XL P ops rest s (fun s' => s'.keep m ids = s1) := by
 cases hx : yr P ops rest s with
 | none => rw [hx] at h; cases h
 | some s' =>
  rw [hx] at h
  have h2 : s'.keep m ids = s1 := by injection h
  have := yr_ok (ops := ops) (J := fun s' => s'.keep m ids = s1) [] rest s s' hx (zM h2)
  rwa [List.append_nil] at this
theorem YK (n : Nat) {ops : Array Oper} {rest : List Oper} {s : St} {J : St → Prop} {f : FuncId} {args : List AV} {av : AV} {ne : List (Nat × Ent)} (hS : zV P f args av ne) (hc : ∀ args w, (callFunc f args).run P w = .ok (.enter f args) w)
  (hk : XL P ops (rest.drop (n + 1)) ((yD P ops (rest.take n) s).upd (dstH (rest.drop n)) av ne) J) (h : ycn P ops f n rest s = some args := by kernel_rfl) : XL P ops rest s J := by
 unfold ycn at h
 split at h
 ·rename_i s' hx
  have e : yD P ops (rest.take n) s = s' := by unfold yD; rw [hx]; rfl
  rw [e] at hk
  unfold yc at h
  split at h
  ·rename_i o os hl
   split at h
   ·rename_i d hg hd
    split at h
    ·rename_i g xs ts ho
     cases hb : Nat.beq g f with
     | false => rw [hb, cond_false] at h; cases h
     | true =>
      rw [hb, cond_true] at h
      have hgf := Nat.eq_of_beq_eq_true hb
      subst hgf
      have e3 : rest.drop (n + 1) = os := by rw [← List.drop_drop, hl]; rfl
      rw [hl, e3, dstH, hd] at hk
      have := yr_ok (ops := ops) (J := J) (rest.drop n) (rest.take n) s s' hx (by rw [hl]; exact yg_take hg (zBo hd (zIU hS hc ho (by injection h))) hk)
      rwa [List.take_append_drop] at this
    ·cases h
   ·cases h
  ·cases h
 ·cases h
def gtH (ops : Array Oper) : List Oper → Nat
 | o :: _ => match o.guard with
  | some (j, _) => (gdt ops j).getD 0
  | none => match o.op with
   | .pick (.tmp t) _ _ => t
   | _ => 0
 | [] => 0
theorem put_get (s : St) (t : Nat) : s.put t (s.get t) = s := by
 cases s with
 | mk T E =>
  simp only [St.put, St.get]
  congr 1
  apply List.ext_getElem?
  intro i
  rw [List.getElem?_set]
  by_cases h : t = i
  ·subst h
   by_cases h2 : t < T.length
   ·simp [h2]
   ·simp [h2]
  ·simp [h]
theorem YQ {c v : Bool} (hc : c = v) {ops : Array Oper} {rest : List Oper} {s : St} {J : St → Prop} (hk : XL P ops rest (s.put (gtH ops rest) (Bo v)) J) (h : s.get (gtH ops rest) = Bo c := by kernel_rfl) : XL P ops rest s J := by
 subst hc
 rw [← h, put_get] at hk
 exact hk
abbrev CfW (P : Program) (f : FuncId) : Prop := ∀ args w, (callFunc f args).run P w = .ok (.enter f args) w
theorem cfW {f : FuncId} {fn : Func} (hf : P.funcs[f]? = some fn) (hn : (fn.name == "runtime.NumGoroutine") = false := by kernel_rfl) (hb : fn.body.isNone = false := by kernel_rfl) : CfW P f := zBJ hf hn hb
theorem fitsT : ∀ ks : List Nat, FitsL P (ks.map RS.t) (ks.map ResultVar.tmp)
 | [] => FitsL.nil
 | k :: ks => .cons rfl (fitsT ks)
theorem CtW (ks : List Nat) {f : FuncId} {fn : Func} {c : Code} {args : List AV} {av : AV} {ne : List (Nat × Ent)} (hf : P.funcs[f]? = some fn) (hb : fn.body = some c) (hvs : fn.results = (ks.map ResultVar.tmp).toArray) (n : Nat)
  (h : V P c ⟨args ++ List.replicate (n - args.length) .bot, []⟩ (Post (ks.map RS.t) av ne)) (hn : fn.ntmps = n := by kernel_rfl) (hl : Nat.ble (ks.map RS.t).length 8 = true := by kernel_rfl) : zV P f args av ne := zZ hf hb hvs (fitsT ks) (Nat.le_of_ble_eq_true hl) n hn h
theorem VS {id : Nat} {ops : Array Oper} {y : Code} {s : St} {J : Exit → St → Prop} (h : XL P ops ops.toList s (fun s' => V P y s' J)) : V P (.seq (.region id ops false) y) s J := zK (zY h)
theorem VE {id : Nat} {ops : Array Oper} {y : Code} {s : St} {J : Exit → St → Prop} (hv : V P y (yD P ops ops.toList s) J) (h : (yr P ops ops.toList s).isSome = true := by kernel_rfl) : V P (.seq (.region id ops false) y) s J := VS (YF hv h)
theorem VC {c : Operand} {x y : Code} {s : St} {J : Exit → St → Prop} {b : Bool} {α : Type} {A B : Option α} {r : α} (h : (bif b then A else B) = some r) (ht : A = some r → V P x s J) (hf : B = some r → V P y s J) (hc : s.ev c = .c (.v (.bool b)) := by kernel_rfl) : V P (.cond c x y) s J :=
 V_cond hc (fun e => ht (qH h e)) (fun e => hf (z7 h e))
theorem VT {rs : List RS} {av : AV} {ne : List (Nat × Ent)} {s : St} (h1 : zD1 (zGR s rs) = true := by kernel_rfl) (h2 : okSL s rs = true := by kernel_rfl) (h3 : outAllS s rs = (av, ne) := by kernel_rfl) : Post rs av ne .ret s := ⟨.inr rfl, h1, h2, h3⟩
theorem VTR {rs : List RS} {av : AV} {ne : List (Nat × Ent)} {s : St} {id : Nat} {e : Ent} (h1 : zD1 (zGR s rs) = true := by kernel_rfl) (h2 : okSL s rs = true := by kernel_rfl) (h3 : outAllS s rs = (av, ne) := by kernel_rfl) (h4 : s.ent id = some e := by kernel_rfl) : PostR rs av ne [(id, e)] .ret s := ⟨⟨.inr rfl, h1, h2, h3⟩, ⟨h4, trivial⟩⟩
theorem VDS {id : Nat} {l : List Oper} {y : Code} {s : St} {J : Exit → St → Prop} (ms : List Nat) (n1 : Nat) (css : List (List Cd))
  (h : DL P l ms n1 css (prep (l.take n1) s) [] (fun s' => XL P l.toArray (l.drop n1) s' (fun s'' => V P y s'' J))) (hm : P.follows .mixedOrders = true := by kernel_rfl) (hchk : zGD l ms n1 css = true := by kernel_rfl) : V P (.seq (.region id l.toArray true) y) s J := zK (V_draw ms n1 css hm hchk h)
theorem VDR {id : Nat} {l : List Oper} {s : St} {J : Exit → St → Prop} (ms : List Nat) (n1 : Nat) (css : List (List Cd))
  (h : DL P l ms n1 css (prep (l.take n1) s) [] (fun s' => XL P l.toArray (l.drop n1) s' (J .normal))) (hm : P.follows .mixedOrders = true := by kernel_rfl) (hchk : zGD l ms n1 css = true := by kernel_rfl) : V P (.region id l.toArray true) s J := V_draw ms n1 css hm hchk h
def zv (P : Program) (s : St) (op : Op) : Option AV := match xv P s op with
 | some av => some av
 | none => yv P s op
theorem zv_ok {o : Oper} {s : St} {av : AV} (h : zv P s o.op = some av) : Y0 P o s av := by
 unfold zv at h
 split at h
 ·rename_i hx; cases h; exact xv_ok hx
 ·exact yv_ok h
theorem zIQ {l : List Oper} {o : Oper} {S : St} (h : yg l.toArray o S = some true) : gsat l.toArray o S := by
 unfold yg at h
 split at h
 ·rename_i h1; exact qS h1
 ·rename_i j b h1
  split at h
  ·rename_i t ht
   split at h
   ·rename_i c hc
    have e : c = b := by cases c <;> cases b <;> simp_all
    subst e
    exact gsat_some h1 ht hc
   ·cases h
   ·cases h
  ·cases h
theorem gun_yg {l : List Oper} {o : Oper} {S : St} (h : yg l.toArray o S = some false) : gun l.toArray o S := by
 unfold yg at h
 split at h
 ·cases h
 ·rename_i j b h1
  split at h
  ·rename_i t ht
   split at h
   ·rename_i c hc
    exact gun_some h1 ht hc (by cases c <;> cases b <;> simp_all)
   ·rename_i hc
    exact gun_tn h1 ht hc
   ·cases h
  ·cases h
section
variable (P)
def er1 (l : List Oper) (ms : List Nat) (n1 : Nat) (css : List (List Cd)) (s0 : St) (rs : List Res) : Option (List Res) := match l[rs.length]?, css[rs.length]? with
 | some o, some c => bif Nat.blt rs.length n1 then (match yg l.toArray o (appC c (l.take n1) rs s0), o.dst with
  | some true, some _ => (match zv P (appC c (l.take n1) rs s0) o.op with
   | some av => bif zFd ms rs.length av 0 (l.take n1) then some (rs ++ [.r0 av]) else none
   | none => match xn P (appC c (l.take n1) rs s0) o.op with
    | some r => bif zFV r.2 && (makes o && r.1.small) then some (rs ++ [.r1 r.1 r.2]) else none
    | none => none)
  | some false, some _ => some (rs ++ [.r0 .tn])
  | some true, none => dr2 P l ms n1 css rs (appC c (l.take n1) rs s0) o.op
  | _, _ => none) else none
 | _, _ => none
def erN (l : List Oper) (ms : List Nat) (n1 : Nat) (css : List (List Cd)) (s0 : St) : Nat → List Res → Option (List Res)
 | 0, rs => some rs
 | k + 1, rs => match er1 P l ms n1 css s0 rs with
  | some rs' => erN l ms n1 css s0 k rs'
  | none => none
def ego (l : List Oper) (ms : List Nat) (n1 : Nat) (css : List (List Cd)) (s0 : St) (k : Nat) (rs : List Res) : List Res := (erN P l ms n1 css s0 k rs).getD rs
def efi (l : List Oper) (ms : List Nat) (n1 : Nat) (css : List (List Cd)) (s0 : St) (k : Nat) (rs : List Res) : St := fin (l.take n1) (ego P l ms n1 css s0 k rs) s0
def dfi (l : List Oper) (ms : List Nat) (n1 : Nat) (css : List (List Cd)) (s0 : St) (k : Nat) (rs : List Res) : St := yD P l.toArray (l.drop n1) (efi P l ms n1 css s0 k rs)
def dfo (l : List Oper) (ms : List Nat) (n1 : Nat) (css : List (List Cd)) (s0 : St) (k : Nat) (rs : List Res) : Bool := (yr P l.toArray (l.drop n1) (efi P l ms n1 css s0 k rs)).isSome
def dka (l : List Oper) (n1 : Nat) (css : List (List Cd)) (s0 : St) (f : FuncId) (rs : List Res) : Option (List AV) := match l[rs.length]?, css[rs.length]? with
 | some o, some c => match yg l.toArray o (appC c (l.take n1) rs s0), o.dst with
  | some true, some _ => (match o.op with
   | .call ⟨.value (.func g), xs, _⟩ => bif Nat.beq g f && (Nat.blt rs.length n1 && makes o) then some (evL (appC c (l.take n1) rs s0) xs.toList) else none
   | _ => none)
  | _, _ => none
 | _, _ => none
end
theorem er1_ok {l : List Oper} {ms : List Nat} {n1 : Nat} {css : List (List Cd)} {s0 : St} {rs rs' : List Res} {K : St → Prop} (h : er1 P l ms n1 css s0 rs = some rs') (hk : DL P l ms n1 css s0 rs' K) : DL P l ms n1 css s0 rs K := by
 unfold er1 at h
 split at h
 ·rename_i o c ho hc
  cases hb : Nat.blt rs.length n1 with
  | false => rw [hb, cond_false] at h; cases h
  | true =>
   rw [hb, cond_true] at h
   split at h
   ·rename_i d hg hd
    split at h
    ·rename_i av hv
     cases hm : zFd ms rs.length av 0 (l.take n1) with
     | false => rw [hm, cond_false] at h; cases h
     | true =>
      rw [hm, cond_true] at h
      cases h
      exact DE_0 rs.length av rfl hb ho hc (zIQ hg) hm (zv_ok hv) d hd hk
    ·split at h
     ·rename_i r hr
      cases hm : zFV r.2 && (makes o && r.1.small) with
      | false => rw [hm, cond_false] at h; cases h
      | true =>
       rw [hm, cond_true] at h
       cases h
       rw [Bool.and_eq_true, Bool.and_eq_true] at hm
       exact DE_1 rs.length rfl hb ho hc (zIQ hg) (xn_ok hr) hm.1 hm.2.1 hm.2.2 d hd hk
     ·cases h
   ·rename_i d hg hd
    cases h
    exact DL_t (Nat.le_of_ble_eq_true hb) ho hc (gun_yg hg) ⟨d, hd⟩ hk
   ·rename_i hg hd
    unfold dr2 at h
    split at h
    ·rename_i t x y hop
     split at h
     ·rename_i id off vc hx hy
      split at h
      ·rename_i cs he
       cases hm : (zI4 P t == some vc.length) && Nat.ble (off + vc.length) cs.length && (zJf rs.length id css && (mkOk ms rs.length id 0 (l.take n1) && zGC id rs)) with
       | false => rw [hm, cond_false] at h; cases h
       | true =>
        rw [hm, cond_true] at h
        cases h
        rw [Bool.and_eq_true, Bool.and_eq_true, Bool.and_eq_true, Bool.and_eq_true, beq_iff_eq] at hm
        exact DE_2 rs.length id _ rfl hb ho hc (zIQ hg) hop hd hx he hy hm.1.1 (Nat.le_of_ble_eq_true hm.1.2) rfl hm.2.1 hm.2.2.1 hm.2.2.2 hk
      ·cases h
     ·cases h
    ·cases h
   ·cases h
 ·cases h
theorem erN_ok {l : List Oper} {ms : List Nat} {n1 : Nat} {css : List (List Cd)} {s0 : St} {K : St → Prop} : ∀ (k : Nat) (rs rs' : List Res), erN P l ms n1 css s0 k rs = some rs' → DL P l ms n1 css s0 rs' K → DL P l ms n1 css s0 rs K
 | 0, rs, rs', h, hk => by cases h; exact hk
 | k + 1, rs, rs', h, hk => by
  unfold erN at h
  split at h
  ·rename_i r1 h1
   exact er1_ok h1 (erN_ok k r1 rs' h hk)
  ·cases h
theorem ER (k : Nat) {l : List Oper} {ms : List Nat} {n1 : Nat} {css : List (List Cd)} {s0 : St} {rs : List Res} {K : St → Prop} (hk : DL P l ms n1 css s0 (ego P l ms n1 css s0 k rs) K) (h : (erN P l ms n1 css s0 k rs).isSome = true := by kernel_rfl) : DL P l ms n1 css s0 rs K := by
 cases hx : erN P l ms n1 css s0 k rs with
 | none => rw [hx] at h; cases h
 | some r => rw [ego, hx] at hk; exact erN_ok k rs r hx hk
theorem EA (k : Nat) {l : List Oper} {ms : List Nat} {n1 : Nat} {css : List (List Cd)} {s0 : St} {rs : List Res} {K : St → Prop} (hk : K (efi P l ms n1 css s0 k rs)) (h : (erN P l ms n1 css s0 k rs).map List.length = some n1 := by kernel_rfl) : DL P l ms n1 css s0 rs K := by
 cases hx : erN P l ms n1 css s0 k rs with
 | none => rw [hx] at h; cases h
 | some r =>
  rw [efi, ego, hx] at hk
  rw [hx] at h
  exact erN_ok k rs r hx (DL_nil (by injection h) hk)
theorem dka_ok {l : List Oper} {ms : List Nat} {n1 : Nat} {css : List (List Cd)} {s0 : St} {rs : List Res} {K : St → Prop} {f : FuncId} {args : List AV} {av : AV} {ne : List (Nat × Ent)} (hS : zV P f args av ne) (hcf : ∀ args w, (callFunc f args).run P w = .ok (.enter f args) w)
  (h : DL P l ms n1 css s0 (rs ++ [.r1 av ne]) K) (ha : dka l n1 css s0 f rs = some args) (h1 : zFV ne = true) (h3 : av.small = true) : DL P l ms n1 css s0 rs K := by
 unfold dka at ha
 split at ha
 ·rename_i o c ho hc
  split at ha
  ·rename_i d hg hd
   split at ha
   ·rename_i g xs ts hop
    cases hb : Nat.beq g f && (Nat.blt rs.length n1 && makes o) with
    | false => rw [hb, cond_false] at ha; cases ha
    | true =>
     rw [hb, cond_true] at ha
     rw [Bool.and_eq_true, Bool.and_eq_true] at hb
     have hgf := Nat.eq_of_beq_eq_true hb.1
     subst hgf
     exact DE_1 rs.length rfl hb.2.1 ho hc (zIQ hg) (zIU hS hcf hop (by injection ha)) h1 hb.2.2 h3 d hd h
   ·cases ha
  ·cases ha
 ·cases ha
theorem EK (k : Nat) {l : List Oper} {ms : List Nat} {n1 : Nat} {css : List (List Cd)} {s0 : St} {rs : List Res} {K : St → Prop} {f : FuncId} {args : List AV} {av : AV} {ne : List (Nat × Ent)} (hS : zV P f args av ne) (hcf : ∀ args w, (callFunc f args).run P w = .ok (.enter f args) w)
  (h : DL P l ms n1 css s0 (ego P l ms n1 css s0 k rs ++ [.r1 av ne]) K) (hs : (erN P l ms n1 css s0 k rs).bind (dka l n1 css s0 f) = some args := by kernel_rfl) (h1 : zFV ne = true := by kernel_rfl) (h3 : av.small = true := by kernel_rfl) : DL P l ms n1 css s0 rs K := by
 cases hx : erN P l ms n1 css s0 k rs with
 | none => rw [hx] at hs; cases hs
 | some r =>
  rw [ego, hx] at h
  rw [hx] at hs
  exact erN_ok k rs r hx (dka_ok hS hcf h hs h1 h3)
theorem EF (k : Nat) {l : List Oper} {ms : List Nat} {n1 : Nat} {css : List (List Cd)} {s0 : St} {rs : List Res} {K : St → Prop} (hk : K (dfi P l ms n1 css s0 k rs)) (h : (erN P l ms n1 css s0 k rs).map List.length = some n1 := by kernel_rfl)
  (h2 : dfo P l ms n1 css s0 k rs = true := by kernel_rfl) : DL P l ms n1 css s0 rs (fun s' => XL P l.toArray (l.drop n1) s' K) := EA k (YF hk h2) h
theorem E0 (j : Nat) {l : List Oper} {ms : List Nat} {n1 : Nat} {css : List (List Cd)} {s0 : St} {rs : List Res} {K : St → Prop} {o : Oper} {c : List Cd} {av : AV} (ho : l[j]? = some o) (hc : css[j]? = some c) (hY : Y0 P o (appC c (l.take n1) rs s0) av) (h : DL P l ms n1 css s0 (rs ++ [.r0 av]) K)
  (hj : rs.length = j := by kernel_rfl) (hlt : Nat.blt j n1 = true := by kernel_rfl) (hg : yg l.toArray o (appC c (l.take n1) rs s0) = some true := by kernel_rfl) (hm : zFd ms j av 0 (l.take n1) = true := by kernel_rfl) (hd : o.dst.isSome = true := by kernel_rfl) : DL P l ms n1 css s0 rs K := by
 obtain ⟨d, hd⟩ := Option.isSome_iff_exists.mp hd
 exact DE_0 j av hj hlt ho hc (zIQ hg) hm hY d hd h
theorem E1 (j : Nat) {l : List Oper} {ms : List Nat} {n1 : Nat} {css : List (List Cd)} {s0 : St} {rs : List Res} {K : St → Prop} {o : Oper} {c : List Cd} {av : AV} {ne : List (Nat × Ent)} (ho : l[j]? = some o) (hc : css[j]? = some c) (hY : Y1 P o (appC c (l.take n1) rs s0) av ne) (h : DL P l ms n1 css s0 (rs ++ [.r1 av ne]) K)
  (hj : rs.length = j := by kernel_rfl) (hlt : Nat.blt j n1 = true := by kernel_rfl) (hg : yg l.toArray o (appC c (l.take n1) rs s0) = some true := by kernel_rfl) (h1 : zFV ne = true := by kernel_rfl) (h2 : makes o = true := by kernel_rfl) (h3 : av.small = true := by kernel_rfl) (hd : o.dst.isSome = true := by kernel_rfl) : DL P l ms n1 css s0 rs K := by
 obtain ⟨d, hd⟩ := Option.isSome_iff_exists.mp hd
 exact DE_1 j hj hlt ho hc (zIQ hg) hY h1 h2 h3 d hd h
def idT (t : Nat) : List Oper → Nat → Nat
 | [], _ => 0
 | o :: os, k => match o.dst with
  | some d => bif Nat.beq d t then k else idT t os (k + 1)
  | none => idT t os (k + 1)
def gtD (l : List Oper) (rs : List Res) : Nat := match l[rs.length]? with
 | some o => (match o.guard with
  | some (j, _) => j
  | none => match o.op with
   | .pick (.tmp t) _ _ => idT t l 0
   | _ => 0)
 | none => 0
theorem EQ {c v : Bool} (hc : c = v) {l : List Oper} {ms : List Nat} {n1 : Nat} {css : List (List Cd)} {s0 : St} {rs : List Res} {K : St → Prop} (hk : DL P l ms n1 css s0 (rs.set (gtD l rs) (.r0 (Bo v))) K) (h : rs[gtD l rs]? = some (.r0 (Bo c)) := by kernel_rfl) : DL P l ms n1 css s0 rs K := by
 subst hc
 have e : rs.set (gtD l rs) (.r0 (Bo c)) = rs := by
  apply List.ext_getElem?
  intro i
  rw [List.getElem?_set]
  by_cases hi : gtD l rs = i
  ·subst hi
   have hlt : gtD l rs < rs.length := by
    by_cases h2 : gtD l rs < rs.length
    ·exact h2
    ·rw [List.getElem?_eq_none (by omega)] at h; cases h
   rw [if_pos rfl, if_pos hlt, h]
  ·rw [if_neg hi]
 rwa [e] at hk
end
theorem ba_beq (a b : ByteArray) : (a == b) = decide (a = b) := by
 have h : (a == b) = (a.data == b.data) := rfl
 rw [h, Bool.eq_iff_iff, beq_iff_eq, decide_eq_true_iff]
 constructor
 ·intro h
  cases a
  cases b
  exact congrArg _ h
 ·intro h
  rw [h]
section
variable {κ ν : Type} [DecidableEq κ]
theorem zLi {a : κ} : ∀ {m : List (κ × ν)}, ixM a (m.map Prod.fst) = none → mGet a m = none ∧ ∀ v, mPut a v m = m ++ [(a, v)]
 | [], _ => ⟨rfl, fun _ => rfl⟩
 | p :: ps, h => by
  simp only [List.map_cons, ixM] at h
  by_cases e : a = p.1
  ·rw [if_pos e] at h; cases h
  ·rw [if_neg e] at h
   have h2 : ixM a (ps.map Prod.fst) = none := by simpa using h
   obtain ⟨k1, k2⟩ := zLi h2
   exact ⟨by unfold mGet; rw [if_neg e, k1], fun v => by unfold mPut; rw [if_neg e, k2]; rfl⟩
theorem zLh {a : κ} : ∀ {m : List (κ × ν)} {j : Nat}, ixM a (m.map Prod.fst) = some j → ∃ v0, m[j]? = some (a, v0) ∧ mGet a m = some v0 ∧ ∀ v, mPut a v m = m.set j (a, v)
 | [], j, h => by cases h
 | p :: ps, j, h => by
  simp only [List.map_cons, ixM] at h
  by_cases e : a = p.1
  ·rw [if_pos e] at h
   injection h with h
   subst h
   refine ⟨p.2, by rw [e]; rfl, by unfold mGet; rw [if_pos e], fun v => by unfold mPut; rw [if_pos e]; rfl⟩
  ·rw [if_neg e] at h
   cases h2 : ixM a (ps.map Prod.fst) with
   | none => rw [h2] at h; cases h
   | some i =>
    rw [h2] at h
    injection h with h
    subst h
    obtain ⟨v0, k1, k2, k3⟩ := zLh h2
    exact ⟨v0, by simpa using k1, by unfold mGet; rw [if_neg e, k2], fun v => by unfold mPut; rw [if_neg e, k3]; rfl⟩
end
section
variable {P : Program}
structure KeyT (P : Program) {κ : Type} [DecidableEq κ] (kt : TypeId) (ek : κ → Value) : Prop where
  chk : ∀ b a w, (Instr.checkKey b 10000 kt (ek a)).run P w = .ok () w
  find : ∀ a (es : List MapEntry) (ks : List κ) w, es.map (·.key) = ks.map ek → (Instr.findKey kt (ek a) es).run P w = .ok ((ixM a ks).bind fun j => (es[j]?).map fun e => (j, e.val)) w
  bits : ∀ a, Instr.sameBits 10000 (ek a) (ek a) = true
theorem zKa {κ : Type} [DecidableEq κ] {d : TypeDesc} {ek : κ → Value} (hs : ∀ a b, Instr.sameNow d (ek a) (ek b) = some (decide (a = b))) (a : κ) : ∀ (es : List MapEntry) (ks : List κ) (i : Nat), es.map (·.key) = ks.map ek →
  Instr.findNow d (ek a) es i = some ((ixM a ks).bind fun j => (es[j]?).map fun e => (i + j, e.val))
 | [], [], i, _ => rfl
 | [], k :: ks, i, h => by simp at h
 | e :: es, [], i, h => by simp at h
 | e :: es, k :: ks, i, h => by
  simp only [List.map_cons, List.cons.injEq] at h
  have ih := zKa hs a es ks (i + 1) h.2
  unfold Instr.findNow
  rw [h.1, hs]
  by_cases e1 : a = k
  ·simp [e1, ixM]
  ·simp only [decide_eq_false e1, ih, ixM, if_neg e1]
   cases ixM a ks with
   | none => rfl
   | some j =>
    simp only [Option.bind_some, Option.map_some, List.getElem?_cons_succ]
    rw [show i + 1 + j = i + (j + 1) by omega]
theorem keyT_now {κ : Type} [DecidableEq κ] {kt : TypeId} {ek : κ → Value} (d : TypeDesc) (hd : P.underlying kt = some d) (chk : ∀ b a w, (Instr.checkKey b 10000 kt (ek a)).run P w = .ok () w) (hs : ∀ a b, Instr.sameNow d (ek a) (ek b) = some (decide (a = b)))
  (bits : ∀ a, Instr.sameBits 10000 (ek a) (ek a) = true) : KeyT P kt ek := by
 refine ⟨chk, fun a es ks w h => ?_, bits⟩
 unfold Instr.findKey
 simp only [Sem.run_bind, run_underlying hd, Result.andThen_ok]
 have := zKa hs a es ks 0 h
 simp only [Nat.zero_add] at this
 rw [this]
 rfl
theorem run_zero {t : TypeId} {z : Value} (h : (P.info? t).bind (·.zero) = some z) (w : World) : (zeroValue t).run P w = .ok z w := by
 cases hi : P.info? t with
 | none => rw [hi] at h; cases h
 | some i =>
  rw [hi] at h
  have h2 : i.zero = some z := h
  simp [zeroValue, typeInfo, hi, h2]
theorem run_lookupM {κ ν : Type} [DecidableEq κ] {ek : κ → Value} {ev : ν → Value} {t kt vt : TypeId} {z : ν} (ht : P.underlying t = some (.map kt vt)) (hk : KeyT P kt ek) (hz : (P.info? vt).bind (·.zero) = some (ev z)) {w : World} {b : Nat} {es : Array MapEntry} {clock : Nat} (hb : w.heap[b]? = some (.map es clock))
  {m : List (κ × ν)} (hm : es.toList.map kvOf = m.map fun p => (ek p.1, ev p.2)) (a : κ) (co : Bool) :
  (Instr.lookup t (.map (some b)) (ek a) co).run P w = .ok (if co then .tuple #[ev (mAt a m z), .bool (mHas a m)] else ev (mAt a m z)) w := by
 have hkeys : es.toList.map (·.key) = (m.map Prod.fst).map ek := by
  have := congrArg (List.map Prod.fst) hm
  simpa [kvOf, Function.comp_def] using this
 have hf := hk.find a es.toList (m.map Prod.fst) w hkeys
 unfold Instr.lookup
 simp only [Sem.run_bind, run_underlying ht, Result.andThen_ok, MapKept.run_getObj_map hb, Sem.run_pure, hk.chk, hf]
 cases hi : ixM a (m.map Prod.fst) with
 | none =>
  obtain ⟨k1, _⟩ := zLi hi
  simp only [Option.bind_none, Sem.run_bind, run_zero hz, Result.andThen_ok, Sem.run_pure, mAt, mHas, k1, Option.getD_none, Option.isSome_none]
 | some j =>
  obtain ⟨v0, k1, k2, _⟩ := zLh hi
  have he : ∃ e, es.toList[j]? = some e ∧ e.val = ev v0 := by
   have h1 := congrArg (fun l => l[j]?) hm
   simp only [List.getElem?_map, k1, Option.map_some] at h1
   cases h2 : es.toList[j]? with
   | none => rw [h2] at h1; cases h1
   | some e =>
    rw [h2] at h1
    simp only [Option.map_some, Option.some.injEq, kvOf, Prod.mk.injEq] at h1
    exact ⟨e, rfl, h1.2⟩
  obtain ⟨e, e1, e2⟩ := he
  simp only [Option.bind_some, e1, Option.map_some, Sem.run_bind, Sem.run_pure, Result.andThen_ok, mAt, mHas, k2, Option.getD_some, Option.isSome_some, e2]
theorem zL0 {κ ν : Type} [DecidableEq κ] {ek : κ → Value} {ev : ν → Value} {t kt vt : TypeId} (ht : P.underlying t = some (.map kt vt)) (hk : KeyT P kt ek) {w : World} {b : Nat} {es : Array MapEntry} {clock : Nat} (hb : w.heap[b]? = some (.map es clock))
  {m : List (κ × ν)} (hm : es.toList.map kvOf = m.map fun p => (ek p.1, ev p.2)) (a : κ) (v : ν) :
  ∃ es' clock', (Instr.mapUpdate t (.map (some b)) (ek a) (ev v)).run P w = .ok () { w with heap := w.heap.setIfInBounds b (.map es' clock') } ∧ es'.toList.map kvOf = (mPut a v m).map fun p => (ek p.1, ev p.2) := by
 have hkeys : es.toList.map (·.key) = (m.map Prod.fst).map ek := by
  have := congrArg (List.map Prod.fst) hm
  simpa [kvOf, Function.comp_def] using this
 have hf := hk.find a es.toList (m.map Prod.fst) w hkeys
 cases hi : ixM a (m.map Prod.fst) with
 | none =>
  obtain ⟨_, k2⟩ := zLi hi
  refine ⟨es.push { key := ek a, val := ev v, born := clock }, clock + 1, ?_, ?_⟩
  ·unfold Instr.mapUpdate
   rw [hi] at hf
   simp only [Sem.run_bind, run_underlying ht, Result.andThen_ok, MapKept.run_getObj_map hb, Sem.run_pure, hk.chk, hf, Option.bind_none, MapKept.run_setObj_map _ hb]
  ·rw [k2]
   simp [hm, kvOf]
 | some j =>
  obtain ⟨v0, k1, _, k3⟩ := zLh hi
  have he : ∃ e, es.toList[j]? = some e ∧ e.key = ek a := by
   have h1 := congrArg (fun l => l[j]?) hm
   simp only [List.getElem?_map, k1, Option.map_some] at h1
   cases h2 : es.toList[j]? with
   | none => rw [h2] at h1; cases h1
   | some e =>
    rw [h2] at h1
    simp only [Option.map_some, Option.some.injEq, kvOf, Prod.mk.injEq] at h1
    exact ⟨e, rfl, h1.1⟩
  obtain ⟨e, e1, e2⟩ := he
  have e3 : es[j]? = some e := by simpa using e1
  refine ⟨es.modify j fun e => { e with key := ek a, val := ev v }, clock, ?_, ?_⟩
  ·unfold Instr.mapUpdate
   rw [hi] at hf
   simp only [Sem.run_bind, run_underlying ht, Result.andThen_ok, MapKept.run_getObj_map hb, Sem.run_pure, hk.chk, hf, Option.bind_some, e1, Option.map_some, e3, Option.getD_some, e2, Instr.keyThatStays, hk.bits, if_true, MapKept.run_setObj_map _ hb]
  ·rw [k3, Array.toList_modify]
   apply List.ext_getElem?
   intro i
   have h1 := congrArg (fun l => l[i]?) hm
   simp only [List.getElem?_map] at h1 ⊢
   rw [List.getElem?_modify, List.getElem?_set]
   by_cases hij : j = i
   ·subst hij
    have hlt : j < m.length := (List.getElem?_eq_some_iff.1 k1).1
    simp [e1, hlt, kvOf]
   ·simp only [hij, if_false, Option.map_map]
    rw [← h1]
    cases es.toList[i]? <;> rfl
theorem R.writeG {B : Fr} {w0 : World} {ok0 ok : Nat → Prop} {σ : Nat → Loc} {s : St} {a : Act} {w w' : World} (h : R B w0 ok0 ok σ s a w) {id : Nat} {e e' : Ent} {g : Nat} (he : s.ent id = some e) (hg : (σ id).blk = some g) (hsize : w'.heap.size = w.heap.size)
  (hw : ∀ q, q ≠ g → w'.heap[q]? = w.heap[q]?) (hos : w'.os = w.os) (htp : w'.tape = w.tape) (hou : w'.output = w.output) (E' : List (Nat × Ent)) (hE : ∀ j, (E'.lookup j) = if j = id then some e' else s.ent j) (hok : zB6 ok w' (σ id) e') (hpin : e'.pin = e.pin) :
  R B w0 ok0 ok σ ⟨s.T, E'⟩ a w' := by
 obtain ⟨hb1, hb2⟩ := h.core.blk id e g he hg
 have hB := h.own id e g he hg
 have hwok : ∀ q, ok q → w'.heap[q]? = w.heap[q]? := fun q hq => hw q fun e => hb1 (e ▸ hq)
 have look : ∀ j f, (St.mk s.T E').ent j = some f → (j = id ∧ f = e') ∨ (j ≠ id ∧ s.ent j = some f) := by
  intro j f hj
  have h1 : E'.lookup j = some f := hj
  rw [hE] at h1
  split at h1
  ·rename_i hji
   exact .inl ⟨hji, by simpa using h1.symm⟩
  ·rename_i hji
   exact .inr ⟨hji, h1⟩
 refine ⟨⟨h.core.len, fun q hq => by rw [hsize]; exact h.core.okL q hq, h.core.lib.mono (fun _ h => h) hwok, fun t => ?_, fun j f hj => ?_, fun j f q hj hq => ?_, fun i j f1 f2 q hi hj h1 h2 => ?_⟩, h.defers, h.below.trans ?_, by rw [hsize]; exact h.base, h.old, h.fresh, fun j f q hj hq => ?_⟩
 ·have h1 := h.core.tmp t
  exact h1.mono0 (fun _ h => h) hwok
 ·rcases look j f hj with ⟨rfl, rfl⟩ | ⟨h1, h2⟩
  ·exact hok
  ·refine (h.core.ent j f h2).mono (fun _ h => h) hwok fun q hq => hw q fun e1 => ?_
   subst e1
   exact h1 (h.core.inj _ _ _ _ _ h2 he hq hg)
 ·rw [hsize]
  rcases look j f hj with ⟨rfl, rfl⟩ | ⟨h1, h2⟩
  ·exact h.core.blk _ _ _ he hq
  ·exact h.core.blk _ _ _ h2 hq
 ·rcases look i f1 hi with ⟨a1, a2⟩ | ⟨a1, a2⟩ <;> rcases look j f2 hj with ⟨b1, b2⟩ | ⟨b1, b2⟩
  ·omega
  ·subst a1
   exact h.core.inj _ _ _ _ _ he b2 h1 h2
  ·subst b1
   exact h.core.inj _ _ _ _ _ a2 he h1 h2
  ·exact h.core.inj _ _ _ _ _ a2 b2 h1 h2
 ·refine ⟨hos, htp, hou, by rw [hsize]; exact Nat.le_refl _, fun q hq hx => hw q fun e1 => ?_⟩
  subst e1
  split at hB
  ·exact hx hB
  ·omega
 ·rcases look j f hj with ⟨rfl, rfl⟩ | ⟨h1, h2⟩
  ·rw [hpin]
   exact h.own _ _ _ he hq
  ·exact h.own _ _ _ h2 hq
def trV : Tr → Option Value
 | .v x => some x
 | _ => none
def keyV : AV → Option Value
 | .c (.v x) => some x
 | .ag cs => (cs.mapM trV).map fun xs => .agg xs.toArray
 | _ => none
theorem mapM_v {ok : Nat → Prop} {w : World} : ∀ (cs : List Tr) (vs xs : List Value), RdL ok w cs vs → (cs.mapM trV) = some xs → vs = xs
 | [], _, xs, .nil, h => by simpa using h
 | c :: cs, _, xs, .cons h1 h2, h => by
  rw [List.mapM_cons] at h
  cases c with
  | v x =>
   simp only [trV, Option.pure_def, Option.bind_eq_bind, Option.bind_some] at h
   cases h3 : (cs.mapM trV) with
   | none => rw [h3] at h; cases h
   | some ys =>
    rw [h3] at h
    simp only [Option.bind_some, Option.some.injEq] at h
    subst h
    have := mapM_v cs _ ys h2 h3
    subst this
    cases h1
    rfl
  | sl e => simp [trV] at h
  | mp e => simp [trV] at h
theorem keyV_eval {ok : Nat → Prop} {σ : Nat → Loc} {s : St} {a : Act} {w : World} (h : Core ok σ s a w) {x : Operand} {v : Value} (hx : keyV (s.ev x) = some v) : a.eval x = v := by
 have h1 := h.ev x
 cases hs : s.ev x with
 | c t =>
  rw [hs] at hx
  cases t with
  | v y =>
   injection hx with hx
   subst hx
   exact h.exact hs
  | sl e => cases hx
  | mp e => cases hx
 | ag cs =>
  rw [hs] at hx h1
  obtain ⟨vs, hv, hr⟩ := (h1 : Rel1 ok σ w (.ag cs) (a.eval x))
  simp only [keyV, Option.map_eq_some_iff] at hx
  obtain ⟨xs, h2, h3⟩ := hx
  have := mapM_v cs vs.toList xs hr h2
  rw [hv, ← h3, ← this]
 | bot => rw [hs] at hx; cases hx
 | ow _ => rw [hs] at hx; cases hx
 | pt _ _ => rw [hs] at hx; cases hx
 | po _ _ _ _ => rw [hs] at hx; cases hx
 | pe _ => rw [hs] at hx; cases hx
 | fn _ _ => rw [hs] at hx; cases hx
 | er _ => rw [hs] at hx; cases hx
 | vw _ _ _ => rw [hs] at hx; cases hx
 | sf _ _ _ => rw [hs] at hx; cases hx
 | tn => rw [hs] at hx; cases hx
 | tc _ _ => rw [hs] at hx; cases hx
def MpOk (P : Program) (t : TypeId) {κ ν : Type} [DecidableEq κ] (ek : κ → Value) (ev : ν → Value) (z : ν) : Prop := ∃ kt vt, P.underlying t = some (.map kt vt) ∧ KeyT P kt ek ∧ (P.info? vt).bind (·.zero) = some (ev z) ∧ ∀ v, (ev v).oneCell' = true
theorem zLd {ok : Nat → Prop} {σ : Nat → Loc} {s : St} {a : Act} {w : World} (h : Core ok σ s a w) {x : Operand} {id b : Nat} {kvs : List (Value × Value)} (hx : s.ev x = .c (.v (.map (some b)))) (he : s.ent id = some (.mp b kvs)) : a.eval x = .map (some b) ∧ ∃ es clock, w.heap[b]? = some (.map es clock) ∧ es.toList.map kvOf = kvs := by
 obtain ⟨h1, es, clock, h2, h3⟩ := h.ent id _ he
 exact ⟨h.exact hx, es, clock, h2, h3⟩
theorem Y0_lookM {o : Oper} {s : St} {x k : Operand} {t : TypeId} {κ ν : Type} [DecidableEq κ] {ek : κ → Value} {ev : ν → Value} {z : ν} {id b : Nat} {m : List (κ × ν)} {a : κ} (hm : MpOk P t ek ev z) (ho : o.op = .lookup t x k false) (hx : s.ev x = .c (.v (.map (some b)))) (he : s.ent id = some (.mp b (m.map fun p => (ek p.1, ev p.2)))) (hk : keyV (s.ev k) = some (ek a)) :
  Y0 P o s (.c (.v (ev (mAt a m z)))) :=
 q8 fun ok σ ac w hC => by
  obtain ⟨kt, vt, h1, h2, h3, h4⟩ := hm
  obtain ⟨e1, es, clock, e2, e3⟩ := zLd hC hx he
  have := run_lookupM h1 h2 h3 e2 e3 a false
  refine ⟨_, ?_, Rd.v _ (h4 _)⟩
  unfold execOp
  rw [ho]
  simp only [e1, keyV_eval hC hk, Sem.run_bind, this, Result.andThen_ok, Sem.run_pure]
  rfl
theorem zMN {o : Oper} {s : St} {x k v : Operand} {t : TypeId} {κ ν : Type} [DecidableEq κ] {ek : κ → Value} {ev : ν → Value} {z : ν} {id b : Nat} {m : List (κ × ν)} {a : κ} {u : ν} (hm : MpOk P t ek ev z) (ho : o.op = .mapUpdate t x k v ∨ o.op = .insert t x k v) (hd : o.dst = none) (hx : s.ev x = .c (.v (.map (some b)))) (he : s.ent id = some (.mp b (m.map fun p => (ek p.1, ev p.2)))) (hk : keyV (s.ev k) = some (ek a)) (hv : s.ev v = .c (.v (ev u))) :
  X P o s ⟨s.T, setE id (.mp b ((mPut a u m).map fun p => (ek p.1, ev p.2))) s.E⟩ := by
 intro B w0 ok0 ok σ ac w hR K Q hK
 obtain ⟨kt, vt, h1, h2, h3, h4⟩ := hm
 obtain ⟨e1, es, clock, e2, e3⟩ := zLd hR.core hx he
 obtain ⟨es', clock', r1, r2⟩ := zL0 h1 h2 e2 e3 a u
 have ek1 := keyV_eval hR.core hk
 have ev1 := hR.core.exact hv
 have hblk := (hR.core.ent id _ he).1
 have hset := MapKept.heap_set (o' := .map es' clock') e2
 have hR' := hR.writeG (w' := { w with heap := w.heap.setIfInBounds b (.map es' clock') }) he hblk (by simp) (fun q hq => hset.2 q hq) rfl rfl rfl _ (zDg id (.mp b ((mPut a u m).map fun p => (ek p.1, ev p.2))) s.E _ he) ⟨hblk, es', clock', hset.1, r2⟩ rfl
 have hrun : (execOp ac.eval o).run P w = .ok .skip { w with heap := w.heap.setIfInBounds b (.map es' clock') } := by
  unfold execOp
  rcases ho with ho | ho <;> rw [ho] <;> simp only [e1, ek1, ev1, Sem.run_bind, r1, Result.andThen_ok, Sem.run_pure]
 unfold Oper.wp
 rw [hrun]
 show K (ac.put o.dst undef) _
 rw [hd]
 exact hK _ _ _ _ hR'
theorem XL_mkmap {ops : Array Oper} {o : Oper} {rest : List Oper} {s : St} {J : St → Prop} {t : TypeId} {d : Nat} (hg : o.guard = none) (ho : o.op = .makeMap t none) (hd : o.dst = some d) (hk : ∀ b : Nat, XL P ops rest ⟨(zIb d s.T).set d (.c (.v (.map (some b)))), (d * 8, .mp b []) :: zJ8 d s.E⟩ J) : XL P ops (o :: rest) s J := by
 intro B w0 ok0 ok σ a w hR Q hQ
 refine wpList_plain hg fun K hK => ?_
 have hnew : New w (w.alloc (.map #[] 0)) ok ok (fun _ => ⟨some w.heap.size, 0, 0⟩) (.c (.v (.map (some w.heap.size)))) [(0, .mp w.heap.size [])] (.map (some w.heap.size)) := by
  have ha := MapKept.heap_alloc w (.map #[] 0)
  have hsz : (w.alloc (.map #[] 0)).heap.size = w.heap.size + 1 := by
   show (w.heap.push _).size = _
   simp
  refine ⟨⟨rfl, rfl, rfl, by omega, fun k hk => ha.2 k hk⟩, fun _ h => h, fun _ h => .inl h, fun g hg => by have := hR.core.okL g hg; omega, Rd.v _ rfl, fun id e he => ?_, fun e he => rfl, fun id e he => ?_, fun id e g he hg => ?_, fun i j e f g hi hj _ _ => ?_, fun id e he => ?_⟩
  ·obtain ⟨h1, _⟩ := zAI _ _ _ _ he; omega
  ·obtain ⟨h1, h2⟩ := zAI _ _ _ _ he
   subst h2
   exact ⟨rfl, #[], 0, ha.1, rfl⟩
  ·have e1 : w.heap.size = g := by simpa using hg
   subst e1
   exact ⟨Nat.le_refl _, fun h => Nat.lt_irrefl _ (hR.core.okL _ h), by omega⟩
  ·obtain ⟨h1, _⟩ := zAI _ _ _ _ hi
   obtain ⟨h2, _⟩ := zAI _ _ _ _ hj
   omega
  ·obtain ⟨_, h2⟩ := zAI _ _ _ _ he
   subst h2; rfl
 have hrun : (execOp a.eval o).run P w = .ok (.value (.map (some w.heap.size))) (w.alloc (.map #[] 0)) := by
  unfold execOp
  rw [ho]
  simp [Instr.makeMap]
 have hR' := hR.upd (d := d) hnew
 unfold Oper.wp
 rw [hrun]
 show K (a.put o.dst _) _
 rw [hd]
 exact hK _ _ (hk w.heap.size B w0 ok0 ok (fun id => if id / 8 = d then ⟨some w.heap.size, 0, 0⟩ else σ id) _ _ hR' Q hQ)
theorem V_regM {id : Nat} {ops : Array Oper} {s : St} {J : Exit → St → Prop} (S : Nat → St) (m : List Bool) (ids : List Nat) (h : XL P ops ops.toList s (fun s' => ∃ b, s'.keep m ids = S b)) (hj : ∀ b, J .normal (S b)) : V P (.region id ops false) s J := by
 refine zY fun B w0 ok0 ok σ a w hR Q hQ => ?_
 refine h _ _ _ _ _ _ _ hR Q fun s' a' w' ok' σ' hs hR' => ?_
 obtain ⟨b, hs⟩ := hs
 exact hQ _ a' w' ok' σ' (hj b) (by rw [← hs]; exact hR'.le (zGk m ids s'))
theorem V_sregM {id : Nat} {ops : Array Oper} {y : Code} {s : St} {J : Exit → St → Prop} (S : Nat → St) (m : List Bool) (ids : List Nat) (h : XL P ops ops.toList s (fun s' => ∃ b, s'.keep m ids = S b)) (hv : ∀ b, V P y (S b) J) : V P (.seq (.region id ops false) y) s J := zK (V_regM S m ids h hv)
end
section
variable {P : Program}
def ren1 (j k : Nat) : AV → AV
 | .ow i => bif i == j then .ow k else bif i == k then .bot else .ow i
 | .tc _ _ => .bot
 | av => bif av.mid j || av.mid k then .bot else av
def renE (k : Nat) (e : Ent) (E : List (Nat × Ent)) : List (Nat × Ent) := match E.lookup k with
 | some _ => setE k e E
 | none => (k, e) :: E
theorem renE_look (k : Nat) (e : Ent) (E : List (Nat × Ent)) (i : Nat) : (renE k e E).lookup i = if i = k then some e else E.lookup i := by
 unfold renE
 cases h : E.lookup k with
 | some f => exact zDg k e E f h i
 | none =>
  simp only [List.lookup]
  cases hi : (i == k) with
  | true => simp [show i = k by simpa using hi]
  | false => rw [if_neg (by simpa using hi)]
def St.ren (s : St) (j k : Nat) (e : Ent) : St := ⟨s.T.map (ren1 j k), renE k e (rmE j s.E)⟩
def St.adopt (s : St) (t k : Nat) : St :=
 match s.get t with
 | .ow j => bif j == k then s else (match s.ent j with
  | some (.arr T sz els) => s.ren j k (.arr T sz els)
  | _ => s)
 | _ => s
theorem R_ren {B : Fr} {w0 : World} {ok0 ok : Nat → Prop} {σ : Nat → Loc} {s : St} {a : Act} {w : World} (hR : R B w0 ok0 ok σ s a w) {j k : Nat} (hjk : j ≠ k) {T sz : Nat} {els : List (List Tr)} (hj : s.ent j = some (.arr T sz els)) :
  R B w0 ok0 ok (fun i => if i = k then σ j else σ i) (s.ren j k (.arr T sz els)) a w := by
 have lk : ∀ i e, (s.ren j k (.arr T sz els)).ent i = some e → (i = k ∧ e = .arr T sz els) ∨ (i ≠ k ∧ i ≠ j ∧ s.ent i = some e) := by
  intro i e hi
  have hi : (renE k (.arr T sz els) (rmE j s.E)).lookup i = some e := hi
  rw [renE_look] at hi
  by_cases h : i = k
  ·rw [if_pos h] at hi
   exact .inl ⟨h, by simpa using hi.symm⟩
  ·rw [if_neg h, zE6] at hi
   split at hi
   ·cases hi
   ·rename_i hn
    exact .inr ⟨h, hn, hi⟩
 have hget : ∀ t, (s.ren j k (.arr T sz els)).get t = ren1 j k (s.get t) := by
  intro t
  unfold St.ren St.get
  simp only [List.getElem?_map]
  cases s.T[t]? <;> rfl
 refine ⟨⟨by simpa [St.ren] using hR.core.len, hR.core.okL, hR.core.lib, fun t => ?_, fun i e hi => ?_, fun i e g hi hg => ?_, fun i i2 e f2 g hi hi2 h1 h2 => ?_⟩, hR.defers, hR.below, hR.base, hR.old, hR.fresh, fun i e g hi hg => ?_⟩
 ·rw [hget]
  have h1 := hR.core.tmp t
  generalize s.get t = av at h1
  have same : av.mid k = false → (∀ x r, av ≠ .tc x r) → Rel ok (fun i => if i = k then σ j else σ i) w av (a.tmps.getD t undef) := fun hm _ => h1.mid k (fun _ h => h) (fun _ _ => rfl) hm (fun i hi => by simp [hi])
  have other : (∀ x r, av ≠ .tc x r) → Rel ok (fun i => if i = k then σ j else σ i) w (bif av.mid j || av.mid k then AV.bot else av) (a.tmps.getD t undef) := fun ht => by
   cases hm : (av.mid j || av.mid k) with
   | true => exact trivial
   | false =>
    simp only [Bool.or_eq_false_iff] at hm
    exact same hm.2 ht
  cases av with
  | ow i =>
   simp only [ren1]
   cases hi : (i == j) with
   | true =>
    have e1 : i = j := by simpa using hi
    subst e1
    show _ = zAB _
    simp only [if_true]
    exact h1
   | false =>
    cases hi2 : (i == k) with
    | true => exact trivial
    | false => exact same (by simpa [AV.mid] using hi2) (fun _ _ h => by cases h)
  | tc x r => exact trivial
  | pt i o => exact other (fun _ _ h => by cases h)
  | po i z o q => exact other (fun _ _ h => by cases h)
  | tn => exact other (fun _ _ h => by cases h)
  | bot => exact other (fun _ _ h => by cases h)
  | c t => exact other (fun _ _ h => by cases h)
  | ag cs => exact other (fun _ _ h => by cases h)
  | pe cs => exact other (fun _ _ h => by cases h)
  | fn f caps => exact other (fun _ _ h => by cases h)
  | er b => exact other (fun _ _ h => by cases h)
  | vw i els m => exact other (fun _ _ h => by cases h)
  | sf i z q => exact other (fun _ _ h => by cases h)
 ·rcases lk i e hi with ⟨rfl, rfl⟩ | ⟨h1, _, h2⟩
  ·simp only [if_true]
   exact hR.core.ent _ _ hj
  ·simp only [if_neg h1]
   exact hR.core.ent _ _ h2
 ·rcases lk i e hi with ⟨rfl, rfl⟩ | ⟨h1, _, h2⟩
  ·simp only [if_true] at hg
   exact hR.core.blk _ _ _ hj hg
  ·simp only [if_neg h1] at hg
   exact hR.core.blk _ _ _ h2 hg
 ·rcases lk i e hi with ⟨a1, _⟩ | ⟨a1, a3, a2⟩ <;> rcases lk i2 f2 hi2 with ⟨b1, _⟩ | ⟨b1, b3, b2⟩
  ·rw [a1, b1]
  ·simp only [a1, if_true] at h1
   simp only [if_neg b1] at h2
   exact absurd (hR.core.inj _ _ _ _ _ hj b2 h1 h2).symm b3
  ·simp only [b1, if_true] at h2
   simp only [if_neg a1] at h1
   exact absurd (hR.core.inj _ _ _ _ _ hj a2 h2 h1).symm a3
  ·simp only [if_neg a1] at h1
   simp only [if_neg b1] at h2
   exact hR.core.inj _ _ _ _ _ a2 b2 h1 h2
 ·rcases lk i e hi with ⟨rfl, rfl⟩ | ⟨h1, _, h2⟩
  ·simp only [if_true] at hg
   exact hR.own _ _ _ hj hg
  ·simp only [if_neg h1] at hg
   exact hR.own _ _ _ h2 hg
theorem R_adopt {B : Fr} {w0 : World} {ok0 ok : Nat → Prop} {σ : Nat → Loc} {s : St} {a : Act} {w : World} (hR : R B w0 ok0 ok σ s a w) (t k : Nat) : ∃ σ', R B w0 ok0 ok σ' (s.adopt t k) a w := by
 unfold St.adopt
 split
 ·rename_i j _
  cases hjk : (j == k) with
  | true => exact ⟨σ, hR⟩
  | false =>
   simp only [cond_false]
   split
   ·rename_i T sz els h1
    exact ⟨_, R_ren hR (by simpa using hjk) h1⟩
   ·exact ⟨σ, hR⟩
 ·exact ⟨σ, hR⟩
theorem V_adopt (t k : Nat) {c : Code} {s : St} {J : Exit → St → Prop} (h : V P c (s.adopt t k) J) : V P c s J := fun _ _ _ _ _ _ _ hR => by
 obtain ⟨σ', hR'⟩ := R_adopt hR t k
 exact h _ _ _ _ _ _ _ hR'
end
section
variable {P : Program}
theorem R_shrink {B : Fr} {w0 : World} {ok0 ok : Nat → Prop} {σ : Nat → Loc} {s : St} {a : Act} {w : World} (hR : R B w0 ok0 ok σ s a w) {id e sz n : Nat} {els : List (List Tr)} (he : s.ent id = some (.arr e sz els)) (hn : n ≤ els.length) :
  R B w0 ok0 ok (fun j => if j = id then ⟨(σ id).blk, n, (σ id).cap⟩ else σ j) ⟨zE9 id s.T, setE id (.arr e sz (els.take n)) s.E⟩ a w := by
 obtain ⟨h0, hln, hs, vs, hown, hrd⟩ := hR.core.ent id _ he
 have look := zDg id (.arr e sz (els.take n)) s.E _ he
 have lk : ∀ j f, (St.mk (zE9 id s.T) (setE id (.arr e sz (els.take n)) s.E)).ent j = some f → (j = id ∧ f = .arr e sz (els.take n)) ∨ (j ≠ id ∧ s.ent j = some f) := by
  intro j f hj
  have h7 : (setE id (.arr e sz (els.take n)) s.E).lookup j = some f := hj
  rw [look] at h7
  by_cases hji : j = id
  ·rw [if_pos hji] at h7
   exact .inl ⟨hji, by simpa using h7.symm⟩
  ·rw [if_neg hji] at h7
   exact .inr ⟨hji, h7⟩
 refine ⟨⟨by simpa [zF6] using hR.core.len, hR.core.okL, hR.core.lib, fun t => ?_, fun i f hi => ?_, fun i f g hi hg => ?_, fun i i2 f f2 g hi hi2 h1 h2 => ?_⟩, hR.defers, hR.below, hR.base, hR.old, hR.fresh, fun i f g hi hg => ?_⟩
 ·have e0 : (St.mk (zE9 id s.T) (setE id (.arr e sz (els.take n)) s.E)).get t = (bif (s.get t).mid id then AV.bot else s.get t) := by
   unfold St.get
   exact zIO id s.T t
  rw [e0]
  cases hmm : (s.get t).mid id with
  | true => trivial
  | false => exact (hR.core.tmp t).mid id (fun _ h => h) (fun _ _ => rfl) hmm (fun j hj => by simp [hj])
 ·rcases lk i f hi with ⟨rfl, rfl⟩ | ⟨h1, h2⟩
  ·simp only [if_true]
   refine ⟨h0, by simp; omega, fun el hel => hs el (List.mem_of_mem_take hel), vs.take (n * sz), ⟨?_, ?_⟩, ?_⟩
   ·have hl := hown.1
    rw [List.length_take, List.length_take, hl, Nat.min_eq_left hn, Nat.min_eq_left (Nat.mul_le_mul_right _ hn)]
   ·rcases hown.2 with ⟨h5, h6⟩ | ⟨g, cap, cur, h5, h6, h7, h8, h9, h10, h11⟩
    ·left
     unfold zAB at h5 ⊢
     injection h5 with q1 q2 q3
     refine ⟨?_, by rw [List.length_take]; omega⟩
     simp only [q1, q3]
     rw [show n = 0 by omega]
    ·right
     unfold zAB at h5 ⊢
     injection h5 with q1 q2 q3
     refine ⟨g, cap, cur, ?_, h6, h7, by rw [List.length_take]; omega, h9, h10, ?_⟩
     ·simp only [q1, q3, List.length_take, Nat.min_eq_left hn]
     ·rw [List.length_take, Nat.min_eq_left hn, ← h11, List.take_take, Nat.min_eq_left (Nat.mul_le_mul_right _ hn)]
   ·have e1 : (els.take n).flatten = els.flatten.take (n * sz) := by
     have := zFJ (els.take n) sz (fun el hel => hs el (List.mem_of_mem_take hel))
     rw [List.length_take, Nat.min_eq_left hn] at this
     have e2 : els.flatten = (els.take n).flatten ++ (els.drop n).flatten := by rw [← List.flatten_append, List.take_append_drop]
     rw [e2, List.take_left' this]
    rw [e1]
    exact hrd.take _
  ·simp only [if_neg h1]
   exact hR.core.ent i f h2
 ·rcases lk i f hi with ⟨rfl, rfl⟩ | ⟨h1, h2⟩
  ·simp only [if_true] at hg
   exact hR.core.blk _ _ _ he hg
  ·simp only [if_neg h1] at hg
   exact hR.core.blk _ _ _ h2 hg
 ·rcases lk i f hi with ⟨a1, _⟩ | ⟨a1, a2⟩ <;> rcases lk i2 f2 hi2 with ⟨b1, _⟩ | ⟨b1, b2⟩
  ·rw [a1, b1]
  ·simp only [a1, if_true] at h1
   simp only [if_neg b1] at h2
   rw [a1]
   exact hR.core.inj _ _ _ _ _ he b2 h1 h2
  ·simp only [b1, if_true] at h2
   simp only [if_neg a1] at h1
   rw [b1]
   exact hR.core.inj _ _ _ _ _ a2 he h1 h2
  ·simp only [if_neg a1] at h1
   simp only [if_neg b1] at h2
   exact hR.core.inj _ _ _ _ _ a2 b2 h1 h2
 ·rcases lk i f hi with ⟨rfl, rfl⟩ | ⟨h1, h2⟩
  ·simp only [if_true] at hg
   have h7 := hR.own _ _ _ he hg
   rw [if_neg (fun hc => by cases hc)] at h7 ⊢
   exact h7
  ·simp only [if_neg h1] at hg
   exact hR.own _ _ _ h2 hg
theorem X_shrink {o : Oper} {s : St} {x y : Operand} {t e d id sz : Nat} {n : Int} {els : List (List Tr)} (ht : P.underlying t = some (.slice e)) (hsz : (P.info? e).map (·.size) = some sz) (ho : o.op = .slice t x none (some y) none) (hd : o.dst = some d)
  (hx : s.ev x = .ow id) (he : s.ent id = some (.arr e sz els)) (hy : s.ev y = I n) (hn : 0 ≤ n ∧ n ≤ (els.length : Int)) : X P o s ⟨(zE9 id s.T).set d (.ow id), setE id (.arr e sz (els.take n.toNat)) s.E⟩ := by
 intro B w0 ok0 ok σ a w hR K Q hK
 have h3 := hR.core.ev x
 rw [hx] at h3
 have h4 : a.eval x = zAB (σ id) := h3
 have h5 : a.eval y = .int .i64 n := hR.core.exact hy
 obtain ⟨h0, hln, hs, vs, hown, hrd⟩ := hR.core.ent id _ he
 have hle : (σ id).n ≤ (σ id).cap := by
  rcases hown.2 with ⟨hv, hv0⟩ | ⟨g, cap, cur, hv, _, _, hnc, _⟩
  ·omega
  ·unfold zAB at hv
   injection hv with _ q1 q2
   omega
 have hbounds : ∀ w, (Instr.sliceBounds true (σ id).n (σ id).cap none (some (.int .i64 n)) none).run P w = .ok (0, n.toNat, (σ id).cap) w := by
  intro w
  unfold Instr.sliceBounds
  simp only [Sem.run_bind, Sem.run_pure, Result.andThen_ok, zGQ (P := P) (k := .i64) (n := n) (y := (σ id).cap) (by omega) (by omega)]
 cases hii : P.info? e with
 | none => rw [hii] at hsz; cases hsz
 | some i =>
  have hi2 : i.size = sz := by rw [hii] at hsz; simpa using hsz
  have hR2 := R_shrink hR he (n := n.toNat) (by omega)
  have hrun : (execOp a.eval o).run P w = .ok (.value (zAB ⟨(σ id).blk, n.toNat, (σ id).cap⟩)) w := by
   unfold execOp
   rw [ho]
   unfold zAB at h4 ⊢
   cases hb : (σ id).blk <;> rw [hb] at h4 <;> simp [h4, h5, Instr.sliceAt, Instr.slice, run_underlying ht, hbounds, sizeOf, typeInfo, hii, hi2, Addr.add]
  unfold Oper.wp
  rw [hrun]
  have h6 := hR2.put (d := d) (av := .ow id) (v := zAB ⟨(σ id).blk, n.toNat, (σ id).cap⟩) (by show _ = zAB _; simp)
  simp only [Oper.upon, hd]
  exact hK _ _ _ _ h6
theorem X_shrinkM {α : Type} {c : α → List Tr} {xs : List α} {o : Oper} {s : St} {x y : Operand} {t e d id sz : Nat} {n : Int} (ht : P.underlying t = some (.slice e)) (hsz : (P.info? e).map (·.size) = some sz) (ho : o.op = .slice t x none (some y) none) (hd : o.dst = some d)
  (hx : s.ev x = .ow id) (he : s.ent id = some (.arr e sz (xs.map c))) (hy : s.ev y = I n) (hn : slc xs.length 0 n = some ()) : X P o s ⟨(zE9 id s.T).set d (.ow id), setE id (.arr e sz ((subl xs 0 n).map c)) s.E⟩ := by
 have h := zAY hn
 have e1 : (subl xs 0 n).map c = (xs.map c).take n.toNat := by
  unfold subl
  rw [show Int.toNat 0 = 0 from rfl, List.drop_zero, Nat.sub_zero, List.map_take]
 rw [e1]
 exact X_shrink ht hsz ho hd hx he hy (by rw [List.length_map]; omega)
def EqAgS (P : Program) (op : BinOp) (t : TypeId) : Prop := ∀ (n m : ByteArray) (a1 a2 a3 b1 b2 b3 : Int) (x y : Operand) (w : World), (eqGuard op t x y (.agg #[.string n, .int .i64 a1, .int .i64 a2, .int .i64 a3]) (.agg #[.string m, .int .i64 b1, .int .i64 b2, .int .i64 b3])).run P w = .ok () w ∧ (binOp op t (.agg #[.string n, .int .i64 a1, .int .i64 a2, .int .i64 a3]) (.agg #[.string m, .int .i64 b1, .int .i64 b2, .int .i64 b3])).run P w = .ok (.bool (match op with | .neq => !((n.toList == m.toList) && ((a1 == b1) && ((a2 == b2) && (a3 == b3)))) | _ => ((n.toList == m.toList) && ((a1 == b1) && ((a2 == b2) && (a3 == b3)))))) w
theorem agS {ok : Nat → Prop} {σ : Nat → Loc} {w : World} {y : Value} {n : ByteArray} {a1 a2 a3 : Int} (h : Rel ok σ w (.ag [.v (.string n), Ti a1, Ti a2, Ti a3]) y) : y = (.agg #[.string n, .int .i64 a1, .int .i64 a2, .int .i64 a3]) := by
 obtain ⟨vs, rfl, hr⟩ := h
 obtain ⟨l⟩ := vs
 cases hr with
 | cons p1 q1 =>
 cases p1
 cases q1 with
 | cons p2 q2 =>
 cases p2
 cases q2 with
 | cons p3 q3 =>
 cases p3
 cases q3 with
 | cons p4 q4 =>
 cases p4
 cases q4
 rfl
theorem Y0_negS {o : Oper} {s : St} {x y : Operand} {t t2 : TypeId} {n m : ByteArray} {a1 a2 a3 b1 b2 b3 : Int} (h : EqAgS P .neq t) (ho : o.op = .binOp .neq t x y t2) (hx : s.ev x = .ag [.v (.string n), Ti a1, Ti a2, Ti a3]) (hy : s.ev y = .ag [.v (.string m), Ti b1, Ti b2, Ti b3]) : Y0 P o s (Bo (!((n.toList == m.toList) && ((a1 == b1) && ((a2 == b2) && (a3 == b3)))))) :=
 q8 fun ok σ a w hC => by
  have h1 := hC.ev x
  rw [hx] at h1
  have h2 := hC.ev y
  rw [hy] at h2
  obtain ⟨h3, h4⟩ := h n m a1 a2 a3 b1 b2 b3 x y w
  refine ⟨_, ?_, zII _ _ _⟩
  unfold execOp
  rw [ho]
  simp only [agS h1, agS h2, Sem.run_bind, h3, h4, Result.andThen_ok, Sem.run_pure]
end
def ysl (b n cap : Nat) : AV := .c (.v (.slice (some ⟨b, 0, none⟩) n cap))
def ypt (b k : Nat) : AV := .c (.v (.pointer (some ⟨b, k, none⟩)))
structure By (b : Nat) (l : List UInt8) (w : World) : Prop where
  ex : ∃ cur e fz, w.heap[b]? = some (.cells cur e fz) ∧ l.length ≤ cur.size ∧ l.length ≤ fz.1 ∧ ∀ j (h : j < l.length), cur[j]? = some (.int .u8 (l[j].toNat : Int))
theorem By.lt {b : Nat} {l : List UInt8} {w : World} (h : By b l w) : b < w.heap.size := by
 obtain ⟨cur, e, fz, h1, _⟩ := h.ex
 rcases Nat.lt_or_ge b w.heap.size with h' | h'
 ·exact h'
 ·simp [Array.getElem?_eq_none h'] at h1
theorem By.keep {b : Nat} {l : List UInt8} {w w' : World} (h : By b l w) (hw : w'.heap[b]? = w.heap[b]?) : By b l w' := by
 obtain ⟨cur, e, fz, h1, h2⟩ := h.ex
 exact ⟨⟨cur, e, fz, hw.trans h1, h2⟩⟩
theorem By.cell {b : Nat} {l : List UInt8} {w : World} (h : By b l w) {j : Nat} (hj : j < l.length) : w.cell? ⟨b, j, none⟩ = some (.int .u8 (l[j].toNat : Int)) := by
 obtain ⟨cur, e, fz, h1, h2, h3, h4⟩ := h.ex
 simp [World.cell?, h1, h4 j hj]
structure RY (B : Fr) (w0 : World) (ok0 ok : Nat → Prop) (σ : Nat → Loc) (b : Nat) (l : List UInt8) (s : St) (a : Act) (w : World) : Prop where
  ex : ∃ w1 ok1, R ⟨w1.heap.size, fun _ => False⟩ w1 ok1 ok σ s a w ∧ By b l w1 ∧ BelowX B w0 w1 ∧ B.n ≤ b ∧ (∀ g, ok0 g → ok1 g) ∧ (∀ g, ok1 g → ok0 g ∨ B.n ≤ g) ∧ ¬ ok1 b
section
variable {P : Program}
theorem RY.to {B : Fr} {w0 : World} {ok0 ok : Nat → Prop} {σ : Nat → Loc} {b : Nat} {l : List UInt8} {s : St} {a : Act} {w : World} (h : RY B w0 ok0 ok σ b l s a w) : R B w0 ok0 ok σ s a w := by
 obtain ⟨w1, ok1, hR, hb, h1, h2, h3, h4, h5⟩ := h.ex
 have hlt := hb.lt
 have hbe := hR.base
 have hbe : w1.heap.size ≤ w.heap.size := hbe
 refine ⟨hR.core, hR.defers, h1.trans ⟨hR.below.os, hR.below.tape, hR.below.output, hR.below.size, fun k hk _ => hR.below.block k (show k < w1.heap.size by omega) (fun x => x)⟩, by omega, fun g hg => hR.old g (h3 g hg), fun g hg => ?_, fun id e g he hg => ?_⟩
 ·rcases hR.fresh g hg with h9 | h9
  ·exact h4 g h9
  ·have h9 : w1.heap.size ≤ g := h9
   exact .inr (by omega)
 ·have := hR.own id e g he hg
  split at this
  ·exact this.elim
  ·rename_i hp
   rw [if_neg hp]
   have this : w1.heap.size ≤ g := this
   omega
def YB (P : Program) (b : Nat) (l : List UInt8) (c : Code) (s : St) (J : Exit → St → Prop) : Prop :=
 ∀ B w0 ok0 ok σ a w, RY B w0 ok0 ok σ b l s a w → c.wp P (fun e a' w' => ∃ s' ok' σ', J e s' ∧ R B w0 ok0 ok' σ' s' a' w') a w
def XYB (P : Program) (b : Nat) (l : List UInt8) (ops : Array Oper) (rest : List Oper) (s : St) (J : St → List UInt8 → Prop) : Prop :=
 ∀ B w0 ok0 ok σ a w, RY B w0 ok0 ok σ b l s a w → ∀ Q : Exit → Act → World → Prop, (∀ s' l' a' w' ok' σ', J s' l' → RY B w0 ok0 ok' σ' b l' s' a' w' → Q .normal a' w') → wpList P ops Q rest a w
def XYP (P : Program) (b : Nat) (l : List UInt8) (ops : Array Oper) (rest : List Oper) (s : St) (J : St → Prop) : Prop :=
 ∀ B w0 ok0 ok σ a w, RY B w0 ok0 ok σ b l s a w → ∀ Q : Exit → Act → World → Prop, (∀ s' a' w' ok' σ', J s' → R B w0 ok0 ok' σ' s' a' w' → Q .normal a' w') → wpList P ops Q rest a w
def XZ (P : Program) (ops : Array Oper) (rest : List Oper) (s : St) (J : Nat → St → List UInt8 → Prop) : Prop :=
 ∀ B w0 ok0 ok σ a w, R B w0 ok0 ok σ s a w → ∀ Q : Exit → Act → World → Prop, (∀ b s' l' a' w' ok' σ', J b s' l' → RY B w0 ok0 ok' σ' b l' s' a' w' → Q .normal a' w') → wpList P ops Q rest a w
theorem V_bytes {id : Nat} {ops : Array Oper} {y : Code} {s : St} {J : Exit → St → Prop} (h : XZ P ops ops.toList s (fun b s' l' => YB P b l' y s' J)) : V P (.seq (.region id ops false) y) s J := by
 intro B w0 ok0 ok σ a w hR
 exact wp_seq (wp_region_list (h _ _ _ _ _ _ _ hR _ fun b s' l' a' w' ok' σ' hJ hR' => hJ _ _ _ _ _ _ _ hR'))
theorem YB_reg {b : Nat} {l : List UInt8} {id : Nat} {ops : Array Oper} {y : Code} {s : St} {J : Exit → St → Prop} (h : XYB P b l ops ops.toList s (fun s' l' => YB P b l' y s' J)) : YB P b l (.seq (.region id ops false) y) s J := by
 intro B w0 ok0 ok σ a w hR
 exact wp_seq (wp_region_list (h _ _ _ _ _ _ _ hR _ fun s' l' a' w' ok' σ' hJ hR' => hJ _ _ _ _ _ _ _ hR'))
theorem YP_reg {b : Nat} {l : List UInt8} {id : Nat} {ops : Array Oper} {y : Code} {s : St} {J : Exit → St → Prop} (h : XYP P b l ops ops.toList s (fun s' => V P y s' J)) : YB P b l (.seq (.region id ops false) y) s J := by
 intro B w0 ok0 ok σ a w hR
 exact wp_seq (wp_region_list (h _ _ _ _ _ _ _ hR _ fun s' a' w' ok' σ' hJ hR' => hJ _ _ _ _ _ _ _ hR'))
theorem XZ_cons {ops : Array Oper} {o : Oper} {rest : List Oper} {s s' : St} {J : Nat → St → List UInt8 → Prop} (hg : o.guard = none) (h : X P o s s') (hk : XZ P ops rest s' J) : XZ P ops (o :: rest) s J := by
 intro B w0 ok0 ok σ a w hR Q hQ
 exact wpList_plain hg fun K hK => h _ _ _ _ _ _ _ hR K Q fun a' w' ok' σ' hR' => hK _ _ (hk _ _ _ _ _ _ _ hR' Q hQ)
theorem XZ_1 {ops : Array Oper} {o : Oper} {rest : List Oper} {s : St} {J : Nat → St → List UInt8 → Prop} (hk : XZ P ops rest ((yo P o s).getD s) J) (hg : o.guard = none := by kernel_rfl) (h : (yo P o s).isSome = true := by kernel_rfl) : XZ P ops (o :: rest) s J := by
 cases hx : yo P o s with
 | none => rw [hx] at h; cases h
 | some s' => rw [hx] at hk; exact XZ_cons hg (yo_ok hx) hk
theorem R_baseY {ok : Nat → Prop} {σ : Nat → Loc} {s : St} {a : Act} {w w' : World} (hc : Core ok σ s a w) (hdf : a.defers = []) (hE : s.E = []) (hsz : w.heap.size ≤ w'.heap.size) (hw : ∀ g, ok g → w'.heap[g]? = w.heap[g]?) : R ⟨w'.heap.size, fun _ => False⟩ w' ok ok σ s a w' := by
 have hn : ∀ id, s.ent id = none := fun id => by unfold St.ent; rw [hE]; rfl
 refine ⟨⟨hc.len, fun g hg => Nat.lt_of_lt_of_le (hc.okL g hg) hsz, hc.lib.mono (fun _ h => h) hw, fun t => (hc.tmp t).mono0 (fun _ h => h) hw, fun id e he => ?_, fun id e g he => ?_, fun x y e f g he => ?_⟩, hdf, BelowX.refl _ _, Nat.le_refl _, fun _ h => h, fun _ h => .inl h, fun id e g he => ?_⟩
 ·rw [hn] at he; cases he
 ·rw [hn] at he; cases he
 ·rw [hn] at he; cases he
 ·rw [hn] at he; cases he
theorem XZ_new {ops : Array Oper} {o : Oper} {rest : List Oper} {s : St} {J : Nat → St → List UInt8 → Prop} {src dst e d : Nat} {x : Operand} {str : ByteArray} (hs : P.underlying src = some .string) (ht : P.underlying dst = some (.slice e)) (he : P.underlying e = some (.int .u8)) (ho : o.op = .convert src dst x) (hg : o.guard = none) (hd : o.dst = some d)
  (hk : ∀ b cap, XYB P b str.data.toList ops rest (s.put d (ysl b str.size cap)) (J b)) (hE : s.E = [] := by kernel_rfl) (hx : s.ev x = .c (.v (.string str)) := by kernel_rfl) : XZ P ops (o :: rest) s J := by
 intro B w0 ok0 ok σ a w hR Q hQ
 refine wpList_plain hg fun K hK => ?_
 have e2 : a.eval x = .string str := hR.core.exact hx
 have hrun := run_bytes_of_string (P := P) w src dst e str hs ht he
 generalize hcap : grownCap w str.size 0 e = cap at hrun
 generalize hrow : bytesRow str cap = row at hrun
 unfold Oper.wp execOp
 simp only [ho, e2, Sem.run_bind, hrun, Result.andThen_ok, Sem.run_pure, Oper.upon, hd]
 refine hK _ _ ?_
 have hbase := hR.base
 have hsz1 : (w.drew.alloc (.cells row e (row.size, row.size + 1))).heap.size = w.heap.size + 1 := by
  show (w.heap.push _).size = _
  simp
 have hnew : (w.drew.alloc (.cells row e (row.size, row.size + 1))).heap[w.heap.size]? = some (.cells row e (row.size, row.size + 1)) := by
  show (w.heap.push _)[w.heap.size]? = _
  simp
 have hold : ∀ g, g < w.heap.size → (w.drew.alloc (.cells row e (row.size, row.size + 1))).heap[g]? = w.heap[g]? := fun g hg => by
  show (w.heap.push _)[g]? = _
  rw [Array.getElem?_push, if_neg (by omega)]
 have hR2 := (R_baseY hR.core hR.defers hE (by omega) (fun g hg => hold g (hR.core.okL g hg))).put (d := d) (av := ysl w.heap.size str.size cap) (v := .slice (some ⟨w.heap.size, 0, none⟩) str.size cap) (Rd.v _ rfl)
 have hrs : str.size ≤ row.size := by rw [← hrow]; unfold bytesRow; rw [Array.size_append, Array.size_map]; show str.data.size ≤ _; omega
 refine hk w.heap.size cap _ _ _ _ _ _ _ ⟨⟨_, ok, hR2, ⟨⟨row, e, _, hnew, hrs, hrs, fun j hj => ?_⟩⟩, hR.below.trans ⟨rfl, rfl, rfl, by omega, fun k hk _ => hold k (by omega)⟩, hbase, hR.old, hR.fresh, fun h => ?_⟩⟩ Q fun s' l' a' w' ok' σ' hJ hR' => hQ _ s' l' a' w' ok' σ' hJ hR'
 ·rw [← hrow]
  have hj2 : j < str.data.size := by simpa using hj
  rw [bytesRow_at str cap j hj2]
  simp
 ·have := hR.core.okL _ h
  omega
theorem XYB_nil {b : Nat} {l : List UInt8} {ops : Array Oper} {s : St} {J : St → List UInt8 → Prop} (h : J s l) : XYB P b l ops [] s J := fun _ _ _ _ _ _ _ hR _ hQ => hQ _ _ _ _ _ _ h hR
theorem zED {b : Nat} {l : List UInt8} {ops : Array Oper} {o : Oper} {rest : List Oper} {s s' : St} {J : St → List UInt8 → Prop} (hg : o.guard = none) (h : X P o s s') (hk : XYB P b l ops rest s' J) : XYB P b l ops (o :: rest) s J := by
 intro B w0 ok0 ok σ a w hR Q hQ
 refine wpList_plain hg fun K hK => ?_
 obtain ⟨w1, ok1, hR1, hx⟩ := hR.ex
 exact h _ _ _ _ _ _ _ hR1 K Q fun a' w' ok' σ' hR' => hK _ _ (hk _ _ _ _ _ _ _ ⟨⟨w1, ok1, hR', hx⟩⟩ Q hQ)
theorem XYB_1 {b : Nat} {l : List UInt8} {ops : Array Oper} {o : Oper} {rest : List Oper} {s : St} {J : St → List UInt8 → Prop} (hk : XYB P b l ops rest ((yo P o s).getD s) J) (hg : o.guard = none := by kernel_rfl) (h : (yo P o s).isSome = true := by kernel_rfl) : XYB P b l ops (o :: rest) s J := by
 cases hx : yo P o s with
 | none => rw [hx] at h; cases h
 | some s' => rw [hx] at hk; exact zED hg (yo_ok hx) hk
theorem XYP_cons {b : Nat} {l : List UInt8} {ops : Array Oper} {o : Oper} {rest : List Oper} {s s' : St} {J : St → Prop} (hg : o.guard = none) (h : X P o s s') (hk : XYP P b l ops rest s' J) : XYP P b l ops (o :: rest) s J := by
 intro B w0 ok0 ok σ a w hR Q hQ
 refine wpList_plain hg fun K hK => ?_
 obtain ⟨w1, ok1, hR1, hx⟩ := hR.ex
 exact h _ _ _ _ _ _ _ hR1 K Q fun a' w' ok' σ' hR' => hK _ _ (hk _ _ _ _ _ _ _ ⟨⟨w1, ok1, hR', hx⟩⟩ Q hQ)
theorem XYP_1 {b : Nat} {l : List UInt8} {ops : Array Oper} {o : Oper} {rest : List Oper} {s : St} {J : St → Prop} (hk : XYP P b l ops rest ((yo P o s).getD s) J) (hg : o.guard = none := by kernel_rfl) (h : (yo P o s).isSome = true := by kernel_rfl) : XYP P b l ops (o :: rest) s J := by
 cases hx : yo P o s with
 | none => rw [hx] at h; cases h
 | some s' => rw [hx] at hk; exact XYP_cons hg (yo_ok hx) hk
theorem Y0_idxY {o : Oper} {s : St} {t e : TypeId} {x ix : Operand} {b n cap k : Nat} {i : Int} (hu : P.underlying t = some (.slice e)) (hsz : (P.info? e).map (·.size) = some 1) (ho : o.op = .indexAddr t x ix) (hx : s.ev x = ysl b n cap) (hi : s.ev ix = I i) (hk : i = (k : Int)) (hn : k < n) : Y0 P o s (ypt b k) :=
 q8 fun ok σ a w hC => by
  have h1 : a.eval x = .slice (some ⟨b, 0, none⟩) n cap := hC.exact hx
  have h2 : a.eval ix = .int .i64 i := hC.exact hi
  subst hk
  refine ⟨.pointer (some ⟨b, k, none⟩), ?_, Rd.v _ rfl⟩
  cases hii : P.info? e with
  | none => rw [hii] at hsz; cases hsz
  | some z =>
   have h5 : z.size = 1 := by rw [hii] at hsz; simpa using hsz
   have h6 : (0 : Int) ≤ (k : Int) := by omega
   have h7 : (k : Int) < (n : Int) := by omega
   unfold execOp
   rw [ho]
   simp [h1, h2, Instr.indexAt, asIntOf, run_underlying hu, sizeOf, typeInfo, hii, h5, h6, h7, hn, zCv]
theorem XYB_load {b : Nat} {l : List UInt8} {ops : Array Oper} {o : Oper} {rest : List Oper} {s : St} {J : St → List UInt8 → Prop} {t d k : Nat} {x : Operand} (hs : zIk P t) (ho : o.op = .load t x) (hg : o.guard = none) (hd : o.dst = some d) (hk : k < l.length) (hx : s.ev x = ypt b k)
  (hr : XYB P b l ops rest (s.put d (.c (.v (.int .u8 (l[k].toNat : Int))))) J) : XYB P b l ops (o :: rest) s J := by
 intro B w0 ok0 ok σ a w hR Q hQ
 obtain ⟨w1, ok1, hR1, hb, hx2⟩ := hR.ex
 refine wpList_plain hg fun K hK => ?_
 have h1 : a.eval x = .pointer (some ⟨b, k, none⟩) := hR1.core.exact hx
 have hb2 : By b l w := hb.keep (hR1.below.block b hb.lt fun x => x)
 unfold Oper.wp execOp
 simp only [ho, h1, Instr.loadAt, Instr.sureAddr, Sem.run_bind, Sem.run_pure, Result.andThen_ok, zJ1 hs (hb2.cell hk), Oper.upon, hd]
 exact hK _ _ (hr _ _ _ _ _ _ _ ⟨⟨w1, ok1, hR1.put (d := d) (av := .c (.v (.int .u8 (l[k].toNat : Int)))) (Rd.v _ rfl), hb, hx2⟩⟩ Q hQ)
theorem XYB_store {b : Nat} {l : List UInt8} {ops : Array Oper} {o : Oper} {rest : List Oper} {s : St} {J : St → List UInt8 → Prop} {t k : Nat} {x y : Operand} {v : Int} {u : UInt8} (hi : (P.info? t).map (·.size) = some 1) (ho : o.op = .store t x y) (hg : o.guard = none) (hd : o.dst = none) (hk : k < l.length) (hu : v = (u.toNat : Int)) (hx : s.ev x = ypt b k) (hy : s.ev y = .c (.v (.int .u8 v))) (hE : s.E = [])
  (hr : XYB P b (l.set k u) ops rest s J) : XYB P b l ops (o :: rest) s J := by
 intro B w0 ok0 ok σ a w hR Q hQ
 obtain ⟨w1, ok1, hR1, hb, h1, h2, h3, h4, h5⟩ := hR.ex
 refine wpList_plain hg fun K hK => ?_
 have e1 : a.eval x = .pointer (some ⟨b, k, none⟩) := hR1.core.exact hx
 have e2 : a.eval y = .int .u8 v := hR1.core.exact hy
 subst hu
 have hb2 : By b l w := hb.keep (hR1.below.block b hb.lt fun x => x)
 obtain ⟨cur, e, fz, c1, c2, c3, c4⟩ := hb2.ex
 have hfz : w.frozen? ⟨b, k, none⟩ = false := by
  obtain ⟨lo, hi⟩ := fz
  simp only at c3
  simp [World.frozen?, c1]
  intro h
  omega
 have hst : (storeVar t ⟨b, k, none⟩ (.int .u8 (u.toNat : Int))).run P w = .ok () (w.setCell ⟨b, k, none⟩ (.int .u8 (u.toNat : Int))) := by
  cases hq : P.info? t with
  | none => rw [hq] at hi; simp at hi
  | some i =>
   have h6 : i.size = 1 := by rw [hq] at hi; simpa using hi
   unfold storeVar
   have hrs : (store ⟨b, k, none⟩ (.int .u8 (u.toNat : Int)) .plain).run P w = .ok () (w.setCell ⟨b, k, none⟩ (.int .u8 (u.toNat : Int))) := by
    rw [run_store P w _ _ _ rfl, hb2.cell hk]
    simp [hfz]
   simp [sizeOf, typeInfo, hq, h6, Value.cells, storeCells, zCv, hrs]
 have hokb : ¬ ok b := fun h => by
  rcases hR1.fresh b h with h9 | h9
  ·exact h5 h9
  ·have h9 : w1.heap.size ≤ b := h9
   have := hb.lt
   omega
 unfold Oper.wp execOp
 simp only [ho, e1, e2, Instr.storeAt, Instr.sureAddr, Sem.run_bind, Sem.run_pure, Result.andThen_ok, hst, Oper.upon, hd]
 refine hK _ _ ?_
 have hoth : ∀ g, g ≠ b → (w.setCell ⟨b, k, none⟩ (.int .u8 (u.toNat : Int))).heap[g]? = w.heap[g]? := fun g hg => Below.heap_setCell _ _ _ _ (fun e => hg (by simp [e]))
 have hszw : (w.setCell ⟨b, k, none⟩ (.int .u8 (u.toNat : Int))).heap.size = w.heap.size := by simp [World.setCell]
 have hR2 := R_baseY (w' := w.setCell ⟨b, k, none⟩ (.int .u8 (u.toNat : Int))) hR1.core hR1.defers hE (by omega) (fun g hg => hoth g (fun e => hokb (e ▸ hg)))
 have hbase : w1.heap.size ≤ w.heap.size := hR1.base
 refine hr _ _ _ _ _ _ _ ⟨⟨_, ok, hR2, ⟨⟨cur.setIfInBounds k (.int .u8 (u.toNat : Int)), e, fz, by simp [World.setCell, Array.getElem?_modify, c1], by simpa using c2, by simpa using c3, fun j hj => ?_⟩⟩, (h1.trans ⟨hR1.below.os, hR1.below.tape, hR1.below.output, hR1.below.size, fun q hq _ => hR1.below.block q (show q < w1.heap.size by have := hb.lt; omega) (fun x => x)⟩).trans ⟨rfl, rfl, rfl, by omega, fun q hq _ => hoth q (by have : q < B.n := hq; omega)⟩, h2, fun g hg => hR1.old g (h3 g hg), fun g hg => ?_, hokb⟩⟩ Q hQ
 ·have hj2 : j < l.length := by simpa using hj
  by_cases hjk : k = j
  ·subst hjk
   rw [Array.getElem?_setIfInBounds_self_of_lt (by omega)]
   simp
  ·rw [Array.getElem?_setIfInBounds_ne hjk, c4 j hj2, List.getElem_set_ne hjk]
 ·rcases hR1.fresh g hg with h9 | h9
  ·exact h4 g h9
  ·have h9 : w1.heap.size ≤ g := h9
   have := hb.lt
   exact .inr (by omega)
theorem XYP_back {b : Nat} {l : List UInt8} {ops : Array Oper} {o : Oper} {rest : List Oper} {s : St} {J : St → Prop} {src dst e d n cap : Nat} {x : Operand} (hs : P.underlying src = some (.slice e)) (he : P.underlying e = some (.int .u8)) (ht : P.underlying dst = some .string) (ho : o.op = .convert src dst x) (hg : o.guard = none) (hd : o.dst = some d) (hn : n = l.length) (hx : s.ev x = ysl b n cap) {q : ByteArray} (hq : q = ⟨l.toArray⟩)
  (hr : XL P ops rest (s.put d (.c (.v (.string q)))) J) : XYP P b l ops (o :: rest) s J := by
 intro B w0 ok0 ok σ a w hR Q hQ
 subst hq
 have hRt := hR.to
 obtain ⟨w1, ok1, hR1, hb, hx2⟩ := hR.ex
 refine wpList_plain hg fun K hK => ?_
 have h1 : a.eval x = .slice (some ⟨b, 0, none⟩) n cap := hR1.core.exact hx
 have hb2 : By b l w := hb.keep (hR1.below.block b hb.lt fun x => x)
 subst hn
 have hrun := run_convert_bytes_back (P := P) w src dst e ⟨b, 0, none⟩ cap l hs he ht (fun j hj => by rw [zCv, Nat.zero_add]; exact hb2.cell hj)
 unfold Oper.wp execOp
 simp only [ho, h1, Sem.run_bind, hrun, Result.andThen_ok, Sem.run_pure, Oper.upon, hd]
 exact hK _ _ (hr _ _ _ _ _ _ _ (hRt.put (d := d) (av := .c (.v (.string ⟨l.toArray⟩))) (Rd.v _ rfl)) Q hQ)
theorem XL_toK {ops : Array Oper} {rest : List Oper} {s s1 : St} {y : Code} {J : Exit → St → Prop} (m : List Bool) (ids : List Nat) (h : XL P ops rest s (fun s' => s'.keep m ids = s1)) (hv : V P y s1 J) : XL P ops rest s (fun s' => V P y s' J) :=
 XL_mono h fun s' hs => jF m ids hs hv
end
def pFF (x : Nat) : Bool := (x != 45) && (decide (x < 48) || decide (57 < x))
theorem pOf_ff : pOf zBQ = pFF := by
 funext x
 unfold pOf pFF zBQ
 simp only [Option.bind_some, Option.getD_some, zBN, zP]
 have e : ((x : Int) == 45) = (x == 45) := by rw [Bool.eq_iff_iff, beq_iff_eq, beq_iff_eq]; omega
 have e1 : decide ((x : Int) < 48) = decide (x < 48) := by rw [decide_eq_decide]; omega
 have e2 : decide ((57 : Int) < (x : Int)) = decide (57 < x) := by rw [decide_eq_decide]; omega
 rw [e, e1, e2]
 cases h1 : (x == 45) <;> cases h2 : decide (x < 48) <;> cases h3 : decide (57 < x) <;> simp_all [bne]
theorem pFF_int (x : Nat) : pFF x = (((x : Int) != 45) && (decide ((x : Int) < 48) || decide (57 < (x : Int)))) := by
 unfold pFF
 have e : ((x : Int) != 45) = (x != 45) := by rw [Bool.eq_iff_iff, bne_iff_ne, bne_iff_ne]; omega
 have e1 : decide ((x : Int) < 48) = decide (x < 48) := by rw [decide_eq_decide]; omega
 have e2 : decide ((57 : Int) < (x : Int)) = decide (57 < x) := by rw [decide_eq_decide]; omega
 rw [e, e1, e2]
theorem drew0 (W : World) : ∃ q, W = W.drewN q := ⟨0, rfl⟩
theorem ff_gives (w : World) : Go.Proofs.PredAt Tryz.prog 230 #[] (fun x : Nat => Value.int .i32 (x : Int)) pFF w := by
 intro W x hb
 unfold Go.Proofs.FnGives
 go_enter Tryz.func230, Tryz.ntmps230
 go_wp2
 ·rename_i h
  go_ret
  refine ⟨?_, drew0 W⟩
  rw [pFF_int, h]
  rfl
 ·go_ret
  refine ⟨?_, drew0 W⟩
  rw [pFF_int]
  rfl
 ·rename_i h1 h2
  go_ret
  refine ⟨?_, drew0 W⟩
  rw [pFF_int, decide_eq_true h2, Bool.true_or, Bool.and_true]
  rfl
theorem zFv {s : ByteArray} {r : List ByteArray} (h : zAy (pOf zBQ) s = some r) : zV Tryz.prog 229 [.c (.v (.string s)), .c (.v (.func (.func 230) #[] #[]))] (.ow 0) [(0, .arr 9 1 (r.map cStr))] := by
 rw [pOf_ff] at h
 exact s_FieldsFunc (zBJ Tryz.func230 (by kernel_rfl) (by kernel_rfl)) ff_gives h
end Go.Proofs.YtfmjfofocklgpaaGreatDoor
namespace Go.Proofs.YtfmjfofocklgpaaGreatDoor
open Go.RowKit Go.Proofs Go.Lib Go.Shelf
set_option maxHeartbeats 2000000
set_option maxRecDepth 100000
theorem bd_used (b : Nat) (w : World) (h0 : w.cell? ⟨b, 0, none⟩ = some (.pointer (some ⟨b, 0, none⟩))) :
  Calls Tryz.prog 119 #[.pointer (some ⟨b, 0, none⟩)] w fun e w' => e = .returned (.tuple #[]) ∧ w' = w := by
 obtain ⟨j, hj, _⟩ := Option.map_eq_some_iff.1 (show (Tryz.prog.info? 89).map (·.size) = some 2 by kernel_rfl)
 have mixed : Tryz.prog.follows .mixedOrders = true := by kernel_rfl
 have t72 := Tryz.underlying89; have a72 := Tryz.isAgg89; have z72 := Tryz.sizeOf89; have v72 := Tryz.zeroValue89; have u72 := run_underlying Tryz.underlying89
 have t70 := Tryz.underlying87; have a70 := Tryz.isAgg87; have z70 := Tryz.sizeOf87; have v70 := Tryz.zeroValue87; have u70 := run_underlying Tryz.underlying87
 have t9 := Tryz.underlying9; have a9 := Tryz.isAgg9; have z9 := Tryz.sizeOf9; have v9 := Tryz.zeroValue9; have u9 := run_underlying Tryz.underlying9
 have t4 := Tryz.underlying4; have a4 := Tryz.isAgg4; have z4 := Tryz.sizeOf4; have v4 := Tryz.zeroValue4; have u4 := run_underlying Tryz.underlying4
 have t164 := Tryz.underlying181; have a164 := Tryz.isAgg181; have z164 := Tryz.sizeOf181; have v164 := Tryz.zeroValue181; have u164 := run_underlying Tryz.underlying181
 go_enter Tryz.func119, Tryz.ntmps119
 go_wp2
 rw [Lib.run_neq_ptr_same w _ Tryz.underlying87 hj]
 go_wp2
 go_end0
 exact ⟨rfl, rfl⟩
theorem bd_fresh (b : Nat) (w : World) (h0 : w.cell? ⟨b, 0, none⟩ = some (.pointer none)) (hsh : w.shape? b = some (89, 2)) (hfz : w.frozen? ⟨b, 0, none⟩ = false) :
  Calls Tryz.prog 119 #[.pointer (some ⟨b, 0, none⟩)] w fun e w' => e = .returned (.tuple #[]) ∧ w' = w.setCell ⟨b, 0, none⟩ (.pointer (some ⟨b, 0, none⟩)) := by
 obtain ⟨j, hj, hjs⟩ := Option.map_eq_some_iff.1 (show (Tryz.prog.info? 89).map (·.size) = some 2 by kernel_rfl)
 have mixed : Tryz.prog.follows .mixedOrders = true := by kernel_rfl
 have t72 := Tryz.underlying89; have a72 := Tryz.isAgg89; have z72 := Tryz.sizeOf89; have v72 := Tryz.zeroValue89; have u72 := run_underlying Tryz.underlying89
 have t70 := Tryz.underlying87; have a70 := Tryz.isAgg87; have z70 := Tryz.sizeOf87; have v70 := Tryz.zeroValue87; have u70 := run_underlying Tryz.underlying87
 have t9 := Tryz.underlying9; have a9 := Tryz.isAgg9; have z9 := Tryz.sizeOf9; have v9 := Tryz.zeroValue9; have u9 := run_underlying Tryz.underlying9
 have t4 := Tryz.underlying4; have a4 := Tryz.isAgg4; have z4 := Tryz.sizeOf4; have v4 := Tryz.zeroValue4; have u4 := run_underlying Tryz.underlying4
 have t164 := Tryz.underlying181; have a164 := Tryz.isAgg181; have z164 := Tryz.sizeOf181; have v164 := Tryz.zeroValue181; have u164 := run_underlying Tryz.underlying181
 go_enter Tryz.func119, Tryz.ntmps119
 go_wp2
 rw [Lib.run_to_unsafe w ⟨b, 0, none⟩ Tryz.underlying87 Tryz.underlying181 hj (by rw [hjs]; decide) hsh (Nat.zero_lt_succ 1)]
 simp only [Result.andThen]
 rw [Oper.upon_value]
 go_wp2
 rw [run_callFunc_extern Tryz.func196 (by kernel_rfl) (by kernel_rfl) (by kernel_rfl) (e := Extern.AbiNoEscape.same) (by kernel_rfl)]
 rw [Lib.run_noEscape]
 simp only [Result.andThen]
 rw [Oper.upon_value]
 go_wp2
 rw [Lib.run_from_unsafe w ⟨b, 0, none⟩ Tryz.underlying181 Tryz.underlying87 hj hsh (by kernel_rfl)]
 simp only [Result.andThen]
 rw [Oper.upon_value]
 go_wp2
 go_end0
 exact ⟨rfl, rfl⟩
theorem app2 {P : Program} (w : World) (base : Nat) (t u ty e : TypeId) (i : TypeInfo) (ht : P.underlying t = some (.slice e)) (hu : P.underlying u = some .string) (hi : P.info? e = some i) (hz : i.zero = some (.int .u8 0))
  (hsize : i.size = 1) (hby : i.bytes = 1) (v : Value) (n : Nat) (xs : List Value) (hown : w.ownsRow base e 1 v n xs) (s : ByteArray) (h63 : n + s.size ≤ maxLen) (hbytes : n + s.size ≤ 140737488355328) (hbase : base ≤ w.heap.size) :
  ∃ v' w', (Builtin.append_ #[t, u] ty #[v, .string s]).run P w = .ok v' w' ∧ w'.ownsRow base e 1 v' (n + s.size) (xs ++ strCells s) ∧ w.grownBy w' v.ownBlock ∧ (∀ g, v'.ownBlock = some g → v.ownBlock = some g ∨ w.heap.size ≤ g) := by
 obtain ⟨v', w', hr, h2, h3, _⟩ := run_append_own_string (P := P) w base t u ty e i ht hu hi hz hsize hby v n xs hown s h63 hbytes hbase
 refine ⟨v', w', hr, h2, h3, ?_⟩
 have hxl : xs.length = n := by simpa using hown.1
 have hsmall : n + s.size ≤ 9223372036854775807 := by simp only [maxLen] at h63; omega
 rcases hown.2 with ⟨rfl, rfl⟩ | ⟨g, cap, cur, rfl, hbg, hg, hnc, hcm, hcs, htake⟩
 ·obtain ⟨v2, w2, hr2, h5, _, _⟩ := run_append_own_string (P := P) w w.heap.size t u ty e i ht hu hi hz hsize hby (.slice none 0 0) 0 xs ⟨hown.1, .inl ⟨rfl, rfl⟩⟩ s h63 hbytes (Nat.le_refl _)
  have := hr.symm.trans hr2
  injection this with e1 e2
  subst e1
  intro g hg
  rcases h5.2 with ⟨e3, _⟩ | ⟨g2, cap, cur, e3, hb, _⟩
  ·rw [e3] at hg; cases hg
  ·rw [e3] at hg
   injection hg with hg
   exact .inr (hg ▸ hb)
 ·by_cases hroom : n + s.size ≤ cap
  ·have hr2 := run_append_room_string (P := P) w t u ty e i ht hu hi hsize g n cap cur hg s hroom (by omega)
   have := hr.symm.trans hr2
   injection this with e1 e2
   subst e1
   exact fun _ h => .inl h
  ·have holds : ∀ j u, xs[j]? = some u → w.cell? ((⟨g, 0, none⟩ : Addr).add j) = some u := hown.cells (g := g) rfl
   have hr2 := run_append_grow_string (P := P) w t u ty e i (.int .u8 0) ht hu hi hz ⟨g, 0, none⟩ n cap xs (by rw [hsize]; simpa using hxl) holds s (by omega) (by omega) (by rw [hby]; exact growslice_fits (by omega) (by omega))
   have := hr.symm.trans hr2
   injection this with e1 e2
   subst e1
   intro g2 h
   injection h with h
   exact .inr (by rw [← h]; exact Nat.le_refl _)
theorem wp_app2 {P : Program} {w : World} {ops : Array Oper} {rest : List Oper} {o : Oper} {a : Act} {Q : Exit → Act → World → Prop} (hgd : o.guard = none) (sl x : Operand) (t u : TypeId)
  (ho : o.op = .call { callee := .builtin .append, args := #[sl, x], argTypes := #[t, u] })
  (base : Nat) (e : TypeId) (i : TypeInfo) (ht : P.underlying t = some (.slice e)) (hu : P.underlying u = some .string) (hi : P.info? e = some i) (hz : i.zero = some (.int .u8 0))
  (hsize : i.size = 1) (hby : i.bytes = 1)
  (v : Value) (n : Nat) (xs : List Value) (hs : a.eval sl = v) (hown : w.ownsRow base e 1 v n xs) (s : ByteArray) (hx : a.eval x = .string s)
  (h63 : n + s.size ≤ maxLen) (hbytes : n + s.size ≤ 140737488355328) (hbase : base ≤ w.heap.size)
  (h : ∀ v' w', w'.ownsRow base e 1 v' (n + s.size) (xs ++ strCells s) → w.grownBy w' v.ownBlock → (∀ g, v'.ownBlock = some g → v.ownBlock = some g ∨ w.heap.size ≤ g) → wpList P ops Q rest (a.put o.dst v') w') : wpList P ops Q (o :: rest) a w := by
 refine wpList_plain hgd fun K hK => ?_
 obtain ⟨v', w', hr, h2, h3, h4⟩ := app2 (P := P) w base t u o.type e i ht hu hi hz hsize hby v n xs hown s h63 hbytes hbase
 unfold Oper.wp execOp
 simp only [ho, resolve, invoke, builtin, Sem.run_bind, Sem.run_pure, Result.andThen_ok, List.map_toArray, List.map_cons, List.map_nil, hs, hx, hr]
 exact hK _ _ (h v' w' h2 h3 h4)
structure Bd (B b : Nat) (v : Value) (bs : List Value) (w : World) : Prop where
  base : B ≤ b
  cell : ∃ p, (p = .pointer none ∨ p = .pointer (some ⟨b, 0, none⟩)) ∧ w.heap[b]? = some (.cells #[p, v] 89 (0, 0))
  own : w.ownsRow B 5 1 v bs.length bs
  ne : v.ownBlock ≠ some b
structure BdW (b : Nat) (v v' : Value) (w w' : World) : Prop where
  os : w'.os = w.os
  tape : w'.tape = w.tape
  output : w'.output = w.output
  size : w.heap.size ≤ w'.heap.size
  block : ∀ k, k < w.heap.size → k ≠ b → v.ownBlock ≠ some k → w'.heap[k]? = w.heap[k]?
  own : ∀ g, v'.ownBlock = some g → v.ownBlock = some g ∨ w.heap.size ≤ g
theorem Bd.lt {B b : Nat} {v : Value} {bs : List Value} {w : World} (h : Bd B b v bs w) : b < w.heap.size := by
 obtain ⟨p, _, h2⟩ := h.cell
 rcases Nat.lt_or_ge b w.heap.size with h' | h'
 ·exact h'
 ·simp [Array.getElem?_eq_none h'] at h2
theorem bd_check {B b : Nat} {v : Value} {bs : List Value} {w : World} (h : Bd B b v bs w) : Calls Tryz.prog 119 #[.pointer (some ⟨b, 0, none⟩)] w fun e w' => e = .returned (.tuple #[]) ∧ w'.heap[b]? = some (.cells #[.pointer (some ⟨b, 0, none⟩), v] 89 (0, 0)) ∧ w'.ownsRow B 5 1 v bs.length bs ∧ w'.os = w.os ∧ w'.tape = w.tape ∧ w'.output = w.output ∧ w'.heap.size = w.heap.size ∧ (∀ k, k ≠ b → w'.heap[k]? = w.heap[k]?) := by
 obtain ⟨hB, ⟨p, hp, hb⟩, hown, hne⟩ := h
 have h0 : w.cell? ⟨b, 0, none⟩ = some p := by simp [World.cell?, hb]
 rcases hp with rfl | rfl
 ·have hA : BuilderAt 89 5 B b (.pointer none) bs w := ⟨hB, v, hb, hown, hne⟩
  refine (bd_fresh b w h0 hA.shape hA.frozen0).mono ?_
  rintro e w' ⟨rfl, rfl⟩
  have hlt : b < w.heap.size := hA.lt
  refine ⟨rfl, ?_, ?_, rfl, rfl, rfl, by simp [World.setCell], fun k hk => Below.heap_setCell _ _ _ _ (fun e => hk (by simp [e]))⟩
  ·simp [World.setCell, Array.getElem?_modify, hb]
  ·refine hown.kept (row := some b) ⟨rfl, rfl, rfl, by simp [World.setCell], fun k _ hk => Below.heap_setCell _ _ _ _ (fun e => hk (by simp [e]))⟩ ?_
   exact Or.inr hne
 ·refine (bd_used b w h0).mono ?_
  rintro e w' ⟨rfl, rfl⟩
  exact ⟨rfl, hb, hown, rfl, rfl, rfl, rfl, fun _ _ => rfl⟩
theorem bd_write {B b : Nat} {v : Value} {bs : List Value} {w : World} (h : Bd B b v bs w) (s : ByteArray) (hlen : bs.length + s.size ≤ 140737488355328) (hBw : B ≤ w.heap.size) :
  Calls Tryz.prog 61 #[.pointer (some ⟨b, 0, none⟩), .string s] w fun e w' => e = .returned (.tuple #[.int .i64 s.size, .nilIface]) ∧ ∃ v', Bd B b v' (bs ++ strCells s) w' ∧ BdW b v v' w w' := by
 have hX : (Tryz.prog.info? 5).map (fun i => (i.zero, i.size, i.bytes)) = some (some (.int .u8 0), 1, 1) := by kernel_rfl
 obtain ⟨i0, hi, hz0, hz1, hz2⟩ := info_parts hX
 have mixed : Tryz.prog.follows .mixedOrders = true := by kernel_rfl
 have t72 := Tryz.underlying89; have a72 := Tryz.isAgg89; have z72 := Tryz.sizeOf89; have v72 := Tryz.zeroValue89; have u72 := run_underlying Tryz.underlying89
 have t70 := Tryz.underlying87; have a70 := Tryz.isAgg87; have z70 := Tryz.sizeOf87; have v70 := Tryz.zeroValue87; have u70 := run_underlying Tryz.underlying87
 have t37 := Tryz.underlying48; have a37 := Tryz.isAgg48; have z37 := Tryz.sizeOf48; have v37 := Tryz.zeroValue48; have u37 := run_underlying Tryz.underlying48
 have t3 := Tryz.underlying3; have a3 := Tryz.isAgg3; have z3 := Tryz.sizeOf3; have v3 := Tryz.zeroValue3; have u3 := run_underlying Tryz.underlying3
 have t9 := Tryz.underlying9; have a9 := Tryz.isAgg9; have z9 := Tryz.sizeOf9; have v9 := Tryz.zeroValue9; have u9 := run_underlying Tryz.underlying9
 have t4 := Tryz.underlying4; have a4 := Tryz.isAgg4; have z4 := Tryz.sizeOf4; have v4 := Tryz.zeroValue4; have u4 := run_underlying Tryz.underlying4
 have t164 := Tryz.underlying181; have a164 := Tryz.isAgg181; have z164 := Tryz.sizeOf181; have v164 := Tryz.zeroValue181; have u164 := run_underlying Tryz.underlying181
 have t5 := Tryz.underlying5; have a5 := Tryz.isAgg5; have z5 := Tryz.sizeOf5; have v5 := Tryz.zeroValue5; have u5 := run_underlying Tryz.underlying5
 have e240 : ∀ args w, (callFunc 119 args).run Tryz.prog w = .ok (.enter 119 args) w := zBJ Tryz.func119 (by kernel_rfl) (by kernel_rfl)
 go_enter Tryz.func61, Tryz.ntmps61
 go_wp2_with (go_at_fn 119; refine (bd_check h).mono ?_)
 rintro e w1 ⟨rfl, hbk, hown, k1, k2, k3, k4, k5⟩
 have hne := h.ne
 have hlt : b < w1.heap.size := by rw [k4]; exact h.lt
 have c0 : w1.cell? ⟨b, 0, none⟩ = some (.pointer (some ⟨b, 0, none⟩)) := by rw [Lib.cell_of_heap hbk]; rfl
 have c1 : w1.cell? ⟨b, 1, none⟩ = some v := by rw [Lib.cell_of_heap hbk]; rfl
 go_wp2_with (at_builtin; refine wp_app2 rfl _ _ 48 9 rfl B 5 i0 Tryz.underlying48 Tryz.underlying9 hi hz0 hz1 hz2 _ _ _ rfl hown s rfl ?c3 ?c4 ?c5 ?_)
 case c3 => unfold maxLen; omega
 case c4 => omega
 case c5 => omega
 intro v' w2 hown' hgrow hnew
 have hb2 : w2.heap[b]? = some (.cells #[.pointer (some ⟨b, 0, none⟩), v] 89 (0, 0)) := by
  rw [hgrow.block b hlt (fun e => hne e.symm)]
  exact hbk
 have d0 : w2.cell? ⟨b, 0, none⟩ = some (.pointer (some ⟨b, 0, none⟩)) := by rw [Lib.cell_of_heap hb2]; rfl
 have d1 : w2.cell? ⟨b, 1, none⟩ = some v := by rw [Lib.cell_of_heap hb2]; rfl
 have f1 : w2.frozen? ⟨b, 1, none⟩ = false := Lib.frozen_of_heap hb2 1
 obtain ⟨ao, n', cap, rfl⟩ : ∃ ao n' cap, v' = .slice ao n' cap := by
  rcases hown'.2 with ⟨hv, _⟩ | ⟨g, cap, cur, hv, _⟩
  ·exact ⟨_, _, _, hv⟩
  ·exact ⟨_, _, _, hv⟩
 go_wp2
 go_ret2
 have hown2 : w2.ownsRow B 5 1 (.slice ao n' cap) (bs ++ strCells s).length (bs ++ strCells s) := by simpa [Lib.strCells_length] using hown'
 have hne2 := ownBlock_ne hown2 hb2 (by decide)
 refine ⟨rfl, .slice ao n' cap, ⟨h.base, ⟨_, .inr rfl, by simp [World.setCell, Array.getElem?_modify, hb2]⟩, hown2.kept (row := some b) ⟨rfl, rfl, rfl, by simp [World.setCell], fun k _ hk => Below.heap_setCell _ _ _ _ (fun e => hk (by simp [e]))⟩ (Or.inr hne2), hne2⟩, ⟨hgrow.os.trans k1, hgrow.tape.trans k2, hgrow.output.trans k3, ?_, fun k hk hkb hkv => ?_, fun g hg => ?_⟩⟩
 ·have := hgrow.size
  simp only [World.setCell, Array.size_modify]
  omega
 ·have e1 : (w2.setCell ⟨b, 1, none⟩ (.slice ao n' cap)).heap[k]? = w2.heap[k]? := Below.heap_setCell _ _ _ _ (fun e => hkb (by simp [e]))
  rw [e1, hgrow.block k (by omega) (fun e => hkv e.symm), k5 k hkb]
 ·rcases hnew g hg with h1 | h1
  ·exact .inl h1
  ·exact .inr (by omega)
end Go.Proofs.YtfmjfofocklgpaaGreatDoor
namespace Go.Proofs.YtfmjfofocklgpaaGreatDoor
open Go.RowKit Go.Proofs Go.Lib Go.Shelf
set_option maxRecDepth 100000
def bp (b : Nat) : AV := .c (.v (.pointer (some ⟨b, 0, none⟩)))
structure RB (B : Fr) (w0 : World) (ok0 ok : Nat → Prop) (σ : Nat → Loc) (b : Nat) (l : List UInt8) (s : St) (a : Act) (w : World) : Prop where
  ex : ∃ w1 ok1 v, R ⟨w1.heap.size, fun _ => False⟩ w1 ok1 ok σ s a w ∧ Bd b b v (byteCells l) w1 ∧ BelowX B w0 w1 ∧ B.n ≤ b ∧ (∀ g, ok0 g → ok1 g) ∧ (∀ g, ok1 g → ok0 g ∨ B.n ≤ g) ∧ ¬ ok1 b ∧ (∀ g, v.ownBlock = some g → ¬ ok1 g) ∧ (∀ g, ok0 g → g < b) ∧ (∀ p, p ∈ TB → p.1 < b)
theorem Bd.ownlt {B b : Nat} {v : Value} {bs : List Value} {w : World} (h : Bd B b v bs w) {g : Nat} (hg : v.ownBlock = some g) : B ≤ g ∧ g < w.heap.size := by
 rcases h.own.2 with ⟨e, _⟩ | ⟨g2, cap, cur, e, h1, h2, _⟩
 ·rw [e] at hg; cases hg
 ·rw [e] at hg
  injection hg with hg
  have hg : g2 = g := hg
  subst hg
  refine ⟨h1, ?_⟩
  rcases Nat.lt_or_ge g2 w.heap.size with h' | h'
  ·exact h'
  ·simp [Array.getElem?_eq_none h'] at h2
theorem Bd.keep {B b : Nat} {v : Value} {bs : List Value} {w w' : World} (h : Bd B b v bs w) (hw : ∀ k, k < w.heap.size → w'.heap[k]? = w.heap[k]?) : Bd B b v bs w' := by
 obtain ⟨p, p1, p2⟩ := h.cell
 refine ⟨h.base, ⟨p, p1, by rw [hw b h.lt]; exact p2⟩, ⟨h.own.1, ?_⟩, h.ne⟩
 rcases h.own.2 with e | ⟨g, cap, cur, e, h1, h2, h3⟩
 ·exact .inl e
 ·refine .inr ⟨g, cap, cur, e, h1, ?_, h3⟩
  rw [hw g (h.ownlt (by rw [e]; rfl)).2]
  exact h2
variable {P : Program}
theorem RB.to {B : Fr} {w0 : World} {ok0 ok : Nat → Prop} {σ : Nat → Loc} {b : Nat} {l : List UInt8} {s : St} {a : Act} {w : World} (h : RB B w0 ok0 ok σ b l s a w) : R B w0 ok0 ok σ s a w := by
 obtain ⟨w1, ok1, v, hR, hb, h1, h2, h3, h4, h5, h6, h7, h8⟩ := h.ex
 have hlt := hb.lt
 have hbe := hR.base
 have hbe : w1.heap.size ≤ w.heap.size := hbe
 refine ⟨hR.core, hR.defers, h1.trans ⟨hR.below.os, hR.below.tape, hR.below.output, hR.below.size, fun k hk _ => hR.below.block k (show k < w1.heap.size by omega) (fun x => x)⟩, by omega, fun g hg => hR.old g (h3 g hg), fun g hg => ?_, fun id e g he hg => ?_⟩
 ·rcases hR.fresh g hg with h9 | h9
  ·exact h4 g h9
  ·have h9 : w1.heap.size ≤ g := h9
   exact .inr (by omega)
 ·have := hR.own id e g he hg
  split at this
  ·exact this.elim
  ·rename_i hp
   rw [if_neg hp]
   have this : w1.heap.size ≤ g := this
   omega
def VB (P : Program) (b : Nat) (l : List UInt8) (c : Code) (s : St) (J : Exit → St → List UInt8 → Prop) : Prop :=
 ∀ B w0 ok0 ok σ a w, RB B w0 ok0 ok σ b l s a w → c.wp P (fun e a' w' => ∃ s' ok' σ' l', J e s' l' ∧ RB B w0 ok0 ok' σ' b l' s' a' w') a w
def thenB (K : St → List UInt8 → Prop) (J : Exit → St → List UInt8 → Prop) : Exit → St → List UInt8 → Prop
 | .normal, s, l => K s l
 | e, s, l => J e s l
def inBlockB (id : Nat) (K : Exit → St → List UInt8 → Prop) : Exit → St → List UInt8 → Prop
 | .exit id', s, l => bif Nat.beq id' id then K .normal s l else K (.exit id') s l
 | e, s, l => K e s l
theorem RB.lift {B : Fr} {w0 : World} {ok0 ok : Nat → Prop} {σ : Nat → Loc} {b : Nat} {l : List UInt8} {s : St} {a : Act} {w : World} {c : Code} {K : Exit → St → Prop} (h : RB B w0 ok0 ok σ b l s a w) (hV : V P c s K) : c.wp P (fun e a' w' => ∃ s' ok' σ', K e s' ∧ RB B w0 ok0 ok' σ' b l s' a' w') a w := by
 obtain ⟨w1, ok1, v, hR, h1⟩ := h.ex
 refine wp_mono (hV _ _ _ _ _ _ _ hR) ?_
 rintro e a' w' ⟨s', ok', σ', hJ, hR'⟩
 exact ⟨s', ok', σ', hJ, ⟨⟨w1, ok1, v, hR', h1⟩⟩⟩
theorem VB_V {b : Nat} {l : List UInt8} {c : Code} {s : St} {J : Exit → St → List UInt8 → Prop} (h : V P c s (fun e s' => J e s' l)) : VB P b l c s J := by
 intro B w0 ok0 ok σ a w hR
 refine wp_mono (hR.lift h) ?_
 rintro e a' w' ⟨s', ok', σ', hJ, hR'⟩
 exact ⟨s', ok', σ', l, hJ, hR'⟩
theorem VB_seq {b : Nat} {l : List UInt8} {x y : Code} {s : St} {J : Exit → St → List UInt8 → Prop} (h : VB P b l x s (thenB (fun s' l' => VB P b l' y s' J) J)) : VB P b l (.seq x y) s J := by
 intro B w0 ok0 ok σ a w hR
 refine wp_seq (wp_mono (h _ _ _ _ _ _ _ hR) ?_)
 rintro e a' w' ⟨s', ok', σ', l', hJ, hR'⟩
 cases e with
 | normal => exact hJ _ _ _ _ _ _ _ hR'
 | exit id => exact ⟨s', ok', σ', l', hJ, hR'⟩
 | goto l => exact ⟨s', ok', σ', l', hJ, hR'⟩
 | ret => exact ⟨s', ok', σ', l', hJ, hR'⟩
 | panic ch => exact ⟨s', ok', σ', l', hJ, hR'⟩
 | outgrown => exact ⟨s', ok', σ', l', hJ, hR'⟩
theorem zGw {b : Nat} {l : List UInt8} {x y : Code} {s : St} {J : Exit → St → List UInt8 → Prop} (h : V P x s (zK5 (fun s' => VB P b l y s' J) (fun e s' => J e s' l))) : VB P b l (.seq x y) s J :=
 VB_seq (VB_V (zMO h fun e s' hh => by cases e <;> exact hh))
theorem VB_block {b : Nat} {l : List UInt8} {id : Nat} {c : Code} {s : St} {J : Exit → St → List UInt8 → Prop} (h : VB P b l c s (inBlockB id J)) : VB P b l (.block id c) s J := by
 intro B w0 ok0 ok σ a w hR
 refine wp_block (wp_mono (h _ _ _ _ _ _ _ hR) ?_)
 rintro e a' w' ⟨s', ok', σ', l', hJ, hR'⟩
 cases e with
 | exit id' =>
  simp only [inBlockB] at hJ
  simp only [Exit.inBlock]
  by_cases hid : id' = id
  ·rw [if_pos hid]
   have e : Nat.beq id' id = true := by rw [hid]; exact Nat.beq_refl id
   rw [e] at hJ
   exact ⟨s', ok', σ', l', hJ, hR'⟩
  ·rw [if_neg hid]
   have e : Nat.beq id' id = false := by
    cases h : Nat.beq id' id with
    | false => rfl
    | true => exact absurd (Nat.eq_of_beq_eq_true h) hid
   rw [e] at hJ
   exact ⟨s', ok', σ', l', hJ, hR'⟩
 | normal => exact ⟨s', ok', σ', l', hJ, hR'⟩
 | goto l => exact ⟨s', ok', σ', l', hJ, hR'⟩
 | ret => exact ⟨s', ok', σ', l', hJ, hR'⟩
 | panic ch => exact ⟨s', ok', σ', l', hJ, hR'⟩
 | outgrown => exact ⟨s', ok', σ', l', hJ, hR'⟩
theorem VB_loop {b : Nat} {l : List UInt8} {c : Code} {s : St} {J : Exit → St → List UInt8 → Prop} (I : Nat → St → List UInt8 → Prop) (n : Nat) (h0 : I n s l) (round : ∀ n s l, I n s l → VB P b l c s (thenB (fun s' l' => ∃ m, m < n ∧ I m s' l') J)) : VB P b l (.loop c) s J := by
 intro B w0 ok0 ok σ a w hR
 refine wp_loop_ghost (fun n a w => ∃ s l ok σ, I n s l ∧ RB B w0 ok0 ok σ b l s a w) n ⟨s, l, ok, σ, h0, hR⟩ ?_
 rintro n a w ⟨s, l, ok, σ, hI, hR⟩
 refine wp_mono (round n s l hI _ _ _ _ _ _ _ hR) ?_
 rintro e a' w' ⟨s', ok', σ', l', hJ, hR'⟩
 cases e with
 | normal =>
  obtain ⟨m, hm, hI'⟩ := hJ
  exact ⟨m, hm, s', l', ok', σ', hI', hR'⟩
 | exit id => exact ⟨s', ok', σ', l', hJ, hR'⟩
 | goto l => exact ⟨s', ok', σ', l', hJ, hR'⟩
 | ret => exact ⟨s', ok', σ', l', hJ, hR'⟩
 | panic ch => exact ⟨s', ok', σ', l', hJ, hR'⟩
 | outgrown => exact ⟨s', ok', σ', l', hJ, hR'⟩
theorem RB.le {B : Fr} {w0 : World} {ok0 ok : Nat → Prop} {σ : Nat → Loc} {b : Nat} {l : List UInt8} {s s' : St} {a : Act} {w : World} (h : RB B w0 ok0 ok σ b l s a w) (hl : Le s' s) : RB B w0 ok0 ok σ b l s' a w := by
 obtain ⟨w1, ok1, v, hR, h1⟩ := h.ex
 exact ⟨⟨w1, ok1, v, hR.le hl, h1⟩⟩
theorem VB_keep {b : Nat} {l : List UInt8} (m : List Bool) (ids : List Nat) {c : Code} {s s' : St} {J : Exit → St → List UInt8 → Prop} (h : s.keep m ids = s') (hv : VB P b l c s' J) : VB P b l c s J := by
 subst h
 exact fun _ _ _ _ _ _ _ hR => hv _ _ _ _ _ _ _ (hR.le (zGk m ids s))
theorem R_base {ok : Nat → Prop} {σ : Nat → Loc} {s : St} {a : Act} {w w' : World} (hc : Core ok σ s a w) (hdf : a.defers = []) (hE : s.E = []) (hsz : w.heap.size ≤ w'.heap.size) (hw : ∀ g, ok g → w'.heap[g]? = w.heap[g]?) : R ⟨w'.heap.size, fun _ => False⟩ w' ok ok σ s a w' := by
 have hn : ∀ id, s.ent id = none := fun id => by unfold St.ent; rw [hE]; rfl
 refine ⟨⟨hc.len, fun g hg => Nat.lt_of_lt_of_le (hc.okL g hg) hsz, hc.lib.mono (fun _ h => h) hw, fun t => (hc.tmp t).mono0 (fun _ h => h) hw, fun id e he => ?_, fun id e g he => ?_, fun x y e f g he => ?_⟩, hdf, BelowX.refl _ _, Nat.le_refl _, fun _ h => h, fun _ h => .inl h, fun id e g he => ?_⟩
 ·rw [hn] at he; cases he
 ·rw [hn] at he; cases he
 ·rw [hn] at he; cases he
 ·rw [hn] at he; cases he
def VP (P : Program) (b : Nat) (l : List UInt8) (c : Code) (s : St) (J : Exit → St → Prop) : Prop :=
 ∀ B w0 ok0 ok σ a w, RB B w0 ok0 ok σ b l s a w → c.wp P (fun e a' w' => ∃ s' ok' σ', J e s' ∧ R B w0 ok0 ok' σ' s' a' w') a w
theorem VP_seq {b : Nat} {l : List UInt8} {x y : Code} {s : St} {J : Exit → St → Prop} (h : VB P b l x s (thenB (fun s' l' => VP P b l' y s' J) (fun e s' _ => J e s'))) : VP P b l (.seq x y) s J := by
 intro B w0 ok0 ok σ a w hR
 refine wp_seq (wp_mono (h _ _ _ _ _ _ _ hR) ?_)
 rintro e a' w' ⟨s', ok', σ', l', hJ, hR'⟩
 cases e with
 | normal => exact hJ _ _ _ _ _ _ _ hR'
 | exit id => exact ⟨s', ok', σ', hJ, hR'.to⟩
 | goto l => exact ⟨s', ok', σ', hJ, hR'.to⟩
 | ret => exact ⟨s', ok', σ', hJ, hR'.to⟩
 | panic ch => exact ⟨s', ok', σ', hJ, hR'.to⟩
 | outgrown => exact ⟨s', ok', σ', hJ, hR'.to⟩
theorem VP_seqV {b : Nat} {l : List UInt8} {x y : Code} {s : St} {J : Exit → St → Prop} (h : V P x s (zK5 (fun s' => VP P b l y s' J) J)) : VP P b l (.seq x y) s J :=
 VP_seq (VB_V (zMO h fun e s' hh => by cases e <;> exact hh))
theorem VB_new {id : Nat} {o : Oper} {y : Code} {s : St} {J : Exit → St → Prop} {d : Nat} (ho : o.op = .alloc 89) (hg : o.guard = none) (hd : o.dst = some d) (hz0 : (P.info? 89).bind (·.zero) = some (.agg #[.pointer none, .slice none 0 0])) (hE : s.E = [])
  (h : ∀ b, VP P b [] y (s.put d (bp b)) J) : V P (.seq (.region id #[o] false) y) s J := by
 intro B w0 ok0 ok σ a w hR
 obtain ⟨i, hi, hz⟩ := Option.bind_eq_some_iff.1 hz0
 generalize hzz : (Value.agg #[.pointer none, .slice none 0 0]) = z at hz
 have hcl : z.cells = #[.pointer none, .slice none 0 0] := by rw [← hzz]; rfl
 refine wp_seq (wp_region_list (wpList_plain hg fun K hK => ?_))
 have hrun : (execOp a.eval o).run P w = .ok (.value (.pointer (some ⟨w.heap.size, 0, none⟩))) (w.alloc (.cells z.cells 89)) := by
  unfold execOp
  rw [ho]
  simp [Instr.alloc, zeroValue, typeInfo, hi, hz, newVar, newRow]
 unfold Oper.wp
 rw [hrun]
 refine hK _ _ ?_
 rw [hd]
 have hw : ∀ g, ok g → (w.alloc (.cells z.cells 89)).heap[g]? = w.heap[g]? := fun g hg => Below.heap_alloc _ _ _ (hR.core.okL g hg)
 have hbase := hR.base
 have h1 := (R_base hR.core hR.defers hE (by simp) hw).put (d := d) (av := bp w.heap.size) (v := .pointer (some ⟨w.heap.size, 0, none⟩)) (Rd.v _ rfl)
 refine h w.heap.size _ _ _ _ _ _ _ ⟨⟨_, ok, .slice none 0 0, h1, ⟨Nat.le_refl _, ⟨.pointer none, .inl rfl, ?_⟩, ⟨rfl, .inl ⟨rfl, rfl⟩⟩, (by intro h; cases h)⟩, hR.below.trans (BelowX.of ((Below.refl _ _).alloc (Nat.le_refl _) _) hR.base), hbase, hR.old, hR.fresh, fun h => ?_, fun g h => (by cases h), fun g h => hR.core.okL g (hR.old g h), fun p hp => hR.core.okL _ (hR.core.lib p hp).1⟩⟩
 ·rw [hcl]
  exact heap_alloc_new w _
 ·have := hR.core.okL _ h
  omega
def XLB (P : Program) (b : Nat) (l : List UInt8) (ops : Array Oper) (rest : List Oper) (s : St) (J : St → List UInt8 → Prop) : Prop :=
 ∀ B w0 ok0 ok σ a w, RB B w0 ok0 ok σ b l s a w → ∀ Q : Exit → Act → World → Prop, (∀ s' l' a' w' ok' σ', J s' l' → RB B w0 ok0 ok' σ' b l' s' a' w' → Q .normal a' w') → wpList P ops Q rest a w
theorem VB_region {b : Nat} {l : List UInt8} {id : Nat} {ops : Array Oper} {s : St} {J : Exit → St → List UInt8 → Prop} (h : XLB P b l ops ops.toList s (J .normal)) : VB P b l (.region id ops false) s J := by
 intro B w0 ok0 ok σ a w hR
 exact wp_region_list (h _ _ _ _ _ _ _ hR _ fun s' l' a' w' ok' σ' hJ hR' => ⟨s', ok', σ', l', hJ, hR'⟩)
theorem XLB_nil {b : Nat} {l : List UInt8} {ops : Array Oper} {s : St} {J : St → List UInt8 → Prop} (h : J s l) : XLB P b l ops [] s J := fun _ _ _ _ _ _ _ hR _ hQ => hQ _ _ _ _ _ _ h hR
theorem XLB_cons {b : Nat} {l : List UInt8} {ops : Array Oper} {o : Oper} {rest : List Oper} {s s' : St} {J : St → List UInt8 → Prop} (hg : o.guard = none) (h : X P o s s') (hk : XLB P b l ops rest s' J) : XLB P b l ops (o :: rest) s J := by
 intro B w0 ok0 ok σ a w hR Q hQ
 refine wpList_plain hg fun K hK => ?_
 obtain ⟨w1, ok1, v, hR1, hx⟩ := hR.ex
 exact h _ _ _ _ _ _ _ hR1 K Q fun a' w' ok' σ' hR' => hK _ _ (hk _ _ _ _ _ _ _ ⟨⟨w1, ok1, v, hR', hx⟩⟩ Q hQ)
theorem XLB_1 {b : Nat} {l : List UInt8} {ops : Array Oper} {o : Oper} {rest : List Oper} {s : St} {J : St → List UInt8 → Prop} (hk : XLB P b l ops rest ((yo P o s).getD s) J) (hg : o.guard = none := by kernel_rfl) (h : (yo P o s).isSome = true := by kernel_rfl) : XLB P b l ops (o :: rest) s J := by
 cases hx : yo P o s with
 | none => rw [hx] at h; cases h
 | some s' => rw [hx] at hk; exact XLB_cons hg (yo_ok hx) hk
theorem ev_bp {ok : Nat → Prop} {σ : Nat → Loc} {w : World} {b : Nat} {y : Value} (h : Rel ok σ w (bp b) y) : y = .pointer (some ⟨b, 0, none⟩) := by
 have h2 : Rd ok w (.v (.pointer (some ⟨b, 0, none⟩))) y := h
 cases h2
 rfl
theorem ev_str {ok : Nat → Prop} {σ : Nat → Loc} {w : World} {s : ByteArray} {y : Value} (h : Rel ok σ w (.c (.v (.string s))) y) : y = .string s := by
 have h2 : Rd ok w (.v (.string s)) y := h
 cases h2
 rfl
theorem XLB_write {b : Nat} {l : List UInt8} {ops : Array Oper} {o : Oper} {rest : List Oper} {s : St} {J : St → List UInt8 → Prop} {d : Nat} {x y : Operand} {ts : Array TypeId} {str : ByteArray} (ho : o.op = .call { callee := .value (.func 61), args := #[x, y], argTypes := ts }) (hg : o.guard = none) (hd : o.dst = some d) (hlen : l.length + str.size ≤ 140737488355328)
  (hk : XLB Tryz.prog b (l ++ str.data.toList) ops rest (s.put d .bot) J) (hE : s.E = [] := by kernel_rfl) (hx : s.ev x = bp b := by kernel_rfl) (hy : s.ev y = .c (.v (.string str)) := by kernel_rfl) : XLB Tryz.prog b l ops (o :: rest) s J := by
 intro B w0 ok0 ok σ a w hR Q hQ
 obtain ⟨w1, ok1, v, hR1, hb, h1, h2, h3, h4, h5, h6, h7, h8⟩ := hR.ex
 have hlt := hb.lt
 have hbase : w1.heap.size ≤ w.heap.size := hR1.base
 have hold : ∀ k, k < w1.heap.size → w.heap[k]? = w1.heap[k]? := fun k hk => hR1.below.block k hk fun x => x
 have hbw := hb.keep hold
 have hokb : ¬ ok b := fun h => by
  rcases hR1.fresh b h with h9 | h9
  ·exact h5 h9
  ·have h9 : w1.heap.size ≤ b := h9
   omega
 have hokv : ∀ g, v.ownBlock = some g → ¬ ok g := fun g hg h => by
  rcases hR1.fresh g h with h9 | h9
  ·exact h6 g hg h9
  ·have h9 : w1.heap.size ≤ g := h9
   have := (hb.ownlt hg).2
   omega
 refine wpList_plain hg fun K hK => ?_
 refine zJJ (zBJ Tryz.func61 (by kernel_rfl) (by kernel_rfl)) ho ?_
 have e1 : a.eval x = .pointer (some ⟨b, 0, none⟩) := ev_bp (hx ▸ hR1.core.ev x)
 have e2 : a.eval y = .string str := ev_str (hy ▸ hR1.core.ev y)
 have e3 : ((#[x, y] : Array Operand).toList.map a.eval).toArray = #[.pointer (some ⟨b, 0, none⟩), .string str] := by simp [e1, e2]
 rw [e3]
 refine (bd_write hbw str (by rw [byteCells_length]; exact hlen) (by omega)).mono ?_
 rintro e w' ⟨rfl, v', hb', hW⟩
 refine ⟨_, rfl, hK _ _ ?_⟩
 rw [hd]
 have hw : ∀ g, ok g → w'.heap[g]? = w.heap[g]? := fun g hg => hW.block g (hR1.core.okL g hg) (fun e => hokb (e ▸ hg)) (fun e => hokv g e hg)
 have hR2 := (R_base hR1.core hR1.defers hE hW.size hw).put (d := d) (av := .bot) (v := .tuple #[.int .i64 str.size, .nilIface]) trivial
 have hbc : byteCells l ++ strCells str = byteCells (l ++ str.data.toList) := by rw [byteCells_append, strCells_eq]
 rw [hbc] at hb'
 have hoks : ∀ g, ok0 g → ok g := fun g hg => hR1.old g (h3 g hg)
 refine hk _ _ _ _ _ _ _ ⟨⟨w', ok, v', hR2, hb', (h1.trans ⟨hR1.below.os, hR1.below.tape, hR1.below.output, hR1.below.size, fun k hk _ => hold k (by omega)⟩).trans ⟨hW.os, hW.tape, hW.output, hW.size, fun k hk _ => ?_⟩, h2, hoks, fun g hg => ?_, hokb, fun g hg h => ?_, h7, h8⟩⟩ Q hQ
 ·refine hW.block k (by omega) (by omega) fun e => ?_
  have := (hb.ownlt e).1
  omega
 ·rcases hR1.fresh g hg with h9 | h9
  ·exact h4 g h9
  ·have h9 : w1.heap.size ≤ g := h9
   exact .inr (by omega)
 ·rcases hW.own g hg with h9 | h9
  ·exact hokv g h9 h
  ·have := hR1.core.okL g h
   omega
def XLP (P : Program) (b : Nat) (l : List UInt8) (ops : Array Oper) (rest : List Oper) (s : St) (J : St → Prop) : Prop :=
 ∀ B w0 ok0 ok σ a w, RB B w0 ok0 ok σ b l s a w → ∀ Q : Exit → Act → World → Prop, (∀ s' a' w' ok' σ', J s' → R B w0 ok0 ok' σ' s' a' w' → Q .normal a' w') → wpList P ops Q rest a w
theorem VP_sreg {b : Nat} {l : List UInt8} {id : Nat} {ops : Array Oper} {y : Code} {s : St} {J : Exit → St → Prop} (h : XLP P b l ops ops.toList s (fun s' => V P y s' J)) : VP P b l (.seq (.region id ops false) y) s J := by
 intro B w0 ok0 ok σ a w hR
 exact wp_seq (wp_region_list (h _ _ _ _ _ _ _ hR _ fun s' a' w' ok' σ' hJ hR' => hJ _ _ _ _ _ _ _ hR'))
theorem XLP_string {b : Nat} {l : List UInt8} {ops : Array Oper} {o : Oper} {rest : List Oper} {s : St} {J : St → Prop} {d : Nat} {x : Operand} {ts : Array TypeId} (ho : o.op = .call { callee := .value (.func 62), args := #[x], argTypes := ts }) (hg : o.guard = none) (hd : o.dst = some d)
  (hk : XL Tryz.prog ops rest ((⟨bt s.T.length [], []⟩ : St).put d (.c (.v (.string ⟨l.toArray⟩)))) J) (hx : s.ev x = bp b := by kernel_rfl) : XLP Tryz.prog b l ops (o :: rest) s J := by
 intro B w0 ok0 ok σ a w hR Q hQ
 obtain ⟨w1, ok1, v, hR1, hb, h1, h2, h3, h4, h5, h6, h7, h8⟩ := hR.ex
 have hlt := hb.lt
 have hbase : w1.heap.size ≤ w.heap.size := hR1.base
 have hold : ∀ k, k < w1.heap.size → w.heap[k]? = w1.heap[k]? := fun k hk => hR1.below.block k hk fun x => x
 have hbw := hb.keep hold
 refine wpList_plain hg fun K hK => ?_
 refine zJJ (zBJ Tryz.func62 (by kernel_rfl) (by kernel_rfl)) ho ?_
 have e1 : a.eval x = .pointer (some ⟨b, 0, none⟩) := ev_bp (hx ▸ hR1.core.ev x)
 have e3 : ((#[x] : Array Operand).toList.map a.eval).toArray = #[.pointer (some ⟨b, 0, none⟩)] := by simp [e1]
 rw [e3]
 have hib : IsBuilder 89 5 b b (byteCells l) w := by
  obtain ⟨p, p1, p2⟩ := hbw.cell
  rcases p1 with rfl | rfl
  ·exact .inl ⟨hbw.base, v, p2, hbw.own, hbw.ne⟩
  ·exact .inr ⟨hbw.base, v, p2, hbw.own, hbw.ne⟩
 refine (show Calls Tryz.prog 62 #[.pointer (some ⟨b, 0, none⟩)] w (fun e w' => e = .returned (.string ⟨l.toArray⟩) ∧ Below b w w') from Any.Builder_String_any { Tryz.lays156 with } Tryz.Builder_Extra_156 b b l w hib (by omega)).mono ?_
 rintro e w' ⟨rfl, hW⟩
 refine ⟨_, rfl, hK _ _ ?_⟩
 rw [hd]
 have hRt := hR.to
 have hlb : Lb (fun g => ok g ∧ g < b) w' := by
  intro p hp
  obtain ⟨k1, cs, T, fz, k2, k3⟩ := hR1.core.lib p hp
  exact ⟨⟨k1, h8 p hp⟩, cs, T, fz, by rw [hW.block _ (h8 p hp)]; exact k2, k3⟩
 have hn : ∀ id, (⟨bt s.T.length [], []⟩ : St).ent id = none := fun id => rfl
 have hlen0 : ∀ k : Nat, (bt k []).length = k := fun k => by induction k with
  | zero => rfl
  | succ k ih => simp only [bt, List.length_cons, ih]
 have hget : ∀ t, (⟨bt s.T.length [], []⟩ : St).get t = .bot := by
  intro t
  have : ∀ (k t : Nat), ((bt k [])[t]?).getD AV.bot = .bot := by
   intro k
   induction k with
   | zero => intro t; rfl
   | succ k ih =>
    intro t
    cases t with
    | zero => rfl
    | succ t => exact ih t
  exact this _ t
 have hC : Core (fun g => ok g ∧ g < b) σ (⟨bt s.T.length [], []⟩ : St) a w' := by
  refine ⟨?_, fun g hg => Nat.lt_of_lt_of_le (hR1.core.okL g hg.1) hW.size, hlb, fun t => ?_, fun id e he => ?_, fun id e g he => ?_, fun x y e f g he => ?_⟩
  ·show (bt s.T.length []).length ≤ _
   rw [hlen0]
   exact hR1.core.len
  ·rw [hget]; trivial
  ·rw [hn] at he; cases he
  ·rw [hn] at he; cases he
  ·rw [hn] at he; cases he
 have hR2 : R B w0 ok0 (fun g => ok g ∧ g < b) σ (⟨bt s.T.length [], []⟩ : St) a w' := by
  refine ⟨hC, hR1.defers, hRt.below.trans ⟨hW.os, hW.tape, hW.output, hW.size, fun k hk _ => hW.block k (by omega)⟩, Nat.le_trans hRt.base hW.size, fun g hg => ⟨hRt.old g hg, h7 g hg⟩, fun g hg => hRt.fresh g hg.1, fun id e g he => ?_⟩
  rw [hn] at he; cases he
 exact hk _ _ _ _ _ _ _ (hR2.put (Rd.v _ rfl)) Q hQ
end Go.Proofs.YtfmjfofocklgpaaGreatDoor
